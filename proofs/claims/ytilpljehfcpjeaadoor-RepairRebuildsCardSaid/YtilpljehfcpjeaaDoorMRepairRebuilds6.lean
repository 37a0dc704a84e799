import Derived.Test.YtilpljehfcpjeaaDoorMRepairRebuilds5
/- Joined texts: Rp7 Rp8 Rp9 Rp10 Rp11 Rp19. -/
set_option linter.unusedVariables false
set_option linter.unusedSimpArgs false
section
/- The reference of layer 10: Same. -/
namespace Go.Proofs.YtilpljehfcpjeaaDoor
open Go.RowKit
set_option maxHeartbeats 4000000
set_option maxRecDepth 100000
theorem fi_term : fldsInt Tryd.prog 47 = some [0, 1] := by kernel_rfl
theorem term_eq (x1 x2 y1 y2 : Int) : eqOffs #[.int .i64 x1, .int .i64 x2] #[.int .i64 y1, .int .i64 y2] [0, 1] = some (decide ((x1, x2) = (y1, y2))) := by
  simp [eqOffs]
attribute [local irreducible] Quiet Eff OpOk AWPG ACont ABlock ACalls AGoto
theorem A_same_terms {a b : List (Int × Int)} (ha : a.length ≤ 1000000) (hb : b.length ≤ 1000000) : ACalls Tryd.prog 40 [tmsZ a, tmsZ b] [] (bV (decide (a = b))) [] := by
  refine acalls_of_bodyO Tryd.func40 rfl (Nat.le_of_ble_eq_true rfl) ?_
  have hma : (a.map tzD).length = a.length := List.length_map _
  have hmb : (b.map tzD).length = b.length := List.length_map _
  by_cases hl : a.length = b.length
  · (repeat' (first
  | (apply W.qd; (first
    | (apply q_mv; (first|exact vD|exact vO|exact vP|exact vA|exact vF|exact vR|exact vN|exact vY|exact vT|exact vM|exact vX))|(apply q_as; (first|exact vD|exact vO|exact vP|exact vA|exact vF|exact vR|exact vN|exact vY|exact vT|exact vM|exact vX))|(apply q_neq; exact rfl; exact rfl)
    | (apply q_len_sl; exact rfl; exact rfl)))|(apply AWP.seq)|(apply ACont_normal)|(apply W.region; kernel_rfl)|(apply Walk.nil)|(apply AWP.block)|(apply AWP.skip)
  | (refine W.cond _ rfl (fun hb => ?_) (fun hb => ?_) <;> ((try simp only [hb, Bool.not_true, Bool.not_false]) <;> (try simp only [decide_eq_true_eq, decide_eq_false_iff_not, Bool.not_eq_true', Bool.not_eq_false', Int.not_lt, Int.not_le, List.length_map, not_true_eq_false] at hb) <;> (try (exfalso; omega))))))
    refine AWP.loopW (α := Nat) (fun k => k ≤ a.length ∧ a.take k = b.take k) (fun k => ⟨[(5, iV k), (0, tmsZ a), (1, tmsZ b)], []⟩) (fun k => a.length - k) 0 ⟨by omega, by simp⟩ ⟨[], rfl, rfl, rfl, by (repeat (first | exact trivial | refine ⟨rfl, ?_⟩))⟩ fun k hk => ?_
    by_cases hka : k < a.length
    · by_cases he : a[k] = b[k]'(by omega)
      · have he2 : decide ((a[k].1, a[k].2) = ((b[k]'(by omega)).1, (b[k]'(by omega)).2)) = true := decide_eq_true he
        (repeat' (first
  | (apply W.qd; (first
    | ((apply q_nesI fi_term; exact rfl; exact rfl; exact rfl; exact rfl; exact (term_eq _ _ _ _).trans (congrArg some he2)))|(apply q_mv; (first|exact vD|exact vO|exact vP|exact vA|exact vF|exact vR|exact vN|exact vY|exact vT|exact vM|exact vX))|(apply q_as; (first|exact vD|exact vO|exact vP|exact vA|exact vF|exact vR|exact vN|exact vY|exact vT|exact vM|exact vX))|(apply q_lss; exact rfl; exact rfl)|(apply q_add; exact rfl; exact rfl; omega)|(apply q_len_sl; exact rfl; exact rfl)|(apply q_ld_maps; exact rfl; exact rfl; exact rfl; (first | omega | (focus (simp; done))))
    | (apply q_ix_slF; exact rfl; exact rfl; exact rfl; exact rfl; (first | (with_reducible exact rfl) | exact natI_spec rfl | assumption | exact (Int.toNat_of_nonneg (by omega)).symm); (first | omega | (focus (simp only [List.length_map]; omega)) | (focus (simp; done)) | (focus (simp; omega))))))|(apply AWP.seq)|(apply ACont_normal)|(apply W.region; kernel_rfl)|(apply W.regionD; exact rfl; kernel_rfl)|(apply Walk.nil)|(apply W.chk; kernel_rfl)|(apply AWP.block)|(apply AWP.skip)|(apply ABlock_normal)|(apply W.condF; exact rfl)
  | (refine W.cond _ rfl (fun hb => ?_) (fun hb => ?_) <;> ((try simp only [hb, Bool.not_true, Bool.not_false]) <;> (try simp only [decide_eq_true_eq, decide_eq_false_iff_not, Bool.not_eq_true', Bool.not_eq_false', Int.not_lt, Int.not_le, List.length_map, not_true_eq_false] at hb) <;> (try (exfalso; omega))))))
        exact ⟨k + 1, ⟨by omega, by rw [List.take_succ_eq_append_getElem hka, List.take_succ_eq_append_getElem (show k < b.length by omega), hk.2, he]⟩, by omega, [], rfl, rfl, rfl, iV_eq (by omega), rfl, rfl, trivial⟩
      · have he2 : decide ((a[k].1, a[k].2) = ((b[k]'(by omega)).1, (b[k]'(by omega)).2)) = false := decide_eq_false he
        have hne : a ≠ b := fun e => he (by subst e; rfl)
        rw [decide_eq_false hne]
        (repeat' (first
  | (apply W.qd; (first
    | ((apply q_nesI fi_term; exact rfl; exact rfl; exact rfl; exact rfl; exact (term_eq _ _ _ _).trans (congrArg some he2)))|(apply q_mv; (first|exact vD|exact vO|exact vP|exact vA|exact vF|exact vR|exact vN|exact vY|exact vT|exact vM|exact vX))|(apply q_as; (first|exact vD|exact vO|exact vP|exact vA|exact vF|exact vR|exact vN|exact vY|exact vT|exact vM|exact vX))|(apply q_lss; exact rfl; exact rfl)|(apply q_len_sl; exact rfl; exact rfl)|(apply q_ld_maps; exact rfl; exact rfl; exact rfl; (first | omega | (focus (simp; done))))
    | (apply q_ix_slF; exact rfl; exact rfl; exact rfl; exact rfl; (first | (with_reducible exact rfl) | exact natI_spec rfl | assumption | exact (Int.toNat_of_nonneg (by omega)).symm); (first | omega | (focus (simp only [List.length_map]; omega)) | (focus (simp; done)) | (focus (simp; omega))))))|(apply AWP.seq)|(apply ACont_normal)|(apply W.region; kernel_rfl)|(apply W.regionD; exact rfl; kernel_rfl)|(apply Walk.nil)|(apply W.chk; kernel_rfl)|(apply AWP.block)|(apply AWP.skip)|(apply AWP.ret)|(apply ACont_ret)|(apply ABlock_ret)|(apply W.condT; exact rfl)
  | (refine W.cond _ rfl (fun hb => ?_) (fun hb => ?_) <;> ((try simp only [hb, Bool.not_true, Bool.not_false]) <;> (try simp only [decide_eq_true_eq, decide_eq_false_iff_not, Bool.not_eq_true', Bool.not_eq_false', Int.not_lt, Int.not_le, List.length_map, not_true_eq_false] at hb) <;> (try (exfalso; omega))))))
        exact ⟨.inl rfl, [], [bV false], rfl, rfl, ⟨rfl, trivial⟩, AVle.of_eq rfl, rfl⟩
    · have he : a = b := by
        have := hk.2
        rwa [List.take_of_length_le (by omega), List.take_of_length_le (by omega)] at this
      rw [decide_eq_true he]
      (repeat' (first
  | (apply W.qd; (first
    | (apply q_mv; (first|exact vD|exact vO|exact vP|exact vA|exact vF|exact vR|exact vN|exact vY|exact vT|exact vM|exact vX))|(apply q_as; (first|exact vD|exact vO|exact vP|exact vA|exact vF|exact vR|exact vN|exact vY|exact vT|exact vM|exact vX))|(apply q_lss; exact rfl; exact rfl)
    | (apply q_len_sl; exact rfl; exact rfl)))|(apply AWP.seq)|(apply ACont_normal)|(apply W.region; kernel_rfl)|(apply Walk.nil)|(apply AWP.exit)|(apply AWP.ret)|(apply ACont_exit)|(apply ABlock_exit)
  | (refine W.cond _ rfl (fun hb => ?_) (fun hb => ?_) <;> ((try simp only [hb, Bool.not_true, Bool.not_false]) <;> (try simp only [decide_eq_true_eq, decide_eq_false_iff_not, Bool.not_eq_true', Bool.not_eq_false', Int.not_lt, Int.not_le, List.length_map, not_true_eq_false] at hb) <;> (try (exfalso; omega))))))
      exact ⟨.inl rfl, [], [bV true], rfl, rfl, ⟨rfl, trivial⟩, AVle.of_eq rfl, rfl⟩
  · have hne : a ≠ b := fun e => hl (by rw [e])
    rw [decide_eq_false hne]
    (repeat' (first
  | (apply W.qd; (first
    | (apply q_mv; (first|exact vD|exact vO|exact vP|exact vA|exact vF|exact vR|exact vN|exact vY|exact vT|exact vM|exact vX))|(apply q_as; (first|exact vD|exact vO|exact vP|exact vA|exact vF|exact vR|exact vN|exact vY|exact vT|exact vM|exact vX))|(apply q_neq; exact rfl; exact rfl)
    | (apply q_len_sl; exact rfl; exact rfl)))|(apply AWP.seq)|(apply ACont_normal)|(apply W.region; kernel_rfl)|(apply Walk.nil)|(apply AWP.ret)|(apply ACont_ret)
  | (refine W.cond _ rfl (fun hb => ?_) (fun hb => ?_) <;> ((try simp only [hb, Bool.not_true, Bool.not_false]) <;> (try simp only [decide_eq_true_eq, decide_eq_false_iff_not, Bool.not_eq_true', Bool.not_eq_false', Int.not_lt, Int.not_le, List.length_map, not_true_eq_false] at hb) <;> (try (exfalso; omega))))))
    exact ⟨.inl rfl, [], [bV false], rfl, rfl, ⟨rfl, trivial⟩, AVle.of_eq rfl, rfl⟩
theorem A_samePlan {u v : Int} {a b : List (Int × Int)} (ha : a.length ≤ 1000000) (hb : b.length ≤ 1000000) : ACalls Tryd.prog 17 [.agg [iV u, tmsZ a], .agg [iV v, tmsZ b]] [] (bV (decide (u = v) && decide (a = b))) [] := by
  refine acalls_of_body Tryd.func17 rfl (Nat.le_of_ble_eq_true rfl) ?_
  have h := A_same_terms (a := a) (b := b) ha hb
  by_cases he : u = v
  · rw [decide_eq_true he, Bool.true_and]
    (repeat' (first
  | (apply W.gOn; exact rfl; exact rfl)
  | (apply W.qd; (first
    | (apply (q_callC (h)); exact rfl; exact rfl; kernel_rfl; kernel_rfl; kernel_rfl)|(apply q_mv; (first|exact vD|exact vO|exact vP|exact vA|exact vF|exact vR|exact vN|exact vY|exact vT|exact vM|exact vX))|(apply q_as; (first|exact vD|exact vO|exact vP|exact vA|exact vF|exact vR|exact vN|exact vY|exact vT|exact vM|exact vX))|(apply q_fld_optF; exact rfl; exact rfl; exact rfl)|(apply q_ld_box; exact rfl; exact rfl; exact rfl; exact rfl)|(apply q_eql; exact rfl; exact rfl)
    | (apply (q_pickT (u := .d _)); exact rfl; exact rfl)))|(apply W.ed; (apply e_boxF; exact rfl; exact rfl; exact rfl; kernel_rfl; kernel_rfl))|(apply AWP.seq)|(apply ACont_normal)|(apply W.region; kernel_rfl)|(apply Walk.nil)|(apply AWP.ret)
  | (refine W.gT _ _ rfl rfl (fun hb => ?_) (fun hb => ?_) <;> ((try simp only [hb, Bool.not_true, Bool.not_false]) <;> (try simp only [decide_eq_true_eq, decide_eq_false_iff_not, Bool.not_eq_true', Bool.not_eq_false', Int.not_lt, Int.not_le, List.length_map, not_true_eq_false] at hb) <;> (try (exfalso; omega))))))
    all_goals exact Ends.b rfl rfl
  · rw [decide_eq_false he, Bool.false_and]
    (repeat' (first
  | (apply W.qd; (first
    | (apply q_mv; (first|exact vD|exact vO|exact vP|exact vA|exact vF|exact vR|exact vN|exact vY|exact vT|exact vM|exact vX))|(apply q_as; (first|exact vD|exact vO|exact vP|exact vA|exact vF|exact vR|exact vN|exact vY|exact vT|exact vM|exact vX))|(apply q_fld_optF; exact rfl; exact rfl; exact rfl)|(apply q_ld_box; exact rfl; exact rfl; exact rfl; exact rfl)|(apply q_eql; exact rfl; exact rfl)
    | (apply (q_pickF (u := .d _)); exact rfl; exact rfl)))|(apply W.ed; (apply e_boxF; exact rfl; exact rfl; exact rfl; kernel_rfl; kernel_rfl))|(refine W.gOff _ _ rfl rfl (by intro h; cases h) ?_)|(apply AWP.seq)|(apply ACont_normal)|(apply W.region; kernel_rfl)|(apply Walk.nil)|(apply AWP.ret)
  | (refine W.gT _ _ rfl rfl (fun hb => ?_) (fun hb => ?_) <;> ((try simp only [hb, Bool.not_true, Bool.not_false]) <;> (try simp only [decide_eq_true_eq, decide_eq_false_iff_not, Bool.not_eq_true', Bool.not_eq_false', Int.not_lt, Int.not_le, List.length_map, not_true_eq_false] at hb) <;> (try (exfalso; omega))))))
    all_goals exact Ends.b rfl rfl
end Go.Proofs.YtilpljehfcpjeaaDoor
end
section
/- The example of layer 10. -/
namespace Go.Proofs.YtilpljehfcpjeaaDoor
open Go.RowKit
set_option maxHeartbeats 4000000
set_option maxRecDepth 100000
def lrcP : List (List Nat) := [[1, 1, 0, 0], [0, 0, 1, 1], [1, 2, 4, 8]]
theorem lrc_ok : CodeOk 8 4 lrcP := by
  constructor
  all_goals first | exact .inl rfl | decide | skip
  all_goals decide
theorem lrc_p1 : planN 8 4 lrcP [true, true, false, true, true, true, true] 2 = some [(3, 1), (5, 1)] := by kernel_rfl
theorem lrc_p2 : (planN 8 4 lrcP [true, true, false, false, true, true, true] 2).map (fun l => l.map (·.1)) = some [0, 1, 5, 6] := by kernel_rfl
theorem lrc_p3 : planN 8 4 lrcP [true, true, false, false, true, false, true] 2 = none := by kernel_rfl
end Go.Proofs.YtilpljehfcpjeaaDoor
end
section
/- Package repair over the machine of abstract values: Plan and All on a list that is the caller's own. Printed by gen_rp9.py. -/
namespace Go.Proofs.YtilpljehfcpjeaaDoor
open Go.RowKit
set_option maxHeartbeats 4000000
set_option maxRecDepth 100000
theorem q_eqnilO {P : Program} {m : Nat} {env : List (Nat × AV)} {own : List Ent} {dst : Option Tmp} {ty : TypeId} {pos : String} {af : Array Edge} {gd : Option (Nat × Bool)} {t t' e : TypeId} {x y : Operand} {i ver n sz : Nat} {l : List (List Dat)} (hx : lookO env x = .osl i ver 0 n) (hi : own[i]? = some (.row ver sz e l)) (hy : lookO env y = .d (.v (.slice none 0 0))) (ht : isSl P t = true) (hl : 0 < n) :
    Quiet P m ⟨dst, .binOp .eql t x y t', ty, pos, af, gd⟩ env own [i] (bV false) :=
  Quiet.val fun F own' κ a w hs _ hsame _ => by
    have h1 := hs x (by simp [Op.operands]); rw [hx, AV.sat] at h1
    have h2 := hs y (by simp [Op.operands]); rw [hy, sat_v] at h2
    obtain ⟨_, A, c, h3, hnc, _, h4⟩ := h1.2 sz e l (by rw [hsame i (by simp)]; exact hi)
    rcases h4 (.inl hl) with ⟨g, _, rfl, _⟩ | ⟨_, _, rfl⟩
    · obtain ⟨e, he⟩ := isSl_spec ht
      refine ⟨.bool false, exec_v ?_, sat_v.2 rfl⟩
      rw [h2, h3]
      have he2 := run_eqnil (P := P) he 9999 ⟨g, 0 * sz, none⟩ n c w
      have h5 : (eqGuard .eql t x y (.slice (some ⟨g, 0 * sz, none⟩) n c) (.slice none 0 0)).run P w = .ok () w := by simp [eqGuard]
      have h6 : (binOp .eql t (.slice (some ⟨g, 0 * sz, none⟩) n c) (.slice none 0 0)).run P w = .ok (.bool false) w := by
        simp only [binOp, Sem.run_bind, Op.equal]
        rw [show Op.maxDepth = 9999 + 1 from rfl, he2]
        rfl
      simp only [Sem.run_bind, h5, Result.andThen_ok, h6]
    · omega
attribute [local irreducible] Quiet Eff OpOk AWPG ACont ABlock ACalls AGoto
theorem A_cloneBO {v : Nat} {l : List Bool} (h0 : 0 < l.length) (hl : l.length ≤ 1000000) : ACalls Tryd.prog 30 [.osl 0 v 0 l.length] [.row v 1 4 (l.map tD)] (.osl 1 1 0 l.length) [.row v 1 4 (l.map tD), .row 1 1 4 (l.map tD)] := by
  refine acalls_of_bodyO Tryd.func30 rfl (Nat.le_of_ble_eq_true rfl) ?_
  have hm : (l.map tD).length = l.length := List.length_map _
  (repeat' (first
  | (apply W.ed; (apply e_lit0F; exact rfl; exact rfl; exact rfl; exact rfl; exact rfl))
  | (apply W.qd; (first
    | ((apply q_eqnilO; exact rfl; exact rfl; exact rfl; exact rfl; omega))|(apply q_mv; (first|exact vD|exact vO|exact vP|exact vA|exact vF|exact vR|exact vN|exact vY|exact vT|exact vM|exact vX))
    | (apply q_as; (first|exact vD|exact vO|exact vP|exact vA|exact vF|exact vR|exact vN|exact vY|exact vT|exact vM|exact vX))))|(apply AWP.seq)|(apply ACont_normal)|(apply W.region; kernel_rfl)|(apply Walk.nil)|(apply AWP.skip)
  | (apply W.condF; exact rfl)))
  refine W.ed (e_appR (q := l.length) rfl rfl rfl rfl rfl rfl rfl rfl rfl hm.symm (by simp) (by omega) (by simp; omega)) ?_
  (repeat' (first
  | (apply W.qd; (apply q_as; (first|exact vD|exact vO|exact vP|exact vA|exact vF|exact vR|exact vN|exact vY|exact vT|exact vM|exact vX)))|(apply ACont_normal)|(apply Walk.nil)
  | (apply AWP.ret)))
  exact ⟨.inl rfl, [0, 1], [.osl 1 1 0 l.length], rfl, rfl, ⟨rfl, trivial⟩, AVle.of_eq rfl, rfl⟩
theorem A_fitsO {v : Nat} {M D : Int} {par : List (List Int)} {hv : List Bool} (hp : CodeIn par) : ACalls Tryd.prog 29 [cdA M D par, .osl 0 v 0 hv.length] [.row v 1 4 (hv.map tD)] (bV (validC M D par && decide ((hv.length : Int) = D + (par.length : Int)))) [.row v 1 4 (hv.map tD)] := by
  refine acalls_of_bodyO Tryd.func29 rfl (Nat.le_of_ble_eq_true rfl) ?_
  have h0 := A_evalid (M := M) (D := D) hp
  have h1 := A_ewidth (M := M) (D := D) hp
  have hmh : (hv.map tD).length = hv.length := List.length_map _
  cases hv2 : validC M D par
  · rw [hv2] at h0
    (repeat' (first
  | (apply W.qd; (first
    | (apply (q_callC (h0)); exact rfl; exact rfl; kernel_rfl; kernel_rfl; kernel_rfl)|(apply q_mv; (first|exact vD|exact vO|exact vP|exact vA|exact vF|exact vR|exact vN|exact vY|exact vT|exact vM|exact vX))|(apply q_as; (first|exact vD|exact vO|exact vP|exact vA|exact vF|exact vR|exact vN|exact vY|exact vT|exact vM|exact vX))|(apply q_ld_boxF; exact rfl; exact rfl; exact rfl; exact rfl)
    | (apply (q_pickF (u := .d _)); exact rfl; exact rfl)))|(apply W.ed; (apply e_boxF; exact rfl; exact rfl; exact rfl; kernel_rfl; kernel_rfl))|(refine W.gOff _ _ rfl rfl (by intro h; cases h) ?_)|(apply AWP.seq)|(apply ACont_normal)|(apply W.region; kernel_rfl)|(apply Walk.nil)
  | (apply AWP.ret)))
    all_goals exact ⟨.inl rfl, [0], [bV false], rfl, rfl, ⟨rfl, trivial⟩, AVle.of_eq rfl, rfl⟩
  · rw [hv2] at h0
    rw [hv2, if_pos rfl] at h1
    (repeat' (first
  | (apply W.gOn; exact rfl; exact rfl)
  | (apply W.qd; (first
    | (apply (q_callC (h0)); exact rfl; exact rfl; kernel_rfl; kernel_rfl; kernel_rfl)|(apply (q_callC (h1)); exact rfl; exact rfl; kernel_rfl; kernel_rfl; kernel_rfl)|(apply q_mv; (first|exact vD|exact vO|exact vP|exact vA|exact vF|exact vR|exact vN|exact vY|exact vT|exact vM|exact vX))|(apply q_as; (first|exact vD|exact vO|exact vP|exact vA|exact vF|exact vR|exact vN|exact vY|exact vT|exact vM|exact vX))|(apply q_ld_boxF; exact rfl; exact rfl; exact rfl; exact rfl)|(apply q_eql; exact rfl; exact rfl)|(apply q_len_osl; exact rfl; exact rfl; exact rfl)
    | (apply (q_pickT (u := .d _)); exact rfl; exact rfl)))|(apply W.ed; (apply e_boxF; exact rfl; exact rfl; exact rfl; kernel_rfl; kernel_rfl))|(apply AWP.seq)|(apply ACont_normal)|(apply W.region; kernel_rfl)|(apply Walk.nil)
  | (apply AWP.ret)))
    all_goals exact ⟨.inl rfl, [0], [bV _], rfl, rfl, ⟨rfl, trivial⟩, AVle.of_eq (congrArg bV (by first | rfl | (rw [hmh]; rfl))), rfl⟩
theorem A_planO {M D u v : Nat} {ps : List (List Nat)} {hv : List Bool} (h : CodeOk M D ps) (hl : hv.length = D + ps.length) (hu : u < D + ps.length) : ACalls Tryd.prog 16 [cdN M D ps, .osl 0 v 0 hv.length, iV u] [.row v 1 4 (hv.map tD)] (planA u (planN M D ps hv u)) [.row v 1 4 (hv.map tD)] := by
  have hl2 : (hv.set u false).length = D + ps.length := by rw [List.length_set]; exact hl
  have h1 := h.d
  have h2 := h.w
  have hfit := A_fitsO (v := v) (M := M) (D := D) (hv := hv) (code_in h)
  have hpl : (toZ ps).length = ps.length := List.length_map _
  rw [valid_ok h, hpl, decide_eq_true (show (hv.length : Int) = D + (ps.length : Int) by omega), ← cdN_A] at hfit
  have hcl := A_cloneBO (v := v) (l := hv) (by omega) (by omega)
  have hcomb := A_comb h hl2 hu
  have hchk := A_checks (u := (u : Int)) h
  rw [chkZ_nat] at hchk
  have hIlt : ∀ i ∈ chkI D ps u ps.length, i < ps.length ∧ u ∈ checkN D i (ps.getD i []) := fun i hi => by
    obtain ⟨q1, q2⟩ := List.mem_filter.1 hi
    exact ⟨List.mem_range.1 q1, by simpa using q2⟩
  have hIl : (chkI D ps u ps.length).length ≤ ps.length := by rw [← chkZ_nat]; exact chkZ_length _ _ _ _
  have hterm := fun i hi => A_rterms h (hIlt i hi).1 (hIlt i hi).2
  have hcb := fun i => checkN_length D i (ps.getD i [])
  have hmem : ∀ i ∈ chkI D ps u ps.length, ∀ k ∈ checkN D i (ps.getD i []), k < D + ps.length := fun i hi k hk => (coef_ok h (hIlt i hi).1 hk).1
  have hcs := fun k (hk : k < (chkI D ps u ps.length).length) => Lib.hid (candC_take M D ps (hv.set u false) u (chkI D ps u ps.length) k hk)
  have hcl3 := fun k => candC_le M D ps (hv.set u false) u ((chkI D ps u ps.length).take k)
  have hP : planN M D ps hv u = bestN ((combN M D ps (hv.set u false) u).toList ++ candC M D ps (hv.set u false) u ((chkI D ps u ps.length).take (chkI D ps u ps.length).length)) := by rw [List.take_length]; rfl
  have hc0 : candC M D ps (hv.set u false) u ((chkI D ps u ps.length).take 0) = [] := rfl
  have hall : ∀ x ∈ (combN M D ps (hv.set u false) u).toList ++ candC M D ps (hv.set u false) u ((chkI D ps u ps.length).take (chkI D ps u ps.length).length), x.length ≤ 1000 := fun x hx => by
    rcases List.mem_append.1 hx with hx | hx
    · cases hc : combN M D ps (hv.set u false) u with
      | none => rw [hc] at hx; simp at hx
      | some y =>
        rw [hc] at hx
        obtain rfl : x = y := by simpa using hx
        have := (comb_ok h hl2 hu hc).le
        have := basis_len h hl2
        omega
    · unfold candC at hx
      obtain ⟨i, _, rfl⟩ := List.mem_map.1 hx
      have := cterms_le M D (ps.getD i []) (checkN D i (ps.getD i [])) u
      have := checkN_length D i (ps.getD i [])
      omega
  have hcombl : ∀ y, combN M D ps (hv.set u false) u = some y → y.length ≤ 1000 := fun y hc => hall y (by rw [hc]; simp)
  generalize chkI D ps u ps.length = I at *
  generalize planN M D ps hv u = PL at *
  generalize hC : (fun k => candC M D ps (hv.set u false) u (I.take k)) = CC at *
  have hC' : ∀ k, candC M D ps (hv.set u false) u (I.take k) = CC k := fun k => congrFun hC k
  simp only [hC'] at hcs hcl3 hP hc0 hall
  generalize combN M D ps (hv.set u false) u = CO at *
  generalize hCh : (fun i => checkN D i (ps.getD i [])) = CK at *
  have hCh' : ∀ i, checkN D i (ps.getD i []) = CK i := fun i => congrFun hCh i
  simp only [hCh'] at hterm hcb hmem hcs
  have hmis := fun k (hk : k < (hv.set u false).length) => A_missing (u := u) hk
  have hlo : (hv.set u false).length = D + ps.length := hl2
  have hmh : (hv.map tD).length = hv.length := List.length_map _
  refine acalls_of_bodyO Tryd.func16 rfl (Nat.le_of_ble_eq_true rfl) ?_
  (repeat' (first
  | (apply W.gOn; exact rfl; exact rfl)
  | (apply W.qd; (first
    | (apply (q_callR (js := [0]) (hfit)); exact rfl; exact rfl; exact rfl; exact fun _ => rfl; exact fun _ => rfl; kernel_rfl; kernel_rfl)|(apply q_mv; (first|exact vD|exact vO|exact vP|exact vA|exact vF|exact vR|exact vN|exact vY|exact vT|exact vM|exact vX))|(apply q_as; (first|exact vD|exact vO|exact vP|exact vA|exact vF|exact vR|exact vN|exact vY|exact vT|exact vM|exact vX))|(apply q_ld_box; exact rfl; exact rfl; exact rfl; exact rfl)|(apply q_ld_boxF; exact rfl; exact rfl; exact rfl; exact rfl)|(apply q_lss; exact rfl; exact rfl)|(apply q_geq; exact rfl; exact rfl)|(apply q_not; exact rfl)|(apply q_len_osl; exact rfl; exact rfl; exact rfl)|(apply (q_pickF (u := .d _)); exact rfl; exact rfl)
    | (apply q_ix_osl0; exact rfl; exact rfl; exact rfl; exact rfl; (first | (with_reducible exact rfl) | exact natI_spec rfl | assumption | exact (Int.toNat_of_nonneg (by omega)).symm); (first | omega | (focus (simp only [List.length_map]; omega)) | (focus (simp; done)) | (focus (simp; omega))))))
  | (apply W.ed; (first
    | (apply (e_callJ (js := [0]) (hcl)); exact rfl; exact rfl; exact rfl; exact rfl; exact rfl; kernel_rfl; kernel_rfl)|(apply e_boxF; exact rfl; exact rfl; exact rfl; kernel_rfl; kernel_rfl)
    | (apply e_allocF; exact rfl; exact rfl; exact rfl; kernel_rfl)))
  | (apply W.ln; (first
    | (apply l_st_box; exact rfl; exact rfl; exact rfl; exact rfl; exact rfl; exact rfl; kernel_rfl; kernel_rfl; kernel_rfl)
    | (apply l_st_rpt; exact rfl; exact rfl; exact rfl; exact rfl; exact rfl; exact rfl; exact rfl; exact fun _ => rfl; (first | omega | (focus (simp only [List.length_map]; omega)) | (focus (simp; omega))))))|(apply AWP.seq)|(apply ACont_normal)|(apply (W.regionS 5); exact rfl; kernel_rfl)|(apply Walk.nil)|(apply AWP.skip)
  | (refine W.cond _ rfl (fun hb => ?_) (fun hb => ?_) <;> ((try simp only [hb, Bool.not_true, Bool.not_false]) <;> (try simp only [decide_eq_true_eq, decide_eq_false_iff_not, Bool.not_eq_true', Bool.not_eq_false', Int.not_lt, Int.not_le, List.length_map, not_true_eq_false] at hb) <;> (try (exfalso; omega))))))
  refine AWP.wk ⟨[(3, .opt 1 0), (5, .opt 2 0), (6, .opt 3 0), (7, iV 0), (8, .opt 4 0)], [.row v 1 4 (hv.map tD), .box [.d .any, iV M, iV D, rowsN ps, .d .any], .box [iV u], .box [iV 0, .d (.v (.slice none 0 0))], .box [bools (hv.set u false)]]⟩ ⟨[0, 1, 2, 3, 5], rfl, rfl, ?wkPl, rfl, rfl, rfl, rfl, rfl, trivial⟩ ?_
  case wkPl =>
    have z := frz_rowJ (own := [.row v 1 4 (hv.map tD), .box [.d .any, iV M, iV D, rowsN ps, .d .any], .box [iV u], .box [iV 0, .d (.v (.slice none 0 0))], .row 1 1 4 ((hv.set u false).map tD), .box [.osl 4 1 0 hv.length]]) (js := [0, 1, 2, 3, 5]) (i := 4) (ver := 1) (n := hv.length) rfl rfl (by simp)
    exact congrArg (fun z => [Ent.row v 1 4 (hv.map tD), .box [.d .any, iV M, iV D, rowsN ps, .d .any], .box [iV u], .box [iV 0, .d (.v (.slice none 0 0))], .box [z]]) z.symm
  generalize hv.set u false = OT at *
  (repeat' (first
  | (apply W.qd; (apply q_as; (first|exact vD|exact vO|exact vP|exact vA|exact vF|exact vR|exact vN|exact vY|exact vT|exact vM|exact vX)))|(apply AWP.seq)|(apply ACont_normal)|(apply (W.regionS 6); exact rfl; kernel_rfl)
  | (apply Walk.nil)))
  refine AWP.nilRow 9 1 25 rfl (by omega) ?_
  have hmi : ((I.map CK).map rnD).length = I.length := by simp
  have hmi2 : (I.map CK).length = I.length := by simp
  have e1 : ∀ (n : Nat), AV.osl 5 n 0 n = AV.osl 5 n 0 n := fun _ => rfl
  cases CO with
  | none => ?_
  | some t0 => ?_
  all_goals unfold termsA at hcomb
  all_goals dsimp only at hcomb
  all_goals (repeat' (first
  | (apply W.qd; (first
    | (apply (q_callC (hcomb)); exact rfl; exact rfl; kernel_rfl; kernel_rfl; kernel_rfl)|(apply q_mv; (first|exact vD|exact vO|exact vP|exact vA|exact vF|exact vR|exact vN|exact vY|exact vT|exact vM|exact vX))|(apply q_as; (first|exact vD|exact vO|exact vP|exact vA|exact vF|exact vR|exact vN|exact vY|exact vT|exact vM|exact vX))|(apply q_ld_box; exact rfl; exact rfl; exact rfl; exact rfl)|(apply q_ld_boxF; exact rfl; exact rfl; exact rfl; exact rfl)|(apply q_eql; exact rfl; exact rfl)|(apply q_extract; exact rfl; exact rfl)|(apply q_makeFunc)
    | (apply q_litF; exact rfl; exact rfl; exact rfl; exact rfl; exact rfl; kernel_rfl; kernel_rfl; exact rfl)))|(apply W.ed; (apply e_appF; exact rfl; exact rfl; exact rfl; exact rfl; exact rfl; exact rfl; exact rfl; exact rfl; (first | rfl | simp); (first | exact Nat.zero_lt_one | (focus (simp; done)) | omega); (first | (focus (simp; done)) | (focus (simp; omega)) | omega)))|(apply AWP.seq)|(apply ACont_normal)|(apply (W.regionS 10); exact rfl; kernel_rfl)|(apply Walk.nil)|(apply AWP.skip)|(apply W.condT; exact rfl)
  | (apply W.condF; exact rfl)))
  rotate_left
  · refine AWP.wk ⟨[(9, .osl 5 [t0].length 0 [t0].length), (12, .fn 32 [.opt 2 0, .opt 4 0]), (3, .opt 1 0), (5, .opt 2 0), (6, .opt 3 0), (7, iV 0)], [.row v 1 4 (hv.map tD), .box [.d .any, iV M, iV D, rowsN ps, .d .any], .box [iV u], .box [iV 0, .d (.v (.slice none 0 0))], .box [bools OT], .row [t0].length 1 25 ([t0].map tlD)]⟩ ⟨[0, 1, 2, 3, 4, 5], rfl, rfl, rfl, rfl, rfl, rfl, rfl, rfl, rfl, trivial⟩ ?_
    have hB1 : [t0].length ≤ 1 := Nat.le_refl _
    rw [show (some t0).toList = [t0] from rfl] at hP hall
    generalize [t0] = B at *
    (repeat' (first
  | (apply W.qd; (first
    | (apply (q_callC (hchk)); exact rfl; exact rfl; kernel_rfl; kernel_rfl; kernel_rfl)|(apply q_mv; (first|exact vD|exact vO|exact vP|exact vA|exact vF|exact vR|exact vN|exact vY|exact vT|exact vM|exact vX))|(apply q_ld_box; exact rfl; exact rfl; exact rfl; exact rfl)|(apply q_ld_boxF; exact rfl; exact rfl; exact rfl; exact rfl)
    | (apply q_len_sl; exact rfl; exact rfl)))|(apply ACont_normal)|(apply W.region; kernel_rfl)|(apply Walk.nil)
  | (apply AWP.block)))
    refine AWP.loopW (α := Nat) (fun k => k ≤ I.length) (fun k => ⟨[(55, iV k), (54, iV I.length), (53, rowsN (I.map CK)), (9, .osl 5 (B ++ CC k).length 0 (B ++ CC k).length), (12, .fn 32 [.opt 2 0, .opt 4 0]), (3, .opt 1 0), (5, .opt 2 0), (6, .opt 3 0), (7, iV 0)], [.row v 1 4 (hv.map tD), .box [.d .any, iV M, iV D, rowsN ps, .d .any], .box [iV u], .box [iV 0, .d (.v (.slice none 0 0))], .box [bools OT], .row (B ++ CC k).length 1 25 ((B ++ CC k).map tlD)]⟩) (fun k => I.length - k) 0 (by omega) ?wkA fun k hk => ?_
    case wkA =>
      rw [hc0, List.append_nil]
      exact ⟨[0, 1, 2, 3, 4, 5], rfl, rfl, rfl, rfl, iV_eq (by simp), rfl, rfl, rfl, rfl, rfl, rfl, rfl, trivial⟩
    have hlL : (B ++ CC k).length ≤ 100 := by
      have := hcl3 k
      rw [List.length_append]
      rw [List.length_take] at this
      omega
    by_cases hkI : k < I.length
    · have hIk := List.getElem_mem hkI
      have eK : (I.map CK)[k]'(by simpa using hkI) = CK I[k] := List.getElem_map _
      have hs2 := hcs k hkI
      have ht1 := hterm I[k] hIk
      have hcbk := hcb I[k]
      have hcf := A_contains_int (O := [.box [iV u], .box [bools OT]]) (g := 32) (caps := [.opt 0 0, .opt 1 0]) (misZ OT u) ((CK I[k]).map fun n : Nat => (n : Int)) (by rw [List.length_map]; omega) (by kernel_rfl) (fun x hx => by
        obtain ⟨y, hy, rfl⟩ := List.mem_map.1 hx
        exact hmis y (by rw [hlo]; exact hmem _ hIk y hy))
      rw [misZ_full, ← nats_ints] at hcf
      have htl := cterms_le M D (ps.getD I[k] []) (CK I[k]) u
      generalize ctermsN M D (ps.getD I[k] []) (CK I[k]) u = TT at *
      rw [← eK] at ht1 hcf
      rw [← eK] at hs2
      cases hfu : fullC OT ((I.map CK)[k]'(by simpa using hkI)) u <;> rw [hfu] at hcf hs2
      · replace hs2 := Lib.hid (hs2.out.trans (if_neg (by decide)))
        (repeat' (first
  | (apply W.qd; (first
    | (apply q_mv; (first|exact vD|exact vO|exact vP|exact vA|exact vF|exact vR|exact vN|exact vY|exact vT|exact vM|exact vX))|(apply q_as; (first|exact vD|exact vO|exact vP|exact vA|exact vF|exact vR|exact vN|exact vY|exact vT|exact vM|exact vX))|(apply q_lss; exact rfl; exact rfl)|(apply q_not; exact rfl)|(apply q_add; exact rfl; exact rfl; omega)|(apply q_ld_map; exact rfl; exact rfl; exact rfl; (first | omega | (focus (simp; done))))
    | (apply q_ix_slF; exact rfl; exact rfl; exact rfl; exact rfl; (first | (with_reducible exact rfl) | exact natI_spec rfl | assumption | exact (Int.toNat_of_nonneg (by omega)).symm); (first | omega | (focus (simp only [List.length_map]; omega)) | (focus (simp; done)) | (focus (simp; omega))))))|(apply W.ed; (apply (e_callJ (js := [2, 4]) (hcf)); exact rfl; exact rfl; exact rfl; exact rfl; exact rfl; kernel_rfl; kernel_rfl))|(apply AWP.seq)|(apply ACont_normal)|(apply W.region; kernel_rfl)|(apply Walk.nil)|(apply AWP.block)|(apply AWP.skip)|(apply ABlock_normal)|(apply W.condF; exact rfl)
  | (refine W.cond _ rfl (fun hb => ?_) (fun hb => ?_) <;> ((try simp only [hb, Bool.not_true, Bool.not_false]) <;> (try simp only [decide_eq_true_eq, decide_eq_false_iff_not, Bool.not_eq_true', Bool.not_eq_false', Int.not_lt, Int.not_le, List.length_map, not_true_eq_false] at hb) <;> (try (exfalso; omega))))))
        refine ⟨k + 1, by omega, by omega, ?_⟩
        rw [hs2.out]
        exact ⟨[0, 1, 2, 3, 4, 5], rfl, rfl, rfl, iV_eq (by omega), rfl, rfl, rfl, rfl, rfl, rfl, rfl, rfl, trivial⟩
      · replace hs2 := Lib.hid (hs2.out.trans (if_pos rfl))
        (repeat' (first
  | (apply W.qd; (first
    | (apply (q_callC (ht1)); exact rfl; exact rfl; kernel_rfl; kernel_rfl; kernel_rfl)|(apply q_mv; (first|exact vD|exact vO|exact vP|exact vA|exact vF|exact vR|exact vN|exact vY|exact vT|exact vM|exact vX))|(apply q_as; (first|exact vD|exact vO|exact vP|exact vA|exact vF|exact vR|exact vN|exact vY|exact vT|exact vM|exact vX))|(apply q_ld_box; exact rfl; exact rfl; exact rfl; exact rfl)|(apply q_ld_boxF; exact rfl; exact rfl; exact rfl; exact rfl)|(apply q_lss; exact rfl; exact rfl)|(apply q_not; exact rfl)|(apply q_add; exact rfl; exact rfl; omega)|(apply q_ld_map; exact rfl; exact rfl; exact rfl; (first | omega | (focus (simp; done))))|(apply q_litF; exact rfl; exact rfl; exact rfl; exact rfl; exact rfl; kernel_rfl; kernel_rfl; exact rfl)
    | (apply q_ix_slF; exact rfl; exact rfl; exact rfl; exact rfl; (first | (with_reducible exact rfl) | exact natI_spec rfl | assumption | exact (Int.toNat_of_nonneg (by omega)).symm); (first | omega | (focus (simp only [List.length_map]; omega)) | (focus (simp; done)) | (focus (simp; omega))))))|(apply W.ld; (apply l_app1; exact rfl; exact rfl; exact rfl; exact rfl; exact rfl; exact rfl; exact rfl; exact rfl; (first | omega | (focus (simp; omega)) | (focus (simp; done)))))|(apply W.ed; (apply (e_callJ (js := [2, 4]) (hcf)); exact rfl; exact rfl; exact rfl; exact rfl; exact rfl; kernel_rfl; kernel_rfl))|(apply AWP.seq)|(apply ACont_normal)|(apply W.region; kernel_rfl)|(apply Walk.nil)|(apply AWP.block)|(apply AWP.skip)|(apply ABlock_normal)|(apply W.condT; exact rfl)
  | (refine W.cond _ rfl (fun hb => ?_) (fun hb => ?_) <;> ((try simp only [hb, Bool.not_true, Bool.not_false]) <;> (try simp only [decide_eq_true_eq, decide_eq_false_iff_not, Bool.not_eq_true', Bool.not_eq_false', Int.not_lt, Int.not_le, List.length_map, not_true_eq_false] at hb) <;> (try (exfalso; omega))))))
        refine ⟨k + 1, by omega, by omega, ?_⟩
        rw [hs2.out, ← List.append_assoc, show ((B ++ CC k) ++ [TT]).length = (B ++ CC k).length + 1 by simp; omega]
        exact ⟨[0, 1, 2, 3, 4, 5], rfl, rfl, rfl, iV_eq (by omega), rfl, rfl, congrArg (AV.osl 5 ((B ++ CC k).length + 1) 0) (by simp), rfl, rfl, rfl, rfl, rfl, trivial⟩
    · have e3 : k = I.length := by omega
      subst e3
      rw [hP]
      generalize B ++ CC I.length = L at *
      refine AWP.wk ⟨[(55, iV I.length), (54, iV I.length), (9, tlsA L), (3, .opt 1 0), (5, .opt 2 0), (6, .opt 3 0), (7, iV 0)], [.row v 1 4 (hv.map tD), .box [.d .any, iV M, iV D, rowsN ps, .d .any], .box [iV u], .box [iV 0, .d (.v (.slice none 0 0))], .box [bools OT]]⟩ ⟨[0, 1, 2, 3, 4], rfl, rfl, rfl, rfl, rfl, (frz_rowJ rfl rfl (by simp)).symm, rfl, rfl, rfl, rfl, trivial⟩ ?_
      have hmL : (L.map tlD).length = L.length := List.length_map _
      by_cases hL0 : L = []
      · subst hL0
        (repeat' (first
  | (apply W.qd; (first
    | (apply q_mv; (first|exact vD|exact vO|exact vP|exact vA|exact vF|exact vR|exact vN|exact vY|exact vT|exact vM|exact vX))|(apply q_as; (first|exact vD|exact vO|exact vP|exact vA|exact vF|exact vR|exact vN|exact vY|exact vT|exact vM|exact vX))|(apply q_lss; exact rfl; exact rfl)|(apply q_eql; exact rfl; exact rfl)|(apply q_len_sl; exact rfl; exact rfl)
    | (apply q_buildF; exact rfl; exact rfl; kernel_rfl)))|(apply W.ln; (apply l_st_box; exact rfl; exact rfl; exact rfl; exact rfl; exact rfl; exact rfl; kernel_rfl; kernel_rfl; kernel_rfl))|(apply AWP.seq)|(apply ACont_normal)|(apply W.region; kernel_rfl)|(apply Walk.nil)|(apply AWP.exit)|(apply AWP.ret)|(apply ACont_exit)|(apply ACont_ret)|(apply ABlock_exit)|(apply W.condT; exact rfl)
  | (refine W.cond _ rfl (fun hb => ?_) (fun hb => ?_) <;> ((try simp only [hb, Bool.not_true, Bool.not_false]) <;> (try simp only [decide_eq_true_eq, decide_eq_false_iff_not, Bool.not_eq_true', Bool.not_eq_false', Int.not_lt, Int.not_le, List.length_map, not_true_eq_false] at hb) <;> (try (exfalso; omega))))))
        exact ⟨.inl rfl, [0], [.agg [iV 0, .d (.v (.slice none 0 0))], iV 11], rfl, rfl, ⟨⟨3, [iV 0, .d (.v (.slice none 0 0))], true, rfl, rfl, rfl, rfl⟩, rfl, trivial⟩, pl0_le 11, rfl⟩
      · have hLp : 0 < L.length := List.length_pos_iff.2 hL0
        have hmin := A_minFunc L hLp (by omega) (fun t ht => by have := hall t ht; omega)
        have hbs : bestN L = some ((bestN L).getD []) := by
          cases L with
          | nil => exact absurd rfl hL0
          | cons a l => rfl
        rw [hbs]
        generalize (bestN L).getD [] = RR at *
        (repeat' (first
  | (apply W.qd; (first
    | (apply q_mv; (first|exact vD|exact vO|exact vP|exact vA|exact vF|exact vR|exact vN|exact vY|exact vT|exact vM|exact vX))|(apply q_as; (first|exact vD|exact vO|exact vP|exact vA|exact vF|exact vR|exact vN|exact vY|exact vT|exact vM|exact vX))|(apply q_ld_box; exact rfl; exact rfl; exact rfl; exact rfl)|(apply q_lss; exact rfl; exact rfl)|(apply q_eql; exact rfl; exact rfl)|(apply q_len_sl; exact rfl; exact rfl)|(apply q_buildF; exact rfl; exact rfl; kernel_rfl)
    | (apply q_makeFunc)))
  | (apply W.ed; (first
    | (apply (e_callJ (js := [5]) (hmin)); exact rfl; exact rfl; exact rfl; exact rfl; exact rfl; kernel_rfl; kernel_rfl)
    | (apply e_allocF; exact rfl; exact rfl; exact rfl; kernel_rfl)))|(apply W.ln; (apply l_st_box; exact rfl; exact rfl; exact rfl; exact rfl; exact rfl; exact rfl; kernel_rfl; kernel_rfl; kernel_rfl))|(apply AWP.seq)|(apply ACont_normal)|(apply W.region; kernel_rfl)|(apply Walk.nil)|(apply AWP.skip)|(apply AWP.exit)|(apply AWP.ret)|(apply ACont_exit)|(apply ABlock_exit)
  | (refine W.cond _ rfl (fun hb => ?_) (fun hb => ?_) <;> ((try simp only [hb, Bool.not_true, Bool.not_false]) <;> (try simp only [decide_eq_true_eq, decide_eq_false_iff_not, Bool.not_eq_true', Bool.not_eq_false', Int.not_lt, Int.not_le, List.length_map, not_true_eq_false] at hb) <;> (try (exfalso; omega))))))
        exact ⟨.inl rfl, [0], [.agg [iV u, tmsA RR], iV 0], rfl, rfl, ⟨⟨3, [iV u, tmsA RR], true, rfl, rfl, rfl, rfl⟩, rfl, trivial⟩, AVle.of_eq rfl, rfl⟩
  · refine AWP.wk ⟨[(9, .osl 5 ([] : List (List (Nat × Nat))).length 0 ([] : List (List (Nat × Nat))).length), (12, .fn 32 [.opt 2 0, .opt 4 0]), (3, .opt 1 0), (5, .opt 2 0), (6, .opt 3 0), (7, iV 0)], [.row v 1 4 (hv.map tD), .box [.d .any, iV M, iV D, rowsN ps, .d .any], .box [iV u], .box [iV 0, .d (.v (.slice none 0 0))], .box [bools OT], .row ([] : List (List (Nat × Nat))).length 1 25 (([] : List (List (Nat × Nat))).map tlD)]⟩ ⟨[0, 1, 2, 3, 4, 5], rfl, rfl, rfl, rfl, rfl, rfl, rfl, rfl, rfl, trivial⟩ ?_
    have hB1 : ([] : List (List (Nat × Nat))).length ≤ 1 := Nat.zero_le _
    rw [show (none : Option (List (Nat × Nat))).toList = [] from rfl] at hP hall
    generalize ([] : List (List (Nat × Nat))) = B at hP hall hB1 ⊢
    (repeat' (first
  | (apply W.qd; (first
    | (apply (q_callC (hchk)); exact rfl; exact rfl; kernel_rfl; kernel_rfl; kernel_rfl)|(apply q_mv; (first|exact vD|exact vO|exact vP|exact vA|exact vF|exact vR|exact vN|exact vY|exact vT|exact vM|exact vX))|(apply q_ld_box; exact rfl; exact rfl; exact rfl; exact rfl)|(apply q_ld_boxF; exact rfl; exact rfl; exact rfl; exact rfl)
    | (apply q_len_sl; exact rfl; exact rfl)))|(apply ACont_normal)|(apply W.region; kernel_rfl)|(apply Walk.nil)
  | (apply AWP.block)))
    refine AWP.loopW (α := Nat) (fun k => k ≤ I.length) (fun k => ⟨[(55, iV k), (54, iV I.length), (53, rowsN (I.map CK)), (9, .osl 5 (B ++ CC k).length 0 (B ++ CC k).length), (12, .fn 32 [.opt 2 0, .opt 4 0]), (3, .opt 1 0), (5, .opt 2 0), (6, .opt 3 0), (7, iV 0)], [.row v 1 4 (hv.map tD), .box [.d .any, iV M, iV D, rowsN ps, .d .any], .box [iV u], .box [iV 0, .d (.v (.slice none 0 0))], .box [bools OT], .row (B ++ CC k).length 1 25 ((B ++ CC k).map tlD)]⟩) (fun k => I.length - k) 0 (by omega) ?wkA fun k hk => ?_
    case wkA =>
      rw [hc0, List.append_nil]
      exact ⟨[0, 1, 2, 3, 4, 5], rfl, rfl, rfl, rfl, iV_eq (by simp), rfl, rfl, rfl, rfl, rfl, rfl, rfl, trivial⟩
    have hlL : (B ++ CC k).length ≤ 100 := by
      have := hcl3 k
      rw [List.length_append]
      rw [List.length_take] at this
      omega
    by_cases hkI : k < I.length
    · have hIk := List.getElem_mem hkI
      have eK : (I.map CK)[k]'(by simpa using hkI) = CK I[k] := List.getElem_map _
      have hs2 := hcs k hkI
      have ht1 := hterm I[k] hIk
      have hcbk := hcb I[k]
      have hcf := A_contains_int (O := [.box [iV u], .box [bools OT]]) (g := 32) (caps := [.opt 0 0, .opt 1 0]) (misZ OT u) ((CK I[k]).map fun n : Nat => (n : Int)) (by rw [List.length_map]; omega) (by kernel_rfl) (fun x hx => by
        obtain ⟨y, hy, rfl⟩ := List.mem_map.1 hx
        exact hmis y (by rw [hlo]; exact hmem _ hIk y hy))
      rw [misZ_full, ← nats_ints] at hcf
      have htl := cterms_le M D (ps.getD I[k] []) (CK I[k]) u
      generalize ctermsN M D (ps.getD I[k] []) (CK I[k]) u = TT at *
      rw [← eK] at ht1 hcf
      rw [← eK] at hs2
      cases hfu : fullC OT ((I.map CK)[k]'(by simpa using hkI)) u <;> rw [hfu] at hcf hs2
      · replace hs2 := Lib.hid (hs2.out.trans (if_neg (by decide)))
        (repeat' (first
  | (apply W.qd; (first
    | (apply q_mv; (first|exact vD|exact vO|exact vP|exact vA|exact vF|exact vR|exact vN|exact vY|exact vT|exact vM|exact vX))|(apply q_as; (first|exact vD|exact vO|exact vP|exact vA|exact vF|exact vR|exact vN|exact vY|exact vT|exact vM|exact vX))|(apply q_lss; exact rfl; exact rfl)|(apply q_not; exact rfl)|(apply q_add; exact rfl; exact rfl; omega)|(apply q_ld_map; exact rfl; exact rfl; exact rfl; (first | omega | (focus (simp; done))))
    | (apply q_ix_slF; exact rfl; exact rfl; exact rfl; exact rfl; (first | (with_reducible exact rfl) | exact natI_spec rfl | assumption | exact (Int.toNat_of_nonneg (by omega)).symm); (first | omega | (focus (simp only [List.length_map]; omega)) | (focus (simp; done)) | (focus (simp; omega))))))|(apply W.ed; (apply (e_callJ (js := [2, 4]) (hcf)); exact rfl; exact rfl; exact rfl; exact rfl; exact rfl; kernel_rfl; kernel_rfl))|(apply AWP.seq)|(apply ACont_normal)|(apply W.region; kernel_rfl)|(apply Walk.nil)|(apply AWP.block)|(apply AWP.skip)|(apply ABlock_normal)|(apply W.condF; exact rfl)
  | (refine W.cond _ rfl (fun hb => ?_) (fun hb => ?_) <;> ((try simp only [hb, Bool.not_true, Bool.not_false]) <;> (try simp only [decide_eq_true_eq, decide_eq_false_iff_not, Bool.not_eq_true', Bool.not_eq_false', Int.not_lt, Int.not_le, List.length_map, not_true_eq_false] at hb) <;> (try (exfalso; omega))))))
        refine ⟨k + 1, by omega, by omega, ?_⟩
        rw [hs2.out]
        exact ⟨[0, 1, 2, 3, 4, 5], rfl, rfl, rfl, iV_eq (by omega), rfl, rfl, rfl, rfl, rfl, rfl, rfl, rfl, trivial⟩
      · replace hs2 := Lib.hid (hs2.out.trans (if_pos rfl))
        (repeat' (first
  | (apply W.qd; (first
    | (apply (q_callC (ht1)); exact rfl; exact rfl; kernel_rfl; kernel_rfl; kernel_rfl)|(apply q_mv; (first|exact vD|exact vO|exact vP|exact vA|exact vF|exact vR|exact vN|exact vY|exact vT|exact vM|exact vX))|(apply q_as; (first|exact vD|exact vO|exact vP|exact vA|exact vF|exact vR|exact vN|exact vY|exact vT|exact vM|exact vX))|(apply q_ld_box; exact rfl; exact rfl; exact rfl; exact rfl)|(apply q_ld_boxF; exact rfl; exact rfl; exact rfl; exact rfl)|(apply q_lss; exact rfl; exact rfl)|(apply q_not; exact rfl)|(apply q_add; exact rfl; exact rfl; omega)|(apply q_ld_map; exact rfl; exact rfl; exact rfl; (first | omega | (focus (simp; done))))|(apply q_litF; exact rfl; exact rfl; exact rfl; exact rfl; exact rfl; kernel_rfl; kernel_rfl; exact rfl)
    | (apply q_ix_slF; exact rfl; exact rfl; exact rfl; exact rfl; (first | (with_reducible exact rfl) | exact natI_spec rfl | assumption | exact (Int.toNat_of_nonneg (by omega)).symm); (first | omega | (focus (simp only [List.length_map]; omega)) | (focus (simp; done)) | (focus (simp; omega))))))|(apply W.ld; (apply l_app1; exact rfl; exact rfl; exact rfl; exact rfl; exact rfl; exact rfl; exact rfl; exact rfl; (first | omega | (focus (simp; omega)) | (focus (simp; done)))))|(apply W.ed; (apply (e_callJ (js := [2, 4]) (hcf)); exact rfl; exact rfl; exact rfl; exact rfl; exact rfl; kernel_rfl; kernel_rfl))|(apply AWP.seq)|(apply ACont_normal)|(apply W.region; kernel_rfl)|(apply Walk.nil)|(apply AWP.block)|(apply AWP.skip)|(apply ABlock_normal)|(apply W.condT; exact rfl)
  | (refine W.cond _ rfl (fun hb => ?_) (fun hb => ?_) <;> ((try simp only [hb, Bool.not_true, Bool.not_false]) <;> (try simp only [decide_eq_true_eq, decide_eq_false_iff_not, Bool.not_eq_true', Bool.not_eq_false', Int.not_lt, Int.not_le, List.length_map, not_true_eq_false] at hb) <;> (try (exfalso; omega))))))
        refine ⟨k + 1, by omega, by omega, ?_⟩
        rw [hs2.out, ← List.append_assoc, show ((B ++ CC k) ++ [TT]).length = (B ++ CC k).length + 1 by simp; omega]
        exact ⟨[0, 1, 2, 3, 4, 5], rfl, rfl, rfl, iV_eq (by omega), rfl, rfl, congrArg (AV.osl 5 ((B ++ CC k).length + 1) 0) (by simp), rfl, rfl, rfl, rfl, rfl, trivial⟩
    · have e3 : k = I.length := by omega
      subst e3
      rw [hP]
      generalize B ++ CC I.length = L at *
      refine AWP.wk ⟨[(55, iV I.length), (54, iV I.length), (9, tlsA L), (3, .opt 1 0), (5, .opt 2 0), (6, .opt 3 0), (7, iV 0)], [.row v 1 4 (hv.map tD), .box [.d .any, iV M, iV D, rowsN ps, .d .any], .box [iV u], .box [iV 0, .d (.v (.slice none 0 0))], .box [bools OT]]⟩ ⟨[0, 1, 2, 3, 4], rfl, rfl, rfl, rfl, rfl, (frz_rowJ rfl rfl (by simp)).symm, rfl, rfl, rfl, rfl, trivial⟩ ?_
      have hmL : (L.map tlD).length = L.length := List.length_map _
      by_cases hL0 : L = []
      · subst hL0
        (repeat' (first
  | (apply W.qd; (first
    | (apply q_mv; (first|exact vD|exact vO|exact vP|exact vA|exact vF|exact vR|exact vN|exact vY|exact vT|exact vM|exact vX))|(apply q_as; (first|exact vD|exact vO|exact vP|exact vA|exact vF|exact vR|exact vN|exact vY|exact vT|exact vM|exact vX))|(apply q_lss; exact rfl; exact rfl)|(apply q_eql; exact rfl; exact rfl)|(apply q_len_sl; exact rfl; exact rfl)
    | (apply q_buildF; exact rfl; exact rfl; kernel_rfl)))|(apply W.ln; (apply l_st_box; exact rfl; exact rfl; exact rfl; exact rfl; exact rfl; exact rfl; kernel_rfl; kernel_rfl; kernel_rfl))|(apply AWP.seq)|(apply ACont_normal)|(apply W.region; kernel_rfl)|(apply Walk.nil)|(apply AWP.exit)|(apply AWP.ret)|(apply ACont_exit)|(apply ACont_ret)|(apply ABlock_exit)|(apply W.condT; exact rfl)
  | (refine W.cond _ rfl (fun hb => ?_) (fun hb => ?_) <;> ((try simp only [hb, Bool.not_true, Bool.not_false]) <;> (try simp only [decide_eq_true_eq, decide_eq_false_iff_not, Bool.not_eq_true', Bool.not_eq_false', Int.not_lt, Int.not_le, List.length_map, not_true_eq_false] at hb) <;> (try (exfalso; omega))))))
        exact ⟨.inl rfl, [0], [.agg [iV 0, .d (.v (.slice none 0 0))], iV 11], rfl, rfl, ⟨⟨3, [iV 0, .d (.v (.slice none 0 0))], true, rfl, rfl, rfl, rfl⟩, rfl, trivial⟩, pl0_le 11, rfl⟩
      · have hLp : 0 < L.length := List.length_pos_iff.2 hL0
        have hmin := A_minFunc L hLp (by omega) (fun t ht => by have := hall t ht; omega)
        have hbs : bestN L = some ((bestN L).getD []) := by
          cases L with
          | nil => exact absurd rfl hL0
          | cons a l => rfl
        rw [hbs]
        generalize (bestN L).getD [] = RR at *
        (repeat' (first
  | (apply W.qd; (first
    | (apply q_mv; (first|exact vD|exact vO|exact vP|exact vA|exact vF|exact vR|exact vN|exact vY|exact vT|exact vM|exact vX))|(apply q_as; (first|exact vD|exact vO|exact vP|exact vA|exact vF|exact vR|exact vN|exact vY|exact vT|exact vM|exact vX))|(apply q_ld_box; exact rfl; exact rfl; exact rfl; exact rfl)|(apply q_lss; exact rfl; exact rfl)|(apply q_eql; exact rfl; exact rfl)|(apply q_len_sl; exact rfl; exact rfl)|(apply q_buildF; exact rfl; exact rfl; kernel_rfl)
    | (apply q_makeFunc)))
  | (apply W.ed; (first
    | (apply (e_callJ (js := [5]) (hmin)); exact rfl; exact rfl; exact rfl; exact rfl; exact rfl; kernel_rfl; kernel_rfl)
    | (apply e_allocF; exact rfl; exact rfl; exact rfl; kernel_rfl)))|(apply W.ln; (apply l_st_box; exact rfl; exact rfl; exact rfl; exact rfl; exact rfl; exact rfl; kernel_rfl; kernel_rfl; kernel_rfl))|(apply AWP.seq)|(apply ACont_normal)|(apply W.region; kernel_rfl)|(apply Walk.nil)|(apply AWP.skip)|(apply AWP.exit)|(apply AWP.ret)|(apply ACont_exit)|(apply ABlock_exit)
  | (refine W.cond _ rfl (fun hb => ?_) (fun hb => ?_) <;> ((try simp only [hb, Bool.not_true, Bool.not_false]) <;> (try simp only [decide_eq_true_eq, decide_eq_false_iff_not, Bool.not_eq_true', Bool.not_eq_false', Int.not_lt, Int.not_le, List.length_map, not_true_eq_false] at hb) <;> (try (exfalso; omega))))))
        exact ⟨.inl rfl, [0], [.agg [iV u, tmsA RR], iV 0], rfl, rfl, ⟨⟨3, [iV u, tmsA RR], true, rfl, rfl, rfl, rfl⟩, rfl, trivial⟩, AVle.of_eq rfl, rfl⟩
end Go.Proofs.YtilpljehfcpjeaaDoor
end
section
/- Package repair over the machine of abstract values: All on a list that is the caller's own. Printed by gen_rp10.py. -/
namespace Go.Proofs.YtilpljehfcpjeaaDoor
open Go.RowKit
set_option maxHeartbeats 4000000
set_option maxRecDepth 100000
attribute [local irreducible] Quiet Eff OpOk AWPG ACont ABlock ACalls AGoto
theorem A_missIterO {v : Nat} {hv : List Bool} {E0 E1 E2 E3 L : Ent} {e4 e5 : Nat → Ent} (hl : hv.length ≤ 1000000)
    (h1 : ∀ k, k < hv.length → hv.getD k false = true → e4 (k + 1) = e4 k ∧ e5 (k + 1) = e5 k)
    (h2 : ∀ k, k < hv.length → hv.getD k false = false → YAt Tryd.prog 8 [.row v 1 4 (hv.map tD), E0, E1, E2, E3, e4 k, e5 k, .box [.osl 0 v 0 hv.length], L] [iV (k : Nat)] true [.row v 1 4 (hv.map tD), E0, E1, E2, E3, e4 (k + 1), e5 (k + 1), .box [.osl 0 v 0 hv.length], L]) :
    ACalls Tryd.prog 65 [.yl 8, .opt 7 0] [.row v 1 4 (hv.map tD), E0, E1, E2, E3, e4 0, e5 0, .box [.osl 0 v 0 hv.length], L] (.tup []) [.row v 1 4 (hv.map tD), E0, E1, E2, E3, e4 hv.length, e5 hv.length, .box [.osl 0 v 0 hv.length], L] := by
  refine acalls_of_bodyS Tryd.func65 rfl (Nat.le_of_ble_eq_true rfl) ?_
  have hmh : (hv.map tD).length = hv.length := List.length_map _
  (repeat' (first
  | (apply W.qd; (first
    | (apply q_mv; (first|exact vD|exact vO|exact vP|exact vA|exact vF|exact vR|exact vN|exact vY|exact vT|exact vM|exact vX))|(apply q_ld_box; exact rfl; exact rfl; exact rfl; exact rfl)
    | (apply q_len_osl; exact rfl; exact rfl; exact rfl)))|(apply AWP.seq)|(apply ACont_normal)|(apply (W.regionS 5); exact rfl; kernel_rfl)|(apply Walk.nil)
  | (apply AWP.block)))
  refine AWP.loopE (α := Nat) (fun k => k ≤ hv.length) (fun k => ⟨[(7, iV (k : Nat)), (6, iV hv.length), (5, .osl 0 v 0 hv.length), (0, .yl 8), (1, .opt 7 0)], [.row v 1 4 (hv.map tD), E0, E1, E2, E3, e4 k, e5 k, .box [.osl 0 v 0 hv.length], L]⟩) (fun k => hv.length - k) 0 (by omega) ⟨rfl, rfl, rfl, rfl, rfl, rfl, trivial⟩ fun k hk => ?_
  by_cases hkl : k < hv.length
  · have eg : hv.getD k false = hv[k] := by rw [List.getD_eq_getElem?_getD, List.getElem?_eq_getElem hkl]; rfl
    have q1 := h1 k hkl
    have q2 := h2 k hkl
    rw [eg] at q1 q2
    (repeat' (first
  | (apply W.gOn; exact rfl; exact rfl)
  | (apply W.qd; (first
    | (apply q_mv; (first|exact vD|exact vO|exact vP|exact vA|exact vF|exact vR|exact vN|exact vY|exact vT|exact vM|exact vX))|(apply q_as; (first|exact vD|exact vO|exact vP|exact vA|exact vF|exact vR|exact vN|exact vY|exact vT|exact vM|exact vX))|(apply q_lss; exact rfl; exact rfl)|(apply q_not; exact rfl)|(apply q_add; exact rfl; exact rfl; omega)|(apply (q_pickT (u := .d _)); exact rfl; exact rfl)|(apply (q_pickF (u := .d _)); exact rfl; exact rfl)|(apply q_ix_osl0; exact rfl; exact rfl; exact rfl; exact rfl; (first | (with_reducible exact rfl) | exact natI_spec rfl | assumption | exact (Int.toNat_of_nonneg (by omega)).symm); (first | omega | (focus (simp only [List.length_map]; omega)) | (focus (simp; done)) | (focus (simp; omega))))
    | (apply q_ld_rptm; exact rfl; exact rfl; exact rfl; exact rfl; (first | omega | (focus (simp only [List.length_map]; omega)) | (focus (simp; done)) | (focus (simp; omega))))))|(apply W.ed; ((exact e_yield (q2 hb) rfl rfl)))|(refine W.gOff _ _ rfl rfl (by intro h; cases h) ?_)|(apply AWP.seq)|(apply ACont_normal)|(apply W.region; kernel_rfl)|(apply Walk.nil)|(apply AWP.block)|(apply AWP.skip)|(apply ABlock_normal)|(apply W.condF; exact rfl)|(refine W.gT _ _ rfl rfl (fun hb => ?_) (fun hb => ?_) <;> ((try simp only [hb, Bool.not_true, Bool.not_false]) <;> (try simp only [decide_eq_true_eq, decide_eq_false_iff_not, Bool.not_eq_true', Bool.not_eq_false', Int.not_lt, Int.not_le, List.length_map, not_true_eq_false] at hb) <;> (try (exfalso; omega))))
  | (refine W.cond _ rfl (fun hb => ?_) (fun hb => ?_) <;> ((try simp only [hb, Bool.not_true, Bool.not_false]) <;> (try simp only [decide_eq_true_eq, decide_eq_false_iff_not, Bool.not_eq_true', Bool.not_eq_false', Int.not_lt, Int.not_le, List.length_map, not_true_eq_false] at hb) <;> (try (exfalso; omega))))))
    · exact ⟨k + 1, by omega, by omega, rfl, iV_eq (by omega), rfl, rfl, rfl, rfl, trivial⟩
    · refine ⟨k + 1, by omega, by omega, ?_⟩
      rw [(q1 hb).1, (q1 hb).2]
      exact ⟨rfl, iV_eq (by omega), rfl, rfl, rfl, rfl, trivial⟩
  · have : k = hv.length := by omega
    subst this
    (repeat' (first
  | (apply W.qd; (apply q_lss; exact rfl; exact rfl))|(apply AWP.seq)|(apply ACont_normal)|(apply W.region; kernel_rfl)|(apply Walk.nil)|(apply AWP.exit)|(apply ACont_exit)|(apply ABlock_exit)
  | (refine W.cond _ rfl (fun hb => ?_) (fun hb => ?_) <;> ((try simp only [hb, Bool.not_true, Bool.not_false]) <;> (try simp only [decide_eq_true_eq, decide_eq_false_iff_not, Bool.not_eq_true', Bool.not_eq_false', Int.not_lt, Int.not_le, List.length_map, not_true_eq_false] at hb) <;> (try (exfalso; omega))))))
    exact ⟨.inr rfl, [], trivial, AVle.of_eq rfl, rfl⟩
theorem A_missing0O {v : Nat} {hv : List Bool} : ACalls Tryd.prog 43 [.osl 0 v 0 hv.length] [.row v 1 4 (hv.map tD)] (.fn 65 [.opt 1 0]) [.row v 1 4 (hv.map tD), .box [.osl 0 v 0 hv.length]] := by
  refine acalls_of_bodyO Tryd.func43 rfl (Nat.le_of_ble_eq_true rfl) ?_
  (repeat' (first
  | (apply W.qd; (first
    | (apply q_as; (first|exact vD|exact vO|exact vP|exact vA|exact vF|exact vR|exact vN|exact vY|exact vT|exact vM|exact vX))
    | (apply q_makeFunc)))|(apply W.ed; (apply e_boxF; exact rfl; exact rfl; exact rfl; kernel_rfl; kernel_rfl))|(apply AWP.seq)|(apply ACont_normal)|(apply W.region; kernel_rfl)|(apply Walk.nil)
  | (apply AWP.ret)))
  exact ⟨.inl rfl, [0, 1], [.fn 65 [.opt 1 0]], rfl, rfl, ⟨rfl, trivial⟩, AVle.of_eq rfl, rfl⟩
theorem A_allO {M D v : Nat} {ps : List (List Nat)} {hv : List Bool} (h : CodeOk M D ps) (hl : hv.length = D + ps.length) (hall : ∀ k, k < hv.length → hv.getD k false = false → (planN M D ps hv k).isSome = true) :
    ACalls Tryd.prog 20 [cdN M D ps, .osl 0 v 0 hv.length] [.row v 1 4 (hv.map tD)] (.tup [plsA (plansTo M D ps hv hv.length), iV 0]) [.row v 1 4 (hv.map tD)] := by
  have h1 := h.d
  have h2 := h.w
  have hfit := A_fitsO (v := v) (M := M) (D := D) (hv := hv) (code_in h)
  have hpl : (toZ ps).length = ps.length := List.length_map _
  rw [valid_ok h, hpl, decide_eq_true (show (hv.length : Int) = D + (ps.length : Int) by omega), ← cdN_A] at hfit
  have hmis := A_missing0O (v := v) (hv := hv)
  have hplan := fun k (hk : k < D + ps.length) => A_planO (v := v) (u := k) h hl hk
  have hs := fun k => Lib.hid (plansTo_succ M D ps hv k)
  have hle := plansTo_le M D ps hv
  have hP0 : plansTo M D ps hv 0 = [] := rfl
  generalize hPN : planN M D ps hv = PN at *
  generalize plansTo M D ps hv = PL at *
  refine acalls_of_bodyO Tryd.func20 rfl (Nat.le_of_ble_eq_true rfl) ?_
  (repeat' (first
  | (apply W.qd; (first
    | (apply (q_callR (js := [0]) (hfit)); exact rfl; exact rfl; exact rfl; exact fun _ => rfl; exact fun _ => rfl; kernel_rfl; kernel_rfl)|(apply q_ld_box; exact rfl; exact rfl; exact rfl; exact rfl)|(apply q_ld_boxF; exact rfl; exact rfl; exact rfl; exact rfl)
    | (apply q_not; exact rfl)))
  | (apply W.ed; (first
    | (apply e_boxF; exact rfl; exact rfl; exact rfl; kernel_rfl; kernel_rfl)
    | (apply e_allocF; exact rfl; exact rfl; exact rfl; kernel_rfl)))|(apply AWP.seq)|(apply ACont_normal)|(apply (W.regionS 4); exact rfl; kernel_rfl)|(apply Walk.nil)|(apply AWP.skip)
  | (apply W.condF; exact rfl)))
  refine AWP.nilBox (l' := [.osl 6 0 0 0]) 5 0 2 27 rfl rfl (by omega) rfl rfl rfl rfl ?_
  (repeat' (first
  | (apply W.qd; (apply q_ld_box; exact rfl; exact rfl; exact rfl; exact rfl))|(apply W.ed; (apply (e_callJ (js := [0]) (hmis)); exact rfl; exact rfl; exact rfl; exact rfl; exact rfl; kernel_rfl; kernel_rfl))|(apply ACont_normal)|(apply W.region; kernel_rfl)|(apply Walk.nil)
  | (apply AWP.block)))
  refine AWP.wk ⟨[(15, .fn 65 [.opt 7 0]), (2, .opt 1 0), (3, .opt 2 0), (4, .opt 3 0), (5, .opt 4 0), (6, .opt 5 0)], [.row v 1 4 (hv.map tD), .box [.d .any, iV M, iV D, rowsN ps, .d .any], .box [.osl 0 v 0 hv.length], .box [.d (.v (.slice none 0 0))], .box [iV 0], .box [.osl 6 (PL 0).length 0 (PL 0).length], .row (PL 0).length 2 27 ((PL 0).map plD), .box [.osl 0 v 0 hv.length]]⟩ (by rw [hP0]; exact ⟨[0, 1, 2, 3, 4, 5, 6, 7], rfl, rfl, rfl, by (repeat (first | exact trivial | refine ⟨rfl, ?_⟩))⟩) ?_
  refine AWP.range (s2 := ⟨[(4, .opt 3 0), (5, .opt 4 0), (6, .opt 5 0)], [.row v 1 4 (hv.map tD), .box [.d .any, iV M, iV D, rowsN ps, .d .any], .box [.osl 0 v 0 hv.length], .box [.d (.v (.slice none 0 0))], .box [iV 0], .box [.osl 6 (PL hv.length).length 0 (PL hv.length).length], .row (PL hv.length).length 2 27 ((PL hv.length).map plD)]⟩) rfl (by kernel_rfl) (A_missIterO (e4 := fun k => .box [.osl 6 (PL k).length 0 (PL k).length]) (e5 := fun k => .row (PL k).length 2 27 ((PL k).map plD)) (by omega) (fun k hk hb => ?_) (fun k hk hb => ?_)) rfl (by decide) ⟨[0, 1, 2, 3, 4, 5, 6], rfl, rfl, rfl, by (repeat (first | exact trivial | refine ⟨rfl, ?_⟩))⟩ ?_
  · have e := (hs k).out
    rw [if_pos hb] at e
    rw [e]
    exact ⟨rfl, rfl⟩
  · have hk2 := hplan k (by omega)
    obtain ⟨l, hl2⟩ := Option.isSome_iff_exists.1 (hall k hk hb)
    have hs2 : PL (k + 1) = PL k ++ [(k, l)] := by rw [(hs k).out, if_neg (by rw [hb]; simp), hl2]; rfl
    have hle2 := hle k
    rw [hl2] at hk2
    have e9 : (PL k ++ [(k, l)]).length = (PL k).length + 1 := by simp
    refine YAt.ok (own1 := [.row v 1 4 (hv.map tD), .box [.d .any, iV M, iV D, rowsN ps, .d .any], .box [.osl 0 v 0 hv.length], .box [.d (.v (.slice none 0 0))], .box [iV 0], .box [.osl 6 ((PL k).length + 1) 0 (PL k ++ [(k, l)]).length], .row ((PL k).length + 1) 2 27 ((PL k ++ [(k, l)]).map plD), .box [.osl 0 v 0 hv.length], .lp .busy none #[16] _ _ _]) (s2 := ⟨[(7, iV k), (2, .opt 1 0), (3, .opt 2 0), (4, .opt 3 0), (5, .opt 4 0), (6, .opt 5 0)], _⟩) rfl rfl rfl rfl (fun g => ?_) rfl (fun g => ?_) rfl (by rw [hs2, e9]; rfl)
    · refine AWP.toW ?_
      (repeat' (first
  | (apply W.qd; (apply q_as; (first|exact vD|exact vO|exact vP|exact vA|exact vF|exact vR|exact vN|exact vY|exact vT|exact vM|exact vX)))|(apply W.region; kernel_rfl)
  | (apply Walk.nil)))
      exact ⟨rfl, ⟨[0, 1, 2, 3, 4, 5, 6, 7, 8], rfl, rfl, rfl, by (repeat (first | exact trivial | refine ⟨rfl, ?_⟩))⟩⟩
    · refine AWP.toO ?_
      generalize PL k = A at *
      unfold planA at hk2
      dsimp only at hk2
      (repeat' (first
  | (apply W.qd; (first
    | (apply q_mv; (first|exact vD|exact vO|exact vP|exact vA|exact vF|exact vR|exact vN|exact vY|exact vT|exact vM|exact vX))|(apply q_as; (first|exact vD|exact vO|exact vP|exact vA|exact vF|exact vR|exact vN|exact vY|exact vT|exact vM|exact vX))|(apply q_ld_box; exact rfl; exact rfl; exact rfl; exact rfl)|(apply q_ld_boxF; exact rfl; exact rfl; exact rfl; exact rfl)|(apply q_neq; exact rfl; exact rfl)|(apply q_extract; exact rfl; exact rfl)
    | (apply q_litF; exact rfl; exact rfl; exact rfl; exact rfl; exact rfl; kernel_rfl; kernel_rfl; exact rfl)))
  | (apply W.ed; (first
    | (apply (e_callJ (js := [0]) (hk2)); exact rfl; exact rfl; exact rfl; exact rfl; exact rfl; kernel_rfl; kernel_rfl)
    | ((apply (e_app1F (f := plD) (k, l)); exact rfl; exact rfl; exact rfl; exact rfl; exact rfl; exact rfl; exact rfl; exact rfl; omega))
    | (apply e_allocF; exact rfl; exact rfl; exact rfl; kernel_rfl)))|(apply W.ln; (apply l_st_box; exact rfl; exact rfl; exact rfl; exact rfl; exact rfl; exact rfl; kernel_rfl; kernel_rfl; kernel_rfl))|(apply AWP.seq)|(apply ACont_normal)|(apply W.region; kernel_rfl)|(apply Walk.nil)|(apply AWP.block)|(apply AWP.skip)|(apply ABlock_normal)
  | (apply W.condF; exact rfl)))
      exact ⟨rfl, ⟨[0, 1, 2, 3, 4, 5, 6, 7, 8], rfl, rfl, rfl, by (repeat (first | exact trivial | refine ⟨rfl, ?_⟩))⟩⟩
  dsimp only
  generalize PL hv.length = A at *
  (repeat' (first
  | (apply W.qd; (apply q_ld_box; exact rfl; exact rfl; exact rfl; exact rfl))|(apply W.ln; (apply l_st_box; exact rfl; exact rfl; exact rfl; exact rfl; exact rfl; exact rfl; kernel_rfl; kernel_rfl; kernel_rfl))|(apply AWP.seq)|(apply ACont_normal)|(apply W.region; kernel_rfl)|(apply Walk.nil)|(apply AWP.ret)
  | (apply ABlock_normal)))
  exact ⟨.inl rfl, [0], [.osl 6 A.length 0 A.length, iV 0], rfl, rfl, ⟨⟨3, [.osl 6 A.length 0 A.length], false, rfl, rfl, rfl, rfl⟩, ⟨4, [iV 0], false, rfl, rfl, rfl, rfl⟩, trivial⟩, AVle.tup2 (AVle.of_eq (frz_rowJ rfl rfl (by simp))) (AVle.of_eq rfl), rfl⟩
end Go.Proofs.YtilpljehfcpjeaaDoor
end
section
/- The example of layer 10: sanity. -/
namespace Go.Proofs.YtilpljehfcpjeaaDoor
open Go.RowKit
set_option maxHeartbeats 4000000
set_option maxRecDepth 100000
theorem AVle.any {x : Value} (h : x.oneCell' = true) : AVle (.d (.v x)) (.d .any) := fun F own κ w u hs => by
  rw [sat_v] at hs
  subst hs
  rw [AV.sat, Dat.sat]
  exact h
def hv1 : List Bool := [true, true, false, true, true, true, true]
def hv2 : List Bool := [true, true, false, false, true, true, true]
def hv3 : List Bool := [true, true, false, false, true, false, true]
def usE : List (List Nat) := [[], [], [], [5], [], [6], []]
theorem lrc_chk : ((chkZ 4 lrcP 2 lrcP.length).map fun i => checkN 4 i (lrcP.getD i [])) = [[2, 3, 5], [0, 1, 2, 3, 6]] := by kernel_rfl
theorem lrc_all : (plansTo 8 4 lrcP hv2 hv2.length).length = 2 := by kernel_rfl
theorem lrc_sum : combM 8 1 [1, 1] [[5], [6]] (List.replicate 1 0) = [3] := by kernel_rfl
theorem lrc_some : ∀ k, k < hv2.length → hv2.getD k false = false → (planN 8 4 lrcP hv2 k).isSome = true := fun k hk => by
  have h : ((List.range 7).all fun k => hv2.getD k false || (planN 8 4 lrcP hv2 k).isSome) = true := by kernel_rfl
  have := List.all_eq_true.1 h k (List.mem_range.2 hk)
  intro h2
  rw [h2] at this
  simpa using this
attribute [local irreducible] Quiet Eff OpOk AWPG ACont ABlock ACalls AGoto
theorem A_lrc : ACalls Tryd.prog 18 [] [] (cdN 8 4 lrcP) [] := by
  refine ACalls.leR (r := .agg [.d (.v (.string ⟨#[108, 114, 99]⟩)), iV 8, iV 4, rowsN lrcP, iV 7]) ?_ (AVle.agg ⟨AVle.any rfl, AVle.refl _, AVle.refl _, AVle.refl _, AVle.any rfl, trivial⟩)
  refine acalls_of_body Tryd.func18 rfl (Nat.le_of_ble_eq_true rfl) ?_
  (repeat' (first
  | (apply W.qd; (first
    | (apply q_buildF; exact rfl; exact rfl; kernel_rfl)
    | (apply q_litF; exact rfl; exact rfl; exact rfl; exact rfl; exact rfl; kernel_rfl; kernel_rfl; exact rfl)))|(apply W.ed; (apply e_allocF; exact rfl; exact rfl; exact rfl; kernel_rfl))|(apply W.ln; (apply l_st_box; exact rfl; exact rfl; exact rfl; exact rfl; exact rfl; exact rfl; kernel_rfl; kernel_rfl; kernel_rfl))|(apply AWP.seq)|(apply ACont_normal)|(apply W.region; kernel_rfl)|(apply Walk.nil)
  | (apply AWP.ret)))
  exact Ends.cell1 rfl rfl rfl rfl
theorem lrc_apply : ACalls Tryd.prog 10 [cdN 8 4 lrcP, .agg [iV 2, tmsA [(3, 1), (5, 1)]], strs usE] [] (.tup [bS [3], iV 0]) [] := by
  have hc := A_fcombine (M := 8) (n := 1) (cs := [1, 1]) (us := [[5], [6]]) (.inl rfl) (fun h => by cases h) rfl (by decide) (by decide) (fun u hu => by
    have : u = [5] ∨ u = [6] := by simpa using hu
    rcases this with rfl | rfl <;> exact ⟨fun x hx => by simp at hx; omega, rfl⟩) (by decide) (by decide)
  rw [lrc_sum] at hc
  have := A_applyOk (M := 8) (D := 4) (u := 2) (e := 0) (par := toZ lrcP) (us := usE) (l := [(3, 1), (5, 1)]) (s := [3]) (code_in lrc_ok) (valid_ok lrc_ok) rfl (by decide) (by decide) (by decide) (by decide) hc
  exact this
theorem lrc_nil : ACalls Tryd.prog 16 [cdN 8 4 lrcP, .d (.v (.slice none 0 0)), iV 2] [] (.tup [pl0, iV 1]) [] := by
  have := A_plan_bad (M := 8) (D := 4) (u := 2) (par := toZ lrcP) (hv := []) (code_in lrc_ok) (fun h => by have := h.2.2.2; simp at this)
  refine ACalls.le this fun F κ w vs h => AVleL.sat (xs := [cdN 8 4 lrcP, .d (.v (.slice none 0 0)), iV 2]) (ys := [cdA 8 4 (toZ lrcP), bools [], iV 2]) ⟨AVle.of_eq rfl, AVle.nil 1, AVle.refl _, trivial⟩ F [] κ w vs h
theorem A_sanity10 : ACalls Tryd.prog 9 [] [] (bV true) [] := by
  have hchk := A_checks (u := 2) lrc_ok
  rw [lrc_chk] at hchk
  have hp1 := A_planO (v := 0) (u := 2) (hv := hv1) lrc_ok rfl (by decide)
  rw [show planN 8 4 lrcP hv1 2 = some [(3, 1), (5, 1)] from lrc_p1] at hp1
  obtain ⟨l2, e2, e3⟩ := Option.map_eq_some_iff.1 lrc_p2
  have hp2 := A_planO (v := 0) (u := 2) (hv := hv2) lrc_ok rfl (by decide)
  rw [show planN 8 4 lrcP hv2 2 = some l2 from e2] at hp2
  have hp3 := A_planO (v := 0) (u := 2) (hv := hv3) lrc_ok rfl (by decide)
  rw [show planN 8 4 lrcP hv3 2 = none from lrc_p3] at hp3
  have hall := A_allO (v := 0) (hv := hv2) lrc_ok rfl lrc_some
  have hll := lrc_all
  obtain ⟨a1, a2, ea⟩ : ∃ a1 a2, plansTo 8 4 lrcP hv2 hv2.length = [a1, a2] := by
    generalize plansTo 8 4 lrcP hv2 hv2.length = L at hll
    match L, hll with
    | [a1, a2], _ => exact ⟨a1, a2, rfl⟩
  rw [ea] at hall
  have hl2 : l2.length = 4 := by have := congrArg List.length e3; simpa using this
  have hrd := A_reads (u := 2) (l := l2) (by omega)
  rw [e3] at hrd
  have hsm := A_samePlan (u := 2) (v := 2) (a := [(3, 1), (5, 1)]) (b := [(3, 1), (5, 1)]) (by decide) (by decide)
  have hs1 := A_same_ints (a := [2, 3, 5]) (b := [2, 3, 5]) (by decide) (by decide)
  have hs2 := A_same_ints (a := [0, 1, 2, 3, 6]) (b := [0, 1, 2, 3, 6]) (by decide) (by decide)
  have hs3 := A_same_ints (a := [0, 1, 5, 6]) (b := [0, 1, 5, 6]) (by decide) (by decide)
  rw [decide_eq_true rfl] at hs1 hs2 hs3
  rw [decide_eq_true rfl, decide_eq_true rfl, Bool.true_and] at hsm
  have hlrc := A_lrc
  have hap := lrc_apply
  have hnil := lrc_nil
  unfold planA at hp1 hp2 hp3
  dsimp only at hp1 hp2 hp3
  refine acalls_of_body Tryd.func9 rfl (Nat.le_of_ble_eq_true rfl) ?_
  have hv1l : (hv1.map tD).length = 7 := rfl
  have hv1k : hv1.length = 7 := rfl
  have hv2k : hv2.length = 7 := rfl
  have hv3k : hv3.length = 7 := rfl
  have hv2l : (hv2.map tD).length = 7 := rfl
  have hv3l : (hv3.map tD).length = 7 := rfl
  (repeat' (first
  | (apply W.qd; (first
    | (apply (q_callC (hlrc)); exact rfl; exact rfl; kernel_rfl; kernel_rfl; kernel_rfl)
    | (apply q_as; (first|exact vD|exact vO|exact vP|exact vA|exact vF|exact vR|exact vN|exact vY|exact vT|exact vM|exact vX))))|(apply W.ed; (apply e_allocF; exact rfl; exact rfl; exact rfl; kernel_rfl))|(apply W.ln; (apply l_st_box; exact rfl; exact rfl; exact rfl; exact rfl; exact rfl; exact rfl; kernel_rfl; kernel_rfl; kernel_rfl))|(apply AWP.seq)|(apply ACont_normal)|(apply (W.regionS 2); exact rfl; kernel_rfl)
  | (apply Walk.nil)))
  (repeat' (first
  | (apply W.ed; (apply e_litO; exact rfl; exact rfl; exact rfl; exact rfl; exact rfl; exact rfl; kernel_rfl; exact rfl; exact rfl))|(apply W.qd; (apply q_as; (first|exact vD|exact vO|exact vP|exact vA|exact vF|exact vR|exact vN|exact vY|exact vT|exact vM|exact vX)))|(apply AWP.seq)|(apply ACont_normal)|(apply (W.regionS 3); exact rfl; kernel_rfl)
  | (apply Walk.nil)))
  refine AWP.wk ⟨[(1, .opt 0 0), (2, .osl 1 0 0 7)], [.box [.d .any, iV 8, iV 4, rowsN lrcP, .d .any], .row 0 1 4 (hv1.map tD)]⟩ ⟨[0, 1], rfl, rfl, rfl, by (repeat (first | exact trivial | refine ⟨rfl, ?_⟩))⟩ ?_
  (repeat' (first
  | (apply W.qd; (first
    | (apply (q_callC (hchk)); exact rfl; exact rfl; kernel_rfl; kernel_rfl; kernel_rfl)|(apply (q_callC (hap)); exact rfl; exact rfl; kernel_rfl; kernel_rfl; kernel_rfl)|(apply q_mv; (first|exact vD|exact vO|exact vP|exact vA|exact vF|exact vR|exact vN|exact vY|exact vT|exact vM|exact vX))|(apply q_as; (first|exact vD|exact vO|exact vP|exact vA|exact vF|exact vR|exact vN|exact vY|exact vT|exact vM|exact vX))|(apply q_ld_boxF; exact rfl; exact rfl; exact rfl; exact rfl)|(apply q_extract; exact rfl; exact rfl)
    | (apply q_litF; exact rfl; exact rfl; exact rfl; exact rfl; exact rfl; kernel_rfl; kernel_rfl; exact rfl)))
  | (apply W.ed; (first
    | (apply (e_callJ (js := [1]) (hp1)); exact rfl; exact rfl; exact rfl; exact rfl; exact rfl; kernel_rfl; kernel_rfl)
    | (apply e_allocF; exact rfl; exact rfl; exact rfl; kernel_rfl)))|(apply W.ln; (apply l_st_box; exact rfl; exact rfl; exact rfl; exact rfl; exact rfl; exact rfl; kernel_rfl; kernel_rfl; kernel_rfl))|(apply AWP.seq)|(apply ACont_normal)|(apply (W.regionS 6); exact rfl; kernel_rfl)
  | (apply Walk.nil)))
  refine AWP.wk ⟨[(1, .opt 0 0), (2, .osl 1 0 0 7), (3, rowsN [[2, 3, 5], [0, 1, 2, 3, 6]]), (4, .opt 2 0), (5, iV 0), (6, bS [3]), (7, iV 0)], [.box [.d .any, iV 8, iV 4, rowsN lrcP, .d .any], .row 0 1 4 (hv1.map tD), .box [iV 2, tmsA [(3, 1), (5, 1)]]]⟩ ⟨[0, 1, 2], rfl, rfl, rfl, by (repeat (first | exact trivial | refine ⟨rfl, ?_⟩))⟩ ?_
  (repeat' (first
  | (apply W.qd; (first
    | (apply q_mv; (first|exact vD|exact vO|exact vP|exact vA|exact vF|exact vR|exact vN|exact vY|exact vT|exact vM|exact vX))
    | (apply q_ix_osl0; exact rfl; exact rfl; exact rfl; exact rfl; (first | (with_reducible exact rfl) | exact natI_spec rfl | assumption | exact (Int.toNat_of_nonneg (by omega)).symm); (first | omega | (focus (simp only [List.length_map]; omega)) | (focus (simp; done)) | (focus (simp; omega))))))|(apply W.ln; (apply l_st_rpt; exact rfl; exact rfl; exact rfl; exact rfl; exact rfl; exact rfl; exact rfl; exact fun _ => rfl; (first | omega | (focus (simp only [List.length_map]; omega)) | (focus (simp; omega)))))|(apply AWP.seq)|(apply ACont_normal)|(apply (W.regionS 7); exact rfl; kernel_rfl)
  | (apply Walk.nil)))
  refine AWP.wk ⟨[(1, .opt 0 0), (2, .osl 1 0 0 7), (3, rowsN [[2, 3, 5], [0, 1, 2, 3, 6]]), (4, .opt 2 0), (5, iV 0), (6, bS [3]), (7, iV 0)], [.box [.d .any, iV 8, iV 4, rowsN lrcP, .d .any], .row 0 1 4 (hv2.map tD), .box [iV 2, tmsA [(3, 1), (5, 1)]]]⟩ ⟨[0, 1, 2], rfl, rfl, rfl, by (repeat (first | exact trivial | refine ⟨rfl, ?_⟩))⟩ ?_
  (repeat' (first
  | (apply W.qd; (first
    | (apply q_mv; (first|exact vD|exact vO|exact vP|exact vA|exact vF|exact vR|exact vN|exact vY|exact vT|exact vM|exact vX))|(apply q_as; (first|exact vD|exact vO|exact vP|exact vA|exact vF|exact vR|exact vN|exact vY|exact vT|exact vM|exact vX))|(apply q_ld_boxF; exact rfl; exact rfl; exact rfl; exact rfl)
    | (apply q_extract; exact rfl; exact rfl)))
  | (apply W.ed; (first
    | (apply (e_callJ (js := [1]) (hp2)); exact rfl; exact rfl; exact rfl; exact rfl; exact rfl; kernel_rfl; kernel_rfl)|(apply (e_callJ (js := [1]) (hall)); exact rfl; exact rfl; exact rfl; exact rfl; exact rfl; kernel_rfl; kernel_rfl)
    | (apply e_allocF; exact rfl; exact rfl; exact rfl; kernel_rfl)))|(apply W.ln; (apply l_st_box; exact rfl; exact rfl; exact rfl; exact rfl; exact rfl; exact rfl; kernel_rfl; kernel_rfl; kernel_rfl))|(apply AWP.seq)|(apply ACont_normal)|(apply (W.regionS 9); exact rfl; kernel_rfl)
  | (apply Walk.nil)))
  refine AWP.wk ⟨[(1, .opt 0 0), (2, .osl 1 0 0 7), (3, rowsN [[2, 3, 5], [0, 1, 2, 3, 6]]), (4, .opt 2 0), (5, iV 0), (6, bS [3]), (7, iV 0), (8, .opt 3 0), (9, iV 0), (10, plsA [a1, a2]), (11, iV 0)], [.box [.d .any, iV 8, iV 4, rowsN lrcP, .d .any], .row 0 1 4 (hv2.map tD), .box [iV 2, tmsA [(3, 1), (5, 1)]], .box [iV 2, tmsA l2]]⟩ ⟨[0, 1, 2, 3], rfl, rfl, rfl, by (repeat (first | exact trivial | refine ⟨rfl, ?_⟩))⟩ ?_
  (repeat' (first
  | (apply W.qd; (first
    | (apply q_mv; (first|exact vD|exact vO|exact vP|exact vA|exact vF|exact vR|exact vN|exact vY|exact vT|exact vM|exact vX))
    | (apply q_ix_osl0; exact rfl; exact rfl; exact rfl; exact rfl; (first | (with_reducible exact rfl) | exact natI_spec rfl | assumption | exact (Int.toNat_of_nonneg (by omega)).symm); (first | omega | (focus (simp only [List.length_map]; omega)) | (focus (simp; done)) | (focus (simp; omega))))))|(apply W.ln; (apply l_st_rpt; exact rfl; exact rfl; exact rfl; exact rfl; exact rfl; exact rfl; exact rfl; exact fun _ => rfl; (first | omega | (focus (simp only [List.length_map]; omega)) | (focus (simp; omega)))))|(apply AWP.seq)|(apply ACont_normal)|(apply (W.regionS 10); exact rfl; kernel_rfl)
  | (apply Walk.nil)))
  refine AWP.wk ⟨[(1, .opt 0 0), (2, .osl 1 0 0 7), (3, rowsN [[2, 3, 5], [0, 1, 2, 3, 6]]), (4, .opt 2 0), (5, iV 0), (6, bS [3]), (7, iV 0), (8, .opt 3 0), (9, iV 0), (10, plsA [a1, a2]), (11, iV 0)], [.box [.d .any, iV 8, iV 4, rowsN lrcP, .d .any], .row 0 1 4 (hv3.map tD), .box [iV 2, tmsA [(3, 1), (5, 1)]], .box [iV 2, tmsA l2]]⟩ ⟨[0, 1, 2, 3], rfl, rfl, rfl, by (repeat (first | exact trivial | refine ⟨rfl, ?_⟩))⟩ ?_
  (repeat' (first
  | (apply W.qd; (first
    | (apply (q_callC (hnil)); exact rfl; exact rfl; kernel_rfl; kernel_rfl; kernel_rfl)|(apply q_mv; (first|exact vD|exact vO|exact vP|exact vA|exact vF|exact vR|exact vN|exact vY|exact vT|exact vM|exact vX))|(apply q_as; (first|exact vD|exact vO|exact vP|exact vA|exact vF|exact vR|exact vN|exact vY|exact vT|exact vM|exact vX))|(apply q_ld_boxF; exact rfl; exact rfl; exact rfl; exact rfl)
    | (apply q_extract; exact rfl; exact rfl)))
  | (apply W.ed; (first
    | (apply (e_callJ (js := [1]) (hp3)); exact rfl; exact rfl; exact rfl; exact rfl; exact rfl; kernel_rfl; kernel_rfl)
    | (apply e_allocF; exact rfl; exact rfl; exact rfl; kernel_rfl)))|(apply W.ln; (apply l_st_box; exact rfl; exact rfl; exact rfl; exact rfl; exact rfl; exact rfl; kernel_rfl; kernel_rfl; kernel_rfl))|(apply AWP.seq)|(apply ACont_normal)|(apply (W.regionS 12); exact rfl; kernel_rfl)
  | (apply Walk.nil)))
  refine AWP.wk ⟨[(3, rowsN [[2, 3, 5], [0, 1, 2, 3, 6]]), (4, .opt 0 0), (5, iV 0), (6, bS [3]), (7, iV 0), (8, .opt 1 0), (9, iV 0), (10, plsA [a1, a2]), (11, iV 0), (13, iV 11), (15, iV 1)], [.box [iV 2, tmsA [(3, 1), (5, 1)]], .box [iV 2, tmsA l2]]⟩ ⟨[2, 3], rfl, rfl, rfl, by (repeat (first | exact trivial | refine ⟨rfl, ?_⟩))⟩ ?_
  have hB3 : isB [3] := fun x hx => by simp at hx; omega
  (repeat' (first
  | (apply W.gOn; exact rfl; exact rfl)
  | (apply W.qd; (first
    | (apply (q_callC (hs1)); exact rfl; exact rfl; kernel_rfl; kernel_rfl; kernel_rfl)|(apply (q_callC (hs2)); exact rfl; exact rfl; kernel_rfl; kernel_rfl; kernel_rfl)|(apply (q_callC (hs3)); exact rfl; exact rfl; kernel_rfl; kernel_rfl; kernel_rfl)|(apply (q_callC (hsm)); exact rfl; exact rfl; kernel_rfl; kernel_rfl; kernel_rfl)|(apply (q_callC (hrd)); exact rfl; exact rfl; kernel_rfl; kernel_rfl; kernel_rfl)
    | ((apply q_eqlS (l := [3]) (l' := [3]); exact rfl; exact rfl; exact hB3; exact hB3))|(apply q_mv; (first|exact vD|exact vO|exact vP|exact vA|exact vF|exact vR|exact vN|exact vY|exact vT|exact vM|exact vX))|(apply q_as; (first|exact vD|exact vO|exact vP|exact vA|exact vF|exact vR|exact vN|exact vY|exact vT|exact vM|exact vX))|(apply q_ld_boxF; exact rfl; exact rfl; exact rfl; exact rfl)|(apply q_eql; exact rfl; exact rfl)|(apply q_len_sl; exact rfl; exact rfl)|(apply q_ld_map; exact rfl; exact rfl; exact rfl; (first | omega | (focus (simp; done))))|(apply q_buildF; exact rfl; exact rfl; kernel_rfl)|(apply q_litF; exact rfl; exact rfl; exact rfl; exact rfl; exact rfl; kernel_rfl; kernel_rfl; exact rfl)|(apply q_ix_slF; exact rfl; exact rfl; exact rfl; exact rfl; (first | (with_reducible exact rfl) | exact natI_spec rfl | assumption | exact (Int.toNat_of_nonneg (by omega)).symm); (first | omega | (focus (simp only [List.length_map]; omega)) | (focus (simp; done)) | (focus (simp; omega))))
    | (apply (q_pickT (u := .d _)); exact rfl; exact rfl)))|(apply ACont_normal)|(apply W.region; kernel_rfl)|(apply Walk.nil)
  | (apply AWP.ret)))
  exact Ends.b rfl rfl
end Go.Proofs.YtilpljehfcpjeaaDoor
end
section
/- The law RepairRebuilds: a plan, carried out on the encoded stripe, gives the unit; the walk. -/
namespace Go.Proofs.YtilpljehfcpjeaaDoor
open Go.RowKit
set_option maxHeartbeats 4000000
set_option maxRecDepth 100000
def markN (S : List Nat) : List (Int × Value) := S.foldl (fun m (k : Nat) => setI m (k : Int) (.bool true)) []
theorem markN_succ {S : List Nat} {k : Nat} (h : k < S.length) : markN (S.take (k + 1)) = setI (markN (S.take k)) (S[k] : Int) (.bool true) := by
  unfold markN
  rw [List.take_succ_eq_append_getElem h, List.foldl_append]; rfl
theorem mark_fold (x : Nat) : ∀ (S : List Nat) (m : List (Int × Value)), getV (S.foldl (fun m (k : Nat) => setI m (k : Int) (.bool true)) m) (x : Int) (.bool false) = if x ∈ S then .bool true else getV m (x : Int) (.bool false)
  | [], m => by simp
  | a :: S, m => by
    rw [List.foldl_cons, mark_fold x S, getV_setI]
    by_cases h : x ∈ S
    · rw [if_pos h, if_pos (by simp [h])]
    · rw [if_neg h]
      by_cases h2 : (x : Int) = (a : Int)
      · rw [if_pos h2, if_pos (by simp; omega)]
      · rw [if_neg h2, if_neg (by simp only [List.mem_cons, not_or]; exact ⟨by omega, h⟩)]
theorem markN_get (S : List Nat) (x : Nat) : getV (markN S) (x : Int) (.bool false) = .bool (decide (x ∈ S)) := by
  unfold markN
  rw [mark_fold]
  by_cases h : x ∈ S
  · rw [if_pos h, decide_eq_true h]
  · rw [if_neg h, decide_eq_false h]; rfl
def maskN (S : List Nat) (z : List Nat) (es : List (List Nat)) (i : Nat) : List (List Nat) := (List.range es.length).map fun j => if j < i ∧ j ∉ S then z else es.getD j []
theorem maskN_length (S z es i) : (maskN S z es i).length = es.length := by simp [maskN]
theorem maskN_get (S z es i) {j : Nat} (h : j < es.length) : (maskN S z es i).getD j [] = if j < i ∧ j ∉ S then z else es.getD j [] := by
  rw [maskN, List.getD_eq_getElem?_getD, List.getElem?_map, List.getElem?_range h]; rfl
theorem maskN_zero (S z es) : maskN S z es 0 = es := by
  apply List.ext_getElem?
  intro j
  rw [maskN, List.getElem?_map]
  by_cases h : j < es.length
  · rw [List.getElem?_range h, List.getElem?_eq_getElem h]
    simp [List.getD_eq_getElem?_getD, h]
  · rw [List.getElem?_eq_none (by simp; omega), List.getElem?_eq_none (by omega)]; rfl
theorem maskN_keep {S : List Nat} {z : List Nat} {es : List (List Nat)} {i : Nat} (h : i ∈ S) : maskN S z es (i + 1) = maskN S z es i := by
  unfold maskN
  apply List.map_congr_left
  intro j _
  by_cases e : j = i
  · subst e
    rw [if_neg (by simp [h]), if_neg (by simp)]
  · by_cases h2 : j < i ∧ j ∉ S
    · rw [if_pos h2, if_pos ⟨by omega, h2.2⟩]
    · rw [if_neg h2, if_neg (fun h3 => h2 ⟨by omega, h3.2⟩)]
theorem maskN_set {S : List Nat} {z : List Nat} {es : List (List Nat)} {i : Nat} (h : i ∉ S) (hi : i < es.length) : maskN S z es (i + 1) = (maskN S z es i).set i z := by
  apply List.ext_getElem?
  intro j
  rw [List.getElem?_set]
  unfold maskN
  rw [List.getElem?_map, List.getElem?_map, List.length_map, List.length_range]
  by_cases hj : j < es.length
  · rw [List.getElem?_range hj]
    simp only [Option.map_some]
    by_cases e : i = j
    · subst e
      rw [if_pos rfl, if_pos hj, if_pos ⟨by omega, h⟩]
    · rw [if_neg e]
      by_cases h2 : j < i ∧ j ∉ S
      · rw [if_pos h2, if_pos ⟨by omega, h2.2⟩]
      · rw [if_neg h2, if_neg (fun h3 => h2 ⟨by omega, h3.2⟩)]
  · rw [List.getElem?_eq_none (by simp; omega)]
    by_cases e : i = j
    · rw [if_pos e, if_neg (by omega)]; rfl
    · rw [if_neg e]; rfl
section
variable {P : Program} {m : Nat} {env : List (Nat × AV)} {own : List Ent} {dst : Option Tmp} {ty : TypeId} {pos : String} {af : Array Edge} {gd : Option (Nat × Bool)}
theorem q_lkupB {t : TypeId} {x y : Operand} {i : Nat} {l : List (Int × Value)} {a : Int} {z : Value} {b : Bool} (hb : getV l a z = .bool b) (hx : lookO env x = .mp i) (hi : own[i]? = some (.mp (mpI l))) (hy : lookO env y = iV a) (ht : mapI P t = some z) :
    Quiet P m ⟨dst, .lookup t x y false, ty, pos, af, gd⟩ env own [i] (bV b) := by
  have := q_lkup (P := P) (m := m) (dst := dst) (ty := ty) (pos := pos) (af := af) (gd := gd) hx hi hy ht
  rwa [hb] at this
end
attribute [local irreducible] Quiet Eff OpOk AWPG ACont ABlock ACalls AGoto
theorem A_r8encO {M D : Nat} {ps us : List (List Nat)} (h : CodeOk M D ps) (hl : us.length = D) (hu : ∀ u ∈ us, isB u ∧ u.length ≤ 64) (hUU : uniB M us = true) : ACalls Tryd.prog 15 [cdN M D ps, strs us] [] (.tup [.osl 0 (ps.length + 1) 0 (encN M ps us).length, iV 0]) [.row (ps.length + 1) 1 9 ((encN M ps us).map sD)] := by
  refine acalls_of_bodyO Tryd.func15 rfl (Nat.le_of_ble_eq_true rfl) ?_
  have h1 := h.d
  have h2 := h.w
  have hpl : (toZ ps).length = ps.length := List.length_map _
  have h0 := A_r8valid (M := M) (D := D) (par := toZ ps) (by omega) (by omega)
  rw [valid_ok h, ← cdN_A] at h0
  have hml : (us.map sD).length = us.length := List.length_map _
  have hmp : (ps.map rnD).length = ps.length := List.length_map _
  have hd : us.headD [] = us[0]'(by omega) := by cases us with | nil => simp at hl; omega | cons a t => rfl
  have hM := h.f
  have hq : ∀ k (h : k < us.length), uniQ M us us[k] = decide ((us[k].length = (us[0]'(by omega)).length ∧ (M = 8 ∨ us[k].length % 2 = 0))) := fun k hk => by
    unfold uniQ
    rw [hd, Bool.eq_iff_iff]
    simp only [Bool.and_eq_true, Bool.or_eq_true, decide_eq_true_eq]
    omega
  have hB : ∀ k (h : k < us.length), uniQ M us us[k] = false → uniB M us = false := fun k hk e => List.all_eq_false.2 ⟨us[k], List.getElem_mem hk, by rw [e]; decide⟩
  have hT : (∀ u ∈ us, uniQ M us u = true) → uniB M us = true := fun h => List.all_eq_true.2 h
  have hlen : ∀ k (h : k < us.length), us[k].length ≤ 64 := fun k hk => (hu _ (List.getElem_mem hk)).2
  have hlen0 := hlen 0 (by omega)
  have hok : uniB M us = true → ∀ u ∈ us, isB u ∧ u.length = (us.headD []).length := fun e u hx => ⟨(hu u hx).1, (uni_ok hM e (by omega)).1 u hx⟩
  have hfit : uniB M us = true → FitM M (us.headD []).length := fun e => (uni_ok hM e (by omega)).2
  (repeat' (first
  | (apply W.gOn; exact rfl; exact rfl)|(apply W.ed; (apply e_lit0F; exact rfl; exact rfl; exact rfl; exact rfl; exact rfl))
  | (apply W.qd; (first
    | (apply (q_callC (h0)); exact rfl; exact rfl; kernel_rfl; kernel_rfl; kernel_rfl)|(apply q_mv; (first|exact vD|exact vO|exact vP|exact vA|exact vF|exact vR|exact vN|exact vY|exact vT|exact vM|exact vX))|(apply q_as; (first|exact vD|exact vO|exact vP|exact vA|exact vF|exact vR|exact vN|exact vY|exact vT|exact vM|exact vX))|(apply q_fld_optF; exact rfl; exact rfl; exact rfl)|(apply q_ld_box; exact rfl; exact rfl; exact rfl; exact rfl)|(apply q_ld_boxF; exact rfl; exact rfl; exact rfl; exact rfl)|(apply q_neq; exact rfl; exact rfl)|(apply q_not; exact rfl)|(apply q_len_sl; exact rfl; exact rfl)
    | (apply (q_pickF (u := .d _)); exact rfl; exact rfl)))
  | (apply W.ed; (first
    | (apply e_boxF; exact rfl; exact rfl; exact rfl; kernel_rfl; kernel_rfl)
    | (apply e_appF; exact rfl; exact rfl; exact rfl; exact rfl; exact rfl; exact rfl; exact rfl; exact rfl; (first | rfl | simp); (first | exact Nat.zero_lt_one | (focus (simp; done)) | omega); (first | (focus (simp; done)) | (focus (simp; omega)) | omega))))|(apply AWP.seq)|(apply ACont_normal)|(apply W.region; kernel_rfl)|(apply Walk.nil)|(apply AWP.block)|(apply AWP.skip)
  | (refine W.cond _ rfl (fun hb => ?_) (fun hb => ?_) <;> ((try simp only [hb, Bool.not_true, Bool.not_false]) <;> (try simp only [decide_eq_true_eq, decide_eq_false_iff_not, Bool.not_eq_true', Bool.not_eq_false', Int.not_lt, Int.not_le, List.length_map, not_true_eq_false] at hb) <;> (try (exfalso; omega))))))
  refine AWP.loopW (α := Nat) (fun k => k ≤ us.length ∧ ∀ u ∈ us.take k, uniQ M us u = true) (fun k => ⟨[(8, iV k), (7, .osl 1 1 0 us.length), (1, strs us), (2, .opt 0 0)], [.box [.d .any, iV M, iV D, rowsN ps, .d .any], .row 1 1 9 (us.map sD)]⟩) (fun k => us.length - k) 0 ⟨by omega, by simp⟩ ?wk0 fun k hk => ?_
  case wk0 => exact ⟨[0, 1], rfl, rfl, rfl, rfl, congrArg (AV.osl 1 1 0) (by simp), rfl, rfl, trivial⟩
  by_cases hkl : k < us.length
  · have q1 := hq k hkl
    have q2 := hlen k hkl
    by_cases hgood : us[k].length = (us[0]'(by omega)).length ∧ (M = 8 ∨ us[k].length % 2 = 0)
    · rw [decide_eq_true hgood] at q1
      (repeat' (first
  | (apply W.gOn; exact rfl; exact rfl)
  | (apply W.qd; (first
    | (apply q_mv; (first|exact vD|exact vO|exact vP|exact vA|exact vF|exact vR|exact vN|exact vY|exact vT|exact vM|exact vX))|(apply q_as; (first|exact vD|exact vO|exact vP|exact vA|exact vF|exact vR|exact vN|exact vY|exact vT|exact vM|exact vX))|(apply q_fld_optF; exact rfl; exact rfl; exact rfl)|(apply q_ld_box; exact rfl; exact rfl; exact rfl; exact rfl)|(apply q_lss; exact rfl; exact rfl)|(apply q_eql; exact rfl; exact rfl)|(apply q_neq; exact rfl; exact rfl)|(apply q_add; exact rfl; exact rfl; omega)|(apply q_rem; exact rfl; exact rfl; omega; omega)|(apply q_len_sl; exact rfl; exact rfl)|(apply q_len_bs; exact rfl; exact rfl)|(apply q_ld_map; exact rfl; exact rfl; exact rfl; (first | omega | (focus (simp; done))))|(apply q_ix_slF; exact rfl; exact rfl; exact rfl; exact rfl; (first | (with_reducible exact rfl) | exact natI_spec rfl | assumption | exact (Int.toNat_of_nonneg (by omega)).symm); (first | omega | (focus (simp only [List.length_map]; omega)) | (focus (simp; done)) | (focus (simp; omega))))|(apply (q_pickT (u := .d _)); exact rfl; exact rfl)
    | (apply (q_pickF (u := .d _)); exact rfl; exact rfl)))|(refine W.gOff _ _ rfl rfl (by intro h; cases h) ?_)|(apply AWP.seq)|(apply ACont_normal)|(apply W.region; kernel_rfl)|(apply W.regionD; exact rfl; kernel_rfl)|(apply Walk.nil)|(apply W.chk; kernel_rfl)|(apply AWP.block)|(apply AWP.skip)|(apply ABlock_normal)|(apply W.condF; exact rfl)|(refine W.gT _ _ rfl rfl (fun hb => ?_) (fun hb => ?_) <;> ((try simp only [hb, Bool.not_true, Bool.not_false]) <;> (try simp only [decide_eq_true_eq, decide_eq_false_iff_not, Bool.not_eq_true', Bool.not_eq_false', Int.not_lt, Int.not_le, List.length_map, not_true_eq_false] at hb) <;> (try (exfalso; omega))))|(refine W.gF _ _ rfl rfl (fun hb => ?_) (fun hb => ?_) <;> ((try simp only [hb, Bool.not_true, Bool.not_false]) <;> (try simp only [decide_eq_true_eq, decide_eq_false_iff_not, Bool.not_eq_true', Bool.not_eq_false', Int.not_lt, Int.not_le, List.length_map, not_true_eq_false] at hb) <;> (try (exfalso; omega))))
  | (refine W.cond _ rfl (fun hb => ?_) (fun hb => ?_) <;> ((try simp only [hb, Bool.not_true, Bool.not_false]) <;> (try simp only [decide_eq_true_eq, decide_eq_false_iff_not, Bool.not_eq_true', Bool.not_eq_false', Int.not_lt, Int.not_le, List.length_map, not_true_eq_false] at hb) <;> (try (exfalso; omega))))))
      all_goals
        refine ⟨k + 1, ⟨by omega, fun u hx => ?_⟩, by omega, [0, 1], rfl, rfl, rfl, iV_eq (by omega), rfl, rfl, rfl, trivial⟩
        rw [List.take_succ_eq_append_getElem hkl] at hx
        rcases List.mem_append.1 hx with hx | hx
        · exact hk.2 u hx
        · rw [List.mem_singleton.1 hx]; exact q1
    · rw [decide_eq_false hgood] at q1
      have := hB k hkl q1
      rw [hUU] at this; cases this
  · have hU := hT fun u hx => hk.2 u (by rwa [List.take_of_length_le (by omega)])
    have hn := hok hU
    have he := hfit hU
    have hn64 : (us.headD []).length ≤ 64 := by rw [hd]; exact hlen0
    have hen : encN M ps us = us ++ ps.map fun r => combM M (us.headD []).length r us (List.replicate (us.headD []).length 0) := rfl
    rw [hen]
    clear hq hB hT hlen hlen0 hok hfit hen hd
    generalize (us.headD []).length = n at *
    (repeat' (first
  | (apply W.qd; (first
    | (apply q_mv; (first|exact vD|exact vO|exact vP|exact vA|exact vF|exact vR|exact vN|exact vY|exact vT|exact vM|exact vX))|(apply q_as; (first|exact vD|exact vO|exact vP|exact vA|exact vF|exact vR|exact vN|exact vY|exact vT|exact vM|exact vX))|(apply q_lss; exact rfl; exact rfl)
    | (apply q_len_sl; exact rfl; exact rfl)))|(apply AWP.seq)|(apply ACont_normal)|(apply W.region; kernel_rfl)|(apply Walk.nil)|(apply AWP.block)|(apply AWP.exit)|(apply ACont_exit)|(apply ABlock_exit)
  | (refine W.cond _ rfl (fun hb => ?_) (fun hb => ?_) <;> ((try simp only [hb, Bool.not_true, Bool.not_false]) <;> (try simp only [decide_eq_true_eq, decide_eq_false_iff_not, Bool.not_eq_true', Bool.not_eq_false', Int.not_lt, Int.not_le, List.length_map, not_true_eq_false] at hb) <;> (try (exfalso; omega))))))
    refine AWP.loopW (α := Nat) (fun k => k ≤ ps.length) (fun k => ⟨[(9, iV k), (1, strs us), (7, .osl 1 (k + 1) 0 (us ++ (ps.take k).map fun r => combM M n r us (List.replicate n 0)).length), (2, .opt 0 0)], [.box [.d .any, iV M, iV D, rowsN ps, .d .any], .row (k + 1) 1 9 ((us ++ (ps.take k).map fun r => combM M n r us (List.replicate n 0)).map sD)]⟩) (fun k => ps.length - k) 0 (by omega) ?wk1 fun k hk => ?_
    case wk1 =>
      rw [show (us ++ (ps.take 0).map fun r => combM M n r us (List.replicate n 0)) = us by simp]
      exact ⟨[0, 1], rfl, rfl, rfl, by (repeat (first | exact trivial | refine ⟨rfl, ?_⟩))⟩
    by_cases hkl : k < ps.length
    · have hr := h.row ps[k] (List.getElem_mem _)
      have hcomb := A_rcombine (cs := ps[k]) (us := us) hM he (by rw [hr.1, hl]) (by omega) hr.2.1 hn (by omega) (by omega)
      have h5 : (ps.take (k + 1)).map (fun r => combM M n r us (List.replicate n 0)) = (ps.take k).map (fun r => combM M n r us (List.replicate n 0)) ++ [combM M n ps[k] us (List.replicate n 0)] := by
        rw [← List.take_append_getElem hkl, List.map_append]; rfl
      have h6 : us ++ (ps.take (k + 1)).map (fun r => combM M n r us (List.replicate n 0)) = (us ++ (ps.take k).map (fun r => combM M n r us (List.replicate n 0))) ++ [combM M n ps[k] us (List.replicate n 0)] := by rw [h5, List.append_assoc]
      have hl2 : (us ++ (ps.take k).map (fun r => combM M n r us (List.replicate n 0))).length ≤ 1024 := by simp; omega
      clear h5
      replace h6 := Lib.hid h6
      generalize combM M n ps[k] us (List.replicate n 0) = R at *
      generalize us ++ (ps.take k).map (fun r => combM M n r us (List.replicate n 0)) = A at *
      clear hr
      (repeat' (first
  | (apply W.qd; (first
    | (apply (q_callC (hcomb)); exact rfl; exact rfl; kernel_rfl; kernel_rfl; kernel_rfl)|(apply q_mv; (first|exact vD|exact vO|exact vP|exact vA|exact vF|exact vR|exact vN|exact vY|exact vT|exact vM|exact vX))|(apply q_as; (first|exact vD|exact vO|exact vP|exact vA|exact vF|exact vR|exact vN|exact vY|exact vT|exact vM|exact vX))|(apply q_fld_optF; exact rfl; exact rfl; exact rfl)|(apply q_ld_box; exact rfl; exact rfl; exact rfl; exact rfl)|(apply q_lss; exact rfl; exact rfl)|(apply q_add; exact rfl; exact rfl; omega)|(apply q_extract; exact rfl; exact rfl)|(apply q_len_sl; exact rfl; exact rfl)|(apply q_ld_map; exact rfl; exact rfl; exact rfl; (first | omega | (focus (simp; done))))|(apply q_litF; exact rfl; exact rfl; exact rfl; exact rfl; exact rfl; kernel_rfl; kernel_rfl; exact rfl)
    | (apply q_ix_slF; exact rfl; exact rfl; exact rfl; exact rfl; (first | (with_reducible exact rfl) | exact natI_spec rfl | assumption | exact (Int.toNat_of_nonneg (by omega)).symm); (first | omega | (focus (simp only [List.length_map]; omega)) | (focus (simp; done)) | (focus (simp; omega))))))|(apply W.ld; (apply l_app1; exact rfl; exact rfl; exact rfl; exact rfl; exact rfl; exact rfl; exact rfl; exact rfl; (first | omega | (focus (simp; omega)) | (focus (simp; done)))))|(apply AWP.seq)|(apply ACont_normal)|(apply W.region; kernel_rfl)|(apply W.regionD; exact rfl; kernel_rfl)|(apply Walk.nil)|(apply W.chk; kernel_rfl)|(apply AWP.block)|(apply AWP.skip)|(apply ABlock_normal)
  | (refine W.cond _ rfl (fun hb => ?_) (fun hb => ?_) <;> ((try simp only [hb, Bool.not_true, Bool.not_false]) <;> (try simp only [decide_eq_true_eq, decide_eq_false_iff_not, Bool.not_eq_true', Bool.not_eq_false', Int.not_lt, Int.not_le, List.length_map, not_true_eq_false] at hb) <;> (try (exfalso; omega))))))
      refine ⟨k + 1, by omega, by omega, ?_⟩
      rw [h6.out]
      exact ⟨[0, 1], rfl, rfl, rfl, iV_eq (by omega), rfl, congrArg (AV.osl 1 (k + 1 + 1) 0) (by simp), rfl, trivial⟩
    · have e : k = ps.length := by omega
      subst e
      rw [List.take_length]
      have hl2 : (us ++ ps.map fun r => combM M n r us (List.replicate n 0)).length ≤ 1024 := by simp; omega
      generalize us ++ ps.map (fun r => combM M n r us (List.replicate n 0)) = A at *
      (repeat' (first
  | (apply W.qd; (first
    | (apply q_mv; (first|exact vD|exact vO|exact vP|exact vA|exact vF|exact vR|exact vN|exact vY|exact vT|exact vM|exact vX))|(apply q_as; (first|exact vD|exact vO|exact vP|exact vA|exact vF|exact vR|exact vN|exact vY|exact vT|exact vM|exact vX))|(apply q_fld_optF; exact rfl; exact rfl; exact rfl)|(apply q_ld_box; exact rfl; exact rfl; exact rfl; exact rfl)|(apply q_lss; exact rfl; exact rfl)
    | (apply q_len_sl; exact rfl; exact rfl)))|(apply AWP.seq)|(apply ACont_normal)|(apply W.region; kernel_rfl)|(apply Walk.nil)|(apply AWP.exit)|(apply AWP.ret)|(apply ACont_exit)|(apply ABlock_exit)
  | (refine W.cond _ rfl (fun hb => ?_) (fun hb => ?_) <;> ((try simp only [hb, Bool.not_true, Bool.not_false]) <;> (try simp only [decide_eq_true_eq, decide_eq_false_iff_not, Bool.not_eq_true', Bool.not_eq_false', Int.not_lt, Int.not_le, List.length_map, not_true_eq_false] at hb) <;> (try (exfalso; omega))))))
      refine ⟨.inl rfl, [1], [.osl 1 (ps.length + 1) 0 A.length, iV 0], rfl, rfl, ⟨rfl, rfl, trivial⟩, AVle.of_eq rfl, rfl⟩
theorem plan_any {M D u : Int} {par : List (List Int)} {hv : List Bool} (hp : CodeIn par) : ∃ (x : Int) (l : List (Nat × Nat)) (e : Int), (-9223372036854775808 ≤ e ∧ e < 9223372036854775808) ∧ ACalls Tryd.prog 16 [cdA M D par, bools hv, iV u] [] (.tup [.agg [iV x, tmsA l], iV e]) [] := by
  by_cases hg : validC M D par = true ∧ (hv.length : Int) = D + (par.length : Int) ∧ 0 ≤ u ∧ u < hv.length
  · obtain ⟨g1, g2, g3, g4⟩ := hg
    obtain ⟨m, d, ps, rfl, rfl, rfl, hok⟩ := ok_valid g1
    have hpl : (toZ ps).length = ps.length := List.length_map _
    rw [hpl] at g2
    obtain ⟨k, rfl⟩ := Int.eq_ofNat_of_zero_le g3
    have hpn := A_plan hok (by omega : hv.length = d + ps.length) (by omega : k < d + ps.length)
    rw [cdN_A] at hpn
    cases hq : planN m d ps hv k with
    | none => rw [hq] at hpn; exact ⟨0, [], 11, by omega, hpn⟩
    | some l => rw [hq] at hpn; exact ⟨_, l, 0, by omega, hpn⟩
  · exact ⟨0, [], 1, by omega, A_plan_bad hp hg⟩
theorem enc_cases {M D : Int} {par : List (List Int)} {us : List (List Nat)} (hD : D ≤ 1000000) (hP : par.length ≤ 1000000) (hub : ∀ u ∈ us, isB u ∧ u.length ≤ 64) :
    ACalls Tryd.prog 15 [cdA M D par, strs us] [] (.tup [strs [], iV 1]) [] ∨ ∃ (m d : Nat) (ps : List (List Nat)), M = m ∧ D = d ∧ par = toZ ps ∧ CodeOk m d ps ∧ us.length = d ∧ uniB (m : Int) us = true := by
  by_cases hg : validC M D par = true ∧ (us.length : Int) = D
  · obtain ⟨g1, g2⟩ := hg
    obtain ⟨m, d, ps, rfl, rfl, rfl, hok⟩ := ok_valid g1
    have hul : us.length = d := by omega
    cases hU : uniB (m : Int) us with
    | false =>
      have henc := A_r8enc hok hul hub
      rw [hU, if_neg (by decide), cdN_A] at henc
      exact .inl henc
    | true => exact .inr ⟨m, d, ps, rfl, rfl, rfl, hok, hul, hU⟩
  · exact .inl (A_r8enc_bad hD hP hg)
theorem A_rebuilds {M D u : Int} {par : List (List Int)} {us : List (List Nat)} {hv : List Bool} {z : List Nat} (hpar : ∀ r ∈ par, ∀ x ∈ r, x < 9223372036854775808) (hus : ∀ u ∈ us, isB u) (_hu : -9223372036854775808 ≤ u ∧ u < 9223372036854775808) (hz : isB z) :
    ACalls Tryd.prog 4 [cdA M D par, strs us, bools hv, iV u, bS z] [] (bV true) [] := by
  refine acalls_of_body Tryd.func4 rfl (Nat.le_of_ble_eq_true rfl) ?_
  have hca : CodeIn par := ⟨hpar⟩
  have hsan := A_sanity10
  have hsm := A_small (M := M) (D := D) (par := par)
  have hfew := A_few (us := us)
  have hmh : (hv.map tD).length = hv.length := List.length_map _
  cases hS : smallB D par <;> rw [hS] at hsm
  · (repeat' (first
  | (apply W.qd; (first
    | (apply (q_callC (hsan)); exact rfl; exact rfl; kernel_rfl; kernel_rfl; kernel_rfl)|(apply (q_callC (hsm)); exact rfl; exact rfl; kernel_rfl; kernel_rfl; kernel_rfl)|(apply q_mv; (first|exact vD|exact vO|exact vP|exact vA|exact vF|exact vR|exact vN|exact vY|exact vT|exact vM|exact vX))|(apply q_as; (first|exact vD|exact vO|exact vP|exact vA|exact vF|exact vR|exact vN|exact vY|exact vT|exact vM|exact vX))|(apply q_ld_boxF; exact rfl; exact rfl; exact rfl; exact rfl)|(apply q_not; exact rfl)
    | (apply (q_pickT (u := .d _)); exact rfl; exact rfl)))|(apply W.ed; (apply e_boxF; exact rfl; exact rfl; exact rfl; kernel_rfl; kernel_rfl))|(refine W.gOff _ _ rfl rfl (by intro h; cases h) ?_)|(apply AWP.seq)|(apply ACont_normal)|(apply W.region; kernel_rfl)|(apply Walk.nil)|(apply AWP.ret)|(apply ACont_ret)
  | (apply W.condT; exact rfl)))
    all_goals exact Ends.b rfl rfl
  · cases hF : fewB us <;> rw [hF] at hfew
    · (repeat' (first
  | (apply W.gOn; exact rfl; exact rfl)
  | (apply W.qd; (first
    | (apply (q_callC (hsan)); exact rfl; exact rfl; kernel_rfl; kernel_rfl; kernel_rfl)|(apply (q_callC (hsm)); exact rfl; exact rfl; kernel_rfl; kernel_rfl; kernel_rfl)|(apply (q_callC (hfew)); exact rfl; exact rfl; kernel_rfl; kernel_rfl; kernel_rfl)|(apply q_mv; (first|exact vD|exact vO|exact vP|exact vA|exact vF|exact vR|exact vN|exact vY|exact vT|exact vM|exact vX))|(apply q_as; (first|exact vD|exact vO|exact vP|exact vA|exact vF|exact vR|exact vN|exact vY|exact vT|exact vM|exact vX))|(apply q_ld_boxF; exact rfl; exact rfl; exact rfl; exact rfl)|(apply q_not; exact rfl)
    | (apply (q_pickF (u := .d _)); exact rfl; exact rfl)))|(apply W.ed; (apply e_boxF; exact rfl; exact rfl; exact rfl; kernel_rfl; kernel_rfl))|(apply AWP.seq)|(apply ACont_normal)|(apply W.region; kernel_rfl)|(apply Walk.nil)|(apply AWP.ret)|(apply ACont_ret)
  | (apply W.condT; exact rfl)))
      all_goals exact Ends.b rfl rfl
    · unfold smallB at hS
      unfold fewB at hF
      simp only [Bool.and_eq_true, decide_eq_true_eq, List.all_eq_true] at hS hF
      rcases enc_cases (M := M) (D := D) (par := par) (us := us) (by omega) (by omega) (fun x hx => ⟨hus x hx, hF.2 x hx⟩) with henc | ⟨m, d, ps, rfl, rfl, rfl, hok, hul, hU⟩
      · obtain ⟨x, l, e, he, hplan⟩ := plan_any (M := M) (D := D) (u := u) (hv := hv) hca
        have hml : (l.map tmD).length = l.length := List.length_map _
        (repeat' (first
  | (apply W.gOn; exact rfl; exact rfl)
  | (apply W.qd; (first
    | (apply (q_callC (hsan)); exact rfl; exact rfl; kernel_rfl; kernel_rfl; kernel_rfl)|(apply (q_callC (hsm)); exact rfl; exact rfl; kernel_rfl; kernel_rfl; kernel_rfl)|(apply (q_callC (hfew)); exact rfl; exact rfl; kernel_rfl; kernel_rfl; kernel_rfl)|(apply (q_callC (henc)); exact rfl; exact rfl; kernel_rfl; kernel_rfl; kernel_rfl)|(apply (q_callC (hplan)); exact rfl; exact rfl; kernel_rfl; kernel_rfl; kernel_rfl)|(apply q_mv; (first|exact vD|exact vO|exact vP|exact vA|exact vF|exact vR|exact vN|exact vY|exact vT|exact vM|exact vX))|(apply q_as; (first|exact vD|exact vO|exact vP|exact vA|exact vF|exact vR|exact vN|exact vY|exact vT|exact vM|exact vX))|(apply q_ld_boxF; exact rfl; exact rfl; exact rfl; exact rfl)|(apply q_neq; exact rfl; exact rfl)|(apply q_not; exact rfl)|(apply q_extract; exact rfl; exact rfl)|(apply (q_pickT (u := .d _)); exact rfl; exact rfl)
    | (apply (q_pickF (u := .d _)); exact rfl; exact rfl)))
  | (apply W.ed; (first
    | (apply e_boxF; exact rfl; exact rfl; exact rfl; kernel_rfl; kernel_rfl)
    | (apply e_allocF; exact rfl; exact rfl; exact rfl; kernel_rfl)))|(apply W.ln; (apply l_st_box; exact rfl; exact rfl; exact rfl; exact rfl; exact rfl; exact rfl; kernel_rfl; kernel_rfl; kernel_rfl))|(refine W.gOff _ _ rfl rfl (by intro h; cases h) ?_)|(apply AWP.seq)|(apply ACont_normal)|(apply W.region; kernel_rfl)|(apply Walk.nil)|(apply AWP.skip)|(apply AWP.ret)|(apply ACont_ret)|(apply W.condT; exact rfl)
  | (apply W.condF; exact rfl)))
        all_goals exact Ends.b rfl rfl
      · have hpl : (toZ ps).length = ps.length := List.length_map _
        have hub : ∀ u ∈ us, isB u ∧ u.length ≤ 64 := fun x hx => ⟨hus x hx, hF.2 x hx⟩
        have g1 := valid_ok hok
        · have henc := A_r8encO hok hul hub hU
          rw [cdN_A] at henc
          have hd := hok.d
          have hwd := hok.w
          obtain ⟨un1, un2⟩ := uni_ok hok.f hU (by omega)
          have hun : ∀ u ∈ us, isB u ∧ u.length = (us.headD []).length := fun x hx => ⟨hus x hx, un1 x hx⟩
          have hel : (encN m ps us).length = d + ps.length := by rw [encN_length, hul]
          have hme : ((encN m ps us).map sD).length = (encN m ps us).length := List.length_map _
          by_cases hgP : (hv.length : Int) = (d : Int) + ((toZ ps).length : Int) ∧ 0 ≤ u ∧ u < hv.length
          · obtain ⟨p1, p2, p3⟩ := hgP
            rw [hpl] at p1
            have hl : hv.length = d + ps.length := by omega
            obtain ⟨k, rfl⟩ := Int.eq_ofNat_of_zero_le p2
            have hk : k < d + ps.length := by omega
            have hplan := A_plan hok hl hk
            rw [cdN_A] at hplan
            cases hpn : planN m d ps hv k with
            | none =>
              rw [hpn] at hplan
              unfold planA at hplan
              dsimp only at hplan
              (repeat' (first
  | (apply W.gOn; exact rfl; exact rfl)
  | (apply W.qd; (first
    | (apply (q_callC (hsan)); exact rfl; exact rfl; kernel_rfl; kernel_rfl; kernel_rfl)|(apply (q_callC (hsm)); exact rfl; exact rfl; kernel_rfl; kernel_rfl; kernel_rfl)|(apply (q_callC (hfew)); exact rfl; exact rfl; kernel_rfl; kernel_rfl; kernel_rfl)|(apply (q_callC (hplan)); exact rfl; exact rfl; kernel_rfl; kernel_rfl; kernel_rfl)|(apply q_mv; (first|exact vD|exact vO|exact vP|exact vA|exact vF|exact vR|exact vN|exact vY|exact vT|exact vM|exact vX))|(apply q_as; (first|exact vD|exact vO|exact vP|exact vA|exact vF|exact vR|exact vN|exact vY|exact vT|exact vM|exact vX))|(apply q_ld_boxF; exact rfl; exact rfl; exact rfl; exact rfl)|(apply q_neq; exact rfl; exact rfl)|(apply q_not; exact rfl)|(apply q_extract; exact rfl; exact rfl)
    | (apply (q_pickF (u := .d _)); exact rfl; exact rfl)))
  | (apply W.ed; (first
    | (apply (e_callJ (js := []) (henc)); exact rfl; exact rfl; exact rfl; exact rfl; exact rfl; kernel_rfl; kernel_rfl)|(apply e_boxF; exact rfl; exact rfl; exact rfl; kernel_rfl; kernel_rfl)
    | (apply e_allocF; exact rfl; exact rfl; exact rfl; kernel_rfl)))|(apply W.ln; (apply l_st_box; exact rfl; exact rfl; exact rfl; exact rfl; exact rfl; exact rfl; kernel_rfl; kernel_rfl; kernel_rfl))|(apply AWP.seq)|(apply ACont_normal)|(apply W.region; kernel_rfl)|(apply Walk.nil)|(apply AWP.skip)|(apply AWP.ret)|(apply ACont_ret)|(apply W.condT; exact rfl)
  | (apply W.condF; exact rfl)))
              all_goals exact Ends.b rfl rfl
            | some l =>
              obtain ⟨q1, q2, q3⟩ := plan_le hok hl hk hpn
              rw [hpn] at hplan
              unfold planA at hplan
              dsimp only at hplan
              have hml : (l.map tmD).length = l.length := List.length_map _
              have hrd := A_reads (u := k) (l := l) (by omega)
              have hsl : (l.map (·.1)).length = l.length := List.length_map _
              have hlt : ∀ t ∈ l, t.1 < d + ps.length := fun t ht => by
                have := hv_lt hok (by rw [List.length_set]; exact hl) (q3.pres t ht)
                exact this
              -- what Apply answers
              have hap : ACalls Tryd.prog 10 [cdA m d (toZ ps), .agg [iV k, tmsA l], strs (maskN (l.map (·.1)) z (encN m ps us) (encN m ps us).length)] [] (.tup [bS ((encN m ps us).getD k []), iV 0]) [] := by
                have hmk : ∀ t ∈ l, (maskN (l.map (·.1)) z (encN m ps us) (encN m ps us).length).getD t.1 [] = (encN m ps us).getD t.1 [] := fun t ht => by
                  rw [maskN_get _ _ _ _ (by rw [hel]; exact hlt t ht), if_neg (fun h => h.2 (List.mem_map.2 ⟨t, ht, rfl⟩))]
                have hsum := sum_sound hok hul hun un2 hk q3.snd (vs := maskN (l.map (·.1)) z (encN m ps us) (encN m ps us).length) fun t ht => ⟨(q3.lt t ht).1, hlt t ht, hmk t ht⟩
                have hcb := A_fcombine (cs := l.map (·.2)) (us := l.map fun t => (maskN (l.map (·.1)) z (encN m ps us) (encN m ps us).length).getD t.1 []) hok.f un2 (by simp) (by rw [List.length_map]; exact q2) (fun c hc => by obtain ⟨t, h1, rfl⟩ := List.mem_map.1 hc; exact (q3.lt t h1).1) (fun x hx => by
                  obtain ⟨t, h1, rfl⟩ := List.mem_map.1 hx
                  rw [hmk t h1]
                  exact mem_isB (encN_ok hok hul hun un2) (by rw [hel]; exact hlt t h1)) (by
                    have : us.headD [] = us[0]'(by omega) := by cases us with | nil => simp at hul; omega | cons a t => rfl
                    rw [this]
                    have := (hub _ (List.getElem_mem (show 0 < us.length by omega))).2
                    omega) (by rw [List.length_map]; omega)
                have e1 : sumN m (us.headD []).length (maskN (l.map (·.1)) z (encN m ps us) (encN m ps us).length) l = combM m (us.headD []).length (l.map (·.2)) (l.map fun t => (maskN (l.map (·.1)) z (encN m ps us) (encN m ps us).length).getD t.1 []) (List.replicate (us.headD []).length 0) := rfl
                rw [← e1, hsum] at hcb
                have hmx := maskN_length (l.map (·.1)) z (encN m ps us) (encN m ps us).length
                generalize maskN (l.map (·.1)) z (encN m ps us) (encN m ps us).length = X at *
                rw [tms_tmsZ]
                refine A_applyOk hca g1 (by rw [hmx, hel, hpl]; omega) (by omega) ?_ ?_ (by rw [List.length_map]; omega) ?_
                · unfold outZ; rw [Bool.or_eq_false_iff, decide_eq_false_iff_not, decide_eq_false_iff_not]; omega
                · intro t ht
                  obtain ⟨t', h1, rfl⟩ := List.mem_map.1 ht
                  have := hlt t' h1
                  unfold outZ; rw [Bool.or_eq_false_iff, decide_eq_false_iff_not, decide_eq_false_iff_not]
                  show ¬ ((t'.1 : Nat) : Int) < 0 ∧ ¬ (X.length : Int) ≤ ((t'.1 : Nat) : Int)
                  omega
                · have e2 : readZ X (l.map fun t => ((t.1 : Int), (t.2 : Int))) = l.map fun t => X.getD t.1 [] := by
                    unfold readZ; rw [List.map_map]; rfl
                  have e3 : ints ((l.map fun t => ((t.1 : Int), (t.2 : Int))).map (·.2)) = nats (l.map (·.2)) := by
                    unfold ints nats; rw [List.map_map, List.map_map, List.map_map]; rfl
                  rw [e2, e3]
                  exact hcb
              have hwB := (mem_isB (encN_ok hok hul hun un2) (q := k) (by rw [hel]; exact hk)).1
              have hke : k < (encN m ps us).length := by omega
              have hget : (encN m ps us).getD k [] = (encN m ps us)[k] := by rw [List.getD_eq_getElem?_getD, List.getElem?_eq_getElem hke]; rfl
              rw [hget] at hap hwB
              clear un1 un2 hun hlt q3
              generalize encN m ps us = E at *
              generalize l.map (·.1) = S at *
              have hmsz : (S.map kD).length = S.length := List.length_map _
              (repeat' (first
  | (apply W.gOn; exact rfl; exact rfl)
  | (apply W.qd; (first
    | (apply (q_callC (hsm)); exact rfl; exact rfl; kernel_rfl; kernel_rfl; kernel_rfl)|(apply (q_callC (hfew)); exact rfl; exact rfl; kernel_rfl; kernel_rfl; kernel_rfl)|(apply (q_callC (hplan)); exact rfl; exact rfl; kernel_rfl; kernel_rfl; kernel_rfl)|(apply (q_callC (hrd)); exact rfl; exact rfl; kernel_rfl; kernel_rfl; kernel_rfl)|(apply q_mv; (first|exact vD|exact vO|exact vP|exact vA|exact vF|exact vR|exact vN|exact vY|exact vT|exact vM|exact vX))|(apply q_as; (first|exact vD|exact vO|exact vP|exact vA|exact vF|exact vR|exact vN|exact vY|exact vT|exact vM|exact vX))|(apply q_ld_boxF; exact rfl; exact rfl; exact rfl; exact rfl)|(apply q_lss; exact rfl; exact rfl)|(apply q_geq; exact rfl; exact rfl)|(apply q_neq; exact rfl; exact rfl)|(apply q_not; exact rfl)|(apply q_extract; exact rfl; exact rfl)|(apply q_len_sl; exact rfl; exact rfl)|(apply q_len_osl; exact rfl; exact rfl; exact rfl)|(apply (q_pickF (u := .d _)); exact rfl; exact rfl)|(apply q_ix_osl0; exact rfl; exact rfl; exact rfl; exact rfl; (first | (with_reducible exact rfl) | exact natI_spec rfl | assumption | exact (Int.toNat_of_nonneg (by omega)).symm); (first | omega | (focus (simp only [List.length_map]; omega)) | (focus (simp; done)) | (focus (simp; omega))))
    | (apply q_ld_rptm; exact rfl; exact rfl; exact rfl; exact rfl; (first | omega | (focus (simp only [List.length_map]; omega)) | (focus (simp; done)) | (focus (simp; omega))))))
  | (apply W.ed; (first
    | (apply (e_callJ (js := []) (henc)); exact rfl; exact rfl; exact rfl; exact rfl; exact rfl; kernel_rfl; kernel_rfl)|(apply e_mkmap; exact rfl; exact rfl)|(apply e_boxF; exact rfl; exact rfl; exact rfl; kernel_rfl; kernel_rfl)
    | (apply e_allocF; exact rfl; exact rfl; exact rfl; kernel_rfl)))|(apply W.ln; (apply l_st_box; exact rfl; exact rfl; exact rfl; exact rfl; exact rfl; exact rfl; kernel_rfl; kernel_rfl; kernel_rfl))|(apply AWP.seq)|(apply ACont_normal)|(apply (W.regionS 12); exact rfl; kernel_rfl)|(apply Walk.nil)|(apply AWP.block)|(apply AWP.skip)|(apply W.condF; exact rfl)
  | (refine W.cond _ rfl (fun hb => ?_) (fun hb => ?_) <;> ((try simp only [hb, Bool.not_true, Bool.not_false]) <;> (try simp only [decide_eq_true_eq, decide_eq_false_iff_not, Bool.not_eq_true', Bool.not_eq_false', Int.not_lt, Int.not_le, List.length_map, not_true_eq_false] at hb) <;> (try (exfalso; omega))))))
              refine AWP.loopW (α := Nat) (fun j => j ≤ S.length) (fun j => ⟨[(67, iV j), (66, iV S.length), (65, nats S), (16, .mp 3), (15, bS E[k]), (11, .osl 1 (ps.length + 1) 0 E.length), (13, .opt 2 0), (5, .opt 0 0), (4, bS z)], [.box [.d .any, iV m, iV d, rowsA (toZ ps), .d .any], .row (ps.length + 1) 1 9 (E.map sD), .box [iV k, tmsA l], .mp (mpI (markN (S.take j)))]⟩) (fun j => S.length - j) 0 (by omega) ?wk0 fun j hj => ?_
              case wk0 => exact ⟨[0, 1, 2, 3], rfl, rfl, rfl, rfl, iV_eq (by omega), rfl, rfl, rfl, rfl, rfl, rfl, rfl, trivial⟩
              by_cases hjl : j < S.length
              · have hm := markN_succ hjl
                replace hm := Lib.hid hm
                clear hap
                generalize markN (S.take j) = A at *
                (repeat' (first
  | (apply W.qd; (first
    | (apply q_mv; (first|exact vD|exact vO|exact vP|exact vA|exact vF|exact vR|exact vN|exact vY|exact vT|exact vM|exact vX))|(apply q_as; (first|exact vD|exact vO|exact vP|exact vA|exact vF|exact vR|exact vN|exact vY|exact vT|exact vM|exact vX))|(apply q_lss; exact rfl; exact rfl)|(apply q_add; exact rfl; exact rfl; omega)|(apply q_ld_map; exact rfl; exact rfl; exact rfl; (first | omega | (focus (simp; done))))
    | (apply q_ix_slF; exact rfl; exact rfl; exact rfl; exact rfl; (first | (with_reducible exact rfl) | exact natI_spec rfl | assumption | exact (Int.toNat_of_nonneg (by omega)).symm); (first | omega | (focus (simp only [List.length_map]; omega)) | (focus (simp; done)) | (focus (simp; omega))))))|(apply W.en; (apply e_mapset; exact rfl; exact rfl; exact rfl; exact rfl; exact rfl; exact rfl))|(apply AWP.seq)|(apply ACont_normal)|(apply W.region; kernel_rfl)|(apply Walk.nil)|(apply AWP.block)|(apply AWP.skip)|(apply ABlock_normal)
  | (refine W.cond _ rfl (fun hb => ?_) (fun hb => ?_) <;> ((try simp only [hb, Bool.not_true, Bool.not_false]) <;> (try simp only [decide_eq_true_eq, decide_eq_false_iff_not, Bool.not_eq_true', Bool.not_eq_false', Int.not_lt, Int.not_le, List.length_map, not_true_eq_false] at hb) <;> (try (exfalso; omega))))))
                refine ⟨j + 1, by omega, by omega, ?_⟩
                rw [hm.out]
                exact ⟨[0, 1, 2, 3], rfl, rfl, rfl, iV_eq (by omega), rfl, rfl, rfl, rfl, rfl, rfl, rfl, rfl, trivial⟩
              · have e : j = S.length := by omega
                subst e
                rw [List.take_length]
                (repeat' (first
  | (apply W.qd; (first
    | (apply q_mv; (first|exact vD|exact vO|exact vP|exact vA|exact vF|exact vR|exact vN|exact vY|exact vT|exact vM|exact vX))|(apply q_lss; exact rfl; exact rfl)
    | (apply q_len_osl; exact rfl; exact rfl; exact rfl)))|(apply AWP.seq)|(apply ACont_normal)|(apply (W.regionS 17); exact rfl; kernel_rfl)|(apply Walk.nil)|(apply AWP.block)|(apply AWP.exit)|(apply ACont_exit)|(apply ABlock_exit)
  | (refine W.cond _ rfl (fun hb => ?_) (fun hb => ?_) <;> ((try simp only [hb, Bool.not_true, Bool.not_false]) <;> (try simp only [decide_eq_true_eq, decide_eq_false_iff_not, Bool.not_eq_true', Bool.not_eq_false', Int.not_lt, Int.not_le, List.length_map, not_true_eq_false] at hb) <;> (try (exfalso; omega))))))
                refine AWP.loopW (α := Nat) (fun i => i ≤ E.length) (fun i => ⟨[(76, iV i), (75, iV E.length), (16, .mp 3), (15, bS E[k]), (11, .osl 1 (ps.length + 1) 0 E.length), (13, .opt 2 0), (5, .opt 0 0), (4, bS z)], [.box [.d .any, iV m, iV d, rowsA (toZ ps), .d .any], .row (ps.length + 1) 1 9 ((maskN S z E i).map sD), .box [iV k, tmsA l], .mp (mpI (markN S))]⟩) (fun i => E.length - i) 0 (by omega) ?wk1 fun i hi => ?_
                case wk1 =>
                  rw [maskN_zero]
                  exact ⟨[0, 1, 2, 3], rfl, rfl, rfl, rfl, rfl, rfl, rfl, rfl, rfl, rfl, rfl, trivial⟩
                have hmk := maskN_length S z E i
                by_cases hil : i < E.length
                · have hg := markN_get S i
                  clear hap
                  by_cases hiS : i ∈ S
                  · have hms := maskN_keep (z := z) (es := E) hiS
                    rw [decide_eq_true hiS] at hg
                    replace hms := Lib.hid hms
                    generalize maskN S z E i = B at *
                    generalize markN S = A at *
                    (repeat' (first
  | (apply W.qd; (first
    | (apply (q_lkupB hg); exact rfl; exact rfl; exact rfl; exact rfl)|(apply q_mv; (first|exact vD|exact vO|exact vP|exact vA|exact vF|exact vR|exact vN|exact vY|exact vT|exact vM|exact vX))|(apply q_as; (first|exact vD|exact vO|exact vP|exact vA|exact vF|exact vR|exact vN|exact vY|exact vT|exact vM|exact vX))|(apply q_lss; exact rfl; exact rfl)|(apply q_not; exact rfl)
    | (apply q_add; exact rfl; exact rfl; omega)))|(apply AWP.seq)|(apply ACont_normal)|(apply W.region; kernel_rfl)|(apply Walk.nil)|(apply AWP.block)|(apply AWP.skip)|(apply ABlock_normal)|(apply W.condF; exact rfl)
  | (refine W.cond _ rfl (fun hb => ?_) (fun hb => ?_) <;> ((try simp only [hb, Bool.not_true, Bool.not_false]) <;> (try simp only [decide_eq_true_eq, decide_eq_false_iff_not, Bool.not_eq_true', Bool.not_eq_false', Int.not_lt, Int.not_le, List.length_map, not_true_eq_false] at hb) <;> (try (exfalso; omega))))))
                    refine ⟨i + 1, by omega, by omega, ?_⟩
                    rw [hms.out]
                    exact ⟨[0, 1, 2, 3], rfl, rfl, rfl, iV_eq (by omega), rfl, rfl, rfl, rfl, rfl, rfl, rfl, trivial⟩
                  · have hms := maskN_set (z := z) hiS hil
                    rw [decide_eq_false hiS] at hg
                    replace hms := Lib.hid hms
                    generalize maskN S z E i = B at *
                    generalize markN S = A at *
                    (repeat' (first
  | (apply W.qd; (first
    | (apply (q_lkupB hg); exact rfl; exact rfl; exact rfl; exact rfl)|(apply q_mv; (first|exact vD|exact vO|exact vP|exact vA|exact vF|exact vR|exact vN|exact vY|exact vT|exact vM|exact vX))|(apply q_as; (first|exact vD|exact vO|exact vP|exact vA|exact vF|exact vR|exact vN|exact vY|exact vT|exact vM|exact vX))|(apply q_lss; exact rfl; exact rfl)|(apply q_not; exact rfl)|(apply q_add; exact rfl; exact rfl; omega)
    | (apply q_ix_osl0; exact rfl; exact rfl; exact rfl; exact rfl; (first | (with_reducible exact rfl) | exact natI_spec rfl | assumption | exact (Int.toNat_of_nonneg (by omega)).symm); (first | omega | (focus (simp only [List.length_map]; omega)) | (focus (simp; done)) | (focus (simp; omega))))))|(apply W.ln; (apply l_st_rpt; exact rfl; exact rfl; exact rfl; exact rfl; exact rfl; exact rfl; exact rfl; exact fun _ => rfl; (first | omega | (focus (simp only [List.length_map]; omega)) | (focus (simp; omega)))))|(apply AWP.seq)|(apply ACont_normal)|(apply W.region; kernel_rfl)|(apply Walk.nil)|(apply AWP.block)|(apply AWP.skip)|(apply ABlock_normal)|(apply W.condT; exact rfl)
  | (refine W.cond _ rfl (fun hb => ?_) (fun hb => ?_) <;> ((try simp only [hb, Bool.not_true, Bool.not_false]) <;> (try simp only [decide_eq_true_eq, decide_eq_false_iff_not, Bool.not_eq_true', Bool.not_eq_false', Int.not_lt, Int.not_le, List.length_map, not_true_eq_false] at hb) <;> (try (exfalso; omega))))))
                    refine ⟨i + 1, by omega, by omega, ?_⟩
                    rw [hms.out]
                    exact ⟨[0, 1, 2, 3], rfl, rfl, rfl, iV_eq (by omega), rfl, rfl, rfl, rfl, rfl, rfl, rfl, trivial⟩
                · have e : i = E.length := by omega
                  subst e
                  generalize maskN S z E E.length = X at *
                  generalize markN S = A at *
                  refine AWP.wk ⟨[(76, iV E.length), (75, iV E.length), (15, bS E[k]), (11, strs X), (13, .opt 1 0), (5, .opt 0 0)], [.box [.d .any, iV m, iV d, rowsA (toZ ps), .d .any], .box [iV k, tmsA l]]⟩ ⟨[0, 2], rfl, rfl, rfl, rfl, rfl, rfl, (frz_rowJ rfl rfl (by rw [List.length_map]; omega)).symm, rfl, rfl, trivial⟩ ?_
                  (repeat' (first
  | (apply W.gOn; exact rfl; exact rfl)
  | (apply W.qd; (first
    | (apply (q_callC (hsan)); exact rfl; exact rfl; kernel_rfl; kernel_rfl; kernel_rfl)|(apply (q_callC (hap)); exact rfl; exact rfl; kernel_rfl; kernel_rfl; kernel_rfl)|(apply q_mv; (first|exact vD|exact vO|exact vP|exact vA|exact vF|exact vR|exact vN|exact vY|exact vT|exact vM|exact vX))|(apply q_as; (first|exact vD|exact vO|exact vP|exact vA|exact vF|exact vR|exact vN|exact vY|exact vT|exact vM|exact vX))|(apply q_ld_boxF; exact rfl; exact rfl; exact rfl; exact rfl)|(apply q_lss; exact rfl; exact rfl)|(apply q_eql; exact rfl; exact rfl)|(apply q_extract; exact rfl; exact rfl)|(apply (q_pickT (u := .d _)); exact rfl; exact rfl)
    | (apply q_eqlS; exact rfl; exact rfl; (first | assumption | exact isB_nil | exact isB_xor (by assumption) (by assumption)); (first | assumption | exact isB_nil | exact isB_xor (by assumption) (by assumption)))))|(apply AWP.seq)|(apply ACont_normal)|(apply W.region; kernel_rfl)|(apply Walk.nil)|(apply AWP.exit)|(apply AWP.ret)|(apply ACont_exit)|(apply ABlock_exit)|(refine W.gT _ _ rfl rfl (fun hb => ?_) (fun hb => ?_) <;> ((try simp only [hb, Bool.not_true, Bool.not_false]) <;> (try simp only [decide_eq_true_eq, decide_eq_false_iff_not, Bool.not_eq_true', Bool.not_eq_false', Int.not_lt, Int.not_le, List.length_map, not_true_eq_false] at hb) <;> (try (exfalso; omega))))
  | (refine W.cond _ rfl (fun hb => ?_) (fun hb => ?_) <;> ((try simp only [hb, Bool.not_true, Bool.not_false]) <;> (try simp only [decide_eq_true_eq, decide_eq_false_iff_not, Bool.not_eq_true', Bool.not_eq_false', Int.not_lt, Int.not_le, List.length_map, not_true_eq_false] at hb) <;> (try (exfalso; omega))))))
                  all_goals exact Ends.b rfl (by first | rfl | (simp; done))
          · have hplan := A_plan_bad (M := m) (u := u) (hv := hv) hca (fun h => hgP h.2)
            (repeat' (first
  | (apply W.gOn; exact rfl; exact rfl)
  | (apply W.qd; (first
    | (apply (q_callC (hsan)); exact rfl; exact rfl; kernel_rfl; kernel_rfl; kernel_rfl)|(apply (q_callC (hsm)); exact rfl; exact rfl; kernel_rfl; kernel_rfl; kernel_rfl)|(apply (q_callC (hfew)); exact rfl; exact rfl; kernel_rfl; kernel_rfl; kernel_rfl)|(apply (q_callC (hplan)); exact rfl; exact rfl; kernel_rfl; kernel_rfl; kernel_rfl)|(apply q_mv; (first|exact vD|exact vO|exact vP|exact vA|exact vF|exact vR|exact vN|exact vY|exact vT|exact vM|exact vX))|(apply q_as; (first|exact vD|exact vO|exact vP|exact vA|exact vF|exact vR|exact vN|exact vY|exact vT|exact vM|exact vX))|(apply q_ld_boxF; exact rfl; exact rfl; exact rfl; exact rfl)|(apply q_neq; exact rfl; exact rfl)|(apply q_not; exact rfl)|(apply q_extract; exact rfl; exact rfl)
    | (apply (q_pickF (u := .d _)); exact rfl; exact rfl)))
  | (apply W.ed; (first
    | (apply (e_callJ (js := []) (henc)); exact rfl; exact rfl; exact rfl; exact rfl; exact rfl; kernel_rfl; kernel_rfl)|(apply e_boxF; exact rfl; exact rfl; exact rfl; kernel_rfl; kernel_rfl)
    | (apply e_allocF; exact rfl; exact rfl; exact rfl; kernel_rfl)))|(apply W.ln; (apply l_st_box; exact rfl; exact rfl; exact rfl; exact rfl; exact rfl; exact rfl; kernel_rfl; kernel_rfl; kernel_rfl))|(apply AWP.seq)|(apply ACont_normal)|(apply W.region; kernel_rfl)|(apply Walk.nil)|(apply AWP.skip)|(apply AWP.ret)|(apply ACont_ret)|(apply W.condT; exact rfl)
  | (apply W.condF; exact rfl)))
            all_goals exact Ends.b rfl rfl
end Go.Proofs.YtilpljehfcpjeaaDoor
end
