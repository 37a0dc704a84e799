import Derived.Test.YtaclmbbiegklcaaGreatDoorMHealthMatchesSpec4
import Derived.WalkKit
import Derived.Laws.CopyRow
import Derived.Laws.IdiomCopy
/- Joined texts: Xp5 Xp6 Xp7 Lw9 St1 St2 Ds3 Ds4 Ds5 Ds6 Kern43 Ds7 Ds8 He0 St3H St4H. -/
set_option linter.unusedVariables false
set_option linter.unusedSimpArgs false
section
/- The reference's Express over the machine of abstract values. -/
namespace Go.Proofs.YtaclmbbiegklcaaGreatDoor
open Go.RowKit
set_option maxHeartbeats 4000000
set_option maxRecDepth 100000
def eqA (rows : List (List Nat)) (t : List Nat) (k i : Nat) : List Nat := (List.range k).map fun c => exCol rows t c i
theorem eqA_length (rows : List (List Nat)) (t : List Nat) (k i : Nat) : (eqA rows t k i).length = k := by simp [eqA]
theorem eqA_succ (rows : List (List Nat)) (t : List Nat) (k i : Nat) : eqA rows t (k + 1) i = eqA rows t k i ++ [exCol rows t k i] := by
  unfold eqA; rw [List.range_succ, List.map_append]; rfl
def blA (rows : List (List Nat)) (t : List Nat) (C j : Nat) : List (List Nat) := (List.range j).map (eqA rows t C)
theorem blA_length (rows : List (List Nat)) (t : List Nat) (C j : Nat) : (blA rows t C j).length = j := by simp [blA]
theorem blA_succ (rows : List (List Nat)) (t : List Nat) (C j : Nat) : blA rows t C (j + 1) = blA rows t C j ++ [eqA rows t C j] := by
  unfold blA; rw [List.range_succ, List.map_append]; rfl
theorem range_getD {D q : Nat} (h : q < D) : (List.range D).getD q 0 = q := by
  rw [List.getD_eq_getElem?_getD, List.getElem?_range h]; rfl
theorem blA_getD {rows : List (List Nat)} {t : List Nat} {C D q : Nat} (h : q < D) : (blA rows t C D).getD q [] = eqA rows t C q := by
  unfold blA
  rw [List.getD_eq_getElem?_getD, List.getElem?_map, List.getElem?_range h]; rfl
theorem blA_ok {M D : Nat} {rows : List (List Nat)} {t : List Nat} (hM : FldM M) (hr : ∀ r ∈ rows, ∀ x ∈ r, x < 2 ^ M) (ht : ∀ x ∈ t, x < 2 ^ M) (C : Nat) : SysOk M D C (List.range D) (blA rows t C D) := by
  refine ⟨List.length_range, fun q q' h h' e => by rw [range_getD h, range_getD h'] at e; exact e, fun q h => by rw [range_getD h]; exact h, blA_length .., fun l hl => ?_, fun l hl x hx => ?_⟩
  · obtain ⟨i, _, rfl⟩ := List.mem_map.1 hl
    exact eqA_length ..
  · obtain ⟨i, _, rfl⟩ := List.mem_map.1 hl
    obtain ⟨c, _, rfl⟩ := List.mem_map.1 hx
    exact exCol_lt hM hr ht c i
theorem blA_rel {D : Nat} (rows : List (List Nat)) (t : List Nat) : RelL D (rows.length + 1) (List.range D) (blA rows t (rows.length + 1) D) (exM D rows t) := fun q hq j hj => by
  rw [exM_gt rows t hq hj]
  unfold lgN
  rw [range_getD hq, blA_getD hq]
  unfold eqA
  rw [List.getD_eq_getElem?_getD, List.getElem?_map, List.getElem?_range hj]; rfl
def exprA : Option (List Nat) → AV
  | some K => .tup [nats K, bV true]
  | none => .tup [nats [], bV false]
theorem AVle.gh0 : AVle .top (.gh [] []) := fun F own κ w u _ => by rw [AV.sat, AV.satL]; trivial
theorem exR_len_mono (M D : Nat) (rows : List (List Nat)) (t : List Nat) (k : Nat) : ∀ d, (exR M D rows t (k + d)).2.length ≤ (exR M D rows t k).2.length + d
  | 0 => Nat.le_refl _
  | d + 1 => by
    have ih := exR_len_mono M D rows t k d
    have : (exR M D rows t (k + (d + 1))).2.length ≤ (exR M D rows t (k + d)).2.length + 1 := by
      show (redStep M D (rows.length + 1) (k + d) (exR M D rows t (k + d))).2.length ≤ _
      generalize exR M D rows t (k + d) = s
      unfold redStep
      dsimp only
      split
      · omega
      · rw [List.length_append]; exact Nat.le_refl _
    omega
attribute [local irreducible] Quiet Eff OpOk AWPG ACont ABlock ACalls AGoto
theorem A_express {M D : Nat} {rows : List (List Nat)} {t : List Nat} (hM : FldM M) (hD0 : 0 < D) (hD : D ≤ 32) (hn : rows.length ≤ 32) (hrl : ∀ r ∈ rows, r.length = D) (htl : t.length = D) (hr : ∀ r ∈ rows, ∀ x ∈ r, x < 2 ^ M) (ht : ∀ x ∈ t, x < 2 ^ M) :
    ACalls Tryz.prog 206 [iV M, rowsN rows, nats t] [] (exprA (exprN M D rows t)) [] := by
  refine acalls_of_bodyO Tryz.func206 rfl (Nat.le_of_ble_eq_true rfl) ?_
  have hmr : (rows.map rnD).length = rows.length := List.length_map _
  have hmt : (t.map kD).length = t.length := List.length_map _
  obtain ⟨C, hC⟩ : ∃ C, rows.length + 1 = C := ⟨_, rfl⟩
  (repeat' (first
  | (apply W.qd; (first
    | (apply q_mv; (first|exact vD|exact vO|exact vP|exact vA|exact vF|exact vR|exact vN|exact vY|exact vT|exact vM|exact vL|exact vX))|(apply q_as; (first|exact vD|exact vO|exact vP|exact vA|exact vF|exact vR|exact vN|exact vY|exact vT|exact vM|exact vL|exact vX))
    | (apply q_buildF; exact rfl; exact rfl; kernel_rfl)))|(apply W.ed; (apply e_boxF; (iterate 3 exact rfl); kernel_rfl; kernel_rfl))|(apply AWP.seq)|(apply ACont_normal)|(apply (W.regionS 2); exact rfl; kernel_rfl)
  | (apply Walk.nil)))
  refine AWP.nilBox (l' := [iV M, .osl 1 0 0 0]) 0 1 1 42 rfl rfl (by omega) rfl rfl rfl rfl ?_
  refine AWP.le 999 (.gh [] []) rfl AVle.gh0 ?_
  (repeat' (first
  | (apply W.qd; (apply q_as; (first|exact vD|exact vO|exact vP|exact vA|exact vF|exact vR|exact vN|exact vY|exact vT|exact vM|exact vL|exact vX)))|(apply ACont_normal)|(apply (W.regionS 3); exact rfl; kernel_rfl)|(apply Walk.nil)
  | (apply AWP.block)))
  refine AWP.loopE (α := Nat × List Value) (fun s => s.1 ≤ D ∧ s.1 = s.2.length) (fun s => ⟨[(9, iV s.1), (8, .opt 0 0), (0, iV M), (1, rowsN rows), (2, nats t), (999, .gh ((List.range s.1).map (ptrS C C)) s.2)], .box [iV M, .osl 1 s.1 0 s.1] :: .row s.1 1 42 (s.2.map xD) :: (blA rows t C s.1).map (rowE 3 C)⟩) (fun s => D - s.1) (0, []) ⟨Nat.zero_le _, rfl⟩ ⟨rfl, by (repeat (first | exact trivial | refine ⟨rfl, ?_⟩))⟩ fun s hs => ?_
  obtain ⟨j, vs⟩ := s
  obtain ⟨hj, hvs⟩ := hs
  dsimp only at hj hvs ⊢
  have hLl : ((blA rows t C j).map (rowE 3 C)).length = j := by rw [List.length_map, blA_length]
  have hbs : (blA rows t C (j + 1)).map (rowE 3 C) = (blA rows t C j).map (rowE 3 C) ++ [.row C 1 3 ((eqA rows t C j).map kD)] := by rw [blA_succ, List.map_append]; rfl
  by_cases hjD : j < D
  · (repeat' (first
  | (apply W.qd; (first
    | (apply q_mv; (first|exact vD|exact vO|exact vP|exact vA|exact vF|exact vR|exact vN|exact vY|exact vT|exact vM|exact vL|exact vX))|(apply q_as; (first|exact vD|exact vO|exact vP|exact vA|exact vF|exact vR|exact vN|exact vY|exact vT|exact vM|exact vL|exact vX))|(apply q_lss; exact rfl; exact rfl)
    | (apply q_len_sl; exact rfl; exact rfl)))|(apply AWP.seq)|(apply ACont_normal)|(apply (W.regionS 6); exact rfl; kernel_rfl)|(apply Walk.nil)|(apply AWP.block)|(apply AWP.skip)
  | (refine W.cond _ rfl (fun hb => ?_) (fun hb => ?_) <;> ((try simp only [hb, zA, zB]) <;> (try simp only [zC, zD, zE, zF, zG, zH, zI, zJ] at hb) <;> (try (exfalso; omega))))))
    refine AWP.nilRow 10 1 3 rfl (by omega) ?_
    generalize (blA rows t C j).map (rowE 3 C) = L at *
    refine AWP.wkE ⟨[(10, .osl (j + 2) 0 0 0), (9, iV j), (8, .opt 0 0), (0, iV M), (1, rowsN rows), (2, nats t), (999, .gh ((List.range j).map (ptrS C C)) vs)], .box [iV M, .osl 1 j 0 j] :: .row j 1 42 (vs.map xD) :: (L ++ [.row 0 1 3 []])⟩ ⟨rfl, congrArg (fun n => AV.osl n 0 0 0) (by simp [hLl]), rfl, rfl, rfl, rfl, rfl, rfl, trivial⟩ ?_
    (repeat' (first
  | (apply W.qd; (apply q_as; (first|exact vD|exact vO|exact vP|exact vA|exact vF|exact vR|exact vN|exact vY|exact vT|exact vM|exact vL|exact vX)))|(apply ACont_normal)|(apply (W.regionS 7); exact rfl; kernel_rfl)|(apply Walk.nil)
  | (apply AWP.block)))
    refine AWP.loopE (α := Nat) (fun k => k ≤ rows.length) (fun k => ⟨[(11, iV k), (10, .osl (j + 2) k 0 k), (9, iV j), (8, .opt 0 0), (0, iV M), (1, rowsN rows), (2, nats t), (999, .gh ((List.range j).map (ptrS C C)) vs)], .box [iV M, .osl 1 j 0 j] :: .row j 1 42 (vs.map xD) :: (L ++ [.row k 1 3 ((eqA rows t k j).map kD)])⟩) (fun k => rows.length - k) 0 (Nat.zero_le _) ⟨rfl, by (repeat (first | exact trivial | refine ⟨rfl, ?_⟩))⟩ fun k hk => ?_
    have hes := eqA_succ rows t k j
    have hel := eqA_length rows t k j
    have hp : ((.box [iV M, .osl 1 j 0 j] :: .row j 1 42 (vs.map xD) :: (L ++ [.row k 1 3 ((eqA rows t k j).map kD)])) : List Ent)[j + 2]? = some (.row k 1 3 ((eqA rows t k j).map kD)) := dyn_last hLl
    by_cases hkn : k < rows.length
    · have hrk := hrl _ (List.getElem_mem hkn)
      have hex : exCol rows t k j = (rows[k])[j]'(by omega) := by
        unfold exCol
        rw [if_pos hkn, List.getD_eq_getElem?_getD, List.getD_eq_getElem?_getD, List.getElem?_eq_getElem hkn]
        show (rows[k])[j]?.getD 0 = _
        rw [List.getElem?_eq_getElem (show j < rows[k].length by omega)]; rfl
      rw [hex] at hes
      replace hes := Lib.hid hes
      (repeat' (first
  | (apply W.qd; (first
    | (apply q_mv; (first|exact vD|exact vO|exact vP|exact vA|exact vF|exact vR|exact vN|exact vY|exact vT|exact vM|exact vL|exact vX))|(apply q_as; (first|exact vD|exact vO|exact vP|exact vA|exact vF|exact vR|exact vN|exact vY|exact vT|exact vM|exact vL|exact vX))|(apply q_lss; exact rfl; exact rfl)|(apply q_add; exact rfl; exact rfl; omega)|(apply q_len_sl; exact rfl; exact rfl)|(apply q_ld_map; (iterate 3 exact rfl); (first | omega | (focus (simp; done))))|(apply q_litF; (iterate 5 exact rfl); kernel_rfl; kernel_rfl; exact rfl)
    | (apply q_ix_slF; (iterate 4 exact rfl); (first | (with_reducible exact rfl) | exact natI_spec rfl | assumption | exact (Int.toNat_of_nonneg (by omega)).symm); (first | omega | (focus (simp only [List.length_map]; omega)) | (focus (simp; done)) | (focus (simp; omega))))))|(apply W.ed; ((apply (s_app1 (f := kD) ((rows[k])[j]'(by omega))); exact rfl; assumption; exact rfl; exact dyn_setl hLl; (iterate 3 exact rfl); exact hel.symm; omega)))|(apply AWP.seq)|(apply ACont_normal)|(apply W.region; kernel_rfl)|(apply Walk.nil)|(apply AWP.block)|(apply AWP.skip)|(apply ABlock_normal)
  | (refine W.cond _ rfl (fun hb => ?_) (fun hb => ?_) <;> ((try simp only [hb, zA, zB]) <;> (try simp only [zC, zD, zE, zF, zG, zH, zI, zJ] at hb) <;> (try (exfalso; omega))))))
      refine ⟨k + 1, by omega, by omega, ?_, iV_eq (by omega), rfl, rfl, rfl, rfl, rfl, rfl, rfl, trivial⟩
      rw [hes.out]
    · have hkn' : k = rows.length := by omega
      subst hkn'
      have hex : exCol rows t rows.length j = t[j]'(by omega) := by
        unfold exCol
        rw [if_neg (by omega), List.getD_eq_getElem?_getD, List.getElem?_eq_getElem (show j < t.length by omega)]; rfl
      rw [hex, hC] at hes
      replace hes := Lib.hid hes
      (repeat' (first
  | (apply W.qd; (first
    | (apply q_mv; (first|exact vD|exact vO|exact vP|exact vA|exact vF|exact vR|exact vN|exact vY|exact vT|exact vM|exact vL|exact vX))|(apply q_as; (first|exact vD|exact vO|exact vP|exact vA|exact vF|exact vR|exact vN|exact vY|exact vT|exact vM|exact vL|exact vX))|(apply q_lss; exact rfl; exact rfl)|(apply q_len_sl; exact rfl; exact rfl)|(apply q_ld_map; (iterate 3 exact rfl); (first | omega | (focus (simp; done))))|(apply q_litF; (iterate 5 exact rfl); kernel_rfl; kernel_rfl; exact rfl)
    | (apply q_ix_slF; (iterate 4 exact rfl); (first | (with_reducible exact rfl) | exact natI_spec rfl | assumption | exact (Int.toNat_of_nonneg (by omega)).symm); (first | omega | (focus (simp only [List.length_map]; omega)) | (focus (simp; done)) | (focus (simp; omega))))))|(apply W.ed; ((apply (s_app1 (f := kD) (t[j]'(by omega))); exact rfl; assumption; exact rfl; exact dyn_setl hLl; (iterate 3 exact rfl); exact hel.symm; omega)))|(apply AWP.seq)|(apply ACont_normal)|(apply (W.regionS 11); exact rfl; kernel_rfl)|(apply Walk.nil)|(apply AWP.exit)|(apply ACont_exit)|(apply ABlock_exit)
  | (refine W.cond _ rfl (fun hb => ?_) (fun hb => ?_) <;> ((try simp only [hb, zA, zB]) <;> (try simp only [zC, zD, zE, zF, zG, zH, zI, zJ] at hb) <;> (try (exfalso; omega))))))
      rw [hC, ← hes.out]
      refine AWP.name 10 999 (j + 2) rfl (dyn_last hLl) rfl (by omega) fun g cc => ?_
      (repeat' (first
  | (apply W.qd; (first
    | (apply q_mv; (first|exact vD|exact vO|exact vP|exact vA|exact vF|exact vR|exact vN|exact vY|exact vT|exact vM|exact vL|exact vX))|(apply q_as; (first|exact vD|exact vO|exact vP|exact vA|exact vF|exact vR|exact vN|exact vY|exact vT|exact vM|exact vL|exact vX))|(apply q_fld_optF; (iterate 3 exact rfl))|(apply q_ld_box; (iterate 4 exact rfl))|(apply q_add; exact rfl; exact rfl; omega)|(apply q_nil_opt; exact rfl)
    | (apply q_litF; (iterate 5 exact rfl); kernel_rfl; kernel_rfl; exact rfl)))|(apply W.ed; ((apply (s_app1 (f := xD) (.slice (some ⟨g, 0, none⟩) C cc)); (iterate 7 exact rfl); exact hvs; omega)))|(apply W.ln; (apply l_st_box; (iterate 6 exact rfl); kernel_rfl; kernel_rfl; kernel_rfl))|(apply ACont_normal)|(apply W.region; kernel_rfl)|(apply Walk.nil)
  | (apply ABlock_normal)))
      refine ⟨(j + 1, vs ++ [.slice (some ⟨g, 0, none⟩) C cc]), ⟨by show j + 1 ≤ D; omega, by show j + 1 = _; simp [hvs]⟩, by show D - (j + 1) < D - j; omega, ?_, iV_eq (by show ((j + 1 : Nat) : Int) = _; omega), rfl, rfl, rfl, rfl, ?_, trivial⟩
      · show _ = _
        dsimp only
        rw [hbs]
        rfl
      · show AV.gh _ _ = AV.gh _ _
        dsimp only
        rw [List.range_succ, List.map_append]; rfl
  · have hjD' : j = D := by omega
    subst hjD'
    clear hbs hLl
    (repeat' (first
  | (apply W.qd; (first
    | (apply q_mv; (first|exact vD|exact vO|exact vP|exact vA|exact vF|exact vR|exact vN|exact vY|exact vT|exact vM|exact vL|exact vX))|(apply q_lss; exact rfl; exact rfl)
    | (apply q_len_sl; exact rfl; exact rfl)))|(apply AWP.seq)|(apply ACont_normal)|(apply (W.regionS 12); exact rfl; kernel_rfl)|(apply Walk.nil)|(apply AWP.exit)|(apply ACont_exit)|(apply ABlock_exit)
  | (refine W.cond _ rfl (fun hb => ?_) (fun hb => ?_) <;> ((try simp only [hb, zA, zB]) <;> (try simp only [zC, zD, zE, zF, zG, zH, zI, zJ] at hb) <;> (try (exfalso; omega))))))
    refine AWP.recast (α := Nat) (fun c => ⟨[(8, .opt 0 0), (0, iV M), (1, rowsN rows)], sysO 3 M C C c j (List.range j) (blA rows t C j)⟩) rfl (fun F κ w a he ho => ?_) fun c => ?_
    · have hg := he 999
      change AV.sat F _ κ w (.gh ((List.range j).map (ptrS C C)) vs) _ at hg
      rw [AV.sat] at hg
      obtain ⟨c, hc⟩ := sys_thaw hD0 (blA_length rows t C j) hvs.symm ho hg
      refine ⟨c, env_of fun p hp => ?_, hc⟩
      have h0 := he 0
      have h1 := he 1
      have h8 := he 8
      change AV.sat F _ κ w (iV M) _ at h0
      change AV.sat F _ κ w (rowsN rows) _ at h1
      change AV.sat F _ κ w (.opt 0 0) _ at h8
      simp only [List.mem_cons, List.not_mem_nil, or_false] at hp
      rcases hp with rfl | rfl | rfl
      · rw [AV.sat] at h8 ⊢
        obtain ⟨g, l, q1, q2, q3⟩ := h8
        exact ⟨g, _, rfl, q2, q3⟩
      · rw [AV.sat] at h0 ⊢; exact h0
      · rw [AV.sat] at h1 ⊢; exact h1
    clear hvs
    have hok0 := blA_ok (D := j) hM hr ht C
    have hrel0 := blA_rel (D := j) rows t
    rw [hC] at hrel0
    generalize blA rows t C j = Bl0 at *
    have hAl := fun k => (red_ok hM (exM_length j rows t) (exM_lt hM hr ht) k).len
    have hApr := fun k => (red_ok hM (exM_length j rows t) (exM_lt hM hr ht) k).pr
    have hmono := exR_len_mono M j rows t
    have hst : ∀ k, exR M j rows t (k + 1) = redStep M j C k (exR M j rows t k) := fun k => by rw [← hC]; rfl
    have hst0 : exR M j rows t 0 = (exM j rows t, []) := rfl
    change ∀ k, (exR M j rows t k).1.length = _ at hAl
    change ∀ k, (exR M j rows t k).2.length ≤ j at hApr
    have hEx : exprN M j rows t = if (exR M j rows t rows.length).2.length = rows.length ∧ ∀ q, q < j → rows.length ≤ q → gt C (exR M j rows t rows.length).1 q rows.length = 0 then some ((List.range rows.length).map fun k => gt C (exR M j rows t rows.length).1 k rows.length) else none := by unfold exprN; rw [hC]
    rw [hC] at hAl
    generalize exprN M j rows t = EX at *
    generalize exR M j rows t = XR at *
    (repeat' (first
  | (apply W.qd; (apply q_as; (first|exact vD|exact vO|exact vP|exact vA|exact vF|exact vR|exact vN|exact vY|exact vT|exact vM|exact vL|exact vX)))|(apply ACont_normal)|(apply (W.regionS 13); exact rfl; kernel_rfl)|(apply Walk.nil)
  | (apply AWP.block)))
    refine AWP.loopE (α := Nat × List Nat × List (List Nat)) (fun s => s.1 ≤ rows.length ∧ SysOk M j C s.2.1 s.2.2 ∧ RelL j C s.2.1 s.2.2 (XR s.1).1 ∧ (XR s.1).2.length = s.1) (fun s => ⟨[(12, iV s.1), (8, .opt 0 0), (0, iV M), (1, rowsN rows)], sysO 3 M C C c j s.2.1 s.2.2⟩) (fun s => rows.length - s.1) (0, List.range j, Bl0) ⟨Nat.zero_le _, hok0, by rw [hst0]; exact hrel0, by rw [hst0]; rfl⟩ ⟨rfl, by (repeat (first | exact trivial | refine ⟨rfl, ?_⟩))⟩ fun s hs => ?_
    obtain ⟨k, pm, Bl⟩ := s
    obtain ⟨hk, hok, hrel, hXl⟩ := hs
    dsimp only at hk hok hrel hXl ⊢
    clear hok0 hrel0
    by_cases hkn : k < rows.length
    · have hkj := hApr k
      rw [hXl] at hkj
      have hf := find_rel hrel (k := k) (by omega) (j - k) k (by omega)
      have hfl := findL_le pm Bl k (j - k) k
      by_cases hP : findL pm Bl k (j - k) k = j
      · have hno := A_elim_no (M := M) (v := C) (c := c) hok (by omega) hkj (by omega) (by omega) hP
        have hstk := hst k
        have hXk1 : (XR (k + 1)).2.length = k := by
          rw [hstk, redStep]
          dsimp only
          rw [hXl, ← hf, if_pos hP]; exact hXl
        have hnone : EX = none := by
          rw [hEx, if_neg]
          intro hh
          have := hmono (k + 1) (rows.length - (k + 1))
          rw [show k + 1 + (rows.length - (k + 1)) = rows.length by omega, hXk1, hh.1] at this
          omega
        rw [hnone]
        unfold exprA
        clear hEx hst hmono hAl hApr hf hrel
        (repeat' (first
  | (apply W.qd; (first
    | (apply q_mv; (first|exact vD|exact vO|exact vP|exact vA|exact vF|exact vR|exact vN|exact vY|exact vT|exact vM|exact vL|exact vX))|(apply q_as; (first|exact vD|exact vO|exact vP|exact vA|exact vF|exact vR|exact vN|exact vY|exact vT|exact vM|exact vL|exact vX))|(apply q_lss; exact rfl; exact rfl)|(apply q_not; exact rfl)
    | (apply q_len_sl; exact rfl; exact rfl)))|(apply W.ed; ((apply (e_callA hno); exact rfl; exact rfl; kernel_rfl)))|(apply AWP.seq)|(apply ACont_normal)|(apply W.region; kernel_rfl)|(apply Walk.nil)|(apply AWP.block)|(apply AWP.skip)|(apply AWP.ret)|(apply ACont_ret)|(apply ABlock_ret)|(apply W.condT; exact rfl)
  | (refine W.cond _ rfl (fun hb => ?_) (fun hb => ?_) <;> ((try simp only [hb, zA, zB]) <;> (try simp only [zC, zD, zE, zF, zG, zH, zI, zJ] at hb) <;> (try (exfalso; omega))))))
        exact ⟨.inl rfl, [], [.d (.v (.slice none 0 0)), bV false], rfl, rfl, ⟨rfl, rfl, trivial⟩, AVle.tup2 (AVle.nil 1) (AVle.refl _), rfl⟩
      · have hPD : findL pm Bl k (j - k) k < j := by omega
        have hkj2 : k < j := by have := hfl.1; omega
        have hel := A_elim (M := M) (v := C) (c := c) hM hok (by omega) hkj2 (by omega) (by omega) rfl hPD
        obtain ⟨r1, r2, r3⟩ := elim_rel (pv := (XR k).2) hM hok hrel (hAl k) hXl (by omega) hkj2 rfl hPD
        have hstk := hst k
        have e2 : (XR k) = ((XR k).1, (XR k).2) := rfl
        rw [← e2, ← hstk] at r1 r3
        generalize clB M C k k (swp pm (findL pm Bl k (j - k) k) k) (Bl.set (pm.getD (findL pm Bl k (j - k) k) 0) (scV M (invN M ((Bl.getD (pm.getD (findL pm Bl k (j - k) k) 0) []).getD k 0)) (Bl.getD (pm.getD (findL pm Bl k (j - k) k) 0) []) C)) j = Bl' at *
        generalize swp pm (findL pm Bl k (j - k) k) k = pm' at *
        clear hEx hst hmono hAl hApr hf hrel hstk
        (repeat' (first
  | (apply W.qd; (first
    | (apply q_mv; (first|exact vD|exact vO|exact vP|exact vA|exact vF|exact vR|exact vN|exact vY|exact vT|exact vM|exact vL|exact vX))|(apply q_as; (first|exact vD|exact vO|exact vP|exact vA|exact vF|exact vR|exact vN|exact vY|exact vT|exact vM|exact vL|exact vX))|(apply q_lss; exact rfl; exact rfl)|(apply q_not; exact rfl)|(apply q_add; exact rfl; exact rfl; omega)
    | (apply q_len_sl; exact rfl; exact rfl)))|(apply W.ed; ((apply (e_callA hel); exact rfl; exact rfl; kernel_rfl)))|(apply AWP.seq)|(apply ACont_normal)|(apply W.region; kernel_rfl)|(apply Walk.nil)|(apply AWP.block)|(apply AWP.skip)|(apply ABlock_normal)|(apply W.condF; exact rfl)
  | (refine W.cond _ rfl (fun hb => ?_) (fun hb => ?_) <;> ((try simp only [hb, zA, zB]) <;> (try simp only [zC, zD, zE, zF, zG, zH, zI, zJ] at hb) <;> (try (exfalso; omega))))))
        exact ⟨(k + 1, pm', Bl'), ⟨by show k + 1 ≤ _; omega, r2, r3, by rw [r1, List.length_append, hXl]; rfl⟩, by show rows.length - (k + 1) < _; omega, rfl, iV_eq (by show ((k + 1 : Nat) : Int) = _; omega), rfl, rfl, rfl, trivial⟩
    have hk' : k = rows.length := by omega
    subst hk'
    have hnj : rows.length ≤ j := by have := hApr rows.length; omega
    have hXA := hrel
    generalize hA : (XR rows.length).1 = A at *
    have hEx2 : EX = if ∀ q, q < j → rows.length ≤ q → gt C A q rows.length = 0 then some ((List.range rows.length).map fun k => gt C A k rows.length) else none := by
      rw [hEx]
      by_cases h : ∀ q, q < j → rows.length ≤ q → gt C A q rows.length = 0
      · rw [if_pos h, if_pos ⟨hXl, h⟩]
      · rw [if_neg h, if_neg fun h2 => h h2.2]
    clear hEx hst hmono hAl hApr hrel hXl
    have hbl := hok.bl
    have hpl := hok.pl
    -- an equation's element
    have hget : ∀ q (L : List Ent), q < j → (((.box [iV M, .bsl 1 j c] :: .box (pm.map (ptrS C C)) :: (Bl.map (rowE 3 C) ++ L)) : List Ent)[pm.getD q 0 + 2]? = some (.row C 1 3 ((Bl.getD (pm.getD q 0) []).map kD))) := fun q L hq => by
      have h1 := hok.lt q hq
      have h2 := sys_get (t := 3) (v := C) (E0 := .box [iV M, .bsl 1 j c]) (E1 := .box (pm.map (ptrS C C))) (Bl := Bl) (p := pm.getD q 0) (by omega)
      rw [← h2]
      show (Bl.map (rowE 3 C) ++ L)[pm.getD q 0]? = (Bl.map (rowE 3 C))[pm.getD q 0]?
      rw [List.getElem?_append_left (by rw [List.length_map]; omega)]
    have hpm := fun q (hq : q < j) => sys_ld (v := C) (C := C) (p := q) (pm := pm) (by omega)
    have hbq : ∀ q, q < j → (Bl.getD (pm.getD q 0) []).length = C := fun q hq => hok.rl _ (getDB_mem (by have := hok.lt q hq; omega))
    have hel : ∀ q, q < j → ∀ h, (Bl.getD (pm.getD q 0) [])[rows.length]'h = gt C A q rows.length := fun q hq h => by
      rw [← hXA q hq rows.length (by omega)]
      unfold lgN
      rw [List.getD_eq_getElem?_getD (l := Bl.getD (pm.getD q 0) []), List.getElem?_eq_getElem h]; rfl
    unfold sysO
    (repeat' (first
  | (apply W.qd; (first
    | (apply q_mv; (first|exact vD|exact vO|exact vP|exact vA|exact vF|exact vR|exact vN|exact vY|exact vT|exact vM|exact vL|exact vX))|(apply q_as; (first|exact vD|exact vO|exact vP|exact vA|exact vF|exact vR|exact vN|exact vY|exact vT|exact vM|exact vL|exact vX))|(apply q_lss; exact rfl; exact rfl)
    | (apply q_len_sl; exact rfl; exact rfl)))|(apply AWP.seq)|(apply ACont_normal)|(apply (W.regionS 19); exact rfl; kernel_rfl)|(apply Walk.nil)|(apply AWP.block)|(apply AWP.exit)|(apply ACont_exit)|(apply ABlock_exit)
  | (refine W.cond _ rfl (fun hb => ?_) (fun hb => ?_) <;> ((try simp only [hb, zA, zB]) <;> (try simp only [zC, zD, zE, zF, zG, zH, zI, zJ] at hb) <;> (try (exfalso; omega))))))
    refine AWP.loopE (α := Nat) (fun q => rows.length ≤ q ∧ q ≤ j ∧ ∀ q', q' < q → rows.length ≤ q' → gt C A q' rows.length = 0) (fun q => ⟨[(14, iV q), (8, .opt 0 0), (1, rowsN rows)], .box [iV M, .bsl 1 j c] :: .box (pm.map (ptrS C C)) :: Bl.map (rowE 3 C)⟩) (fun q => j - q) rows.length ⟨Nat.le_refl _, hnj, fun q' h1 h2 => by omega⟩ ⟨rfl, iV_eq (by rw [hmr]), rfl, rfl, trivial⟩ fun q hq => ?_
    obtain ⟨hq1, hq2, hq3⟩ := hq
    by_cases hqj : q < j
    · have g1 := hget q [] hqj
      rw [List.append_nil] at g1
      have g2 := hpm q hqj
      have g3 := hbq q hqj
      have g4 := hel q hqj
      obtain ⟨l, hl⟩ : ∃ l, Bl.getD (pm.getD q 0) [] = l := ⟨_, rfl⟩
      rw [hl] at g1 g3 g4
      replace g4 := g4 (by omega)
      clear hget hpm hbq hel
      clear hl
      generalize pm.getD q 0 = a at *
      have hCn : rows.length < C := by omega
      by_cases hz : gt C A q rows.length = 0
      · rw [hz] at g4
        (repeat' (first
  | (apply W.qd; (first
    | ((apply s_ld; exact rfl; exact rfl; assumption; exact rfl))
    | ((apply s_ix; exact rfl; assumption; (iterate 3 exact rfl); omega))
    | ((apply s_ldr; exact rfl; assumption; exact rfl; exact rfl; omega))
    | ((apply q_len_bsl; exact rfl; exact rfl))
    | ((apply q_ix_bsl; (iterate 4 exact rfl); omega))|(apply q_mv; (first|exact vD|exact vO|exact vP|exact vA|exact vF|exact vR|exact vN|exact vY|exact vT|exact vM|exact vL|exact vX))|(apply q_as; (first|exact vD|exact vO|exact vP|exact vA|exact vF|exact vR|exact vN|exact vY|exact vT|exact vM|exact vL|exact vX))|(apply q_fld_optF; (iterate 3 exact rfl))|(apply q_ld_box; (iterate 4 exact rfl))|(apply q_lss; exact rfl; exact rfl)|(apply q_neq; exact rfl; exact rfl)|(apply q_add; exact rfl; exact rfl; omega)|(apply q_len_sl; exact rfl; exact rfl)
    | (apply q_nil_opt; exact rfl)))|(apply AWP.seq)|(apply ACont_normal)|(apply W.region; kernel_rfl)|(apply Walk.nil)|(apply AWP.block)|(apply AWP.skip)|(apply ABlock_normal)
  | (refine W.cond _ rfl (fun hb => ?_) (fun hb => ?_) <;> ((try simp only [hb, zA, zB]) <;> (try simp only [zC, zD, zE, zF, zG, zH, zI, zJ] at hb) <;> (try (exfalso; omega))))))
        exact ⟨q + 1, ⟨by omega, by omega, fun q' h1 h2 => by
          by_cases e : q' = q
          · rw [e]; exact hz
          · exact hq3 q' (by omega) h2⟩, by omega, rfl, iV_eq (by omega), rfl, rfl, trivial⟩
      · rw [hEx2, if_neg fun h => hz (h q hqj hq1)]
        unfold exprA
        have g5 : l[rows.length]'(by omega) ≠ 0 := by rw [g4]; exact hz
        (repeat' (first
  | (apply W.qd; (first
    | ((apply s_ld; exact rfl; exact rfl; assumption; exact rfl))
    | ((apply s_ix; exact rfl; assumption; (iterate 3 exact rfl); omega))
    | ((apply s_ldr; exact rfl; assumption; exact rfl; exact rfl; omega))
    | ((apply q_len_bsl; exact rfl; exact rfl))
    | ((apply q_ix_bsl; (iterate 4 exact rfl); omega))|(apply q_mv; (first|exact vD|exact vO|exact vP|exact vA|exact vF|exact vR|exact vN|exact vY|exact vT|exact vM|exact vL|exact vX))|(apply q_as; (first|exact vD|exact vO|exact vP|exact vA|exact vF|exact vR|exact vN|exact vY|exact vT|exact vM|exact vL|exact vX))|(apply q_fld_optF; (iterate 3 exact rfl))|(apply q_ld_box; (iterate 4 exact rfl))|(apply q_lss; exact rfl; exact rfl)|(apply q_neq; exact rfl; exact rfl)|(apply q_len_sl; exact rfl; exact rfl)
    | (apply q_nil_opt; exact rfl)))|(apply AWP.seq)|(apply ACont_normal)|(apply W.region; kernel_rfl)|(apply Walk.nil)|(apply AWP.block)|(apply AWP.skip)|(apply AWP.ret)|(apply ACont_ret)|(apply ABlock_ret)
  | (refine W.cond _ rfl (fun hb => ?_) (fun hb => ?_) <;> ((try simp only [hb, zA, zB]) <;> (try simp only [zC, zD, zE, zF, zG, zH, zI, zJ] at hb) <;> (try (exfalso; omega))))))
        exact ⟨.inl rfl, [], [.d (.v (.slice none 0 0)), bV false], rfl, rfl, ⟨rfl, rfl, trivial⟩, AVle.tup2 (AVle.nil 1) (AVle.refl _), rfl⟩
    · have hqj' : q = j := by omega
      subst hqj'
      rw [hEx2, if_pos hq3]
      unfold exprA
      clear hEx2
      (repeat' (first
  | (apply W.qd; (first
    | ((apply q_len_bsl; exact rfl; exact rfl))|(apply q_mv; (first|exact vD|exact vO|exact vP|exact vA|exact vF|exact vR|exact vN|exact vY|exact vT|exact vM|exact vL|exact vX))|(apply q_as; (first|exact vD|exact vO|exact vP|exact vA|exact vF|exact vR|exact vN|exact vY|exact vT|exact vM|exact vL|exact vX))|(apply q_fld_optF; (iterate 3 exact rfl))|(apply q_ld_box; (iterate 4 exact rfl))|(apply q_lss; exact rfl; exact rfl)
    | (apply q_nil_opt; exact rfl)))|(apply AWP.seq)|(apply ACont_normal)|(apply (W.regionS 24); exact rfl; kernel_rfl)|(apply Walk.nil)|(apply AWP.exit)|(apply ACont_exit)|(apply ABlock_exit)
  | (refine W.cond _ rfl (fun hb => ?_) (fun hb => ?_) <;> ((try simp only [hb, zA, zB]) <;> (try simp only [zC, zD, zE, zF, zG, zH, zI, zJ] at hb) <;> (try (exfalso; omega))))))
      refine AWP.nilRow 15 1 3 rfl (by omega) ?_
      refine AWP.wkE ⟨[(15, .osl (q + 2) 0 0 0), (8, .opt 0 0), (1, rowsN rows)], .box [iV M, .bsl 1 q c] :: .box (pm.map (ptrS C C)) :: (Bl.map (rowE 3 C) ++ [.row 0 1 3 []])⟩ ⟨rfl, congrArg (fun n => AV.osl n 0 0 0) (by simp [hbl]), rfl, rfl, trivial⟩ ?_
      have hLl : (Bl.map (rowE 3 C)).length = q := by rw [List.length_map]; exact hbl
      (repeat' (first
  | (apply W.qd; (apply q_as; (first|exact vD|exact vO|exact vP|exact vA|exact vF|exact vR|exact vN|exact vY|exact vT|exact vM|exact vL|exact vX)))|(apply ACont_normal)|(apply (W.regionS 25); exact rfl; kernel_rfl)|(apply Walk.nil)
  | (apply AWP.block)))
      refine AWP.loopE (α := Nat) (fun k => k ≤ rows.length) (fun k => ⟨[(16, iV k), (15, .osl (q + 2) k 0 k), (8, .opt 0 0), (1, rowsN rows)], .box [iV M, .bsl 1 q c] :: .box (pm.map (ptrS C C)) :: (Bl.map (rowE 3 C) ++ [.row k 1 3 (((List.range k).map fun k => gt C A k rows.length).map kD)])⟩) (fun k => rows.length - k) 0 (Nat.zero_le _) ⟨rfl, by (repeat (first | exact trivial | refine ⟨rfl, ?_⟩))⟩ fun k hk => ?_
      have hp : ((.box [iV M, .bsl 1 q c] :: .box (pm.map (ptrS C C)) :: (Bl.map (rowE 3 C) ++ [.row k 1 3 (((List.range k).map fun k => gt C A k rows.length).map kD)])) : List Ent)[q + 2]? = some (.row k 1 3 (((List.range k).map fun k => gt C A k rows.length).map kD)) := dyn_last hLl
      by_cases hkn : k < rows.length
      · have g1 := hget k [.row k 1 3 (((List.range k).map fun k => gt C A k rows.length).map kD)] (by omega)
        have g2 := hpm k (by omega)
        have g3 := hbq k (by omega)
        have g4 := hel k (by omega)
        obtain ⟨l, hl⟩ : ∃ l, Bl.getD (pm.getD k 0) [] = l := ⟨_, rfl⟩
        rw [hl] at g1 g3 g4
        replace g4 := g4 (by omega)
        have hls : ((List.range (k + 1)).map fun k => gt C A k rows.length) = ((List.range k).map fun k => gt C A k rows.length) ++ [gt C A k rows.length] := by rw [List.range_succ, List.map_append]; rfl
        have hll : ((List.range k).map fun k => gt C A k rows.length).length = k := by simp
        have g5 : l[(rows.map rnD).length]'(by omega) = gt C A k rows.length := by simp only [hmr]; exact g4
        rw [← g5] at hls
        replace hls := Lib.hid hls
        clear hget hpm hbq hel
        clear hl
        generalize pm.getD k 0 = a at *
        have hCn : rows.length < C := by omega
        (repeat' (first
  | (apply W.qd; (first
    | ((apply s_ld; exact rfl; exact rfl; assumption; exact rfl))
    | ((apply s_ix; exact rfl; assumption; (iterate 3 exact rfl); omega))
    | ((apply s_ldr; exact rfl; assumption; exact rfl; exact rfl; omega))
    | ((apply q_ix_bsl; (iterate 4 exact rfl); omega))|(apply q_mv; (first|exact vD|exact vO|exact vP|exact vA|exact vF|exact vR|exact vN|exact vY|exact vT|exact vM|exact vL|exact vX))|(apply q_as; (first|exact vD|exact vO|exact vP|exact vA|exact vF|exact vR|exact vN|exact vY|exact vT|exact vM|exact vL|exact vX))|(apply q_fld_optF; (iterate 3 exact rfl))|(apply q_ld_box; (iterate 4 exact rfl))|(apply q_lss; exact rfl; exact rfl)|(apply q_add; exact rfl; exact rfl; omega)|(apply q_len_sl; exact rfl; exact rfl)|(apply q_nil_opt; exact rfl)
    | (apply q_litF; (iterate 5 exact rfl); kernel_rfl; kernel_rfl; exact rfl)))|(apply W.ed; ((apply (s_app1 (f := kD) (l[(rows.map rnD).length]'(by omega))); exact rfl; assumption; exact rfl; exact dyn_setl hLl; (iterate 3 exact rfl); exact hll.symm; omega)))|(apply AWP.seq)|(apply ACont_normal)|(apply W.region; kernel_rfl)|(apply Walk.nil)|(apply AWP.block)|(apply AWP.skip)|(apply ABlock_normal)
  | (refine W.cond _ rfl (fun hb => ?_) (fun hb => ?_) <;> ((try simp only [hb, zA, zB]) <;> (try simp only [zC, zD, zE, zF, zG, zH, zI, zJ] at hb) <;> (try (exfalso; omega))))))
        refine ⟨k + 1, by omega, by omega, ?_, iV_eq (by omega), rfl, rfl, rfl, trivial⟩
        rw [hls.out]
      · have hkn' : k = rows.length := by omega
        subst hkn'
        refine AWP.wk ⟨[(16, iV rows.length), (15, nats ((List.range rows.length).map fun k => gt C A k rows.length)), (1, rowsN rows)], []⟩ ⟨[], rfl, rfl, rfl, rfl, (frz_rowJ hp rfl (by simp)).symm, rfl, trivial⟩ ?_
        (repeat' (first
  | (apply W.qd; (first
    | (apply q_mv; (first|exact vD|exact vO|exact vP|exact vA|exact vF|exact vR|exact vN|exact vY|exact vT|exact vM|exact vL|exact vX))|(apply q_as; (first|exact vD|exact vO|exact vP|exact vA|exact vF|exact vR|exact vN|exact vY|exact vT|exact vM|exact vL|exact vX))|(apply q_lss; exact rfl; exact rfl)
    | (apply q_len_sl; exact rfl; exact rfl)))|(apply AWP.seq)|(apply ACont_normal)|(apply W.region; kernel_rfl)|(apply Walk.nil)|(apply AWP.exit)|(apply AWP.ret)|(apply ACont_exit)|(apply ABlock_exit)
  | (refine W.cond _ rfl (fun hb => ?_) (fun hb => ?_) <;> ((try simp only [hb, zA, zB]) <;> (try simp only [zC, zD, zE, zF, zG, zH, zI, zJ] at hb) <;> (try (exfalso; omega))))))
        exact ⟨.inl rfl, [], [nats ((List.range rows.length).map fun k => gt C A k rows.length), bV true], rfl, rfl, ⟨rfl, rfl, trivial⟩, AVle.of_eq rfl, rfl⟩
end Go.Proofs.YtaclmbbiegklcaaGreatDoor
end
section
/- The reference of layer 8 over the machine of abstract values: Basis, Combination, Recoverable. -/
namespace Go.Proofs.YtaclmbbiegklcaaGreatDoor
open Go.RowKit
set_option maxHeartbeats 4000000
set_option maxRecDepth 100000
theorem frz_rowS {own own' : List Ent} {i ver n sz : Nat} {e : TypeId} {l : List (List Dat)} (ho : own[i]? = some (.row ver sz e l)) (hs : own'[i]? = own[i]?) (hn : n = l.length) : AV.frz own' [] (.osl i ver 0 n) = .d (.sl sz l) := frz_rowJ (hs.trans ho) rfl hn
theorem takeB_succ {B : List Nat} {m : Nat} (hm : m < B.length) : B.take (m + 1) = B.take m ++ [B.getD m 0] := by
  have : B.getD m 0 = B[m] := by rw [List.getD_eq_getElem?_getD, List.getElem?_eq_getElem hm]; rfl
  rw [List.take_succ_eq_append_getElem hm, this]
theorem bas_pres {M D : Nat} {ps : List (List Nat)} {hv : List Bool} (h : CodeOk M D ps) (hl : hv.length = D + ps.length) {q : Nat} (hq : q < (basisN M D ps hv).length) : hv.getD ((basisN M D ps hv).getD q 0) false = true := by
  obtain ⟨T, S, hB⟩ := basis_to h hl
  exact hB.mem q hq
theorem bas_inc {M D : Nat} {ps : List (List Nat)} {hv : List Bool} (h : CodeOk M D ps) (hl : hv.length = D + ps.length) {q q' : Nat} (hqq : q < q') (hq : q' < (basisN M D ps hv).length) : (basisN M D ps hv).getD q 0 < (basisN M D ps hv).getD q' 0 := by
  obtain ⟨T, S, hB⟩ := basis_to h hl
  exact hB.inc q q' hqq hq
attribute [local irreducible] Quiet Eff OpOk AWPG ACont ABlock ACalls AGoto
theorem A_r8basis {M D : Nat} {ps : List (List Nat)} {hv : List Bool} (h : CodeOk M D ps) (hl : hv.length = D + ps.length) : ACalls Tryz.prog 204 [cdN M D ps, bools hv] [] (.tup [nats (basisN M D ps hv), iV 0]) [] := by
  refine acalls_of_bodyO Tryz.func204 rfl (Nat.le_of_ble_eq_true rfl) ?_
  have hM := h.f
  have h1 := h.d
  have h2 := h.w
  have hw := A_r8widthN h
  have hmh : (hv.map tD).length = hv.length := List.length_map _
  have hbl := bas_le h hl
  have hpres := fun q hq => bas_pres h hl (q := q) hq
  have hinc := fun q q' hqq hq => bas_inc h hl (q := q) (q' := q') hqq hq
  have hnone := fun m hm => step_none h hl (m := m) hm
  have hsome := fun m i hi hm hge => step_some h hl (m := m) (i := i) hi hm hge
  have hrow := fun i (hi : i < D + ps.length) => A_r8row h hi
  have hexp := fun m i (hm : m ≤ (basisN M D ps hv).length) => A_express (M := M) (D := D) (rows := takeR D ps (basisN M D ps hv) m) (t := rowN D ps i) hM (by omega) (by omega) (by rw [takeR_length hm]; omega) (fun r hr => by
    obtain ⟨u, _, rfl⟩ := List.mem_map.1 hr; exact rowN_length ..) (rowN_length ..) (takeR_lt h hl _ _) (rowN_lt h hl i)
  generalize basisN M D ps hv = B at *
  have htl := fun m (hm : m ≤ B.length) => takeR_length (D := D) (ps := ps) (B := B) hm
  have hts := fun m (hm : m < B.length) => Lib.hid (takeR_succ (D := D) (ps := ps) (B := B) hm)
  have hbs := fun m (hm : m < B.length) => Lib.hid (takeB_succ (B := B) hm)
  have ht0 : takeR D ps B 0 = [] := rfl
  obtain ⟨Wd, hW⟩ : ∃ Wd, D + ps.length = Wd := ⟨_, rfl⟩
  rw [hW] at hw hl hrow
  (repeat' (first
  | (apply W.gOn; exact rfl; exact rfl)
  | (apply W.qd; (first
    | (apply (q_callC (hw)); exact rfl; exact rfl; kernel_rfl; kernel_rfl; kernel_rfl)|(apply q_mv; (first|exact vD|exact vO|exact vP|exact vA|exact vF|exact vR|exact vN|exact vY|exact vT|exact vM|exact vL|exact vX))|(apply q_as; (first|exact vD|exact vO|exact vP|exact vA|exact vF|exact vR|exact vN|exact vY|exact vT|exact vM|exact vL|exact vX))|(apply q_ld_boxF; (iterate 4 exact rfl))|(apply q_eql; exact rfl; exact rfl)|(apply q_neq; exact rfl; exact rfl)|(apply q_len_sl; exact rfl; exact rfl)
    | (apply (q_pickF (u := .d _)); exact rfl; exact rfl)))|(apply W.ed; (apply e_boxF; (iterate 3 exact rfl); kernel_rfl; kernel_rfl))|(apply AWP.seq)|(apply ACont_normal)|(apply (W.regionS 6); exact rfl; kernel_rfl)|(apply Walk.nil)|(apply AWP.skip)|(refine W.gF _ _ rfl rfl (fun hb => ?_) (fun hb => ?_) <;> ((try simp only [hb, zA, zB]) <;> (try simp only [zC, zD, zE, zF, zG, zH, zI, zJ] at hb) <;> (try (exfalso; omega))))
  | (refine W.cond _ rfl (fun hb => ?_) (fun hb => ?_) <;> ((try simp only [hb, zA, zB]) <;> (try simp only [zC, zD, zE, zF, zG, zH, zI, zJ] at hb) <;> (try (exfalso; omega))))))
  refine AWP.nilRow 7 1 3 rfl (by omega) ?_
  refine AWP.nilRow 8 1 42 rfl (by omega) ?_
  (repeat' (first
  | (apply W.qd; (apply q_as; (first|exact vD|exact vO|exact vP|exact vA|exact vF|exact vR|exact vN|exact vY|exact vT|exact vM|exact vL|exact vX)))|(apply ACont_normal)|(apply (W.regionS 7); exact rfl; kernel_rfl)|(apply Walk.nil)
  | (apply AWP.block)))
  refine AWP.loopW (α := Nat × Nat) (fun s => s.1 ≤ Wd ∧ s.2 ≤ B.length ∧ (∀ q, q < s.2 → B.getD q 0 < s.1) ∧ ∀ q, s.2 ≤ q → q < B.length → s.1 ≤ B.getD q 0) (fun s => ⟨[(9, iV s.1), (6, iV Wd), (7, .osl 1 s.2 0 s.2), (8, .osl 2 s.2 0 s.2), (1, bools hv), (2, .opt 0 0)], [.box [.d .any, iV M, iV D, rowsN ps, .d .any], .row s.2 1 3 ((B.take s.2).map kD), .row s.2 1 42 ((takeR D ps B s.2).map rnD)]⟩) (fun s => Wd - s.1) (0, 0) ⟨Nat.zero_le _, Nat.zero_le _, fun q hq => by omega, fun q _ _ => Nat.zero_le _⟩ ⟨[0, 1, 2], rfl, rfl, rfl, by (repeat (first | exact trivial | refine ⟨rfl, ?_⟩))⟩ fun s hs => ?_
  obtain ⟨i, m⟩ := s
  obtain ⟨p1, p2, p3, p4⟩ := hs
  dsimp only at p1 p2 p3 p4 ⊢
  by_cases hiW : i < Wd
  · have eg : hv.getD i false = hv[i]'(by omega) := by rw [List.getD_eq_getElem?_getD, List.getElem?_eq_getElem (show i < hv.length by omega)]; rfl
    have hr := hrow i hiW
    have he := hexp m i p2
    have hl2 := htl m p2
    have hfz : ∀ own own' : List Ent, own[2]? = some (.row m 1 42 ((takeR D ps B m).map rnD)) → same [2] own own' → AV.frzL own' [] [iV M, .osl 2 m 0 m, nats (rowN D ps i)] = [iV M, rowsN (takeR D ps B m), nats (rowN D ps i)] := fun own own' h1 h2 =>
      congrArg (fun z => [iV M, z, nats (rowN D ps i)]) (frz_rowS h1 (h2 2 (by simp)) (by rw [List.length_map]; exact hl2.symm))
    have hbt : (B.take m).length = m := by rw [List.length_take]; omega
    cases hb0 : hv[i]'(by omega) with
    | false =>
      have hne : ∀ q, m ≤ q → q < B.length → i + 1 ≤ B.getD q 0 := fun q h5 h6 => by
        have h7 := p4 q h5 h6
        by_cases e : B.getD q 0 = i
        · have := hpres q h6; rw [e, eg, hb0] at this; cases this
        · omega
      clear he hexp hr hrow hnone hsome hts hbs
      (repeat' (first
  | (apply W.qd; (first
    | (apply q_mv; (first|exact vD|exact vO|exact vP|exact vA|exact vF|exact vR|exact vN|exact vY|exact vT|exact vM|exact vL|exact vX))|(apply q_as; (first|exact vD|exact vO|exact vP|exact vA|exact vF|exact vR|exact vN|exact vY|exact vT|exact vM|exact vL|exact vX))|(apply q_fld_optF; (iterate 3 exact rfl))|(apply q_ld_box; (iterate 4 exact rfl))|(apply q_ld_boxF; (iterate 4 exact rfl))|(apply q_lss; exact rfl; exact rfl)|(apply q_not; exact rfl)|(apply q_add; exact rfl; exact rfl; omega)|(apply q_ld_map; (iterate 3 exact rfl); (first | omega | (focus (simp; done))))
    | (apply q_ix_slF; (iterate 4 exact rfl); (first | (with_reducible exact rfl) | exact natI_spec rfl | assumption | exact (Int.toNat_of_nonneg (by omega)).symm); (first | omega | (focus (simp only [List.length_map]; omega)) | (focus (simp; done)) | (focus (simp; omega))))))|(apply AWP.seq)|(apply ACont_normal)|(apply W.region; kernel_rfl)|(apply W.regionD; exact rfl; kernel_rfl)|(apply Walk.nil)|(apply AWP.block)|(apply AWP.skip)|(apply AWP.exit)|(apply ACont_exit)|(apply ABlock_exit)
  | (refine W.cond _ rfl (fun hb => ?_) (fun hb => ?_) <;> ((try simp only [hb, zA, zB]) <;> (try simp only [zC, zD, zE, zF, zG, zH, zI, zJ] at hb) <;> (try (exfalso; omega))))))
      (all_goals (try (exfalso; exact absurd ((‹hv[i] = true› : hv[i] = true).symm.trans (‹hv[i] = false› : hv[i] = false)) (by decide))))
      all_goals exact ⟨(i + 1, m), ⟨by show i + 1 ≤ Wd; omega, p2, fun q hq => Nat.lt_succ_of_lt (p3 q hq), hne⟩, by show Wd - (i + 1) < _; omega, [0, 1, 2], rfl, rfl, rfl, iV_eq (by show ((i + 1 : Nat) : Int) = _; omega), rfl, rfl, rfl, rfl, rfl, trivial⟩
    | true =>
      by_cases hcase : ∃ hm : m < B.length, B.getD m 0 = i
      · obtain ⟨hm, hBm⟩ := hcase
        have hno := hnone m hm
        rw [hBm] at hno
        rw [hno] at he
        unfold exprA at he
        dsimp only at he
        have hts2 := hts m hm
        have hbs2 := hbs m hm
        rw [hBm] at hts2 hbs2
        have hn1 : ∀ q, q < m + 1 → B.getD q 0 < i + 1 := fun q hq => by
          by_cases e : q = m
          · rw [e, hBm]; omega
          · have := p3 q (by omega); omega
        have hn2 : ∀ q, m + 1 ≤ q → q < B.length → i + 1 ≤ B.getD q 0 := fun q h5 h6 => by have := hinc m q (by omega) h6; omega
        clear hexp hrow hnone hsome hts hbs p3 p4
        generalize takeR D ps B m = R at *
        generalize B.take m = T at *
        generalize rowN D ps i = rw0 at *
        (repeat' (first
  | (apply W.qd; (first
    | (apply (q_callC (hr)); exact rfl; exact rfl; kernel_rfl; kernel_rfl; kernel_rfl)
    | ((apply (q_callF (js := [2]) he); exact rfl; exact fun own' hh => hfz _ own' rfl hh; exact rfl; kernel_rfl))|(apply q_mv; (first|exact vD|exact vO|exact vP|exact vA|exact vF|exact vR|exact vN|exact vY|exact vT|exact vM|exact vL|exact vX))|(apply q_as; (first|exact vD|exact vO|exact vP|exact vA|exact vF|exact vR|exact vN|exact vY|exact vT|exact vM|exact vL|exact vX))|(apply q_fld_optF; (iterate 3 exact rfl))|(apply q_ld_box; (iterate 4 exact rfl))|(apply q_ld_boxF; (iterate 4 exact rfl))|(apply q_lss; exact rfl; exact rfl)|(apply q_not; exact rfl)|(apply q_add; exact rfl; exact rfl; omega)|(apply q_extract; exact rfl; exact rfl)|(apply q_ld_map; (iterate 3 exact rfl); (first | omega | (focus (simp; done))))|(apply q_litF; (iterate 5 exact rfl); kernel_rfl; kernel_rfl; exact rfl)
    | (apply q_ix_slF; (iterate 4 exact rfl); (first | (with_reducible exact rfl) | exact natI_spec rfl | assumption | exact (Int.toNat_of_nonneg (by omega)).symm); (first | omega | (focus (simp only [List.length_map]; omega)) | (focus (simp; done)) | (focus (simp; omega))))))
  | (apply W.ed; (first
    | ((apply (s_app1 (f := kD) i); (iterate 7 exact rfl); exact hbt.symm; omega))
    | ((apply (s_app1 (f := rnD) rw0); (iterate 7 exact rfl); exact hl2.symm; omega))))|(apply AWP.seq)|(apply ACont_normal)|(apply W.region; kernel_rfl)|(apply W.regionD; exact rfl; kernel_rfl)|(apply Walk.nil)|(apply W.chk; kernel_rfl)|(apply AWP.block)|(apply AWP.skip)|(apply AWP.exit)|(apply ACont_exit)|(apply ABlock_normal)|(apply ABlock_exit)|(apply W.condT; exact rfl)
  | (refine W.cond _ rfl (fun hb => ?_) (fun hb => ?_) <;> ((try simp only [hb, zA, zB]) <;> (try simp only [zC, zD, zE, zF, zG, zH, zI, zJ] at hb) <;> (try (exfalso; omega))))))
        (all_goals (try (exfalso; exact absurd ((‹hv[i] = true› : hv[i] = true).symm.trans (‹hv[i] = false› : hv[i] = false)) (by decide))))
        all_goals refine ⟨(i + 1, m + 1), ⟨by show i + 1 ≤ Wd; omega, by show m + 1 ≤ _; omega, hn1, hn2⟩, by show Wd - (i + 1) < _; omega, [0, 1, 2], rfl, rfl, ?_, iV_eq (by show ((i + 1 : Nat) : Int) = _; omega), rfl, rfl, rfl, rfl, rfl, trivial⟩
        all_goals (show [_, Ent.row (m + 1) 1 _ ((B.take (m + 1)).map kD), Ent.row (m + 1) 1 _ ((takeR D ps B (m + 1)).map rnD)] = _; rw [hts2.out, hbs2.out]; rfl)
      · have hne : ∀ q, m ≤ q → q < B.length → i < B.getD q 0 := fun q h5 h6 => by
          have h7 := p4 q h5 h6
          by_cases e : B.getD q 0 = i
          · exfalso
            by_cases e2 : q = m
            · exact hcase ⟨by omega, by rw [← e2]; exact e⟩
            · have h8 := hinc m q (by omega) h6
              have h9 := p4 m (Nat.le_refl _) (by omega)
              omega
          · omega
        have hso := hsome m i (by rw [eg, hb0]) p2 hne
        obtain ⟨K, hK⟩ := Option.isSome_iff_exists.1 hso
        rw [hK] at he
        unfold exprA at he
        dsimp only at he
        clear hexp hrow hnone hsome hts hbs p4 hso
        (repeat' (first
  | (apply W.qd; (first
    | (apply (q_callC (hr)); exact rfl; exact rfl; kernel_rfl; kernel_rfl; kernel_rfl)
    | ((apply (q_callF (js := [2]) he); exact rfl; exact fun own' hh => hfz _ own' rfl hh; exact rfl; kernel_rfl))|(apply q_mv; (first|exact vD|exact vO|exact vP|exact vA|exact vF|exact vR|exact vN|exact vY|exact vT|exact vM|exact vL|exact vX))|(apply q_as; (first|exact vD|exact vO|exact vP|exact vA|exact vF|exact vR|exact vN|exact vY|exact vT|exact vM|exact vL|exact vX))|(apply q_fld_optF; (iterate 3 exact rfl))|(apply q_ld_box; (iterate 4 exact rfl))|(apply q_ld_boxF; (iterate 4 exact rfl))|(apply q_lss; exact rfl; exact rfl)|(apply q_not; exact rfl)|(apply q_add; exact rfl; exact rfl; omega)|(apply q_extract; exact rfl; exact rfl)|(apply q_ld_map; (iterate 3 exact rfl); (first | omega | (focus (simp; done))))
    | (apply q_ix_slF; (iterate 4 exact rfl); (first | (with_reducible exact rfl) | exact natI_spec rfl | assumption | exact (Int.toNat_of_nonneg (by omega)).symm); (first | omega | (focus (simp only [List.length_map]; omega)) | (focus (simp; done)) | (focus (simp; omega))))))|(apply AWP.seq)|(apply ACont_normal)|(apply W.region; kernel_rfl)|(apply W.regionD; exact rfl; kernel_rfl)|(apply Walk.nil)|(apply W.chk; kernel_rfl)|(apply AWP.block)|(apply AWP.skip)|(apply AWP.exit)|(apply ACont_exit)|(apply ABlock_normal)|(apply ABlock_exit)|(apply W.condF; exact rfl)
  | (refine W.cond _ rfl (fun hb => ?_) (fun hb => ?_) <;> ((try simp only [hb, zA, zB]) <;> (try simp only [zC, zD, zE, zF, zG, zH, zI, zJ] at hb) <;> (try (exfalso; omega))))))
        (all_goals (try (exfalso; exact absurd ((‹hv[i] = true› : hv[i] = true).symm.trans (‹hv[i] = false› : hv[i] = false)) (by decide))))
        all_goals exact ⟨(i + 1, m), ⟨by show i + 1 ≤ Wd; omega, p2, fun q hq => Nat.lt_succ_of_lt (p3 q hq), fun q h5 h6 => hne q h5 h6⟩, by show Wd - (i + 1) < _; omega, [0, 1, 2], rfl, rfl, rfl, iV_eq (by show ((i + 1 : Nat) : Int) = _; omega), rfl, rfl, rfl, rfl, rfl, trivial⟩
  · have hmB : m = B.length := by
      by_cases e : m < B.length
      · exfalso
        have h5 := p4 m (Nat.le_refl _) e
        have h6 := hpres m e
        rw [List.getD_eq_getElem?_getD, List.getElem?_eq_none (by omega)] at h6
        cases h6
      · omega
    subst hmB
    clear hexp hrow hnone hsome hts hbs
    have e1 : B.take B.length = B := List.take_length
    refine AWP.wk ⟨[(9, iV i), (6, iV Wd), (7, nats B), (2, .opt 0 0)], [.box [.d .any, iV M, iV D, rowsN ps, .d .any]]⟩ ⟨[0], rfl, rfl, rfl, rfl, rfl, (congrArg (fun l => nats l) e1.symm).trans (frz_rowJ rfl rfl (by simp)).symm, rfl, trivial⟩ ?_
    (repeat' (first
  | (apply W.qd; (first
    | (apply q_mv; (first|exact vD|exact vO|exact vP|exact vA|exact vF|exact vR|exact vN|exact vY|exact vT|exact vM|exact vL|exact vX))|(apply q_as; (first|exact vD|exact vO|exact vP|exact vA|exact vF|exact vR|exact vN|exact vY|exact vT|exact vM|exact vL|exact vX))
    | (apply q_lss; exact rfl; exact rfl)))|(apply AWP.seq)|(apply ACont_normal)|(apply W.region; kernel_rfl)|(apply Walk.nil)|(apply AWP.exit)|(apply AWP.ret)|(apply ACont_exit)|(apply ABlock_exit)
  | (refine W.cond _ rfl (fun hb => ?_) (fun hb => ?_) <;> ((try simp only [hb, zA, zB]) <;> (try simp only [zC, zD, zE, zF, zG, zH, zI, zJ] at hb) <;> (try (exfalso; omega))))))
    exact ⟨.inl rfl, [], [nats B, iV 0], rfl, rfl, ⟨rfl, rfl, trivial⟩, AVle.of_eq rfl, rfl⟩
end Go.Proofs.YtaclmbbiegklcaaGreatDoor
end
section
/- Layer 8, package and reference, over the machine of abstract values: Combination and Recoverable, for all arguments. -/
namespace Go.Proofs.YtaclmbbiegklcaaGreatDoor
open Go.RowKit
set_option maxHeartbeats 4000000
set_option maxRecDepth 100000
attribute [local irreducible] Quiet Eff OpOk AWPG ACont ABlock ACalls AGoto
def coefA (B : List Nat) : Option (List Nat) → AV
  | some K => .tup [nats B, nats K, iV 0]
  | none => .tup [nats [], nats [], iV 11]
theorem A_r8coef {M D u : Nat} {ps : List (List Nat)} {hv : List Bool} (h : CodeOk M D ps) (hl : hv.length = D + ps.length) (hu : u < D + ps.length) : ACalls Tryz.prog 182 [cdN M D ps, bools hv, iV u] [] (coefA (basisN M D ps hv) (exprN M D (takeR D ps (basisN M D ps hv) (basisN M D ps hv).length) (rowN D ps u))) [] := by
  refine acalls_of_bodyO Tryz.func182 rfl (Nat.le_of_ble_eq_true rfl) ?_
  have hM := h.f
  have h1 := h.d
  have h2 := h.w
  have hb := A_r8basis h hl
  have hmh : (hv.map tD).length = hv.length := List.length_map _
  have hbl := bas_le h hl
  have hblt : ∀ q, q < (basisN M D ps hv).length → (basisN M D ps hv).getD q 0 < D + ps.length := fun q hq => hv_lt h hl (bas_pres h hl hq)
  have hrow := fun i (hi : i < D + ps.length) => A_r8row h hi
  have hr := hrow u hu
  have he := A_express (M := M) (D := D) (rows := takeR D ps (basisN M D ps hv) (basisN M D ps hv).length) (t := rowN D ps u) hM (by omega) (by omega) (by rw [takeR_length (Nat.le_refl _)]; omega) (fun r hr => by
    obtain ⟨u, _, rfl⟩ := List.mem_map.1 hr; exact rowN_length ..) (rowN_length ..) (takeR_lt h hl _ _) (rowN_lt h hl u)
  generalize basisN M D ps hv = B at *
  have htl := fun m (hm : m ≤ B.length) => takeR_length (D := D) (ps := ps) (B := B) hm
  have hts := fun m (hm : m < B.length) => Lib.hid (takeR_succ (D := D) (ps := ps) (B := B) hm)
  have ht0 : takeR D ps B 0 = [] := rfl
  have hmB : (B.map kD).length = B.length := List.length_map _
  (repeat' (first
  | (apply W.gOn; exact rfl; exact rfl)
  | (apply W.qd; (first
    | (apply (q_callC (hb)); exact rfl; exact rfl; kernel_rfl; kernel_rfl; kernel_rfl)|(apply q_mv; (first|exact vD|exact vO|exact vP|exact vA|exact vF|exact vR|exact vN|exact vY|exact vT|exact vM|exact vL|exact vX))|(apply q_as; (first|exact vD|exact vO|exact vP|exact vA|exact vF|exact vR|exact vN|exact vY|exact vT|exact vM|exact vL|exact vX))|(apply q_ld_boxF; (iterate 4 exact rfl))|(apply q_lss; exact rfl; exact rfl)|(apply q_geq; exact rfl; exact rfl)|(apply q_neq; exact rfl; exact rfl)|(apply q_extract; exact rfl; exact rfl)|(apply q_len_sl; exact rfl; exact rfl)
    | (apply (q_pickF (u := .d _)); exact rfl; exact rfl)))|(apply W.ed; (apply e_boxF; (iterate 3 exact rfl); kernel_rfl; kernel_rfl))|(apply AWP.seq)|(apply ACont_normal)|(apply (W.regionS 5); exact rfl; kernel_rfl)|(apply Walk.nil)|(apply AWP.skip)
  | (refine W.cond _ rfl (fun hb => ?_) (fun hb => ?_) <;> ((try simp only [hb, zA, zB]) <;> (try simp only [zC, zD, zE, zF, zG, zH, zI, zJ] at hb) <;> (try (exfalso; omega))))))
  refine AWP.nilRow 11 1 42 rfl (by omega) ?_
  (repeat' (first
  | (apply W.qd; (apply q_as; (first|exact vD|exact vO|exact vP|exact vA|exact vF|exact vR|exact vN|exact vY|exact vT|exact vM|exact vL|exact vX)))|(apply ACont_normal)|(apply (W.regionS 6); exact rfl; kernel_rfl)|(apply Walk.nil)
  | (apply AWP.block)))
  refine AWP.loopW (α := Nat) (fun m => m ≤ B.length) (fun m => ⟨[(12, iV m), (9, nats B), (11, .osl 1 m 0 m), (2, iV u), (3, .opt 0 0)], [.box [.d .any, iV M, iV D, rowsN ps, .d .any], .row m 1 42 ((takeR D ps B m).map rnD)]⟩) (fun m => B.length - m) 0 (Nat.zero_le _) ⟨[0, 1], rfl, rfl, rfl, by (repeat (first | exact trivial | refine ⟨rfl, ?_⟩))⟩ fun m hm => ?_
  by_cases hmB2 : m < B.length
  · have hbm : B.getD m 0 = B[m] := by rw [List.getD_eq_getElem?_getD, List.getElem?_eq_getElem hmB2]; rfl
    have hts2 := hts m hmB2
    have hlt := hblt m hmB2
    rw [hbm] at hts2 hlt
    have hr2 := hrow (B[m]) hlt
    have hl2 := htl m hm
    clear hrow he hblt hts
    generalize takeR D ps B m = R at *
    generalize rowN D ps B[m] = rw0 at *
    (repeat' (first
  | (apply W.qd; (first
    | (apply (q_callC (hr2)); exact rfl; exact rfl; kernel_rfl; kernel_rfl; kernel_rfl)|(apply q_mv; (first|exact vD|exact vO|exact vP|exact vA|exact vF|exact vR|exact vN|exact vY|exact vT|exact vM|exact vL|exact vX))|(apply q_as; (first|exact vD|exact vO|exact vP|exact vA|exact vF|exact vR|exact vN|exact vY|exact vT|exact vM|exact vL|exact vX))|(apply q_ld_boxF; (iterate 4 exact rfl))|(apply q_lss; exact rfl; exact rfl)|(apply q_add; exact rfl; exact rfl; omega)|(apply q_len_sl; exact rfl; exact rfl)|(apply q_ld_map; (iterate 3 exact rfl); (first | omega | (focus (simp; done))))|(apply q_litF; (iterate 5 exact rfl); kernel_rfl; kernel_rfl; exact rfl)
    | (apply q_ix_slF; (iterate 4 exact rfl); (first | (with_reducible exact rfl) | exact natI_spec rfl | assumption | exact (Int.toNat_of_nonneg (by omega)).symm); (first | omega | (focus (simp only [List.length_map]; omega)) | (focus (simp; done)) | (focus (simp; omega))))))|(apply W.ed; ((apply (s_app1 (f := rnD) rw0); (iterate 7 exact rfl); exact hl2.symm; omega)))|(apply AWP.seq)|(apply ACont_normal)|(apply W.region; kernel_rfl)|(apply W.regionD; exact rfl; kernel_rfl)|(apply Walk.nil)|(apply W.chk; kernel_rfl)|(apply AWP.block)|(apply AWP.skip)|(apply ABlock_normal)
  | (refine W.cond _ rfl (fun hb => ?_) (fun hb => ?_) <;> ((try simp only [hb, zA, zB]) <;> (try simp only [zC, zD, zE, zF, zG, zH, zI, zJ] at hb) <;> (try (exfalso; omega))))))
    refine ⟨m + 1, by omega, by omega, [0, 1], rfl, rfl, ?_, iV_eq (by omega), rfl, rfl, rfl, rfl, trivial⟩
    rw [hts2.out]; rfl
  · have hmB3 : m = B.length := by omega
    subst hmB3
    have hl2 := htl B.length (Nat.le_refl _)
    clear hrow hblt hts ht0
    generalize takeR D ps B B.length = R at *
    refine AWP.wk ⟨[(12, iV B.length), (9, nats B), (11, rowsN R), (2, iV u), (3, .opt 0 0)], [.box [.d .any, iV M, iV D, rowsN ps, .d .any]]⟩ ⟨[0], rfl, rfl, rfl, rfl, rfl, (frz_rowJ rfl rfl (by rw [List.length_map]; exact hl2.symm)).symm, rfl, rfl, trivial⟩ ?_
    cases hE : exprN M D R (rowN D ps u) with
    | none =>
      rw [hE] at he
      unfold exprA at he
      dsimp only at he
      generalize rowN D ps u = rw0 at *
      (repeat' (first
  | (apply W.qd; (first
    | (apply (q_callC (hr)); exact rfl; exact rfl; kernel_rfl; kernel_rfl; kernel_rfl)|(apply (q_callC (he)); exact rfl; exact rfl; kernel_rfl; kernel_rfl; kernel_rfl)|(apply q_mv; (first|exact vD|exact vO|exact vP|exact vA|exact vF|exact vR|exact vN|exact vY|exact vT|exact vM|exact vL|exact vX))|(apply q_as; (first|exact vD|exact vO|exact vP|exact vA|exact vF|exact vR|exact vN|exact vY|exact vT|exact vM|exact vL|exact vX))|(apply q_fld_optF; (iterate 3 exact rfl))|(apply q_ld_box; (iterate 4 exact rfl))|(apply q_ld_boxF; (iterate 4 exact rfl))|(apply q_lss; exact rfl; exact rfl)|(apply q_not; exact rfl)|(apply q_extract; exact rfl; exact rfl)
    | (apply q_len_sl; exact rfl; exact rfl)))|(apply AWP.seq)|(apply ACont_normal)|(apply W.region; kernel_rfl)|(apply W.regionD; exact rfl; kernel_rfl)|(apply Walk.nil)|(apply W.chk; kernel_rfl)|(apply AWP.exit)|(apply AWP.ret)|(apply ACont_exit)|(apply ACont_ret)|(apply ABlock_exit)|(apply W.condT; exact rfl)
  | (refine W.cond _ rfl (fun hb => ?_) (fun hb => ?_) <;> ((try simp only [hb, zA, zB]) <;> (try simp only [zC, zD, zE, zF, zG, zH, zI, zJ] at hb) <;> (try (exfalso; omega))))))
      exact ⟨.inl rfl, [], [.d (.v (.slice none 0 0)), .d (.v (.slice none 0 0)), iV 11], rfl, rfl, ⟨rfl, rfl, rfl, trivial⟩, AVle.tup ⟨AVle.nil 1, AVle.nil 1, AVle.refl _, trivial⟩, rfl⟩
    | some K =>
      rw [hE] at he
      unfold exprA at he
      dsimp only at he
      generalize rowN D ps u = rw0 at *
      (repeat' (first
  | (apply W.qd; (first
    | (apply (q_callC (hr)); exact rfl; exact rfl; kernel_rfl; kernel_rfl; kernel_rfl)|(apply (q_callC (he)); exact rfl; exact rfl; kernel_rfl; kernel_rfl; kernel_rfl)|(apply q_mv; (first|exact vD|exact vO|exact vP|exact vA|exact vF|exact vR|exact vN|exact vY|exact vT|exact vM|exact vL|exact vX))|(apply q_as; (first|exact vD|exact vO|exact vP|exact vA|exact vF|exact vR|exact vN|exact vY|exact vT|exact vM|exact vL|exact vX))|(apply q_fld_optF; (iterate 3 exact rfl))|(apply q_ld_box; (iterate 4 exact rfl))|(apply q_ld_boxF; (iterate 4 exact rfl))|(apply q_lss; exact rfl; exact rfl)|(apply q_not; exact rfl)|(apply q_extract; exact rfl; exact rfl)
    | (apply q_len_sl; exact rfl; exact rfl)))|(apply AWP.seq)|(apply ACont_normal)|(apply W.region; kernel_rfl)|(apply W.regionD; exact rfl; kernel_rfl)|(apply Walk.nil)|(apply W.chk; kernel_rfl)|(apply AWP.skip)|(apply AWP.exit)|(apply AWP.ret)|(apply ACont_exit)|(apply ABlock_exit)|(apply W.condF; exact rfl)
  | (refine W.cond _ rfl (fun hb => ?_) (fun hb => ?_) <;> ((try simp only [hb, zA, zB]) <;> (try simp only [zC, zD, zE, zF, zG, zH, zI, zJ] at hb) <;> (try (exfalso; omega))))))
      exact ⟨.inl rfl, [], [nats B, nats K, iV 0], rfl, rfl, ⟨rfl, rfl, rfl, trivial⟩, AVle.of_eq rfl, rfl⟩
theorem A_r8comb {M D u : Nat} {ps : List (List Nat)} {hv : List Bool} (h : CodeOk M D ps) (hl : hv.length = D + ps.length) (hu : u < D + ps.length) : ACalls Tryz.prog 143 [cdN M D ps, bools hv, iV u] [] (termsA (combN M D ps hv u)) [] := by
  refine acalls_of_bodyO Tryz.func143 rfl (Nat.le_of_ble_eq_true rfl) ?_
  have hc := A_r8coef h hl hu
  obtain ⟨e1, e2⟩ := expr_comb h hl hu
  have hbl := bas_le h hl
  have h2 := h.w
  cases hC : combN M D ps hv u with
  | none =>
    rw [e2 hC] at hc
    unfold coefA at hc
    dsimp only at hc
    unfold termsA
    (repeat' (first
  | (apply W.qd; (first
    | (apply (q_callC (hc)); exact rfl; exact rfl; kernel_rfl; kernel_rfl; kernel_rfl)|(apply q_mv; (first|exact vD|exact vO|exact vP|exact vA|exact vF|exact vR|exact vN|exact vY|exact vT|exact vM|exact vL|exact vX))|(apply q_as; (first|exact vD|exact vO|exact vP|exact vA|exact vF|exact vR|exact vN|exact vY|exact vT|exact vM|exact vL|exact vX))|(apply q_ld_boxF; (iterate 4 exact rfl))|(apply q_neq; exact rfl; exact rfl)
    | (apply q_extract; exact rfl; exact rfl)))|(apply W.ed; (apply e_boxF; (iterate 3 exact rfl); kernel_rfl; kernel_rfl))|(apply AWP.seq)|(apply ACont_normal)|(apply W.region; kernel_rfl)|(apply Walk.nil)|(apply AWP.ret)|(apply ACont_ret)
  | (apply W.condT; exact rfl)))
    all_goals exact ⟨.inl rfl, [], [.d (.v (.slice none 0 0)), iV 11], rfl, rfl, ⟨rfl, rfl, trivial⟩, AVle.tup2 (AVle.nil 2) (AVle.refl _), rfl⟩
  | some l =>
    obtain ⟨K, k1, k2, k3, k4⟩ := e1 l hC
    rw [k3] at hc
    unfold coefA at hc
    dsimp only at hc
    unfold termsA
    dsimp only
    rw [k4]
    clear k3 k4 e1 e2 hC
    generalize basisN M D ps hv = B at *
    have hmB : (B.map kD).length = B.length := List.length_map _
    have hmK : (K.map kD).length = K.length := List.length_map _
    have hs := fun i => Lib.hid (tmsAt_succ B K i)
    have hle := tmsAt_length B K
    have ht0 : tmsAt B K 0 = [] := rfl
    generalize tmsAt B K = TM at *
    (repeat' (first
  | (apply W.qd; (first
    | (apply (q_callC (hc)); exact rfl; exact rfl; kernel_rfl; kernel_rfl; kernel_rfl)|(apply q_mv; (first|exact vD|exact vO|exact vP|exact vA|exact vF|exact vR|exact vN|exact vY|exact vT|exact vM|exact vL|exact vX))|(apply q_as; (first|exact vD|exact vO|exact vP|exact vA|exact vF|exact vR|exact vN|exact vY|exact vT|exact vM|exact vL|exact vX))|(apply q_ld_boxF; (iterate 4 exact rfl))|(apply q_neq; exact rfl; exact rfl)
    | (apply q_extract; exact rfl; exact rfl)))|(apply W.ed; (apply e_boxF; (iterate 3 exact rfl); kernel_rfl; kernel_rfl))|(apply AWP.seq)|(apply ACont_normal)|(apply (W.regionS 5); exact rfl; kernel_rfl)|(apply Walk.nil)|(apply AWP.skip)
  | (apply W.condF; exact rfl)))
    refine AWP.nilRow 11 2 168 rfl (by omega) ?_
    (repeat' (first
  | (apply W.qd; (apply q_as; (first|exact vD|exact vO|exact vP|exact vA|exact vF|exact vR|exact vN|exact vY|exact vT|exact vM|exact vL|exact vX)))|(apply ACont_normal)|(apply (W.regionS 6); exact rfl; kernel_rfl)|(apply Walk.nil)
  | (apply AWP.block)))
    refine AWP.loopW (α := Nat) (fun i => i ≤ B.length) (fun i => ⟨[(12, iV i), (8, nats B), (9, nats K), (11, .osl 1 (TM i).length 0 (TM i).length), (3, .opt 0 0)], [.box [.d .any, iV M, iV D, rowsN ps, .d .any], .row (TM i).length 2 168 ((TM i).map tmD)]⟩) (fun i => B.length - i) 0 (Nat.zero_le _) ?wk0 fun i hi => ?_
    case wk0 =>
      rw [ht0]
      exact ⟨[0, 1], rfl, rfl, rfl, by (repeat (first | exact trivial | refine ⟨rfl, ?_⟩))⟩
    by_cases hiB : i < B.length
    · have hs2 := (hs i).out
      have hbm : B.getD i 0 = B[i] := by rw [List.getD_eq_getElem?_getD, List.getElem?_eq_getElem hiB]; rfl
      have hkm : K.getD i 0 = K[i]'(by omega) := by rw [List.getD_eq_getElem?_getD, List.getElem?_eq_getElem (show i < K.length by omega)]; rfl
      rw [hbm, hkm] at hs2
      have hle2 := hle i
      by_cases hz : K[i]'(by omega) = 0
      · rw [if_pos hz] at hs2
        replace hs2 := Lib.hid hs2
        clear hs hle
        generalize TM i = T at *
        (repeat' (first
  | (apply W.qd; (first
    | (apply q_mv; (first|exact vD|exact vO|exact vP|exact vA|exact vF|exact vR|exact vN|exact vY|exact vT|exact vM|exact vL|exact vX))|(apply q_as; (first|exact vD|exact vO|exact vP|exact vA|exact vF|exact vR|exact vN|exact vY|exact vT|exact vM|exact vL|exact vX))|(apply q_lss; exact rfl; exact rfl)|(apply q_neq; exact rfl; exact rfl)|(apply q_add; exact rfl; exact rfl; omega)|(apply q_len_sl; exact rfl; exact rfl)|(apply q_ld_map; (iterate 3 exact rfl); (first | omega | (focus (simp; done))))
    | (apply q_ix_slF; (iterate 4 exact rfl); (first | (with_reducible exact rfl) | exact natI_spec rfl | assumption | exact (Int.toNat_of_nonneg (by omega)).symm); (first | omega | (focus (simp only [List.length_map]; omega)) | (focus (simp; done)) | (focus (simp; omega))))))|(apply AWP.seq)|(apply ACont_normal)|(apply W.region; kernel_rfl)|(apply Walk.nil)|(apply AWP.block)|(apply AWP.skip)|(apply ABlock_normal)
  | (refine W.cond _ rfl (fun hb => ?_) (fun hb => ?_) <;> ((try simp only [hb, zA, zB]) <;> (try simp only [zC, zD, zE, zF, zG, zH, zI, zJ] at hb) <;> (try (exfalso; omega))))))
        refine ⟨i + 1, by omega, by omega, ?_⟩
        rw [hs2.out]
        exact ⟨[0, 1], rfl, rfl, rfl, iV_eq (by omega), rfl, rfl, rfl, rfl, trivial⟩
      · rw [if_neg hz] at hs2
        replace hs2 := Lib.hid hs2
        clear hs hle
        generalize TM i = T at *
        (repeat' (first
  | (apply W.qd; (first
    | (apply q_mv; (first|exact vD|exact vO|exact vP|exact vA|exact vF|exact vR|exact vN|exact vY|exact vT|exact vM|exact vL|exact vX))|(apply q_as; (first|exact vD|exact vO|exact vP|exact vA|exact vF|exact vR|exact vN|exact vY|exact vT|exact vM|exact vL|exact vX))|(apply q_lss; exact rfl; exact rfl)|(apply q_neq; exact rfl; exact rfl)|(apply q_add; exact rfl; exact rfl; omega)|(apply q_len_sl; exact rfl; exact rfl)|(apply q_ld_map; (iterate 3 exact rfl); (first | omega | (focus (simp; done))))|(apply q_buildF; exact rfl; exact rfl; kernel_rfl)|(apply q_litF; (iterate 5 exact rfl); kernel_rfl; kernel_rfl; exact rfl)
    | (apply q_ix_slF; (iterate 4 exact rfl); (first | (with_reducible exact rfl) | exact natI_spec rfl | assumption | exact (Int.toNat_of_nonneg (by omega)).symm); (first | omega | (focus (simp only [List.length_map]; omega)) | (focus (simp; done)) | (focus (simp; omega))))))|(apply W.ed; ((apply (e_app1F (f := tmD) (B[i], K[i]'(by omega))); (iterate 8 exact rfl); omega)))|(apply AWP.seq)|(apply ACont_normal)|(apply W.region; kernel_rfl)|(apply W.regionD; exact rfl; kernel_rfl)|(apply Walk.nil)|(apply W.chk; kernel_rfl)|(apply AWP.block)|(apply AWP.skip)|(apply ABlock_normal)
  | (refine W.cond _ rfl (fun hb => ?_) (fun hb => ?_) <;> ((try simp only [hb, zA, zB]) <;> (try simp only [zC, zD, zE, zF, zG, zH, zI, zJ] at hb) <;> (try (exfalso; omega))))))
        refine ⟨i + 1, by omega, by omega, ?_⟩
        rw [hs2.out, show (T ++ [(B[i], K[i]'(by omega))]).length = T.length + 1 by simp]
        exact ⟨[0, 1], rfl, rfl, rfl, iV_eq (by omega), rfl, rfl, congrArg (AV.osl 1 (T.length + 1) 0) (by simp), rfl, trivial⟩
    · have hiB3 : i = B.length := by omega
      subst hiB3
      clear hs hle
      generalize TM B.length = T at *
      (repeat' (first
  | (apply W.qd; (first
    | (apply q_mv; (first|exact vD|exact vO|exact vP|exact vA|exact vF|exact vR|exact vN|exact vY|exact vT|exact vM|exact vL|exact vX))|(apply q_as; (first|exact vD|exact vO|exact vP|exact vA|exact vF|exact vR|exact vN|exact vY|exact vT|exact vM|exact vL|exact vX))|(apply q_lss; exact rfl; exact rfl)
    | (apply q_len_sl; exact rfl; exact rfl)))|(apply AWP.seq)|(apply ACont_normal)|(apply W.region; kernel_rfl)|(apply Walk.nil)|(apply AWP.exit)|(apply AWP.ret)|(apply ACont_exit)|(apply ABlock_exit)
  | (refine W.cond _ rfl (fun hb => ?_) (fun hb => ?_) <;> ((try simp only [hb, zA, zB]) <;> (try simp only [zC, zD, zE, zF, zG, zH, zI, zJ] at hb) <;> (try (exfalso; omega))))))
      exact ⟨.inl rfl, [], [.osl 1 T.length 0 T.length, iV 0], rfl, rfl, ⟨rfl, rfl, trivial⟩, AVle.tup2 (AVle.of_eq (frz_rowJ rfl rfl (by simp))) (AVle.of_eq rfl), rfl⟩
theorem A_r8recov {l : List (Nat × Nat)} {e : Int} {M D : Int} {par : List (List Int)} {hv : List Bool} {u : Int} (hc : ACalls Tryz.prog 143 [cdA M D par, bools hv, iV u] [] (.tup [tmsA l, iV e]) []) : ACalls Tryz.prog 160 [cdA M D par, bools hv, iV u] [] (bV (decide (e = 0))) [] := by
  refine acalls_of_bodyO Tryz.func160 rfl (Nat.le_of_ble_eq_true rfl) ?_
  (repeat' (first
  | (apply W.qd; (first
    | (apply (q_callC (hc)); exact rfl; exact rfl; kernel_rfl; kernel_rfl; kernel_rfl)|(apply q_mv; (first|exact vD|exact vO|exact vP|exact vA|exact vF|exact vR|exact vN|exact vY|exact vT|exact vM|exact vL|exact vX))|(apply q_as; (first|exact vD|exact vO|exact vP|exact vA|exact vF|exact vR|exact vN|exact vY|exact vT|exact vM|exact vL|exact vX))|(apply q_ld_boxF; (iterate 4 exact rfl))|(apply q_eql; exact rfl; exact rfl)
    | (apply q_extract; exact rfl; exact rfl)))|(apply W.ed; (apply e_boxF; (iterate 3 exact rfl); kernel_rfl; kernel_rfl))|(apply AWP.seq)|(apply ACont_normal)|(apply W.region; kernel_rfl)|(apply Walk.nil)
  | (apply AWP.ret)))
  all_goals exact ⟨.inl rfl, [], [bV (decide (e = 0))], rfl, rfl, ⟨rfl, trivial⟩, AVle.of_eq rfl, rfl⟩
end Go.Proofs.YtaclmbbiegklcaaGreatDoor
end
section
/- The law ErasureBasisMatchesSpec: the walk. -/
namespace Go.Proofs.YtaclmbbiegklcaaGreatDoor
open Go.RowKit
set_option maxHeartbeats 4000000
set_option maxRecDepth 100000
attribute [local irreducible] Quiet Eff OpOk AWPG ACont ABlock ACalls AGoto
theorem A_r8decod {M D : Nat} {ps : List (List Nat)} {hv : List Bool} (h : CodeOk M D ps) (hl : hv.length = D + ps.length) : ACalls Tryz.prog 111 [cdN M D ps, bools hv] [] (bV (decide ((basisN M D ps hv).length = D))) [] := by
  refine acalls_of_bodyO Tryz.func111 rfl (Nat.le_of_ble_eq_true rfl) ?_
  have h1 := h.d
  have h2 := h.w
  have hw := A_r8widthN h
  rw [← hl] at hw
  have hmh : (hv.map tD).length = hv.length := List.length_map _
  have hfull := full_iff_rec h hl
  have hrec : ∀ i, i < hv.length → ACalls Tryz.prog 160 [cdN M D ps, bools hv, iV i] [] (bV (combN M D ps hv i).isSome) [] := fun i hi => by
    have hc := A_r8comb h hl (u := i) (by omega)
    rw [cdN_A] at hc ⊢
    cases hc2 : combN M D ps hv i with
    | none => rw [hc2] at hc; exact A_r8recov (l := []) (e := 11) hc
    | some l => rw [hc2] at hc; exact A_r8recov (l := l) (e := 0) hc
  rw [← hl] at hfull
  generalize combN M D ps hv = C at *
  generalize (basisN M D ps hv).length = BL at *
  (repeat' (first
  | (apply W.gOn; exact rfl; exact rfl)
  | (apply W.qd; (first
    | (apply (q_callC (hw)); exact rfl; exact rfl; kernel_rfl; kernel_rfl; kernel_rfl)|(apply q_mv; (first|exact vD|exact vO|exact vP|exact vA|exact vF|exact vR|exact vN|exact vY|exact vT|exact vM|exact vL|exact vX))|(apply q_as; (first|exact vD|exact vO|exact vP|exact vA|exact vF|exact vR|exact vN|exact vY|exact vT|exact vM|exact vL|exact vX))|(apply q_ld_boxF; (iterate 4 exact rfl))|(apply q_eql; exact rfl; exact rfl)|(apply q_neq; exact rfl; exact rfl)|(apply q_len_sl; exact rfl; exact rfl)
    | (apply (q_pickF (u := .d _)); exact rfl; exact rfl)))|(apply W.ed; (apply e_boxF; (iterate 3 exact rfl); kernel_rfl; kernel_rfl))|(apply AWP.seq)|(apply ACont_normal)|(apply (W.regionS 5); exact rfl; kernel_rfl)|(apply Walk.nil)|(apply AWP.block)|(apply AWP.skip)|(refine W.gF _ _ rfl rfl (fun hb => ?_) (fun hb => ?_) <;> ((try simp only [hb, zA, zB]) <;> (try simp only [zC, zD, zE, zF, zG, zH, zI, zJ] at hb) <;> (try (exfalso; omega))))
  | (refine W.cond _ rfl (fun hb => ?_) (fun hb => ?_) <;> ((try simp only [hb, zA, zB]) <;> (try simp only [zC, zD, zE, zF, zG, zH, zI, zJ] at hb) <;> (try (exfalso; omega))))))
  refine AWP.loopW (α := Nat) (fun k => k ≤ hv.length ∧ ∀ i, i < k → (C i).isSome = true) (fun k => ⟨[(6, iV k), (5, iV hv.length), (1, bools hv), (2, .opt 0 0)], [.box [.d .any, iV M, iV D, rowsN ps, .d .any]]⟩) (fun k => hv.length - k) 0 ⟨Nat.zero_le _, fun i hi => by omega⟩ ⟨[0], rfl, rfl, rfl, by (repeat (first | exact trivial | refine ⟨rfl, ?_⟩))⟩ fun k hk => ?_
  by_cases hkl : k < hv.length
  · have hr := hrec k hkl
    clear hrec
    cases hC : (C k).isSome with
    | true =>
      rw [hC] at hr
      (repeat' (first
  | (apply W.qd; (first
    | (apply (q_callC (hr)); exact rfl; exact rfl; kernel_rfl; kernel_rfl; kernel_rfl)|(apply q_mv; (first|exact vD|exact vO|exact vP|exact vA|exact vF|exact vR|exact vN|exact vY|exact vT|exact vM|exact vL|exact vX))|(apply q_as; (first|exact vD|exact vO|exact vP|exact vA|exact vF|exact vR|exact vN|exact vY|exact vT|exact vM|exact vL|exact vX))|(apply q_ld_boxF; (iterate 4 exact rfl))|(apply q_lss; exact rfl; exact rfl)|(apply q_not; exact rfl)
    | (apply q_add; exact rfl; exact rfl; omega)))|(apply AWP.seq)|(apply ACont_normal)|(apply W.region; kernel_rfl)|(apply Walk.nil)|(apply AWP.block)|(apply AWP.skip)|(apply ABlock_normal)|(apply W.condF; exact rfl)
  | (refine W.cond _ rfl (fun hb => ?_) (fun hb => ?_) <;> ((try simp only [hb, zA, zB]) <;> (try simp only [zC, zD, zE, zF, zG, zH, zI, zJ] at hb) <;> (try (exfalso; omega))))))
      exact ⟨k + 1, ⟨by omega, fun i hi => by
        by_cases e : i = k
        · rw [e]; exact hC
        · exact hk.2 i (by omega)⟩, by omega, [0], rfl, rfl, rfl, iV_eq (by omega), rfl, rfl, rfl, trivial⟩
    | false =>
      rw [hC] at hr
      have hne : ¬ BL = D := fun e => by
        have := hfull.1 e k hkl
        rw [hC] at this; cases this
      rw [decide_eq_false hne]
      (repeat' (first
  | (apply W.qd; (first
    | (apply (q_callC (hr)); exact rfl; exact rfl; kernel_rfl; kernel_rfl; kernel_rfl)|(apply q_mv; (first|exact vD|exact vO|exact vP|exact vA|exact vF|exact vR|exact vN|exact vY|exact vT|exact vM|exact vL|exact vX))|(apply q_as; (first|exact vD|exact vO|exact vP|exact vA|exact vF|exact vR|exact vN|exact vY|exact vT|exact vM|exact vL|exact vX))|(apply q_ld_boxF; (iterate 4 exact rfl))|(apply q_lss; exact rfl; exact rfl)
    | (apply q_not; exact rfl)))|(apply AWP.seq)|(apply ACont_normal)|(apply W.region; kernel_rfl)|(apply Walk.nil)|(apply AWP.block)|(apply AWP.skip)|(apply AWP.ret)|(apply ACont_ret)|(apply ABlock_ret)|(apply W.condT; exact rfl)
  | (refine W.cond _ rfl (fun hb => ?_) (fun hb => ?_) <;> ((try simp only [hb, zA, zB]) <;> (try simp only [zC, zD, zE, zF, zG, zH, zI, zJ] at hb) <;> (try (exfalso; omega))))))
      exact ⟨.inl rfl, [], [bV false], rfl, rfl, ⟨rfl, trivial⟩, AVle.of_eq rfl, rfl⟩
  · have hB : BL = D := hfull.2 fun u hu => hk.2 u (by omega)
    rw [decide_eq_true hB]
    clear hrec
    (repeat' (first
  | (apply W.qd; (first
    | (apply q_mv; (first|exact vD|exact vO|exact vP|exact vA|exact vF|exact vR|exact vN|exact vY|exact vT|exact vM|exact vL|exact vX))|(apply q_as; (first|exact vD|exact vO|exact vP|exact vA|exact vF|exact vR|exact vN|exact vY|exact vT|exact vM|exact vL|exact vX))
    | (apply q_lss; exact rfl; exact rfl)))|(apply AWP.seq)|(apply ACont_normal)|(apply W.region; kernel_rfl)|(apply Walk.nil)|(apply AWP.exit)|(apply AWP.ret)|(apply ACont_exit)|(apply ABlock_exit)
  | (refine W.cond _ rfl (fun hb => ?_) (fun hb => ?_) <;> ((try simp only [hb, zA, zB]) <;> (try simp only [zC, zD, zE, zF, zG, zH, zI, zJ] at hb) <;> (try (exfalso; omega))))))
    exact ⟨.inl rfl, [], [bV true], rfl, rfl, ⟨rfl, trivial⟩, AVle.of_eq rfl, rfl⟩
end Go.Proofs.YtaclmbbiegklcaaGreatDoor
end
section
/- Stable sorting, the plain law. No program in sight. -/
namespace Go.Proofs.YtaclmbbiegklcaaGreatDoor
structure Weak {α : Type} (lt : α → α → Bool) : Prop where
  irr : ∀ a, lt a a = false
  trans : ∀ a b c, lt a b = true → lt b c = true → lt a c = true
  neg : ∀ a b c, lt a c = true → lt a b = true ∨ lt b c = true
def eqvB {α : Type} (lt : α → α → Bool) (c x : α) : Bool := !lt c x && !lt x c
def Srt {α : Type} (lt : α → α → Bool) (l : List α) : Prop := l.Pairwise fun a b => lt b a = false
def Stb {α : Type} (lt : α → α → Bool) (X Z : List α) : Prop := ∀ c, Z.filter (eqvB lt c) = X.filter (eqvB lt c)
section
variable {α : Type} {lt : α → α → Bool}
theorem Weak.asymm (h : Weak lt) {a b : α} (h1 : lt a b = true) : lt b a = false := by
  cases h2 : lt b a with
  | false => rfl
  | true => have := h.trans _ _ _ h1 h2; rw [h.irr] at this; cases this
theorem Weak.le_trans (h : Weak lt) {a b c : α} (h1 : lt b a = false) (h2 : lt c b = false) : lt c a = false := by
  cases h3 : lt c a with
  | false => rfl
  | true => rcases h.neg c b a h3 with h4 | h4 <;> simp_all
theorem Weak.lt_le (h : Weak lt) {a b c : α} (h1 : lt a b = true) (h2 : lt c b = false) : lt a c = true := by
  rcases h.neg a c b h1 with h4 | h4
  · exact h4
  · rw [h2] at h4; cases h4
theorem Weak.le_lt (h : Weak lt) {a b c : α} (h1 : lt b a = false) (h2 : lt b c = true) : lt a c = true := by
  rcases h.neg b a c h2 with h4 | h4
  · rw [h1] at h4; cases h4
  · exact h4
theorem eqv_self (h : Weak lt) (c : α) : eqvB lt c c = true := by unfold eqvB; rw [h.irr]; rfl
theorem eqv_not_lt (h : Weak lt) {c x u : α} (h1 : eqvB lt c x = true) (h2 : eqvB lt c u = true) : lt x u = false := by
  unfold eqvB at h1 h2
  simp only [Bool.and_eq_true, Bool.not_eq_true'] at h1 h2
  cases h3 : lt x u with
  | false => rfl
  | true => rcases h.neg x c u h3 with h4 | h4 <;> simp_all
theorem Stb.refl (X : List α) : Stb lt X X := fun _ => rfl
theorem Stb.trans {X Y Z : List α} (h1 : Stb lt X Y) (h2 : Stb lt Y Z) : Stb lt X Z := fun c => (h2 c).trans (h1 c)
theorem Stb.symm {X Y : List α} (h1 : Stb lt X Y) : Stb lt Y X := fun c => (h1 c).symm
theorem Stb.app {X Z X' Z' : List α} (h1 : Stb lt X Z) (h2 : Stb lt X' Z') : Stb lt (X ++ X') (Z ++ Z') := fun c => by
  rw [List.filter_append, List.filter_append, h1 c, h2 c]
theorem Stb.mem (h : Weak lt) {X Z : List α} (h1 : Stb lt X Z) (x : α) : x ∈ Z ↔ x ∈ X := by
  have := h1 x
  constructor
  · intro hx
    have : x ∈ X.filter (eqvB lt x) := by rw [← this]; exact List.mem_filter.2 ⟨hx, eqv_self h x⟩
    exact (List.mem_filter.1 this).1
  · intro hx
    have : x ∈ Z.filter (eqvB lt x) := by rw [this]; exact List.mem_filter.2 ⟨hx, eqv_self h x⟩
    exact (List.mem_filter.1 this).1
theorem Stb.count [DecidableEq α] (h : Weak lt) {X Z : List α} (h1 : Stb lt X Z) (x : α) : Z.count x = X.count x := by
  rw [← List.count_filter (eqv_self h x), ← List.count_filter (l := X) (eqv_self h x), h1 x]
theorem Stb.len [DecidableEq α] (h : Weak lt) {X Z : List α} (h1 : Stb lt X Z) : Z.length = X.length :=
  (List.perm_iff_count.2 fun x => h1.count h x).length_eq
theorem Stb.swap (h : Weak lt) {U X : List α} (hx : ∀ x ∈ X, ∀ u ∈ U, lt x u = true) : Stb lt (U ++ X) (X ++ U) := fun c => by
  rw [List.filter_append, List.filter_append]
  by_cases hu : U.filter (eqvB lt c) = []
  · rw [hu]; simp
  · have : X.filter (eqvB lt c) = [] := by
      rw [List.filter_eq_nil_iff]
      intro x hxm hc
      obtain ⟨u, hum⟩ := List.exists_mem_of_ne_nil _ hu
      obtain ⟨h2, h3⟩ := List.mem_filter.1 hum
      have := hx x hxm u h2
      rw [eqv_not_lt h hc h3] at this
      cases this
    rw [this]; simp
theorem srt_app {X Y : List α} : Srt lt (X ++ Y) ↔ Srt lt X ∧ Srt lt Y ∧ ∀ x ∈ X, ∀ y ∈ Y, lt y x = false := List.pairwise_append
theorem Srt.left {X Y : List α} (h : Srt lt (X ++ Y)) : Srt lt X := (srt_app.1 h).1
theorem Srt.right {X Y : List α} (h : Srt lt (X ++ Y)) : Srt lt Y := (srt_app.1 h).2.1
theorem Srt.last (h : Weak lt) {X : List α} {u : α} (hs : Srt lt (X ++ [u])) {x : α} (hx : x ∈ X ++ [u]) : lt u x = false := by
  rcases List.mem_append.1 hx with h1 | h1
  · exact (srt_app.1 hs).2.2 x h1 u (by simp)
  · rw [List.mem_singleton.1 h1]; exact h.irr u
theorem Srt.head (h : Weak lt) {X : List α} {u : α} (hs : Srt lt (u :: X)) {x : α} (hx : x ∈ u :: X) : lt x u = false := by
  rcases List.mem_cons.1 hx with rfl | h1
  · exact h.irr x
  · exact (List.pairwise_cons.1 hs).1 x h1
theorem srt_unique (h : Weak lt) : ∀ {X Z : List α}, Srt lt X → Srt lt Z → Stb lt X Z → X = Z
  | [], [], _, _, _ => rfl
  | [], z :: Z, _, _, hs => by have := (hs.mem h z).1 (by simp); simp at this
  | x :: X, [], _, _, hs => by have := (hs.mem h x).2 (by simp); simp at this
  | x :: X, z :: Z, hx, hz, hs => by
    have h1 : lt z x = false := hx.head h ((hs.mem h z).1 (by simp))
    have h2 : lt x z = false := hz.head h ((hs.mem h x).2 (by simp))
    have h3 := hs x
    have e : x = z := by
      rw [List.filter_cons, List.filter_cons, if_pos (eqv_self h x), if_pos (by unfold eqvB; rw [h1, h2]; rfl)] at h3
      injection h3 with h4 _; exact h4.symm
    subst e
    have ih := srt_unique h (X := X) (Z := Z) (List.pairwise_cons.1 hx).2 (List.pairwise_cons.1 hz).2 fun c => by
      have h4 := hs c
      rw [List.filter_cons, List.filter_cons] at h4
      split at h4
      · injection h4
      · exact h4
    rw [ih]
theorem srt_insert (h : Weak lt) {A B : List α} {x : α} (hs : Srt lt (A ++ B)) (hA : ∀ a ∈ A, lt x a = false) (hB : ∀ b ∈ B, lt b x = false) : Srt lt (A ++ x :: B) := by
  obtain ⟨h1, h2, h3⟩ := srt_app.1 hs
  refine srt_app.2 ⟨h1, List.pairwise_cons.2 ⟨hB, h2⟩, fun a ha b hb => ?_⟩
  rcases List.mem_cons.1 hb with rfl | hb
  · exact hA a ha
  · exact h3 a ha b hb
theorem merge_cut (h : Weak lt) {X1 X2 Y1 Y2 Z1 Z2 : List α} (hX : Srt lt (X1 ++ X2)) (hY : Srt lt (Y1 ++ Y2)) (h1 : ∀ y ∈ Y1, ∀ x ∈ X2, lt y x = true) (h2 : ∀ x ∈ X1, ∀ y ∈ Y2, lt y x = false)
    (s1 : Srt lt Z1) (s2 : Srt lt Z2) (b1 : Stb lt (X1 ++ Y1) Z1) (b2 : Stb lt (X2 ++ Y2) Z2) : Srt lt (Z1 ++ Z2) ∧ Stb lt ((X1 ++ X2) ++ (Y1 ++ Y2)) (Z1 ++ Z2) := by
  constructor
  · refine srt_app.2 ⟨s1, s2, fun a ha b hb => ?_⟩
    rw [b1.mem h, List.mem_append] at ha
    rw [b2.mem h, List.mem_append] at hb
    rcases ha with ha | ha <;> rcases hb with hb | hb
    · exact (srt_app.1 hX).2.2 a ha b hb
    · exact h2 a ha b hb
    · exact h.asymm (h1 a ha b hb)
    · exact (srt_app.1 hY).2.2 a ha b hb
  · refine Stb.trans ?_ (b1.app b2)
    have := ((Stb.refl X1).app (Stb.swap (lt := lt) h (U := X2) (X := Y1) fun y hy x hx => h1 y hy x hx)).app (Stb.refl Y2)
    simpa [List.append_assoc] using this
def insN (lt : α → α → Bool) (x : α) : List α → List α
  | [] => [x]
  | y :: l => if lt y x = true then y :: insN lt x l else x :: y :: l
def sortN (lt : α → α → Bool) : List α → List α
  | [] => []
  | x :: l => insN lt x (sortN lt l)
theorem insN_form (h : Weak lt) (x : α) : ∀ {l : List α}, Srt lt l → ∃ A B, l = A ++ B ∧ insN lt x l = A ++ x :: B ∧ (∀ a ∈ A, lt a x = true) ∧ ∀ b ∈ B, lt b x = false
  | [], _ => ⟨[], [], rfl, rfl, by simp, by simp⟩
  | y :: l, hs => by
    unfold insN
    by_cases hy : lt y x = true
    · rw [if_pos hy]
      obtain ⟨A, B, rfl, e, h1, h2⟩ := insN_form h x (List.pairwise_cons.1 hs).2
      refine ⟨y :: A, B, rfl, by rw [e]; rfl, fun a ha => ?_, h2⟩
      rcases List.mem_cons.1 ha with rfl | ha
      · exact hy
      · exact h1 a ha
    · rw [if_neg hy]
      refine ⟨[], y :: l, rfl, rfl, by simp, fun b hb => ?_⟩
      have hy := Bool.eq_false_iff.2 hy
      rcases List.mem_cons.1 hb with rfl | hb
      · exact hy
      · exact h.le_trans hy ((List.pairwise_cons.1 hs).1 b hb)
theorem sortN_spec (h : Weak lt) : ∀ l : List α, Srt lt (sortN lt l) ∧ Stb lt l (sortN lt l)
  | [] => ⟨List.Pairwise.nil, Stb.refl _⟩
  | x :: l => by
    obtain ⟨h1, h2⟩ := sortN_spec h l
    unfold sortN
    obtain ⟨A, B, e, e2, hA, hB⟩ := insN_form h x h1
    rw [e2]
    rw [e] at h1 h2
    refine ⟨srt_insert h h1 (fun a ha => h.asymm (hA a ha)) hB, ?_⟩
    have k1 : Stb lt ([x] ++ l) ([x] ++ (A ++ B)) := (Stb.refl [x]).app h2
    have k2 : Stb lt (([x] ++ A) ++ B) ((A ++ [x]) ++ B) := (Stb.swap h (U := [x]) (X := A) fun a ha u hu => by rw [List.mem_singleton.1 hu]; exact hA a ha).app (Stb.refl B)
    refine Stb.trans k1 ?_
    simpa using k2
theorem sortN_eq (h : Weak lt) {l Z : List α} (h1 : Srt lt Z) (h2 : Stb lt l Z) : Z = sortN lt l := by
  obtain ⟨k1, k2⟩ := sortN_spec h l
  exact srt_unique h h1 k1 (h2.symm.trans k2)
theorem sortN_self (h : Weak lt) {l : List α} (h1 : Srt lt l) : sortN lt l = l := (sortN_eq h h1 (Stb.refl l)).symm
theorem insN_len (x : α) : ∀ l : List α, (insN lt x l).length = l.length + 1
  | [] => rfl
  | y :: l => by
    unfold insN
    split
    · simp [insN_len x l]
    · rfl
theorem sortN_len : ∀ l : List α, (sortN lt l).length = l.length
  | [] => rfl
  | x :: l => by unfold sortN; rw [insN_len, sortN_len l]; rfl
end
end Go.Proofs.YtaclmbbiegklcaaGreatDoor
end
section
/- The steps of the library's stable sort, as lists. No program in sight. -/
namespace Go.Proofs.YtaclmbbiegklcaaGreatDoor
def bsN (p : Nat → Bool) (lo hi : Nat) : Nat :=
  if h : lo < hi then (if p ((lo + hi) / 2) then bsN p lo ((lo + hi) / 2) else bsN p ((lo + hi) / 2 + 1) hi) else lo
termination_by hi - lo
theorem bs_spec (p : Nat → Bool) : ∀ (n lo hi : Nat), hi - lo ≤ n → lo ≤ hi → lo ≤ bsN p lo hi ∧ bsN p lo hi ≤ hi ∧ (lo < bsN p lo hi → p (bsN p lo hi - 1) = false) ∧ (bsN p lo hi < hi → p (bsN p lo hi) = true)
  | n, lo, hi, hn, h => by
    rw [bsN]
    by_cases hlt : lo < hi
    · rw [dif_pos hlt]
      cases hp : p ((lo + hi) / 2) with
      | true =>
        rw [if_pos rfl]
        obtain ⟨m, rfl⟩ : ∃ m, n = m + 1 := ⟨n - 1, by omega⟩
        obtain ⟨h1, h2, h3, h4⟩ := bs_spec p m lo ((lo + hi) / 2) (by omega) (by omega)
        refine ⟨h1, by omega, h3, fun hr => ?_⟩
        by_cases e : bsN p lo ((lo + hi) / 2) < (lo + hi) / 2
        · exact h4 e
        · rw [show bsN p lo ((lo + hi) / 2) = (lo + hi) / 2 by omega]; exact hp
      | false =>
        rw [if_neg (by decide)]
        obtain ⟨m, rfl⟩ : ∃ m, n = m + 1 := ⟨n - 1, by omega⟩
        obtain ⟨h1, h2, h3, h4⟩ := bs_spec p m ((lo + hi) / 2 + 1) hi (by omega) (by omega)
        refine ⟨by omega, h2, fun hr => ?_, h4⟩
        by_cases e : (lo + hi) / 2 + 1 < bsN p ((lo + hi) / 2 + 1) hi
        · exact h3 e
        · rw [show bsN p ((lo + hi) / 2 + 1) hi = (lo + hi) / 2 + 1 by omega]; exact hp
    · rw [dif_neg hlt]
      exact ⟨Nat.le_refl _, h, fun e => by omega, fun e => by omega⟩
theorem bs_done (p : Nat → Bool) {lo hi : Nat} (h : ¬ lo < hi) : bsN p lo hi = lo := by rw [bsN, dif_neg h]
theorem bs_left {p : Nat → Bool} {lo hi : Nat} (h : lo < hi) (hp : p ((lo + hi) / 2) = true) : bsN p lo hi = bsN p lo ((lo + hi) / 2) := by rw [bsN, dif_pos h, if_pos hp]
theorem bs_right {p : Nat → Bool} {lo hi : Nat} (h : lo < hi) (hp : p ((lo + hi) / 2) = false) : bsN p lo hi = bsN p ((lo + hi) / 2 + 1) hi := by rw [bsN, dif_pos h, if_neg (by rw [hp]; decide)]
section
variable {α : Type}
def swpN (d : α) (L : List α) (a b : Nat) : List α := (L.set a (L.getD b d)).set b (L.getD a d)
theorem set_mid (P S : List α) (x y : α) : (P ++ x :: S).set P.length y = P ++ y :: S := by
  rw [List.set_append_right _ _ (Nat.le_refl _), Nat.sub_self]; rfl
theorem getD_mid (d : α) (P S : List α) (x : α) : (P ++ x :: S).getD P.length d = x := by
  rw [List.getD_eq_getElem?_getD, List.getElem?_append_right (Nat.le_refl _), Nat.sub_self]; rfl
theorem swp_mid (d : α) (P M S : List α) (u v : α) : swpN d (P ++ u :: (M ++ v :: S)) P.length (P.length + 1 + M.length) = P ++ v :: (M ++ u :: S) := by
  have e1 : P ++ u :: (M ++ v :: S) = (P ++ u :: M) ++ v :: S := by simp
  have e2 : P.length + 1 + M.length = (P ++ u :: M).length := by simp; omega
  unfold swpN
  rw [getD_mid]
  rw [e1, e2, getD_mid, ← e1, set_mid]
  have e3 : P ++ v :: (M ++ v :: S) = (P ++ v :: M) ++ v :: S := by simp
  rw [e3, show (P ++ u :: M).length = (P ++ v :: M).length by simp, set_mid]
  simp
theorem swp_comm (d : α) (L : List α) (a b : Nat) (h : a ≠ b) : swpN d L a b = swpN d L b a := by
  unfold swpN
  exact List.set_comm _ _ h
theorem swp_adj (d : α) (P S : List α) (u v : α) : swpN d (P ++ u :: v :: S) P.length (P.length + 1) = P ++ v :: u :: S := swp_mid d P [] S u v
theorem swp_adj' (d : α) (P S : List α) (u v : α) : swpN d (P ++ u :: v :: S) (P.length + 1) P.length = P ++ v :: u :: S := by
  rw [swp_comm d _ _ _ (by omega)]; exact swp_adj d P S u v
def swpF (d : α) : Nat → List α → Nat → Nat → List α
  | 0, L, _, _ => L
  | n + 1, L, a, b => swpF d n (swpN d L a b) (a + 1) (b + 1)
theorem swpF_block (d : α) : ∀ (U V P M S : List α), U.length = V.length → swpF d U.length (P ++ (U ++ (M ++ (V ++ S)))) P.length (P.length + U.length + M.length) = P ++ (V ++ (M ++ (U ++ S)))
  | [], [], P, M, S, _ => by simp [swpF]
  | [], _ :: _, P, M, S, h => by simp at h
  | _ :: _, [], P, M, S, h => by simp at h
  | u :: U, v :: V, P, M, S, h => by
    have h2 : U.length = V.length := by simpa using h
    have e0 : P ++ ((u :: U) ++ (M ++ ((v :: V) ++ S))) = P ++ u :: ((U ++ M) ++ v :: (V ++ S)) := by simp
    have e1 : P.length + (u :: U).length + M.length = P.length + 1 + (U ++ M).length := by simp; omega
    rw [List.length_cons, swpF, e0]
    rw [show P.length + (U.length + 1) + M.length = P.length + 1 + (U ++ M).length by simp; omega, swp_mid]
    have ih := swpF_block d U V (P ++ [v]) (M ++ [u]) S h2
    have e2 : P ++ v :: ((U ++ M) ++ u :: (V ++ S)) = (P ++ [v]) ++ (U ++ ((M ++ [u]) ++ (V ++ S))) := by simp
    rw [e2, show P.length + 1 = (P ++ [v]).length by simp, show (P ++ [v]).length + (U ++ M).length + 1 = (P ++ [v]).length + U.length + (M ++ [u]).length by simp; omega, ih]
    simp
def Blk (lt : α → α → Bool) (s : Nat) (Q : List α) : Prop := ∀ i, Srt lt ((Q.drop (i * s)).take s)
theorem blk_nil (lt : α → α → Bool) (s : Nat) : Blk lt s [] := fun i => by simp [Srt]
theorem blk_app {lt : α → α → Bool} {s k : Nat} {Q S : List α} (h : Blk lt s Q) (hl : Q.length = k * s) (hs : S.length ≤ s) (h2 : Srt lt S) : Blk lt s (Q ++ S) := fun i => by
  rcases Nat.lt_trichotomy i k with h1 | h1 | h1
  · have h3 := h i
    have h4 : i * s + s ≤ Q.length := by
      rw [hl]
      have := Nat.mul_le_mul_right s (show i + 1 ≤ k from h1)
      rwa [Nat.succ_mul] at this
    rw [List.drop_append_of_le_length (by omega), List.take_append_of_le_length (by rw [List.length_drop]; omega)]
    exact h3
  · subst h1
    rw [← hl, List.drop_left, List.take_of_length_le hs]
    exact h2
  · have h4 : k * s + s ≤ i * s := by
      have := Nat.mul_le_mul_right s (show k + 1 ≤ i from h1)
      rwa [Nat.succ_mul] at this
    rw [List.drop_eq_nil_of_le (by rw [List.length_append]; omega)]
    simp [Srt]
theorem blk_whole {lt : α → α → Bool} {s : Nat} {Q : List α} (h : Blk lt s Q) (hs : Q.length ≤ s) : Srt lt Q := by
  have := h 0
  rw [Nat.zero_mul, List.drop_zero, List.take_of_length_le hs] at this
  exact this
end
end Go.Proofs.YtaclmbbiegklcaaGreatDoor
end
section
/- Layer 7 over the machine of abstract values: is a code valid, with its name and its domain? slices.Min, slices.Max. -/
namespace Go.Proofs.YtaclmbbiegklcaaGreatDoor
open Go.RowKit
set_option maxHeartbeats 4000000
set_option maxRecDepth 100000
def letB (c : Nat) : Bool := decide (97 ≤ c) && decide (c ≤ 122)
def digB (c : Nat) : Bool := decide (48 ≤ c) && decide (c ≤ 57)
def wordAt (s : List Nat) (k : Nat) : Bool := letB (s.getD k 0) || (decide (k ≠ 0) && digB (s.getD k 0))
def wordB (s : List Nat) : Bool := decide (s ≠ []) && (List.range s.length).all (wordAt s)
def minK (l : List Int) : Nat → Int
  | 0 => l.getD 0 0
  | k + 1 => if l.getD (k + 1) 0 < minK l k then l.getD (k + 1) 0 else minK l k
def maxK (l : List Int) : Nat → Int
  | 0 => l.getD 0 0
  | k + 1 => if l.getD (k + 1) 0 > maxK l k then l.getD (k + 1) 0 else maxK l k
theorem minK_spec (l : List Int) : ∀ k, (∀ j, j ≤ k → minK l k ≤ l.getD j 0) ∧ ∃ j, j ≤ k ∧ minK l k = l.getD j 0
  | 0 => ⟨fun j hj => by obtain rfl : j = 0 := by omega
                         exact Int.le_refl _, 0, Nat.le_refl _, rfl⟩
  | k + 1 => by
    obtain ⟨h1, j, h2, h3⟩ := minK_spec l k
    unfold minK
    split
    · refine ⟨fun j hj => ?_, k + 1, Nat.le_refl _, rfl⟩
      by_cases e : j = k + 1
      · subst e; exact Int.le_refl _
      · have := h1 j (by omega); omega
    · refine ⟨fun j hj => ?_, j, by omega, h3⟩
      by_cases e : j = k + 1
      · subst e; omega
      · exact h1 j (by omega)
theorem maxK_spec (l : List Int) : ∀ k, (∀ j, j ≤ k → l.getD j 0 ≤ maxK l k) ∧ ∃ j, j ≤ k ∧ maxK l k = l.getD j 0
  | 0 => ⟨fun j hj => by obtain rfl : j = 0 := by omega
                         exact Int.le_refl _, 0, Nat.le_refl _, rfl⟩
  | k + 1 => by
    obtain ⟨h1, j, h2, h3⟩ := maxK_spec l k
    unfold maxK
    split
    · refine ⟨fun j hj => ?_, k + 1, Nat.le_refl _, rfl⟩
      by_cases e : j = k + 1
      · subst e; exact Int.le_refl _
      · have := h1 j (by omega); omega
    · refine ⟨fun j hj => ?_, j, by omega, h3⟩
      by_cases e : j = k + 1
      · subst e; omega
      · exact h1 j (by omega)
theorem getDI_mem {l : List Int} {j : Nat} (h : j < l.length) : l.getD j 0 ∈ l := by
  rw [List.getD_eq_getElem?_getD, List.getElem?_eq_getElem h]; exact List.getElem_mem h
theorem memI_getD {l : List Int} {x : Int} (h : x ∈ l) : ∃ j, j < l.length ∧ l.getD j 0 = x := by
  obtain ⟨j, hj, rfl⟩ := List.getElem_of_mem h
  exact ⟨j, hj, by rw [List.getD_eq_getElem?_getD, List.getElem?_eq_getElem hj]; rfl⟩
theorem rowOk_min {M D : Int} {r : List Int} (hM : M = 8 ∨ M = 16) (hl : (r.length : Int) = D) (h0 : 0 < r.length) : rowOk M D r = (decide (0 ≤ minK r (r.length - 1)) && (decide (1 ≤ maxK r (r.length - 1)) && decide (maxK r (r.length - 1) < if M = 8 then 256 else 65536))) := by
  obtain ⟨n1, i, n2, n3⟩ := minK_spec r (r.length - 1)
  obtain ⟨x1, j, x2, x3⟩ := maxK_spec r (r.length - 1)
  unfold rowOk
  rw [decide_eq_true hl, Bool.true_and, Bool.eq_iff_iff]
  simp only [Bool.and_eq_true, decide_eq_true_eq, List.all_eq_true, Bool.not_eq_true', List.all_eq_false, allF, inF, List.all_cons, List.all_nil, Bool.and_true]
  constructor
  · rintro ⟨h1, x, hx, h2⟩
    have hi := h1 _ (getDI_mem (l := r) (j := i) (by omega))
    have hj := h1 _ (getDI_mem (l := r) (j := j) (by omega))
    obtain ⟨q, hq, rfl⟩ := memI_getD hx
    have h3 := (h1 _ hx).2.1
    have h4 := x1 q (by omega)
    refine ⟨by rw [n3]; exact hi.2.1, by omega, by rw [x3]; exact hj.2.2⟩
  · rintro ⟨h1, h2, h3⟩
    refine ⟨fun x hx => ?_, r.getD j 0, getDI_mem (by omega), by rw [← x3]; omega⟩
    obtain ⟨q, hq, rfl⟩ := memI_getD hx
    have h4 := n1 q (by omega)
    have h5 := x1 q (by omega)
    exact ⟨hM, by omega, by omega⟩
def chkC (nm : List Nat) (M D : Int) (par : List (List Int)) (dom : Int) : Bool :=
  (wordB nm && decide (nm.length ≤ 12)) && (decide (M = 8 ∨ M = 16) && decide (1 ≤ D) && decide (D ≤ 31) && decide (par.length ≠ 0) && decide (D + (par.length : Int) ≤ 32)) && par.all (rowOk M D) && (decide (1 ≤ dom) && decide (dom ≤ D + (par.length : Int)))
theorem chk_valid {nm : List Nat} {M D dom : Int} {par : List (List Int)} (h : chkC nm M D par dom = true) : validC M D par = true := by
  unfold chkC at h
  simp only [Bool.and_eq_true, decide_eq_true_eq] at h
  obtain ⟨⟨⟨h1, ⟨⟨⟨h2, h3⟩, h4⟩, h5⟩, h6⟩, h7⟩, h8⟩ := h
  unfold validC
  simp only [Bool.and_eq_true, decide_eq_true_eq]
  refine ⟨⟨⟨⟨?_, h3⟩, by omega⟩, by omega⟩, h7⟩
  unfold allF
  rw [decide_eq_true h2]
  rcases h2 with rfl | rfl <;> rfl
abbrev cdF (nm : List Nat) (M D : Int) (par : List (List Int)) (dom : Int) : AV := .agg [bS nm, iV M, iV D, rowsA par, iV dom]
theorem cdF_le {nm : List Nat} {M D dom : Int} {par : List (List Int)} {F : Nat → Prop} {own : List Ent} {κ : List (Option Nat)} {w : World} {u : Value} (h : AV.sat F own κ w (cdF nm M D par dom) u) : AV.sat F own κ w (cdA M D par) u := by
  rw [AV.sat] at h ⊢
  obtain ⟨us, h1, h2⟩ := h
  refine ⟨us, h1, ?_⟩
  generalize us.toList = l at h2
  rcases l with _ | ⟨a, _ | ⟨b, _ | ⟨c, _ | ⟨d, _ | ⟨e, l⟩⟩⟩⟩⟩ <;> simp only [AV.satL, and_false, and_assoc] at h2 ⊢
  obtain ⟨h3, h4, h5, h6, h7, h8⟩ := h2
  rw [sat_v] at h3 h7
  subst h3; subst h7
  refine ⟨?_, h4, h5, h6, ?_, h8⟩
  · rw [AV.sat, Dat.sat]; rfl
  · rw [AV.sat, Dat.sat]; rfl
theorem ACalls.cdF {P : Program} {f : FuncId} {nm : List Nat} {M D dom : Int} {par : List (List Int)} {l : List AV} {r : AV} {own own' : List Ent} (h : ACalls P f (cdA M D par :: l) own r own') : ACalls P f (cdF nm M D par dom :: l) own r own' :=
  h.le fun F κ w vs => satL_le1 (fun F own κ w u => cdF_le) F own κ w vs
attribute [local irreducible] Quiet Eff OpOk AWPG ACont ABlock ACalls AGoto
theorem A_letter (c : Nat) : ACalls Tryz.prog 149 [.d (.v (.int .u8 c))] [] (bV (letB c)) [] := by
  refine acalls_of_body Tryz.func149 rfl (Nat.le_of_ble_eq_true rfl) ?_
  unfold letB
  (repeat' (first
  | (apply W.gOn; exact rfl; exact rfl)
  | (apply W.qd; (first
    | (apply q_mv; (first|exact vD|exact vO|exact vP|exact vA|exact vF|exact vR|exact vN|exact vY|exact vT|exact vM|exact vL|exact vX))|(apply q_as; (first|exact vD|exact vO|exact vP|exact vA|exact vF|exact vR|exact vN|exact vY|exact vT|exact vM|exact vL|exact vX))|(apply q_leq; exact rfl; exact rfl)|(apply q_geq; exact rfl; exact rfl)|(apply (q_pickT (u := .d _)); exact rfl; exact rfl)
    | (apply (q_pickF (u := .d _)); exact rfl; exact rfl)))|(refine W.gOff _ _ rfl rfl (by intro h; cases h) ?_)|(apply AWP.seq)|(apply ACont_normal)|(apply W.region; kernel_rfl)|(apply Walk.nil)|(apply AWP.ret)
  | (refine W.gT _ _ rfl rfl (fun hb => ?_) (fun hb => ?_) <;> ((try simp only [hb, zA, zB]) <;> (try simp only [zC, zD, zE, zF, zG, zH, zI, zJ] at hb) <;> (try (exfalso; omega))))))
  all_goals refine Ends.b rfl ?_
  all_goals first | (rw [Bool.eq_iff_iff]; simp; omega) | (simp; omega)
theorem A_digit (c : Nat) : ACalls Tryz.prog 150 [.d (.v (.int .u8 c))] [] (bV (digB c)) [] := by
  refine acalls_of_body Tryz.func150 rfl (Nat.le_of_ble_eq_true rfl) ?_
  unfold digB
  (repeat' (first
  | (apply W.gOn; exact rfl; exact rfl)
  | (apply W.qd; (first
    | (apply q_mv; (first|exact vD|exact vO|exact vP|exact vA|exact vF|exact vR|exact vN|exact vY|exact vT|exact vM|exact vL|exact vX))|(apply q_as; (first|exact vD|exact vO|exact vP|exact vA|exact vF|exact vR|exact vN|exact vY|exact vT|exact vM|exact vL|exact vX))|(apply q_leq; exact rfl; exact rfl)|(apply q_geq; exact rfl; exact rfl)|(apply (q_pickT (u := .d _)); exact rfl; exact rfl)
    | (apply (q_pickF (u := .d _)); exact rfl; exact rfl)))|(refine W.gOff _ _ rfl rfl (by intro h; cases h) ?_)|(apply AWP.seq)|(apply ACont_normal)|(apply W.region; kernel_rfl)|(apply Walk.nil)|(apply AWP.ret)
  | (refine W.gT _ _ rfl rfl (fun hb => ?_) (fun hb => ?_) <;> ((try simp only [hb, zA, zB]) <;> (try simp only [zC, zD, zE, zF, zG, zH, zI, zJ] at hb) <;> (try (exfalso; omega))))))
  all_goals refine Ends.b rfl ?_
  all_goals first | (rw [Bool.eq_iff_iff]; simp; omega) | (simp; omega)
theorem A_isField (M : Int) : ACalls Tryz.prog 94 [iV M] [] (bV (decide (M = 8 ∨ M = 16))) [] := by
  refine acalls_of_body Tryz.func94 rfl (Nat.le_of_ble_eq_true rfl) ?_
  (repeat' (first
  | (apply W.gOn; exact rfl; exact rfl)
  | (apply W.qd; (first
    | (apply q_mv; (first|exact vD|exact vO|exact vP|exact vA|exact vF|exact vR|exact vN|exact vY|exact vT|exact vM|exact vL|exact vX))|(apply q_as; (first|exact vD|exact vO|exact vP|exact vA|exact vF|exact vR|exact vN|exact vY|exact vT|exact vM|exact vL|exact vX))|(apply q_eql; exact rfl; exact rfl)|(apply (q_pickT (u := .d _)); exact rfl; exact rfl)
    | (apply (q_pickF (u := .d _)); exact rfl; exact rfl)))|(refine W.gOff _ _ rfl rfl (by intro h; cases h) ?_)|(apply AWP.seq)|(apply ACont_normal)|(apply W.region; kernel_rfl)|(apply Walk.nil)|(apply AWP.ret)
  | (refine W.gF _ _ rfl rfl (fun hb => ?_) (fun hb => ?_) <;> ((try simp only [hb, zA, zB]) <;> (try simp only [zC, zD, zE, zF, zG, zH, zI, zJ] at hb) <;> (try (exfalso; omega))))))
  all_goals refine Ends.b rfl ?_
  all_goals first | (rw [Bool.eq_iff_iff]; simp; omega) | (simp; omega)
theorem A_isWord {s : List Nat} (hs : isB s) (hl : s.length < 9223372036854775808) : ACalls Tryz.prog 93 [bS s] [] (bV (wordB s)) [] := by
  refine acalls_of_body Tryz.func93 rfl (Nat.le_of_ble_eq_true rfl) ?_
  have hL := A_letter
  have hG := A_digit
  (repeat' (first
  | (apply W.qd; (first
    | (apply q_mv; (first|exact vD|exact vO|exact vP|exact vA|exact vF|exact vR|exact vN|exact vY|exact vT|exact vM|exact vL|exact vX))|(apply q_as; (first|exact vD|exact vO|exact vP|exact vA|exact vF|exact vR|exact vN|exact vY|exact vT|exact vM|exact vL|exact vX))
    | (apply q_len_bs; exact rfl; exact rfl)))|(apply AWP.seq)|(apply ACont_normal)|(apply (W.regionS 2); exact rfl; kernel_rfl)|(apply Walk.nil)
  | (apply AWP.block)))
  refine AWP.loopW (α := Nat) (fun k => k ≤ s.length ∧ ∀ j, j < k → wordAt s j = true) (fun k => ⟨[(6, iV k), (5, iV s.length), (0, bS s)], []⟩) (fun k => s.length - k) 0 ⟨Nat.zero_le _, fun j hj => by omega⟩ ⟨[], rfl, rfl, rfl, by (repeat (first | exact trivial | refine ⟨rfl, ?_⟩))⟩ fun k hk => ?_
  by_cases hkl : k < s.length
  · have eg : s.getD k 0 = s[k] := by rw [List.getD_eq_getElem?_getD, List.getElem?_eq_getElem hkl]; rfl
    have hnext : wordAt s k = true → ∀ j, j < k + 1 → wordAt s j = true := fun h j hj => by
      by_cases e : j = k
      · subst e; exact h
      · exact hk.2 j (by omega)
    have hbad : wordAt s k = false → wordB s = false := fun h => by
      unfold wordB
      rw [Bool.and_eq_false_iff]
      right
      rw [List.all_eq_false]
      exact ⟨k, List.mem_range.2 hkl, by rw [h]; decide⟩
    have hwa : wordAt s k = (letB s[k] || (decide (k ≠ 0) && digB s[k])) := by unfold wordAt; rw [eg]
    replace hwa := Lib.hid hwa
    (repeat' (first
  | (apply W.gOn; exact rfl; exact rfl)
  | (apply W.qd; (first
    | (apply (q_callC (hL s[k])); exact rfl; exact rfl; kernel_rfl; kernel_rfl; kernel_rfl)|(apply (q_callC (hG s[k])); exact rfl; exact rfl; kernel_rfl; kernel_rfl; kernel_rfl)|(apply q_mv; (first|exact vD|exact vO|exact vP|exact vA|exact vF|exact vR|exact vN|exact vY|exact vT|exact vM|exact vL|exact vX))|(apply q_as; (first|exact vD|exact vO|exact vP|exact vA|exact vF|exact vR|exact vN|exact vY|exact vT|exact vM|exact vL|exact vX))|(apply q_lss; exact rfl; exact rfl)|(apply q_eql; exact rfl; exact rfl)|(apply q_not; exact rfl)|(apply q_add; exact rfl; exact rfl; omega)|(apply q_ix_bs; (iterate 3 exact rfl); (first | (with_reducible exact rfl) | exact natI_spec rfl | assumption | exact (Int.toNat_of_nonneg (by omega)).symm); (first | omega | (focus (simp only [List.length_map]; omega)) | (focus (simp; done)) | (focus (simp; omega))); assumption)|(apply (q_pickT (u := .d _)); exact rfl; exact rfl)
    | (apply (q_pickF (u := .d _)); exact rfl; exact rfl)))|(refine W.gOff _ _ rfl rfl (by intro h; cases h) ?_)|(apply AWP.seq)|(apply ACont_normal)|(apply W.region; kernel_rfl)|(apply Walk.nil)|(apply AWP.block)|(apply AWP.skip)|(apply AWP.ret)|(apply ACont_ret)|(apply ABlock_normal)|(apply ABlock_ret)|(apply W.condT; exact rfl)|(apply W.condF; exact rfl)|(refine W.gT _ _ rfl rfl (fun hb => ?_) (fun hb => ?_) <;> ((try simp only [hb, zA, zB]) <;> (try simp only [zC, zD, zE, zF, zG, zH, zI, zJ] at hb) <;> (try (exfalso; omega))))|(refine W.gF _ _ rfl rfl (fun hb => ?_) (fun hb => ?_) <;> ((try simp only [hb, zA, zB]) <;> (try simp only [zC, zD, zE, zF, zG, zH, zI, zJ] at hb) <;> (try (exfalso; omega))))
  | (refine W.cond _ rfl (fun hb => ?_) (fun hb => ?_) <;> ((try simp only [hb, zA, zB]) <;> (try simp only [zC, zD, zE, zF, zG, zH, zI, zJ] at hb) <;> (try (exfalso; omega))))))
    all_goals first
      | (refine Ends.b rfl (hbad ?_).symm; rw [hwa.out, Bool.or_eq_false_iff, Bool.and_eq_false_iff]; exact ⟨by assumption, by first | exact .inl (decide_eq_false (by omega)) | exact .inr (by assumption)⟩)|(refine ⟨k + 1, ⟨by omega, hnext ?_⟩, by omega, [], rfl, rfl, rfl, iV_eq (by omega), rfl, rfl, trivial⟩; rw [hwa.out, Bool.or_eq_true, Bool.and_eq_true]; first | exact .inl (by assumption) | exact .inr ⟨decide_eq_true (by omega), by assumption⟩)
  · have hall : (List.range s.length).all (wordAt s) = true := by
      rw [List.all_eq_true]
      intro j hj
      exact hk.2 j (by have := List.mem_range.1 hj; omega)
    unfold wordB
    rw [hall, Bool.and_true]
    (repeat' (first
  | (apply W.qd; (first
    | ((apply (q_neqS (l' := [])); exact rfl; exact rfl; assumption; exact isB_nil))|(apply q_mv; (first|exact vD|exact vO|exact vP|exact vA|exact vF|exact vR|exact vN|exact vY|exact vT|exact vM|exact vL|exact vX))|(apply q_as; (first|exact vD|exact vO|exact vP|exact vA|exact vF|exact vR|exact vN|exact vY|exact vT|exact vM|exact vL|exact vX))
    | (apply q_lss; exact rfl; exact rfl)))|(apply AWP.seq)|(apply ACont_normal)|(apply W.region; kernel_rfl)|(apply Walk.nil)|(apply AWP.exit)|(apply AWP.ret)|(apply ACont_exit)|(apply ABlock_exit)
  | (refine W.cond _ rfl (fun hb => ?_) (fun hb => ?_) <;> ((try simp only [hb, zA, zB]) <;> (try simp only [zC, zD, zE, zF, zG, zH, zI, zJ] at hb) <;> (try (exfalso; omega))))))
    refine Ends.b rfl ?_
    simp
theorem A_minI {l : List Int} (h0 : 0 < l.length) (hl : l.length ≤ 1000000) : ACalls Tryz.prog 95 [ints l] [] (iV (minK l (l.length - 1))) [] := by
  refine acalls_of_body Tryz.func95 rfl (Nat.le_of_ble_eq_true rfl) ?_
  have hml : (l.map iD).length = l.length := List.length_map _
  have e0 : minK l 0 = l[0] := by show l.getD 0 0 = _; rw [List.getD_eq_getElem?_getD, List.getElem?_eq_getElem h0]; rfl
  (repeat' (first
  | (apply W.qd; (first
    | (apply q_mv; (first|exact vD|exact vO|exact vP|exact vA|exact vF|exact vR|exact vN|exact vY|exact vT|exact vM|exact vL|exact vX))|(apply q_as; (first|exact vD|exact vO|exact vP|exact vA|exact vF|exact vR|exact vN|exact vY|exact vT|exact vM|exact vL|exact vX))|(apply q_lss; exact rfl; exact rfl)|(apply q_len_sl; exact rfl; exact rfl)|(apply q_ld_map; (iterate 3 exact rfl); (first | omega | (focus (simp; done))))
    | (apply q_ix_slF; (iterate 4 exact rfl); (first | (with_reducible exact rfl) | exact natI_spec rfl | assumption | exact (Int.toNat_of_nonneg (by omega)).symm); (first | omega | (focus (simp only [List.length_map]; omega)) | (focus (simp; done)) | (focus (simp; omega))))))|(apply AWP.seq)|(apply ACont_normal)|(apply (W.regionS 5); exact rfl; kernel_rfl)|(apply Walk.nil)|(apply AWP.block)|(apply AWP.skip)
  | (refine W.cond _ rfl (fun hb => ?_) (fun hb => ?_) <;> ((try simp only [hb, zA, zB]) <;> (try simp only [zC, zD, zE, zF, zG, zH, zI, zJ] at hb) <;> (try (exfalso; omega))))))
  refine AWP.loopW (α := Nat) (fun k => k < l.length) (fun k => ⟨[(4, iV ((k + 1 : Nat) : Int)), (3, iV (minK l k)), (0, ints l)], []⟩) (fun k => l.length - k) 0 h0 (by rw [e0]; exact ⟨[], rfl, rfl, rfl, by (repeat (first | exact trivial | refine ⟨rfl, ?_⟩))⟩) fun k hk => ?_
  by_cases hkl : k + 1 < l.length
  · have e1 : minK l (k + 1) = if l[k + 1] < minK l k then l[k + 1] else minK l k := by
      show (if l.getD (k + 1) 0 < minK l k then l.getD (k + 1) 0 else minK l k) = _
      have : l.getD (k + 1) 0 = l[k + 1] := by rw [List.getD_eq_getElem?_getD, List.getElem?_eq_getElem hkl]; rfl
      rw [this]
    replace e1 := Lib.hid e1
    generalize minK l k = a at *
    (repeat' (first
  | (apply W.qd; (first
    | (apply q_mv; (first|exact vD|exact vO|exact vP|exact vA|exact vF|exact vR|exact vN|exact vY|exact vT|exact vM|exact vL|exact vX))|(apply q_as; (first|exact vD|exact vO|exact vP|exact vA|exact vF|exact vR|exact vN|exact vY|exact vT|exact vM|exact vL|exact vX))|(apply q_lss; exact rfl; exact rfl)|(apply q_add; exact rfl; exact rfl; omega)|(apply q_len_sl; exact rfl; exact rfl)|(apply q_ld_map; (iterate 3 exact rfl); (first | omega | (focus (simp; done))))|(apply q_ix_slF; (iterate 4 exact rfl); (first | (with_reducible exact rfl) | exact natI_spec rfl | assumption | exact (Int.toNat_of_nonneg (by omega)).symm); (first | omega | (focus (simp only [List.length_map]; omega)) | (focus (simp; done)) | (focus (simp; omega))))
    | (apply q_min; exact rfl; exact rfl)))|(apply AWP.seq)|(apply ACont_normal)|(apply W.region; kernel_rfl)|(apply Walk.nil)|(apply AWP.block)|(apply AWP.skip)|(apply ABlock_normal)
  | (refine W.cond _ rfl (fun hb => ?_) (fun hb => ?_) <;> ((try simp only [hb, zA, zB]) <;> (try simp only [zC, zD, zE, zF, zG, zH, zI, zJ] at hb) <;> (try (exfalso; omega))))))
    refine ⟨k + 1, hkl, by omega, ?_⟩
    rw [e1.out]
    exact ⟨[], rfl, rfl, rfl, iV_eq (by omega), rfl, rfl, trivial⟩
  · have : k = l.length - 1 := by omega
    subst this
    generalize minK l (l.length - 1) = a at *
    (repeat' (first
  | (apply W.qd; (first
    | (apply q_mv; (first|exact vD|exact vO|exact vP|exact vA|exact vF|exact vR|exact vN|exact vY|exact vT|exact vM|exact vL|exact vX))|(apply q_as; (first|exact vD|exact vO|exact vP|exact vA|exact vF|exact vR|exact vN|exact vY|exact vT|exact vM|exact vL|exact vX))|(apply q_lss; exact rfl; exact rfl)
    | (apply q_len_sl; exact rfl; exact rfl)))|(apply AWP.seq)|(apply ACont_normal)|(apply W.region; kernel_rfl)|(apply Walk.nil)|(apply AWP.exit)|(apply AWP.ret)|(apply ACont_exit)|(apply ABlock_exit)
  | (refine W.cond _ rfl (fun hb => ?_) (fun hb => ?_) <;> ((try simp only [hb, zA, zB]) <;> (try simp only [zC, zD, zE, zF, zG, zH, zI, zJ] at hb) <;> (try (exfalso; omega))))))
    exact Ends.i rfl rfl
theorem A_maxI {l : List Int} (h0 : 0 < l.length) (hl : l.length ≤ 1000000) : ACalls Tryz.prog 96 [ints l] [] (iV (maxK l (l.length - 1))) [] := by
  refine acalls_of_body Tryz.func96 rfl (Nat.le_of_ble_eq_true rfl) ?_
  have hml : (l.map iD).length = l.length := List.length_map _
  have e0 : maxK l 0 = l[0] := by show l.getD 0 0 = _; rw [List.getD_eq_getElem?_getD, List.getElem?_eq_getElem h0]; rfl
  (repeat' (first
  | (apply W.qd; (first
    | (apply q_mv; (first|exact vD|exact vO|exact vP|exact vA|exact vF|exact vR|exact vN|exact vY|exact vT|exact vM|exact vL|exact vX))|(apply q_as; (first|exact vD|exact vO|exact vP|exact vA|exact vF|exact vR|exact vN|exact vY|exact vT|exact vM|exact vL|exact vX))|(apply q_lss; exact rfl; exact rfl)|(apply q_len_sl; exact rfl; exact rfl)|(apply q_ld_map; (iterate 3 exact rfl); (first | omega | (focus (simp; done))))
    | (apply q_ix_slF; (iterate 4 exact rfl); (first | (with_reducible exact rfl) | exact natI_spec rfl | assumption | exact (Int.toNat_of_nonneg (by omega)).symm); (first | omega | (focus (simp only [List.length_map]; omega)) | (focus (simp; done)) | (focus (simp; omega))))))|(apply AWP.seq)|(apply ACont_normal)|(apply (W.regionS 5); exact rfl; kernel_rfl)|(apply Walk.nil)|(apply AWP.block)|(apply AWP.skip)
  | (refine W.cond _ rfl (fun hb => ?_) (fun hb => ?_) <;> ((try simp only [hb, zA, zB]) <;> (try simp only [zC, zD, zE, zF, zG, zH, zI, zJ] at hb) <;> (try (exfalso; omega))))))
  refine AWP.loopW (α := Nat) (fun k => k < l.length) (fun k => ⟨[(4, iV ((k + 1 : Nat) : Int)), (3, iV (maxK l k)), (0, ints l)], []⟩) (fun k => l.length - k) 0 h0 (by rw [e0]; exact ⟨[], rfl, rfl, rfl, by (repeat (first | exact trivial | refine ⟨rfl, ?_⟩))⟩) fun k hk => ?_
  by_cases hkl : k + 1 < l.length
  · have e1 : maxK l (k + 1) = if l[k + 1] > maxK l k then l[k + 1] else maxK l k := by
      show (if l.getD (k + 1) 0 > maxK l k then l.getD (k + 1) 0 else maxK l k) = _
      have : l.getD (k + 1) 0 = l[k + 1] := by rw [List.getD_eq_getElem?_getD, List.getElem?_eq_getElem hkl]; rfl
      rw [this]
    replace e1 := Lib.hid e1
    generalize maxK l k = a at *
    (repeat' (first
  | (apply W.qd; (first
    | (apply q_mv; (first|exact vD|exact vO|exact vP|exact vA|exact vF|exact vR|exact vN|exact vY|exact vT|exact vM|exact vL|exact vX))|(apply q_as; (first|exact vD|exact vO|exact vP|exact vA|exact vF|exact vR|exact vN|exact vY|exact vT|exact vM|exact vL|exact vX))|(apply q_lss; exact rfl; exact rfl)|(apply q_add; exact rfl; exact rfl; omega)|(apply q_len_sl; exact rfl; exact rfl)|(apply q_ld_map; (iterate 3 exact rfl); (first | omega | (focus (simp; done))))|(apply q_ix_slF; (iterate 4 exact rfl); (first | (with_reducible exact rfl) | exact natI_spec rfl | assumption | exact (Int.toNat_of_nonneg (by omega)).symm); (first | omega | (focus (simp only [List.length_map]; omega)) | (focus (simp; done)) | (focus (simp; omega))))
    | (apply q_max; exact rfl; exact rfl)))|(apply AWP.seq)|(apply ACont_normal)|(apply W.region; kernel_rfl)|(apply Walk.nil)|(apply AWP.block)|(apply AWP.skip)|(apply ABlock_normal)
  | (refine W.cond _ rfl (fun hb => ?_) (fun hb => ?_) <;> ((try simp only [hb, zA, zB]) <;> (try simp only [zC, zD, zE, zF, zG, zH, zI, zJ] at hb) <;> (try (exfalso; omega))))))
    refine ⟨k + 1, hkl, by omega, ?_⟩
    rw [e1.out]
    exact ⟨[], rfl, rfl, rfl, iV_eq (by omega), rfl, rfl, trivial⟩
  · have : k = l.length - 1 := by omega
    subst this
    generalize maxK l (l.length - 1) = a at *
    (repeat' (first
  | (apply W.qd; (first
    | (apply q_mv; (first|exact vD|exact vO|exact vP|exact vA|exact vF|exact vR|exact vN|exact vY|exact vT|exact vM|exact vL|exact vX))|(apply q_as; (first|exact vD|exact vO|exact vP|exact vA|exact vF|exact vR|exact vN|exact vY|exact vT|exact vM|exact vL|exact vX))|(apply q_lss; exact rfl; exact rfl)
    | (apply q_len_sl; exact rfl; exact rfl)))|(apply AWP.seq)|(apply ACont_normal)|(apply W.region; kernel_rfl)|(apply Walk.nil)|(apply AWP.exit)|(apply AWP.ret)|(apply ACont_exit)|(apply ABlock_exit)
  | (refine W.cond _ rfl (fun hb => ?_) (fun hb => ?_) <;> ((try simp only [hb, zA, zB]) <;> (try simp only [zC, zD, zE, zF, zG, zH, zI, zJ] at hb) <;> (try (exfalso; omega))))))
    exact Ends.i rfl rfl
end Go.Proofs.YtaclmbbiegklcaaGreatDoor
end
section
/- Layer 7 over the machine of abstract values: codelang.Check. -/
namespace Go.Proofs.YtaclmbbiegklcaaGreatDoor
open Go.RowKit
set_option maxHeartbeats 4000000
set_option maxRecDepth 100000
attribute [local irreducible] Quiet Eff OpOk AWPG ACont ABlock ACalls AGoto
theorem shr8 {x : Int} (h : 0 ≤ x) : (0 < ((x.toNat >>> 8 : Nat) : Int)) ↔ 256 ≤ x := by
  rw [Nat.shiftRight_eq_div_pow]; omega
theorem shr16 {x : Int} (h : 0 ≤ x) : (0 < ((x.toNat >>> 16 : Nat) : Int)) ↔ 65536 ≤ x := by
  rw [Nat.shiftRight_eq_div_pow]; omega
theorem A_lcheck {nm : List Nat} {M D dom : Int} {par : List (List Int)} (hn : isB nm) (hnl : nm.length < 9223372036854775808) (hD : 0 ≤ D ∧ D ≤ 1000000) (hP : par.length ≤ 1000000) :
    ∃ e : Int, ACalls Tryz.prog 47 [cdF nm M D par dom] [] (iV e) [] ∧ (e = 0 ↔ chkC nm M D par dom = true) := by
  have hW := A_isWord hn hnl
  have hI := A_isField M
  have hmp : (par.map rD).length = par.length := List.length_map _
  by_cases c1 : wordB nm = true
  case neg =>
    have c1 := Bool.eq_false_iff.2 c1
    refine ⟨4, ?_, by unfold chkC; rw [c1]; simp⟩
    rw [c1] at hW
    refine acalls_of_body Tryz.func47 rfl (Nat.le_of_ble_eq_true rfl) ?_
    (repeat' (first
  | (apply W.qd; (first
    | (apply (q_callC (hW)); exact rfl; exact rfl; kernel_rfl; kernel_rfl; kernel_rfl)|(apply q_as; (first|exact vD|exact vO|exact vP|exact vA|exact vF|exact vR|exact vN|exact vY|exact vT|exact vM|exact vL|exact vX))|(apply q_fld_optF; (iterate 3 exact rfl))|(apply q_ld_box; (iterate 4 exact rfl))|(apply q_not; exact rfl)|(apply q_add; exact rfl; exact rfl; omega)
    | (apply q_len_sl; exact rfl; exact rfl)))|(apply W.ed; (apply e_boxF; (iterate 3 exact rfl); kernel_rfl; kernel_rfl))|(apply AWP.seq)|(apply ACont_normal)|(apply W.region; kernel_rfl)|(apply Walk.nil)|(apply AWP.block)|(apply AWP.ret)|(apply ACont_ret)|(apply ABlock_ret)
  | (apply W.condT; exact rfl)))
    exact Ends.i rfl rfl
  rw [c1] at hW
  by_cases c2 : nm.length ≤ 12
  case neg =>
    refine ⟨2, ?_, by unfold chkC; rw [decide_eq_false c2]; simp⟩
    refine acalls_of_body Tryz.func47 rfl (Nat.le_of_ble_eq_true rfl) ?_
    (repeat' (first
  | (apply W.qd; (first
    | (apply (q_callC (hW)); exact rfl; exact rfl; kernel_rfl; kernel_rfl; kernel_rfl)|(apply q_as; (first|exact vD|exact vO|exact vP|exact vA|exact vF|exact vR|exact vN|exact vY|exact vT|exact vM|exact vL|exact vX))|(apply q_fld_optF; (iterate 3 exact rfl))|(apply q_ld_box; (iterate 4 exact rfl))|(apply q_gtr; exact rfl; exact rfl)|(apply q_not; exact rfl)|(apply q_add; exact rfl; exact rfl; omega)|(apply q_len_sl; exact rfl; exact rfl)
    | (apply q_len_bs; exact rfl; exact rfl)))|(apply W.ed; (apply e_boxF; (iterate 3 exact rfl); kernel_rfl; kernel_rfl))|(apply AWP.seq)|(apply ACont_normal)|(apply W.region; kernel_rfl)|(apply Walk.nil)|(apply AWP.block)|(apply AWP.ret)|(apply ACont_ret)|(apply ABlock_ret)|(apply W.condF; exact rfl)
  | (refine W.cond _ rfl (fun hb => ?_) (fun hb => ?_) <;> ((try simp only [hb, zA, zB]) <;> (try simp only [zC, zD, zE, zF, zG, zH, zI, zJ] at hb) <;> (try (exfalso; omega))))))
    exact Ends.i rfl rfl
  by_cases c3 : (M = 8 ∨ M = 16) ∧ 1 ≤ D ∧ D ≤ 31 ∧ par.length ≠ 0
  case neg =>
    refine ⟨1, ?_, ?_⟩
    · refine acalls_of_body Tryz.func47 rfl (Nat.le_of_ble_eq_true rfl) ?_
      (repeat' (first
  | (apply W.gOn; exact rfl; exact rfl)
  | (apply W.qd; (first
    | (apply (q_callC (hW)); exact rfl; exact rfl; kernel_rfl; kernel_rfl; kernel_rfl)|(apply (q_callC (hI)); exact rfl; exact rfl; kernel_rfl; kernel_rfl; kernel_rfl)|(apply q_mv; (first|exact vD|exact vO|exact vP|exact vA|exact vF|exact vR|exact vN|exact vY|exact vT|exact vM|exact vL|exact vX))|(apply q_as; (first|exact vD|exact vO|exact vP|exact vA|exact vF|exact vR|exact vN|exact vY|exact vT|exact vM|exact vL|exact vX))|(apply q_fld_optF; (iterate 3 exact rfl))|(apply q_ld_box; (iterate 4 exact rfl))|(apply q_lss; exact rfl; exact rfl)|(apply q_gtr; exact rfl; exact rfl)|(apply q_eql; exact rfl; exact rfl)|(apply q_not; exact rfl)|(apply q_add; exact rfl; exact rfl; omega)|(apply q_len_sl; exact rfl; exact rfl)|(apply q_len_bs; exact rfl; exact rfl)|(apply (q_pickT (u := .d _)); exact rfl; exact rfl)
    | (apply (q_pickF (u := .d _)); exact rfl; exact rfl)))|(apply W.ed; (apply e_boxF; (iterate 3 exact rfl); kernel_rfl; kernel_rfl))|(refine W.gOff _ _ rfl rfl (by intro h; cases h) ?_)|(apply AWP.seq)|(apply ACont_normal)|(apply W.region; kernel_rfl)|(apply Walk.nil)|(apply AWP.block)|(apply AWP.ret)|(apply ACont_ret)|(apply ABlock_ret)|(apply W.condT; exact rfl)|(apply W.condF; exact rfl)|(refine W.gF _ _ rfl rfl (fun hb => ?_) (fun hb => ?_) <;> ((try simp only [hb, zA, zB]) <;> (try simp only [zC, zD, zE, zF, zG, zH, zI, zJ] at hb) <;> (try (exfalso; omega))))
  | (refine W.cond _ rfl (fun hb => ?_) (fun hb => ?_) <;> ((try simp only [hb, zA, zB]) <;> (try simp only [zC, zD, zE, zF, zG, zH, zI, zJ] at hb) <;> (try (exfalso; omega))))))
      all_goals first | exact Ends.i rfl rfl | (exfalso; apply c3; refine ⟨by assumption, by omega, by omega, by omega⟩)
    · refine ⟨fun h => by omega, fun h => ?_⟩
      unfold chkC at h
      simp only [Bool.and_eq_true, decide_eq_true_eq] at h
      exact absurd ⟨h.1.1.2.1.1.1.1, h.1.1.2.1.1.1.2, h.1.1.2.1.1.2, h.1.1.2.1.2⟩ c3
  obtain ⟨c3, c4, c5, c6⟩ := c3
  rw [decide_eq_true c3] at hI
  by_cases c7 : D + (par.length : Int) ≤ 32
  case neg =>
    refine ⟨2, ?_, by unfold chkC; rw [decide_eq_false c7]; simp⟩
    refine acalls_of_body Tryz.func47 rfl (Nat.le_of_ble_eq_true rfl) ?_
    (repeat' (first
  | (apply W.gOn; exact rfl; exact rfl)
  | (apply W.qd; (first
    | (apply (q_callC (hW)); exact rfl; exact rfl; kernel_rfl; kernel_rfl; kernel_rfl)|(apply (q_callC (hI)); exact rfl; exact rfl; kernel_rfl; kernel_rfl; kernel_rfl)|(apply q_mv; (first|exact vD|exact vO|exact vP|exact vA|exact vF|exact vR|exact vN|exact vY|exact vT|exact vM|exact vL|exact vX))|(apply q_as; (first|exact vD|exact vO|exact vP|exact vA|exact vF|exact vR|exact vN|exact vY|exact vT|exact vM|exact vL|exact vX))|(apply q_fld_optF; (iterate 3 exact rfl))|(apply q_ld_box; (iterate 4 exact rfl))|(apply q_lss; exact rfl; exact rfl)|(apply q_gtr; exact rfl; exact rfl)|(apply q_eql; exact rfl; exact rfl)|(apply q_not; exact rfl)|(apply q_add; exact rfl; exact rfl; omega)|(apply q_len_sl; exact rfl; exact rfl)|(apply q_len_bs; exact rfl; exact rfl)
    | (apply (q_pickF (u := .d _)); exact rfl; exact rfl)))|(apply W.ed; (apply e_boxF; (iterate 3 exact rfl); kernel_rfl; kernel_rfl))|(apply AWP.seq)|(apply ACont_normal)|(apply W.region; kernel_rfl)|(apply Walk.nil)|(apply AWP.block)|(apply AWP.ret)|(apply ACont_ret)|(apply ABlock_ret)|(apply W.condF; exact rfl)|(refine W.gF _ _ rfl rfl (fun hb => ?_) (fun hb => ?_) <;> ((try simp only [hb, zA, zB]) <;> (try simp only [zC, zD, zE, zF, zG, zH, zI, zJ] at hb) <;> (try (exfalso; omega))))
  | (refine W.cond _ rfl (fun hb => ?_) (fun hb => ?_) <;> ((try simp only [hb, zA, zB]) <;> (try simp only [zC, zD, zE, zF, zG, zH, zI, zJ] at hb) <;> (try (exfalso; omega))))))
    exact Ends.i rfl rfl
  have hall : ∀ e : Int, (par.all (rowOk M D) = false → e = 1) → (par.all (rowOk M D) = true → e = if 1 ≤ dom ∧ dom ≤ D + (par.length : Int) then 0 else 1) → ACalls Tryz.prog 47 [cdF nm M D par dom] [] (iV e) [] := fun e he0 he1 => by
    refine acalls_of_body Tryz.func47 rfl (Nat.le_of_ble_eq_true rfl) ?_
    (repeat' (first
  | (apply W.gOn; exact rfl; exact rfl)
  | (apply W.qd; (first
    | (apply (q_callC (hW)); exact rfl; exact rfl; kernel_rfl; kernel_rfl; kernel_rfl)|(apply (q_callC (hI)); exact rfl; exact rfl; kernel_rfl; kernel_rfl; kernel_rfl)|(apply q_mv; (first|exact vD|exact vO|exact vP|exact vA|exact vF|exact vR|exact vN|exact vY|exact vT|exact vM|exact vL|exact vX))|(apply q_as; (first|exact vD|exact vO|exact vP|exact vA|exact vF|exact vR|exact vN|exact vY|exact vT|exact vM|exact vL|exact vX))|(apply q_fld_optF; (iterate 3 exact rfl))|(apply q_ld_box; (iterate 4 exact rfl))|(apply q_lss; exact rfl; exact rfl)|(apply q_gtr; exact rfl; exact rfl)|(apply q_eql; exact rfl; exact rfl)|(apply q_not; exact rfl)|(apply q_add; exact rfl; exact rfl; omega)|(apply q_len_sl; exact rfl; exact rfl)|(apply q_len_bs; exact rfl; exact rfl)
    | (apply (q_pickF (u := .d _)); exact rfl; exact rfl)))|(apply W.ed; (apply e_boxF; (iterate 3 exact rfl); kernel_rfl; kernel_rfl))|(apply AWP.seq)|(apply ACont_normal)|(apply (W.regionS 11); exact rfl; kernel_rfl)|(apply Walk.nil)|(apply AWP.block)|(apply AWP.skip)|(apply ABlock_normal)|(apply W.condF; exact rfl)|(refine W.gF _ _ rfl rfl (fun hb => ?_) (fun hb => ?_) <;> ((try simp only [hb, zA, zB]) <;> (try simp only [zC, zD, zE, zF, zG, zH, zI, zJ] at hb) <;> (try (exfalso; omega))))
  | (refine W.cond _ rfl (fun hb => ?_) (fun hb => ?_) <;> ((try simp only [hb, zA, zB]) <;> (try simp only [zC, zD, zE, zF, zG, zH, zI, zJ] at hb) <;> (try (exfalso; omega))))))
    refine AWP.loopW (α := Nat) (fun k => k ≤ par.length ∧ ∀ j, j < k → rowOk M D (par.getD j []) = true) (fun k => ⟨[(49, iV k), (48, iV par.length), (47, rowsA par), (3, iV (D + (par.length : Int))), (1, .opt 0 0)], [.box [bS nm, iV M, iV D, rowsA par, iV dom]]⟩) (fun k => par.length - k) 0 ⟨Nat.zero_le _, fun j hj => by omega⟩ ?wk0 fun k hk => ?_
    case wk0 => exact ⟨[0], rfl, rfl, rfl, rfl, iV_eq (by omega), rfl, iV_eq (by omega), rfl, trivial⟩
    by_cases hkl : k < par.length
    · have eg : par.getD k [] = par[k] := by rw [List.getD_eq_getElem?_getD, List.getElem?_eq_getElem hkl]; rfl
      have hnext : rowOk M D par[k] = true → ∀ j, j < k + 1 → rowOk M D (par.getD j []) = true := fun h j hj => by
        by_cases e : j = k
        · subst e; rw [eg]; exact h
        · exact hk.2 j (by omega)
      have hbad : rowOk M D par[k] = false → e = 1 := fun h => he0 (by rw [List.all_eq_false]; exact ⟨par[k], List.getElem_mem hkl, by rw [h]; decide⟩)
      generalize hr : par[k] = r at hnext hbad
      have hmr : (r.map iD).length = r.length := List.length_map _
      by_cases hrl : (r.length : Int) = D
      · have h0 : 0 < r.length := by omega
        have hmn := A_minI h0 (by omega)
        have hmx := A_maxI h0 (by omega)
        have hro := rowOk_min (M := M) c3 hrl h0
        generalize minK r (r.length - 1) = mn at *
        generalize maxK r (r.length - 1) = mx at *
        rw [← hr] at hmn hmx hrl
        clear he0 he1 hk
        rcases c3 with rfl | rfl
        · rw [if_pos rfl] at hro
          have hsh := fun h => shr8 (x := mx) h
          replace hro := Lib.hid hro
          (repeat' (first
  | (apply W.gOn; exact rfl; exact rfl)
  | (apply W.qd; (first
    | (apply (q_callC (hmn)); exact rfl; exact rfl; kernel_rfl; kernel_rfl; kernel_rfl)|(apply (q_callC (hmx)); exact rfl; exact rfl; kernel_rfl; kernel_rfl; kernel_rfl)|(apply q_mv; (first|exact vD|exact vO|exact vP|exact vA|exact vF|exact vR|exact vN|exact vY|exact vT|exact vM|exact vL|exact vX))|(apply q_as; (first|exact vD|exact vO|exact vP|exact vA|exact vF|exact vR|exact vN|exact vY|exact vT|exact vM|exact vL|exact vX))|(apply q_fld_optF; (iterate 3 exact rfl))|(apply q_ld_box; (iterate 4 exact rfl))|(apply q_lss; exact rfl; exact rfl)|(apply q_gtr; exact rfl; exact rfl)|(apply q_neq; exact rfl; exact rfl)|(apply q_add; exact rfl; exact rfl; omega)|(apply q_len_sl; exact rfl; exact rfl)|(apply q_ld_map; (iterate 3 exact rfl); (first | omega | (focus (simp; done))))|(apply q_ix_slF; (iterate 4 exact rfl); (first | (with_reducible exact rfl) | exact natI_spec rfl | assumption | exact (Int.toNat_of_nonneg (by omega)).symm); (first | omega | (focus (simp only [List.length_map]; omega)) | (focus (simp; done)) | (focus (simp; omega))))|(apply (q_pickT (u := .d _)); exact rfl; exact rfl)|(apply (q_pickF (u := .d _)); exact rfl; exact rfl)
    | (apply q_shrN; exact rfl; exact rfl; (first | (with_reducible exact rfl) | exact natI_spec rfl | assumption | exact (Int.toNat_of_nonneg (by omega)).symm); (first | (with_reducible exact rfl) | exact natI_spec rfl | assumption | exact (Int.toNat_of_nonneg (by omega)).symm); focus (show _ ≤ 64; omega))))|(refine W.gOff _ _ rfl rfl (by intro h; cases h) ?_)|(apply AWP.seq)|(apply ACont_normal)|(apply W.region; kernel_rfl)|(apply W.regionD; exact rfl; kernel_rfl)|(apply Walk.nil)|(apply W.chk; kernel_rfl)|(apply AWP.block)|(apply AWP.skip)|(apply AWP.ret)|(apply ACont_ret)|(apply ABlock_normal)|(apply ABlock_ret)|(apply W.condT; exact rfl)|(refine W.gF _ _ rfl rfl (fun hb => ?_) (fun hb => ?_) <;> ((try simp only [hb, zA, zB]) <;> (try simp only [zC, zD, zE, zF, zG, zH, zI, zJ] at hb) <;> (try (exfalso; omega))))
  | (refine W.cond _ rfl (fun hb => ?_) (fun hb => ?_) <;> ((try simp only [hb, zA, zB]) <;> (try simp only [zC, zD, zE, zF, zG, zH, zI, zJ] at hb) <;> (try (exfalso; omega))))))
          all_goals first
            | (refine Ends.i rfl (hbad ?_).symm; rw [hro.out, Bool.and_eq_false_iff, Bool.and_eq_false_iff, decide_eq_false_iff_not, decide_eq_false_iff_not, decide_eq_false_iff_not]; omega)|(refine ⟨k + 1, ⟨by omega, hnext ?_⟩, by omega, [0], rfl, rfl, rfl, iV_eq (by omega), rfl, rfl, rfl, rfl, trivial⟩; rw [hro.out, Bool.and_eq_true, Bool.and_eq_true, decide_eq_true_eq, decide_eq_true_eq, decide_eq_true_eq]; omega)
        · rw [if_neg (by decide)] at hro
          have hsh := fun h => shr16 (x := mx) h
          replace hro := Lib.hid hro
          (repeat' (first
  | (apply W.gOn; exact rfl; exact rfl)
  | (apply W.qd; (first
    | (apply (q_callC (hmn)); exact rfl; exact rfl; kernel_rfl; kernel_rfl; kernel_rfl)|(apply (q_callC (hmx)); exact rfl; exact rfl; kernel_rfl; kernel_rfl; kernel_rfl)|(apply q_mv; (first|exact vD|exact vO|exact vP|exact vA|exact vF|exact vR|exact vN|exact vY|exact vT|exact vM|exact vL|exact vX))|(apply q_as; (first|exact vD|exact vO|exact vP|exact vA|exact vF|exact vR|exact vN|exact vY|exact vT|exact vM|exact vL|exact vX))|(apply q_fld_optF; (iterate 3 exact rfl))|(apply q_ld_box; (iterate 4 exact rfl))|(apply q_lss; exact rfl; exact rfl)|(apply q_gtr; exact rfl; exact rfl)|(apply q_neq; exact rfl; exact rfl)|(apply q_add; exact rfl; exact rfl; omega)|(apply q_len_sl; exact rfl; exact rfl)|(apply q_ld_map; (iterate 3 exact rfl); (first | omega | (focus (simp; done))))|(apply q_ix_slF; (iterate 4 exact rfl); (first | (with_reducible exact rfl) | exact natI_spec rfl | assumption | exact (Int.toNat_of_nonneg (by omega)).symm); (first | omega | (focus (simp only [List.length_map]; omega)) | (focus (simp; done)) | (focus (simp; omega))))|(apply (q_pickT (u := .d _)); exact rfl; exact rfl)|(apply (q_pickF (u := .d _)); exact rfl; exact rfl)
    | (apply q_shrN; exact rfl; exact rfl; (first | (with_reducible exact rfl) | exact natI_spec rfl | assumption | exact (Int.toNat_of_nonneg (by omega)).symm); (first | (with_reducible exact rfl) | exact natI_spec rfl | assumption | exact (Int.toNat_of_nonneg (by omega)).symm); focus (show _ ≤ 64; omega))))|(refine W.gOff _ _ rfl rfl (by intro h; cases h) ?_)|(apply AWP.seq)|(apply ACont_normal)|(apply W.region; kernel_rfl)|(apply W.regionD; exact rfl; kernel_rfl)|(apply Walk.nil)|(apply W.chk; kernel_rfl)|(apply AWP.block)|(apply AWP.skip)|(apply AWP.ret)|(apply ACont_ret)|(apply ABlock_normal)|(apply ABlock_ret)|(apply W.condT; exact rfl)|(refine W.gF _ _ rfl rfl (fun hb => ?_) (fun hb => ?_) <;> ((try simp only [hb, zA, zB]) <;> (try simp only [zC, zD, zE, zF, zG, zH, zI, zJ] at hb) <;> (try (exfalso; omega))))
  | (refine W.cond _ rfl (fun hb => ?_) (fun hb => ?_) <;> ((try simp only [hb, zA, zB]) <;> (try simp only [zC, zD, zE, zF, zG, zH, zI, zJ] at hb) <;> (try (exfalso; omega))))))
          all_goals first
            | (refine Ends.i rfl (hbad ?_).symm; rw [hro.out, Bool.and_eq_false_iff, Bool.and_eq_false_iff, decide_eq_false_iff_not, decide_eq_false_iff_not, decide_eq_false_iff_not]; omega)|(refine ⟨k + 1, ⟨by omega, hnext ?_⟩, by omega, [0], rfl, rfl, rfl, iV_eq (by omega), rfl, rfl, rfl, rfl, trivial⟩; rw [hro.out, Bool.and_eq_true, Bool.and_eq_true, decide_eq_true_eq, decide_eq_true_eq, decide_eq_true_eq]; omega)
      · have hb0 : e = 1 := hbad (by unfold rowOk; rw [decide_eq_false hrl]; rfl)
        rw [← hr] at hrl
        clear he0 he1 hk
        (repeat' (first
  | (apply W.qd; (first
    | (apply q_mv; (first|exact vD|exact vO|exact vP|exact vA|exact vF|exact vR|exact vN|exact vY|exact vT|exact vM|exact vL|exact vX))|(apply q_as; (first|exact vD|exact vO|exact vP|exact vA|exact vF|exact vR|exact vN|exact vY|exact vT|exact vM|exact vL|exact vX))|(apply q_fld_optF; (iterate 3 exact rfl))|(apply q_ld_box; (iterate 4 exact rfl))|(apply q_lss; exact rfl; exact rfl)|(apply q_neq; exact rfl; exact rfl)|(apply q_len_sl; exact rfl; exact rfl)|(apply q_ld_map; (iterate 3 exact rfl); (first | omega | (focus (simp; done))))|(apply q_ix_slF; (iterate 4 exact rfl); (first | (with_reducible exact rfl) | exact natI_spec rfl | assumption | exact (Int.toNat_of_nonneg (by omega)).symm); (first | omega | (focus (simp only [List.length_map]; omega)) | (focus (simp; done)) | (focus (simp; omega))))
    | (apply (q_pickT (u := .d _)); exact rfl; exact rfl)))|(refine W.gOff _ _ rfl rfl (by intro h; cases h) ?_)|(apply AWP.seq)|(apply ACont_normal)|(apply W.region; kernel_rfl)|(apply W.regionD; exact rfl; kernel_rfl)|(apply Walk.nil)|(apply W.chk; kernel_rfl)|(apply AWP.block)|(apply AWP.skip)|(apply AWP.ret)|(apply ACont_ret)|(apply ABlock_ret)|(apply W.condT; exact rfl)|(refine W.gF _ _ rfl rfl (fun hb => ?_) (fun hb => ?_) <;> ((try simp only [hb, zA, zB]) <;> (try simp only [zC, zD, zE, zF, zG, zH, zI, zJ] at hb) <;> (try (exfalso; omega))))
  | (refine W.cond _ rfl (fun hb => ?_) (fun hb => ?_) <;> ((try simp only [hb, zA, zB]) <;> (try simp only [zC, zD, zE, zF, zG, zH, zI, zJ] at hb) <;> (try (exfalso; omega))))))
        all_goals first | exact Ends.i rfl hb0.symm | (exfalso; omega)
    · have ha : par.all (rowOk M D) = true := by
        rw [List.all_eq_true]
        intro r hr
        obtain ⟨j, hj, rfl⟩ := List.getElem_of_mem hr
        have := hk.2 j (by omega)
        rwa [List.getD_eq_getElem?_getD, List.getElem?_eq_getElem hj] at this
      have he := he1 ha
      clear he0 he1 hk
      (repeat' (first
  | (apply W.gOn; exact rfl; exact rfl)
  | (apply W.qd; (first
    | (apply q_mv; (first|exact vD|exact vO|exact vP|exact vA|exact vF|exact vR|exact vN|exact vY|exact vT|exact vM|exact vL|exact vX))|(apply q_as; (first|exact vD|exact vO|exact vP|exact vA|exact vF|exact vR|exact vN|exact vY|exact vT|exact vM|exact vL|exact vX))|(apply q_fld_optF; (iterate 3 exact rfl))|(apply q_ld_box; (iterate 4 exact rfl))|(apply q_lss; exact rfl; exact rfl)|(apply q_gtr; exact rfl; exact rfl)|(apply (q_pickT (u := .d _)); exact rfl; exact rfl)
    | (apply (q_pickF (u := .d _)); exact rfl; exact rfl)))|(refine W.gOff _ _ rfl rfl (by intro h; cases h) ?_)|(apply AWP.seq)|(apply ACont_normal)|(apply W.region; kernel_rfl)|(apply Walk.nil)|(apply AWP.skip)|(apply AWP.exit)|(apply AWP.ret)|(apply ACont_exit)|(apply ACont_ret)|(apply ABlock_exit)|(apply W.condT; exact rfl)|(refine W.gF _ _ rfl rfl (fun hb => ?_) (fun hb => ?_) <;> ((try simp only [hb, zA, zB]) <;> (try simp only [zC, zD, zE, zF, zG, zH, zI, zJ] at hb) <;> (try (exfalso; omega))))
  | (refine W.cond _ rfl (fun hb => ?_) (fun hb => ?_) <;> ((try simp only [hb, zA, zB]) <;> (try simp only [zC, zD, zE, zF, zG, zH, zI, zJ] at hb) <;> (try (exfalso; omega))))))
      all_goals (refine Ends.i rfl ?_; rw [he]; first | (rw [if_pos (by omega)]; done) | (rw [if_neg (by omega)]; done))
  have hc : chkC nm M D par dom = (par.all (rowOk M D) && (decide (1 ≤ dom) && decide (dom ≤ D + (par.length : Int)))) := by
    unfold chkC
    rw [c1, decide_eq_true c2, decide_eq_true c3, decide_eq_true c4, decide_eq_true c5, decide_eq_true c6, decide_eq_true c7]
    rfl
  refine ⟨if par.all (rowOk M D) = true then (if 1 ≤ dom ∧ dom ≤ D + (par.length : Int) then 0 else 1) else 1, hall _ (fun h => by rw [h]; rfl) (fun h => by rw [if_pos h]), ?_⟩
  rw [hc]
  cases par.all (rowOk M D) with
  | false => simp
  | true =>
    rw [if_pos rfl, Bool.true_and, Bool.and_eq_true, decide_eq_true_eq, decide_eq_true_eq]
    split <;> simp_all
end Go.Proofs.YtaclmbbiegklcaaGreatDoor
end
section
/- Layer 9 over the machine of abstract values: the present units, the subsets of a list. -/
namespace Go.Proofs.YtaclmbbiegklcaaGreatDoor
open Go.RowKit
set_option maxHeartbeats 4000000
set_option maxRecDepth 100000
def upK (hv : List Bool) (k : Nat) : List Nat := (List.range k).filter fun i => hv.getD i false
theorem upK_succ (hv : List Bool) (k : Nat) : upK hv (k + 1) = if hv.getD k false = true then upK hv k ++ [k] else upK hv k := by
  unfold upK
  rw [List.range_succ, List.filter_append]
  cases h : hv.getD k false with
  | true => rw [if_pos rfl]; simp only [List.filter_cons, h, if_true, List.filter_nil]
  | false => rw [if_neg (by decide)]; simp only [List.filter_cons, h, Bool.false_eq_true, if_false, List.filter_nil, List.append_nil]
theorem upK_len (hv : List Bool) (k : Nat) : (upK hv k).length ≤ k := Nat.le_trans (List.length_filter_le _ _) (by simp)
def badF (g : List Nat → Bool) (S : List (List Nat)) : Option (List Nat) := S.find? fun s => !g s
theorem badF_app (g : List Nat → Bool) (A B : List (List Nat)) : badF g (A ++ B) = (badF g A).or (badF g B) := List.find?_append
def subT (l : List Nat) (i k : Nat) (set : List Nat) : List (List Nat) := (subsN (l.drop i) (k - set.length)).map (set ++ ·)
theorem subT_step {l : List Nat} {i k : Nat} {set : List Nat} (hi : i < l.length) (hs : set.length < k) : subT l i k set = subT l (i + 1) k (set ++ [l[i]]) ++ subT l (i + 1) k set := by
  unfold subT
  rw [List.drop_eq_getElem_cons hi, show k - set.length = (k - set.length - 1) + 1 by omega, subsN, List.map_append, List.map_map]
  rw [show k - (set ++ [l[i]]).length = k - set.length - 1 by simp; omega]
  congr 1
  congr 1
  funext s
  simp
theorem subT_full {l : List Nat} {i k : Nat} {set : List Nat} (h : set.length = k) : subT l i k set = [set] := by
  unfold subT
  rw [show k - set.length = 0 by omega]
  have : subsN (l.drop i) 0 = [[]] := by unfold subsN; rfl
  rw [this]; simp
theorem subT_end {l : List Nat} {k : Nat} {set : List Nat} (h : set.length < k) : subT l l.length k set = [] := by
  unfold subT
  rw [show k - set.length = (k - set.length - 1) + 1 by omega, List.drop_length, subsN]; rfl
attribute [local irreducible] Quiet Eff OpOk AWPG ACont ABlock ACalls AGoto
theorem A_present {hv : List Bool} (hl : hv.length ≤ 1000000) : ACalls Tryz.prog 156 [bools hv] [] (nats (upN hv)) [] := by
  refine acalls_of_body Tryz.func156 rfl (Nat.le_of_ble_eq_true rfl) ?_
  have hmh : (hv.map tD).length = hv.length := List.length_map _
  (repeat' (first
  | (apply W.qd; (apply q_as; (first|exact vD|exact vO|exact vP|exact vA|exact vF|exact vR|exact vN|exact vY|exact vT|exact vM|exact vL|exact vX)))|(apply AWP.seq)|(apply ACont_normal)|(apply (W.regionS 1); exact rfl; kernel_rfl)
  | (apply Walk.nil)))
  refine AWP.nilRow 2 1 3 rfl (by omega) ?_
  (repeat' (first
  | (apply W.qd; (first
    | (apply q_mv; (first|exact vD|exact vO|exact vP|exact vA|exact vF|exact vR|exact vN|exact vY|exact vT|exact vM|exact vL|exact vX))
    | (apply q_len_sl; exact rfl; exact rfl)))|(apply ACont_normal)|(apply W.region; kernel_rfl)|(apply Walk.nil)
  | (apply AWP.block)))
  refine AWP.loopW (α := Nat) (fun k => k ≤ hv.length) (fun k => ⟨[(7, iV k), (6, iV hv.length), (5, bools hv), (2, .osl 0 (upK hv k).length 0 (upK hv k).length)], [.row (upK hv k).length 1 3 ((upK hv k).map kD)]⟩) (fun k => hv.length - k) 0 (Nat.zero_le _) ?wk0 fun k hk => ?_
  case wk0 => exact ⟨[0], rfl, rfl, rfl, rfl, iV_eq (by rw [hmh]), rfl, rfl, trivial⟩
  have hln := upK_len hv k
  by_cases hkl : k < hv.length
  · have eg : hv.getD k false = hv[k] := by rw [List.getD_eq_getElem?_getD, List.getElem?_eq_getElem hkl]; rfl
    have hs := Lib.hid (upK_succ hv k)
    rw [eg] at hs
    generalize upK hv k = A at *
    (repeat' (first
  | (apply W.qd; (first
    | (apply q_mv; (first|exact vD|exact vO|exact vP|exact vA|exact vF|exact vR|exact vN|exact vY|exact vT|exact vM|exact vL|exact vX))|(apply q_as; (first|exact vD|exact vO|exact vP|exact vA|exact vF|exact vR|exact vN|exact vY|exact vT|exact vM|exact vL|exact vX))|(apply q_lss; exact rfl; exact rfl)|(apply q_add; exact rfl; exact rfl; omega)|(apply q_ld_map; (iterate 3 exact rfl); (first | omega | (focus (simp; done))))|(apply q_litF; (iterate 5 exact rfl); kernel_rfl; kernel_rfl; exact rfl)
    | (apply q_ix_slF; (iterate 4 exact rfl); (first | (with_reducible exact rfl) | exact natI_spec rfl | assumption | exact (Int.toNat_of_nonneg (by omega)).symm); (first | omega | (focus (simp only [List.length_map]; omega)) | (focus (simp; done)) | (focus (simp; omega))))))|(apply W.ld; (apply l_app1; (iterate 8 exact rfl); (first | omega | (focus (simp; omega)) | (focus (simp; done)))))|(apply AWP.seq)|(apply ACont_normal)|(apply W.region; kernel_rfl)|(apply Walk.nil)|(apply AWP.block)|(apply AWP.skip)|(apply ABlock_normal)
  | (refine W.cond _ rfl (fun hb => ?_) (fun hb => ?_) <;> ((try simp only [hb, zA, zB]) <;> (try simp only [zC, zD, zE, zF, zG, zH, zI, zJ] at hb) <;> (try (exfalso; omega))))))
    · replace hs := Lib.hid (hs.out.trans (if_pos hb))
      refine ⟨k + 1, by omega, by omega, ?_⟩
      rw [hs.out, show (A ++ [k]).length = A.length + 1 by simp]
      exact ⟨[0], rfl, rfl, rfl, iV_eq (by omega), rfl, rfl, congrArg (AV.osl 0 (A.length + 1) 0) (by simp), trivial⟩
    · replace hs := Lib.hid (hs.out.trans (if_neg (by rw [hb]; decide)))
      refine ⟨k + 1, by omega, by omega, ?_⟩
      rw [hs.out]
      exact ⟨[0], rfl, rfl, rfl, iV_eq (by omega), rfl, rfl, rfl, trivial⟩
  · have e : k = hv.length := by omega
    subst e
    rw [show upN hv = upK hv hv.length from rfl]
    generalize upK hv hv.length = A at *
    (repeat' (first
  | (apply W.qd; (first
    | (apply q_mv; (first|exact vD|exact vO|exact vP|exact vA|exact vF|exact vR|exact vN|exact vY|exact vT|exact vM|exact vL|exact vX))|(apply q_as; (first|exact vD|exact vO|exact vP|exact vA|exact vF|exact vR|exact vN|exact vY|exact vT|exact vM|exact vL|exact vX))
    | (apply q_lss; exact rfl; exact rfl)))|(apply AWP.seq)|(apply ACont_normal)|(apply W.region; kernel_rfl)|(apply Walk.nil)|(apply AWP.exit)|(apply AWP.ret)|(apply ACont_exit)|(apply ABlock_exit)
  | (refine W.cond _ rfl (fun hb => ?_) (fun hb => ?_) <;> ((try simp only [hb, zA, zB]) <;> (try simp only [zC, zD, zE, zF, zG, zH, zI, zJ] at hb) <;> (try (exfalso; omega))))))
    exact Ends.osl rfl rfl (by simp) rfl
theorem A_cloneN {l : List Nat} (h0 : 0 < l.length) (hl : l.length ≤ 1000000) : ACalls Tryz.prog 104 [nats l] [] (nats l) [] := by
  refine acalls_of_body Tryz.func104 rfl (Nat.le_of_ble_eq_true rfl) ?_
  have hm : (l.map kD).length = l.length := List.length_map _
  (repeat' (first
  | (apply W.ed; (apply e_lit0F; (iterate 5 exact rfl)))
  | (apply W.qd; (first
    | (apply q_mv; (first|exact vD|exact vO|exact vP|exact vA|exact vF|exact vR|exact vN|exact vY|exact vT|exact vM|exact vL|exact vX))|(apply q_as; (first|exact vD|exact vO|exact vP|exact vA|exact vF|exact vR|exact vN|exact vY|exact vT|exact vM|exact vL|exact vX))
    | (apply q_eqnilm; (iterate 3 exact rfl); (first | assumption | omega))))|(apply W.ed; (apply e_appF; (iterate 8 exact rfl); (first | rfl | simp); (first | exact Nat.zero_lt_one | (focus (simp; done)) | omega); (first | (focus (simp; done)) | (focus (simp; omega)) | omega)))|(apply AWP.seq)|(apply ACont_normal)|(apply W.region; kernel_rfl)|(apply Walk.nil)|(apply AWP.skip)|(apply AWP.ret)
  | (apply W.condF; exact rfl)))
  exact Ends.osl rfl rfl (by simp) rfl
abbrev subO (E0 E1 E2 E3 E4 : Ent) (l : List Nat) (k : Nat) (L : Ent) : List Ent := [E0, E1, E2, E3, E4, .box [nats l], .box [iV k], L, .box [.yl 7], .box [.fn 187 [.opt 6 0, .opt 8 0, .opt 5 0, .opt 9 0]]]
def outB (o : Option (List Nat)) : Bool := o.isNone
section
variable {l : List Nat} {k : Nat} {g : List Nat → Bool} {E0 E1 E2 E3 E4 L : Ent} {F2 F7 : Ent} {F3 : List Nat → Ent}
abbrev subE (o : Option (List Nat)) (F : List Nat → Ent) (E : Ent) : Ent := match o with | none => E | some s => F s
abbrev subX (E0 E1 E2 E3 E4 : Ent) (l : List Nat) (k : Nat) (L : Ent) (F2 F7 : Ent) (F3 : List Nat → Ent) (o : Option (List Nat)) : List Ent := subO E0 E1 (subE o (fun _ => F2) E2) (subE o F3 E3) E4 l k (subE o (fun _ => F7) L)
theorem A_fromStep {i : Nat} {set : List Nat} (hl : l.length ≤ 1000) (hk1 : 1 ≤ k) (hk : k ≤ 1000)
    (hY : ∀ s : List Nat, s.Sublist l → s.length = k → YAt Tryz.prog 7 (subO E0 E1 E2 E3 E4 l k L) [nats s] (g s) (if g s = true then subO E0 E1 E2 E3 E4 l k L else subO E0 E1 F2 (F3 s) E4 l k F7))
    (hi : i ≤ l.length) (hs : set.length ≤ k) (hsub : set.Sublist (l.take i))
    (ih : ∀ (j : Nat) (set' : List Nat), i < j → j ≤ l.length → set'.length ≤ k → set'.Sublist (l.take j) →
      ACalls Tryz.prog 187 [iV j, nats set', .opt 6 0, .opt 8 0, .opt 5 0, .opt 9 0] (subO E0 E1 E2 E3 E4 l k L) (bV (outB (badF g (subT l j k set')))) (subX E0 E1 E2 E3 E4 l k L F2 F7 F3 (badF g (subT l j k set')))) :
    ACalls Tryz.prog 187 [iV i, nats set, .opt 6 0, .opt 8 0, .opt 5 0, .opt 9 0] (subO E0 E1 E2 E3 E4 l k L) (bV (outB (badF g (subT l i k set)))) (subX E0 E1 E2 E3 E4 l k L F2 F7 F3 (badF g (subT l i k set))) := by
  have hms : (set.map kD).length = set.length := List.length_map _
  have hml : (l.map kD).length = l.length := List.length_map _
  by_cases hfull : set.length = k
  · have hy := hY set (hsub.trans (List.take_sublist _ _)) hfull
    have hcl := A_cloneN (l := set) (by omega) (by omega)
    rw [subT_full hfull]
    have hb0 : badF g [set] = if g set = true then none else some set := by
      unfold badF
      cases hg : g set <;> simp [hg]
    rw [hb0]
    cases hg : g set with
    | true =>
      rw [hg, if_pos rfl] at hy
      rw [if_pos rfl]
      refine acalls_of_bodyS Tryz.func187 rfl (Nat.le_of_ble_eq_true rfl) ?_
      (repeat' (first
  | (apply W.qd; (first
    | (apply (q_callC (hcl)); exact rfl; exact rfl; kernel_rfl; kernel_rfl; kernel_rfl)|(apply q_mv; (first|exact vD|exact vO|exact vP|exact vA|exact vF|exact vR|exact vN|exact vY|exact vT|exact vM|exact vL|exact vX))|(apply q_as; (first|exact vD|exact vO|exact vP|exact vA|exact vF|exact vR|exact vN|exact vY|exact vT|exact vM|exact vL|exact vX))|(apply q_ld_box; (iterate 4 exact rfl))|(apply q_eql; exact rfl; exact rfl)
    | (apply q_len_sl; exact rfl; exact rfl)))|(apply W.ed; ((exact e_yield hy rfl rfl)))|(apply AWP.seq)|(apply ACont_normal)|(apply W.region; kernel_rfl)|(apply W.regionD; exact rfl; kernel_rfl)|(apply Walk.nil)|(apply W.chk; kernel_rfl)|(apply AWP.ret)|(apply ACont_ret)
  | (refine W.cond _ rfl (fun hb => ?_) (fun hb => ?_) <;> ((try simp only [hb, zA, zB]) <;> (try simp only [zC, zD, zE, zF, zG, zH, zI, zJ] at hb) <;> (try (exfalso; omega))))))
      exact EndsS.b rfl rfl
    | false =>
      rw [hg, if_neg (by decide)] at hy
      rw [if_neg (by decide)]
      refine acalls_of_bodyS Tryz.func187 rfl (Nat.le_of_ble_eq_true rfl) ?_
      (repeat' (first
  | (apply W.qd; (first
    | (apply (q_callC (hcl)); exact rfl; exact rfl; kernel_rfl; kernel_rfl; kernel_rfl)|(apply q_mv; (first|exact vD|exact vO|exact vP|exact vA|exact vF|exact vR|exact vN|exact vY|exact vT|exact vM|exact vL|exact vX))|(apply q_as; (first|exact vD|exact vO|exact vP|exact vA|exact vF|exact vR|exact vN|exact vY|exact vT|exact vM|exact vL|exact vX))|(apply q_ld_box; (iterate 4 exact rfl))|(apply q_eql; exact rfl; exact rfl)
    | (apply q_len_sl; exact rfl; exact rfl)))|(apply W.ed; ((exact e_yield hy rfl rfl)))|(apply AWP.seq)|(apply ACont_normal)|(apply W.region; kernel_rfl)|(apply W.regionD; exact rfl; kernel_rfl)|(apply Walk.nil)|(apply W.chk; kernel_rfl)|(apply AWP.ret)|(apply ACont_ret)
  | (refine W.cond _ rfl (fun hb => ?_) (fun hb => ?_) <;> ((try simp only [hb, zA, zB]) <;> (try simp only [zC, zD, zE, zF, zG, zH, zI, zJ] at hb) <;> (try (exfalso; omega))))))
      exact EndsS.b rfl rfl
  · generalize hR : badF g (subT l i k set) = R
    refine acalls_of_bodyS Tryz.func187 rfl (Nat.le_of_ble_eq_true rfl) ?_
    (repeat' (first
  | (apply W.qd; (first
    | (apply q_mv; (first|exact vD|exact vO|exact vP|exact vA|exact vF|exact vR|exact vN|exact vY|exact vT|exact vM|exact vL|exact vX))|(apply q_as; (first|exact vD|exact vO|exact vP|exact vA|exact vF|exact vR|exact vN|exact vY|exact vT|exact vM|exact vL|exact vX))|(apply q_ld_box; (iterate 4 exact rfl))|(apply q_eql; exact rfl; exact rfl)
    | (apply q_len_sl; exact rfl; exact rfl)))|(apply AWP.seq)|(apply ACont_normal)|(apply W.region; kernel_rfl)|(apply Walk.nil)|(apply AWP.block)|(apply AWP.skip)
  | (refine W.cond _ rfl (fun hb => ?_) (fun hb => ?_) <;> ((try simp only [hb, zA, zB]) <;> (try simp only [zC, zD, zE, zF, zG, zH, zI, zJ] at hb) <;> (try (exfalso; omega))))))
    refine AWP.loopE (α := Nat) (fun j => i ≤ j ∧ j ≤ l.length ∧ badF g (subT l j k set) = R) (fun j => ⟨[(0, iV j), (1, nats set), (2, .opt 6 0), (3, .opt 8 0), (4, .opt 5 0), (5, .opt 9 0)], subO E0 E1 E2 E3 E4 l k L⟩) (fun j => l.length - j) i ⟨Nat.le_refl _, hi, hR⟩ ⟨rfl, by (repeat (first | exact trivial | refine ⟨rfl, ?_⟩))⟩ fun j hj => ?_
    obtain ⟨hj1, hj2, hj3⟩ := hj
    by_cases hjl : j < l.length
    · have hst := subT_step (k := k) (set := set) hjl (by omega)
      have hih := ih (j + 1) (set ++ [l[j]]) (by omega) (by omega) (by simp; omega) (by
        rw [List.take_succ_eq_append_getElem hjl]
        refine List.Sublist.append (hsub.trans ?_) (List.Sublist.refl _)
        have : l.take i = (l.take j).take i := by rw [List.take_take, Nat.min_eq_left hj1]
        rw [this]; exact List.take_sublist _ _)
      rw [hst, badF_app] at hj3
      rw [show nats (set ++ [l[j]]) = .d (.sl 1 (set.map kD ++ [kD l[j]])) by show AV.d (.sl 1 ((set ++ [l[j]]).map kD)) = _; rw [List.map_append]; rfl] at hih
      have ej : iV ((j + 1 : Nat) : Int) = iV ((j : Int) + 1) := iV_eq (by omega)
      rw [ej] at hih
      cases hB : badF g (subT l (j + 1) k (set ++ [l[j]])) with
      | none =>
        rw [hB] at hih hj3
        clear ih hY
        (repeat' (first
  | (apply W.qd; (first
    | (apply q_mv; (first|exact vD|exact vO|exact vP|exact vA|exact vF|exact vR|exact vN|exact vY|exact vT|exact vM|exact vL|exact vX))|(apply q_as; (first|exact vD|exact vO|exact vP|exact vA|exact vF|exact vR|exact vN|exact vY|exact vT|exact vM|exact vL|exact vX))|(apply q_ld_box; (iterate 4 exact rfl))|(apply q_lss; exact rfl; exact rfl)|(apply q_not; exact rfl)|(apply q_add; exact rfl; exact rfl; omega)|(apply q_len_sl; exact rfl; exact rfl)|(apply q_ld_map; (iterate 3 exact rfl); (first | omega | (focus (simp; done))))|(apply q_litF; (iterate 5 exact rfl); kernel_rfl; kernel_rfl; exact rfl)|(apply q_ix_slF; (iterate 4 exact rfl); (first | (with_reducible exact rfl) | exact natI_spec rfl | assumption | exact (Int.toNat_of_nonneg (by omega)).symm); (first | omega | (focus (simp only [List.length_map]; omega)) | (focus (simp; done)) | (focus (simp; omega))))|(apply q_slc3; (iterate 3 exact rfl); (first | exact ⟨_, _, rfl, rfl⟩ | exact ⟨_, _, rfl, natI_spec rfl⟩ | exact ⟨_, _, rfl, (Int.toNat_of_nonneg (by omega)).symm⟩ | exact rfl); (first | exact ⟨_, _, rfl, rfl⟩ | exact ⟨_, _, rfl, natI_spec rfl⟩ | exact ⟨_, _, rfl, (Int.toNat_of_nonneg (by omega)).symm⟩ | exact rfl); exact rfl; exact rfl)
    | (apply q_appcl; (iterate 6 exact rfl); (first | exact Nat.zero_lt_one | (focus (simp; done)) | omega); (first | (focus (simp; done)) | (focus (simp; omega)) | omega))))|(apply W.ed; ((exact e_callA hih rfl rfl rfl)))|(apply AWP.seq)|(apply ACont_normal)|(apply W.region; kernel_rfl)|(apply W.regionD; exact rfl; kernel_rfl)|(apply Walk.nil)|(apply W.chk; kernel_rfl)|(apply AWP.block)|(apply AWP.skip)|(apply ABlock_normal)|(apply W.condF; exact rfl)
  | (refine W.cond _ rfl (fun hb => ?_) (fun hb => ?_) <;> ((try simp only [hb, zA, zB]) <;> (try simp only [zC, zD, zE, zF, zG, zH, zI, zJ] at hb) <;> (try (exfalso; omega))))))
        exact ⟨j + 1, ⟨by omega, by omega, hj3⟩, by omega, rfl, iV_eq (by omega), rfl, rfl, rfl, rfl, rfl, trivial⟩
      | some s =>
        rw [hB] at hih hj3
        obtain rfl : some s = R := hj3
        clear ih hY
        (repeat' (first
  | (apply W.qd; (first
    | (apply q_mv; (first|exact vD|exact vO|exact vP|exact vA|exact vF|exact vR|exact vN|exact vY|exact vT|exact vM|exact vL|exact vX))|(apply q_as; (first|exact vD|exact vO|exact vP|exact vA|exact vF|exact vR|exact vN|exact vY|exact vT|exact vM|exact vL|exact vX))|(apply q_ld_box; (iterate 4 exact rfl))|(apply q_lss; exact rfl; exact rfl)|(apply q_not; exact rfl)|(apply q_add; exact rfl; exact rfl; omega)|(apply q_len_sl; exact rfl; exact rfl)|(apply q_ld_map; (iterate 3 exact rfl); (first | omega | (focus (simp; done))))|(apply q_litF; (iterate 5 exact rfl); kernel_rfl; kernel_rfl; exact rfl)|(apply q_ix_slF; (iterate 4 exact rfl); (first | (with_reducible exact rfl) | exact natI_spec rfl | assumption | exact (Int.toNat_of_nonneg (by omega)).symm); (first | omega | (focus (simp only [List.length_map]; omega)) | (focus (simp; done)) | (focus (simp; omega))))|(apply q_slc3; (iterate 3 exact rfl); (first | exact ⟨_, _, rfl, rfl⟩ | exact ⟨_, _, rfl, natI_spec rfl⟩ | exact ⟨_, _, rfl, (Int.toNat_of_nonneg (by omega)).symm⟩ | exact rfl); (first | exact ⟨_, _, rfl, rfl⟩ | exact ⟨_, _, rfl, natI_spec rfl⟩ | exact ⟨_, _, rfl, (Int.toNat_of_nonneg (by omega)).symm⟩ | exact rfl); exact rfl; exact rfl)
    | (apply q_appcl; (iterate 6 exact rfl); (first | exact Nat.zero_lt_one | (focus (simp; done)) | omega); (first | (focus (simp; done)) | (focus (simp; omega)) | omega))))|(apply W.ed; ((exact e_callA hih rfl rfl rfl)))|(apply AWP.seq)|(apply ACont_normal)|(apply W.region; kernel_rfl)|(apply W.regionD; exact rfl; kernel_rfl)|(apply Walk.nil)|(apply W.chk; kernel_rfl)|(apply AWP.block)|(apply AWP.skip)|(apply AWP.ret)|(apply ACont_ret)|(apply ABlock_ret)|(apply W.condT; exact rfl)
  | (refine W.cond _ rfl (fun hb => ?_) (fun hb => ?_) <;> ((try simp only [hb, zA, zB]) <;> (try simp only [zC, zD, zE, zF, zG, zH, zI, zJ] at hb) <;> (try (exfalso; omega))))))
        exact EndsS.b rfl rfl
    · have ejl : j = l.length := by omega
      subst ejl
      rw [subT_end (by omega)] at hj3
      obtain rfl : none = R := hj3
      clear ih hY
      (repeat' (first
  | (apply W.qd; (first
    | (apply q_mv; (first|exact vD|exact vO|exact vP|exact vA|exact vF|exact vR|exact vN|exact vY|exact vT|exact vM|exact vL|exact vX))|(apply q_as; (first|exact vD|exact vO|exact vP|exact vA|exact vF|exact vR|exact vN|exact vY|exact vT|exact vM|exact vL|exact vX))|(apply q_ld_box; (iterate 4 exact rfl))|(apply q_lss; exact rfl; exact rfl)
    | (apply q_len_sl; exact rfl; exact rfl)))|(apply AWP.seq)|(apply ACont_normal)|(apply W.region; kernel_rfl)|(apply Walk.nil)|(apply AWP.exit)|(apply AWP.ret)|(apply ACont_exit)|(apply ABlock_exit)
  | (refine W.cond _ rfl (fun hb => ?_) (fun hb => ?_) <;> ((try simp only [hb, zA, zB]) <;> (try simp only [zC, zD, zE, zF, zG, zH, zI, zJ] at hb) <;> (try (exfalso; omega))))))
      exact EndsS.b rfl rfl
theorem A_from (hl : l.length ≤ 1000) (hk1 : 1 ≤ k) (hk : k ≤ 1000)
    (hY : ∀ s : List Nat, s.Sublist l → s.length = k → YAt Tryz.prog 7 (subO E0 E1 E2 E3 E4 l k L) [nats s] (g s) (if g s = true then subO E0 E1 E2 E3 E4 l k L else subO E0 E1 F2 (F3 s) E4 l k F7)) :
    ∀ (n i : Nat) (set : List Nat), l.length - i ≤ n → i ≤ l.length → set.length ≤ k → set.Sublist (l.take i) →
    ACalls Tryz.prog 187 [iV i, nats set, .opt 6 0, .opt 8 0, .opt 5 0, .opt 9 0] (subO E0 E1 E2 E3 E4 l k L) (bV (outB (badF g (subT l i k set)))) (subX E0 E1 E2 E3 E4 l k L F2 F7 F3 (badF g (subT l i k set)))
  | 0, i, set, hn, hi, hs, hsub => A_fromStep hl hk1 hk hY hi hs hsub fun j set' h1 h2 => by omega
  | n + 1, i, set, hn, hi, hs, hsub => A_fromStep hl hk1 hk hY hi hs hsub fun j set' h1 h2 h3 h4 => A_from hl hk1 hk hY n j set' (by omega) h2 h3 h4
theorem A_subIter {R : Option (List Nat)} (hl : l.length ≤ 1000) (hk1 : 1 ≤ k) (hk : k ≤ 1000) (hB : badF g (subsN l k) = R)
    (hY : ∀ s : List Nat, s.Sublist l → s.length = k → YAt Tryz.prog 7 (subO E0 E1 E2 E3 E4 l k L) [nats s] (g s) (if g s = true then subO E0 E1 E2 E3 E4 l k L else subO E0 E1 F2 (F3 s) E4 l k F7)) :
    ACalls Tryz.prog 186 [.yl 7, .opt 6 0, .opt 5 0] [E0, E1, E2, E3, E4, .box [nats l], .box [iV k], L] (.tup []) (subX E0 E1 E2 E3 E4 l k L F2 F7 F3 R) := by
  have h0 := A_from hl hk1 hk hY l.length 0 [] (by omega) (by omega) (by simp) (List.nil_sublist _)
  have e : subT l 0 k [] = subsN l k := by unfold subT; simp
  rw [e, hB] at h0
  have h0 := h0.le (args' := [iV 0, .d (.v (.slice none 0 0)), .opt 6 0, .opt 8 0, .opt 5 0, .opt 9 0]) fun F κ w vs hs => by
    refine AVleL.sat (xs := [iV 0, .d (.v (.slice none 0 0)), .opt 6 0, .opt 8 0, .opt 5 0, .opt 9 0]) ?_ F _ κ w vs hs
    exact ⟨AVle.refl _, AVle.nil 1, AVle.refl _, AVle.refl _, AVle.refl _, AVle.refl _, trivial⟩
  refine acalls_of_bodyS Tryz.func186 rfl (Nat.le_of_ble_eq_true rfl) ?_
  (repeat' (first
  | (apply W.qd; (first
    | (apply q_ld_box; (iterate 4 exact rfl))
    | (apply q_makeFunc)))
  | (apply W.ed; (first
    | ((exact e_callA h0 rfl rfl rfl))|(apply e_boxF; (iterate 3 exact rfl); kernel_rfl; kernel_rfl)
    | (apply e_allocF; (iterate 3 exact rfl); kernel_rfl)))|(apply W.ln; (apply l_st_box; (iterate 6 exact rfl); kernel_rfl; kernel_rfl; kernel_rfl))|(apply AWP.seq)|(apply ACont_normal)|(apply W.region; kernel_rfl)
  | (apply Walk.nil)))
  exact ⟨.inr rfl, [], trivial, AVle.of_eq rfl, rfl⟩
end
end Go.Proofs.YtaclmbbiegklcaaGreatDoor
end
section
/- Layer 9 over the machine of abstract values: distance.search, Left. -/
namespace Go.Proofs.YtaclmbbiegklcaaGreatDoor
open Go.RowKit
set_option maxHeartbeats 4000000
set_option maxRecDepth 100000
theorem AWP.toX {Γ : Ctx} {P : Program} {n m : Nat} {c : Code} {s : St} {own' : List Ent} {e0 : Exit} (h : AWPG Γ P n m c (fun e s => e = e0 ∧ Wk m s ⟨[], own'⟩) s) : AWPG Γ P n m c (fun e s => e = e0 ∧ s.own = own') s := fun F W κ0 a κ w hH hm hs =>
  wpIn_mono (h F W κ0 a κ w hH hm hs) fun e a' w' ⟨s', κ', ⟨he, hw⟩, hs'⟩ => by
    obtain ⟨κ2, h2⟩ := hs'.wk hm hw
    exact ⟨_, κ2, ⟨he, rfl⟩, h2⟩
theorem AVle.anyV {v : Value} (h : v.oneCell' = true) : AVle (.d (.v v)) (.d .any) := fun F own κ w u hs => by
  rw [sat_v] at hs
  subst hs
  rw [AV.sat, Dat.sat]; exact h
theorem AVle.anyS (sz : Nat) (l : List (List Dat)) : AVle (.d (.sl sz l)) (.d .any) := fun F own κ w u hs => by
  rw [AV.sat, Dat.sat] at hs
  obtain ⟨A, c, rfl, _⟩ := hs
  rw [AV.sat, Dat.sat]; rfl
theorem minusN_snoc (hv : List Bool) (L : List Nat) (u : Nat) : minusN hv (L ++ [u]) = (minusN hv L).set u false := by
  unfold minusN
  rw [List.foldl_append]; rfl
theorem badN_iff {dec : List Bool → Bool} {hv : List Bool} {f : Nat} : badN dec hv f = (badF (fun s => dec (minusN hv s)) (subsN (upN hv) (f + 1))).isSome := by
  unfold badN badF
  rw [Bool.eq_iff_iff, List.any_eq_true, List.find?_isSome]
theorem gen_entE {motive : Ent → Prop} (E : Ent) (h : ∀ L, L = E → motive L) : motive E := h E rfl
attribute [local irreducible] Quiet Eff OpOk AWPG ACont ABlock ACalls AGoto
theorem A_subsets0 {l : List Nat} {f : Nat} : ACalls Tryz.prog 157 [nats l, iV ((f : Int) + 1)] [] (.fn 186 [.opt 1 0, .opt 0 0]) [.box [nats l], .box [iV ((f + 1 : Nat) : Int)]] := by
  rw [show iV ((f : Int) + 1) = iV ((f + 1 : Nat) : Int) from iV_eq (by omega)]
  refine acalls_of_bodyO Tryz.func157 rfl (Nat.le_of_ble_eq_true rfl) ?_
  (repeat' (first
  | (apply W.qd; (first
    | (apply q_as; (first|exact vD|exact vO|exact vP|exact vA|exact vF|exact vR|exact vN|exact vY|exact vT|exact vM|exact vL|exact vX))
    | (apply q_makeFunc)))|(apply W.ed; (apply e_boxF; (iterate 3 exact rfl); kernel_rfl; kernel_rfl))|(apply AWP.seq)|(apply ACont_normal)|(apply W.region; kernel_rfl)|(apply Walk.nil)
  | (apply AWP.ret)))
  exact ⟨.inl rfl, [0, 1], [.fn 186 [.opt 1 0, .opt 0 0]], rfl, rfl, ⟨rfl, trivial⟩, AVle.of_eq rfl, rfl⟩
abbrev srcB0 (M D : Nat) (ps : List (List Nat)) : Ent := .box [.d .any, iV M, iV D, rowsN ps, .d .any]
abbrev srcEnv (hv : List Bool) (f : Nat) : List (Nat × AV) := [(24, .fn 186 [.opt 6 0, .opt 5 0]), (2, .opt 0 0), (3, .opt 1 0), (4, .opt 2 0), (5, .opt 3 0), (6, nats (upN hv)), (7, .opt 4 0), (18, iV f)]
theorem A_search {M D : Nat} {ps : List (List Nat)} {hv : List Bool} (h : CodeOk M D ps) (hl : hv.length = D + ps.length) : ACalls Tryz.prog 109 [cdN M D ps, bools hv] [] (.tup [iV (leftN (decN M D ps) hv), .d .any]) [] := by
  have h1 := h.d
  have h2 := h.w
  have hdec := A_decodable h hl
  have hpre := A_present (hv := hv) (by omega)
  have hd0 : decN M D ps hv = decide ((basisN M D ps hv).length = D) := by unfold decN; rw [decide_eq_true hl, Bool.true_and]
  rw [← hd0] at hdec
  have hcl := A_cloneB (l := hv) (by omega) (by omega)
  have hdecs : ∀ s : List Nat, ACalls Tryz.prog 155 [cdN M D ps, bools (minusN hv s)] [] (bV (decN M D ps (minusN hv s))) [] := fun s => by
    have hls : (minusN hv s).length = D + ps.length := by rw [minusN_length]; exact hl
    have := A_decodable h hls
    have hd1 : decN M D ps (minusN hv s) = decide ((basisN M D ps (minusN hv s)).length = D) := by unfold decN; rw [decide_eq_true hls, Bool.true_and]
    rwa [← hd1] at this
  have hup : ∀ u ∈ upN hv, u < hv.length := fun u hu => by
    have := (List.mem_filter.1 hu).1
    exact List.mem_range.1 this
  have hupl : (upN hv).length ≤ 1000 := by have := upK_len hv hv.length; have e : (upN hv).length = (upK hv hv.length).length := rfl; omega
  unfold leftN
  generalize decN M D ps = dec at *
  refine acalls_of_body Tryz.func109 rfl (Nat.le_of_ble_eq_true rfl) ?_
  cases hd : dec hv with
  | false =>
    rw [if_neg (by decide)]
    rw [hd] at hdec
    (repeat' (first
  | (apply W.qd; (first
    | (apply (q_callC (hdec)); exact rfl; exact rfl; kernel_rfl; kernel_rfl; kernel_rfl)|(apply q_ld_box; (iterate 4 exact rfl))|(apply q_ld_boxF; (iterate 4 exact rfl))
    | (apply q_not; exact rfl)))
  | (apply W.ed; (first
    | (apply e_boxF; (iterate 3 exact rfl); kernel_rfl; kernel_rfl)
    | (apply e_allocF; (iterate 3 exact rfl); kernel_rfl)))|(apply W.ln; (apply l_st_box; (iterate 6 exact rfl); kernel_rfl; kernel_rfl; kernel_rfl))|(apply AWP.seq)|(apply ACont_normal)|(apply W.region; kernel_rfl)|(apply Walk.nil)|(apply AWP.ret)|(apply ACont_ret)
  | (apply W.condT; exact rfl)))
    exact ⟨.inl rfl, [], [iV (-1), .d (.v (.slice none 0 0))], rfl, ⟨⟨2, [iV (-1)], false, rfl, rfl, rfl, rfl⟩, ⟨3, [.d (.v (.slice none 0 0))], false, rfl, rfl, rfl, rfl⟩, trivial⟩, AVle.tup2 (AVle.refl _) (AVle.anyV rfl), rfl⟩
  | true =>
    rw [if_pos rfl]
    rw [hd] at hdec
    generalize hR : ((List.range 4).find? (badN dec hv)).getD 4 = R
    (repeat' (first
  | (apply W.qd; (first
    | (apply (q_callC (hdec)); exact rfl; exact rfl; kernel_rfl; kernel_rfl; kernel_rfl)|(apply (q_callC (hpre)); exact rfl; exact rfl; kernel_rfl; kernel_rfl; kernel_rfl)|(apply q_mv; (first|exact vD|exact vO|exact vP|exact vA|exact vF|exact vR|exact vN|exact vY|exact vT|exact vM|exact vL|exact vX))|(apply q_as; (first|exact vD|exact vO|exact vP|exact vA|exact vF|exact vR|exact vN|exact vY|exact vT|exact vM|exact vL|exact vX))|(apply q_ld_box; (iterate 4 exact rfl))|(apply q_ld_boxF; (iterate 4 exact rfl))
    | (apply q_not; exact rfl)))
  | (apply W.ed; (first
    | (apply e_boxF; (iterate 3 exact rfl); kernel_rfl; kernel_rfl)
    | (apply e_allocF; (iterate 3 exact rfl); kernel_rfl)))|(apply AWP.seq)|(apply ACont_normal)|(apply W.region; kernel_rfl)|(apply Walk.nil)|(apply AWP.block)|(apply AWP.skip)
  | (apply W.condF; exact rfl)))
    refine AWP.loopW (α := Nat) (fun f => f ≤ 4 ∧ ∀ g, g < f → badN dec hv g = false) (fun f => ⟨[(18, iV f), (6, nats (upN hv)), (2, .opt 0 0), (3, .opt 1 0), (4, .opt 2 0), (5, .opt 3 0)], [.box [.d .any, iV M, iV D, rowsN ps, .d .any], .box [bools hv], .box [iV 0], .box [.d (.v (.slice none 0 0))]]⟩) (fun f => 4 - f) 0 ⟨by omega, fun g hg => by omega⟩ ⟨[0, 1, 2, 3], rfl, rfl, rfl, by (repeat (first | exact trivial | refine ⟨rfl, ?_⟩))⟩ fun f hf => ?_
    by_cases hf4 : f < 4
    · have hs0 := A_subsets0 (l := upN hv) (f := f)
      (repeat' (first
  | (apply W.qd; (first
    | (apply q_mv; (first|exact vD|exact vO|exact vP|exact vA|exact vF|exact vR|exact vN|exact vY|exact vT|exact vM|exact vL|exact vX))|(apply q_ld_box; (iterate 4 exact rfl))|(apply q_lss; exact rfl; exact rfl)
    | (apply q_add; exact rfl; exact rfl; omega)))
  | (apply W.ed; (first
    | (apply (e_callJ (js := []) (hs0)); (iterate 5 exact rfl); kernel_rfl; kernel_rfl)
    | (apply e_allocF; (iterate 3 exact rfl); kernel_rfl)))|(apply W.ln; (apply l_st_box; (iterate 6 exact rfl); kernel_rfl; kernel_rfl; kernel_rfl))|(apply AWP.seq)|(apply ACont_normal)|(apply W.region; kernel_rfl)|(apply Walk.nil)|(apply AWP.block)|(apply AWP.skip)
  | (refine W.cond _ rfl (fun hb => ?_) (fun hb => ?_) <;> ((try simp only [hb, zA, zB]) <;> (try simp only [zC, zD, zE, zF, zG, zH, zI, zJ] at hb) <;> (try (exfalso; omega))))))
      refine AWP.wk ⟨srcEnv hv f, [.box [.d .any, iV M, iV D, rowsN ps, .d .any], .box [bools hv], .box [iV 0], .box [.d (.v (.slice none 0 0))], .box [iV f], .box [nats (upN hv)], .box [iV ((f + 1 : Nat) : Int)]]⟩ ⟨[0, 1, 2, 3, 4, 5, 6], rfl, rfl, rfl, by (repeat (first | exact trivial | refine ⟨rfl, ?_⟩))⟩ ?_
      have hbI := badN_iff (dec := dec) (hv := hv) (f := f)
      cases hB : badF (fun s => dec (minusN hv s)) (subsN (upN hv) (f + 1)) with
      | none =>
        rw [hB] at hbI
        refine AWP.range (s2 := ⟨[(18, iV f), (6, nats (upN hv)), (2, .opt 0 0), (3, .opt 1 0), (4, .opt 2 0), (5, .opt 3 0)], [srcB0 M D ps, .box [bools hv], .box [iV 0], .box [.d (.v (.slice none 0 0))]]⟩) rfl (by kernel_rfl) (A_subIter (F2 := .box []) (F7 := .box []) (F3 := fun _ => .box []) hupl (by omega) (by omega) hB fun s hs1 hs2 => ?_) rfl (by decide) ⟨[0, 1, 2, 3], rfl, rfl, rfl, by (repeat (first | exact trivial | refine ⟨rfl, ?_⟩))⟩ ?_
        · have hg : dec (minusN hv s) = true := by
            unfold badF at hB
            rw [List.find?_eq_none] at hB
            have := hB s (mem_subsN.2 ⟨hs1, hs2⟩)
            simpa using this
          rw [hg, if_pos rfl]
          refine YAt.ok (own1 := subO (srcB0 M D ps) (.box [bools hv]) (.box [iV 0]) (.box [.d (.v (.slice none 0 0))]) (.box [iV f]) (upN hv) (f + 1) (.lp .busy none #[25] _ _ _)) (s2 := ⟨(8, nats s) :: srcEnv hv f, _⟩) rfl rfl rfl rfl (fun g => ?_) rfl (fun g => ?_) rfl rfl
          · refine AWP.toW ?_
            (repeat' (first
  | (apply W.qd; (apply q_as; (first|exact vD|exact vO|exact vP|exact vA|exact vF|exact vR|exact vN|exact vY|exact vT|exact vM|exact vL|exact vX)))|(apply W.region; kernel_rfl)
  | (apply Walk.nil)))
            exact ⟨rfl, ⟨[0, 1, 2, 3, 4, 5, 6, 7, 8, 9], rfl, rfl, rfl, by (repeat (first | exact trivial | refine ⟨rfl, ?_⟩))⟩⟩
          · refine AWP.toO ?_
            refine gen_entE (motive := fun L => AWPG (Ctx.round g) Tryz.prog Tryz.f109.ntmps 10 _ (fun e s9 => e = .normal ∧ Wk 10 s9 ⟨[], subO (srcB0 M D ps) (.box [bools hv]) (.box [iV 0]) (.box [.d (.v (.slice none 0 0))]) (.box [iV f]) (upN hv) (f + 1) L⟩) ⟨(8, nats s) :: srcEnv hv f, subO (srcB0 M D ps) (.box [bools hv]) (.box [iV 0]) (.box [.d (.v (.slice none 0 0))]) (.box [iV f]) (upN hv) (f + 1) L⟩) _ fun L hL => ?_
            obtain ⟨cA, cB, hL⟩ : ∃ cA cB, L = .lp .busy none #[25] cA cB (tmpsOf (srcEnv hv f) Tryz.f109.ntmps) := ⟨_, _, hL⟩
            subst hL
            have hms : (s.map kD).length = s.length := List.length_map _
            (repeat' (first
  | (apply W.qd; (first
    | (apply q_mv; (first|exact vD|exact vO|exact vP|exact vA|exact vF|exact vR|exact vN|exact vY|exact vT|exact vM|exact vL|exact vX))|(apply q_as; (first|exact vD|exact vO|exact vP|exact vA|exact vF|exact vR|exact vN|exact vY|exact vT|exact vM|exact vL|exact vX))|(apply q_ld_box; (iterate 4 exact rfl))
    | (apply q_len_sl; exact rfl; exact rfl)))|(apply W.ed; (apply (e_callJ (js := []) (hcl)); (iterate 5 exact rfl); kernel_rfl; kernel_rfl))|(apply AWP.seq)|(apply ACont_normal)|(apply W.region; kernel_rfl)|(apply Walk.nil)
  | (apply AWP.block)))
            refine AWP.loopW (α := Nat) (fun j => j ≤ s.length) (fun j => ⟨[(30, iV j), (29, iV s.length), (28, nats s), (9, .osl 10 1 0 hv.length), (8, nats s), (2, .opt 0 0), (4, .opt 2 0), (5, .opt 3 0), (7, .opt 4 0)], subO (srcB0 M D ps) (.box [bools hv]) (.box [iV 0]) (.box [.d (.v (.slice none 0 0))]) (.box [iV f]) (upN hv) (f + 1) (.lp .busy none #[25] cA cB (tmpsOf (srcEnv hv f) Tryz.f109.ntmps)) ++ [.row 1 1 4 ((minusN hv (s.take j)).map tD)]⟩) (fun j => s.length - j) 0 (Nat.zero_le _) ?wkr1 fun j hj => ?_
            case wkr1 => exact ⟨[0, 1, 2, 3, 4, 5, 6, 7, 8, 9, 10], rfl, rfl, rfl, rfl, iV_eq (by rw [hms]), rfl, rfl, rfl, rfl, rfl, rfl, rfl, trivial⟩
            by_cases hjl : j < s.length
            · have hu := hup s[j] (hs1.subset (List.getElem_mem hjl))
              have hmn := minusN_length (s.take j) hv
              have hsn := minusN_snoc hv (s.take j) s[j]
              rw [← List.take_succ_eq_append_getElem hjl] at hsn
              replace hsn := Lib.hid hsn
              generalize minusN hv (s.take j) = A at *
              (repeat' (first
  | (apply W.qd; (first
    | (apply q_mv; (first|exact vD|exact vO|exact vP|exact vA|exact vF|exact vR|exact vN|exact vY|exact vT|exact vM|exact vL|exact vX))|(apply q_as; (first|exact vD|exact vO|exact vP|exact vA|exact vF|exact vR|exact vN|exact vY|exact vT|exact vM|exact vL|exact vX))|(apply q_lss; exact rfl; exact rfl)|(apply q_add; exact rfl; exact rfl; omega)|(apply q_ld_map; (iterate 3 exact rfl); (first | omega | (focus (simp; done))))|(apply q_ix_slF; (iterate 4 exact rfl); (first | (with_reducible exact rfl) | exact natI_spec rfl | assumption | exact (Int.toNat_of_nonneg (by omega)).symm); (first | omega | (focus (simp only [List.length_map]; omega)) | (focus (simp; done)) | (focus (simp; omega))))
    | (apply q_ix_osl0; (iterate 4 exact rfl); (first | (with_reducible exact rfl) | exact natI_spec rfl | assumption | exact (Int.toNat_of_nonneg (by omega)).symm); (first | omega | (focus (simp only [List.length_map]; omega)) | (focus (simp; done)) | (focus (simp; omega))))))|(apply W.ln; (apply l_st_rpt; (iterate 7 exact rfl); exact fun _ => rfl; (first | omega | (focus (simp only [List.length_map]; omega)) | (focus (simp; omega)))))|(apply AWP.seq)|(apply ACont_normal)|(apply W.region; kernel_rfl)|(apply Walk.nil)|(apply AWP.block)|(apply AWP.skip)|(apply ABlock_normal)
  | (refine W.cond _ rfl (fun hb => ?_) (fun hb => ?_) <;> ((try simp only [hb, zA, zB]) <;> (try simp only [zC, zD, zE, zF, zG, zH, zI, zJ] at hb) <;> (try (exfalso; omega))))))
              refine ⟨j + 1, by omega, by omega, ?_⟩
              rw [hsn.out]
              exact ⟨[0, 1, 2, 3, 4, 5, 6, 7, 8, 9, 10], rfl, rfl, rfl, iV_eq (by omega), rfl, rfl, rfl, rfl, rfl, rfl, rfl, rfl, trivial⟩
            have ejl : j = s.length := by omega
            subst ejl
            rw [List.take_length]
            have hmn := minusN_length s hv
            (repeat' (first
  | (apply W.qd; (apply q_lss; exact rfl; exact rfl))|(apply AWP.seq)|(apply ACont_normal)|(apply (W.regionS 15); exact rfl; kernel_rfl)|(apply Walk.nil)|(apply AWP.exit)|(apply ACont_exit)|(apply ABlock_exit)
  | (refine W.cond _ rfl (fun hb => ?_) (fun hb => ?_) <;> ((try simp only [hb, zA, zB]) <;> (try simp only [zC, zD, zE, zF, zG, zH, zI, zJ] at hb) <;> (try (exfalso; omega))))))
            refine AWP.wk ⟨[(9, bools (minusN hv s)), (8, nats s), (2, .opt 0 0), (4, .opt 2 0), (5, .opt 3 0), (7, .opt 4 0)], subO (srcB0 M D ps) (.box [bools hv]) (.box [iV 0]) (.box [.d (.v (.slice none 0 0))]) (.box [iV f]) (upN hv) (f + 1) (.lp .busy none #[25] cA cB (tmpsOf (srcEnv hv f) Tryz.f109.ntmps))⟩ ?wkf1 ?_
            case wkf1 => exact ⟨[0, 1, 2, 3, 4, 5, 6, 7, 8, 9], rfl, rfl, rfl, (frz_rowJ (i := 10) (ver := 1) (n := hv.length) (l := (minusN hv s).map tD) rfl rfl (by rw [List.length_map, hmn])).symm, rfl, rfl, rfl, rfl, rfl, trivial⟩
            have hds := hdecs s
            rw [show dec (minusN hv s) = true from hg] at hds
            (repeat' (first
  | (apply W.qd; (first
    | (apply (q_callC (hds)); exact rfl; exact rfl; kernel_rfl; kernel_rfl; kernel_rfl)|(apply q_mv; (first|exact vD|exact vO|exact vP|exact vA|exact vF|exact vR|exact vN|exact vY|exact vT|exact vM|exact vL|exact vX))|(apply q_ld_boxF; (iterate 4 exact rfl))
    | (apply q_not; exact rfl)))|(apply ACont_normal)|(apply W.region; kernel_rfl)|(apply Walk.nil)|(apply AWP.skip)|(apply ABlock_normal)
  | (apply W.condF; exact rfl)))
            exact ⟨rfl, ⟨[0, 1, 2, 3, 4, 5, 6, 7, 8, 9], rfl, rfl, rfl, by (repeat (first | exact trivial | refine ⟨rfl, ?_⟩))⟩⟩
        dsimp only
        (repeat' (first
  | (apply W.qd; (first
    | (apply q_mv; (first|exact vD|exact vO|exact vP|exact vA|exact vF|exact vR|exact vN|exact vY|exact vT|exact vM|exact vL|exact vX))
    | (apply q_add; exact rfl; exact rfl; omega)))|(apply ACont_normal)|(apply W.region; kernel_rfl)|(apply Walk.nil)
  | (apply ABlock_normal)))
        refine ⟨f + 1, ⟨by omega, fun g hg => ?_⟩, by omega, [0, 1, 2, 3], rfl, rfl, rfl, iV_eq (by omega), rfl, rfl, rfl, rfl, rfl, trivial⟩
        by_cases e : g = f
        · subst e; exact hbI
        · exact hf.2 g (by omega)
      | some s0 =>
        rw [hB] at hbI
        have hfr : f = R := by
          have hq : (List.range 4).find? (badN dec hv) = some f := List.find?_range_eq_some.2 ⟨hbI, List.mem_range.2 hf4, fun g hg => by rw [hf.2 g hg]; rfl⟩
          rw [hq] at hR; exact hR
        subst hfr
        refine AWP.range (s2 := ⟨[(4, .opt 2 0), (5, .opt 3 0)], [srcB0 M D ps, .box [bools hv], .box [iV f], .box [nats s0]]⟩) rfl (by kernel_rfl) (A_subIter (F2 := .box [iV f]) (F7 := .lp .done (some .ret) _ _ _ (tmpsOf (srcEnv hv f) Tryz.f109.ntmps)) (F3 := fun s => .box [nats s]) hupl (by omega) (by omega) hB fun s hs1 hs2 => ?_) rfl (by decide) ⟨[0, 1, 2, 3], rfl, rfl, rfl, by (repeat (first | exact trivial | refine ⟨rfl, ?_⟩))⟩ ?_
        · cases hg : dec (minusN hv s) with
          | true =>
            rw [if_pos rfl]
            refine YAt.ok (own1 := subO (srcB0 M D ps) (.box [bools hv]) (.box [iV 0]) (.box [.d (.v (.slice none 0 0))]) (.box [iV f]) (upN hv) (f + 1) (.lp .busy none #[25] _ _ _)) (s2 := ⟨(8, nats s) :: srcEnv hv f, _⟩) rfl rfl rfl rfl (fun g => ?_) rfl (fun g => ?_) rfl rfl
            · refine AWP.toW ?_
              (repeat' (first
  | (apply W.qd; (apply q_as; (first|exact vD|exact vO|exact vP|exact vA|exact vF|exact vR|exact vN|exact vY|exact vT|exact vM|exact vL|exact vX)))|(apply W.region; kernel_rfl)
  | (apply Walk.nil)))
              exact ⟨rfl, ⟨[0, 1, 2, 3, 4, 5, 6, 7, 8, 9], rfl, rfl, rfl, by (repeat (first | exact trivial | refine ⟨rfl, ?_⟩))⟩⟩
            · refine AWP.toO ?_
              refine gen_entE (motive := fun L => AWPG (Ctx.round g) Tryz.prog Tryz.f109.ntmps 10 _ (fun e s9 => e = .normal ∧ Wk 10 s9 ⟨[], subO (srcB0 M D ps) (.box [bools hv]) (.box [iV 0]) (.box [.d (.v (.slice none 0 0))]) (.box [iV f]) (upN hv) (f + 1) L⟩) ⟨(8, nats s) :: srcEnv hv f, subO (srcB0 M D ps) (.box [bools hv]) (.box [iV 0]) (.box [.d (.v (.slice none 0 0))]) (.box [iV f]) (upN hv) (f + 1) L⟩) _ fun L hL => ?_
              obtain ⟨cA, cB, hL⟩ : ∃ cA cB, L = .lp .busy none #[25] cA cB (tmpsOf (srcEnv hv f) Tryz.f109.ntmps) := ⟨_, _, hL⟩
              subst hL
              have hms : (s.map kD).length = s.length := List.length_map _
              (repeat' (first
  | (apply W.qd; (first
    | (apply q_mv; (first|exact vD|exact vO|exact vP|exact vA|exact vF|exact vR|exact vN|exact vY|exact vT|exact vM|exact vL|exact vX))|(apply q_as; (first|exact vD|exact vO|exact vP|exact vA|exact vF|exact vR|exact vN|exact vY|exact vT|exact vM|exact vL|exact vX))|(apply q_ld_box; (iterate 4 exact rfl))
    | (apply q_len_sl; exact rfl; exact rfl)))|(apply W.ed; (apply (e_callJ (js := []) (hcl)); (iterate 5 exact rfl); kernel_rfl; kernel_rfl))|(apply AWP.seq)|(apply ACont_normal)|(apply W.region; kernel_rfl)|(apply Walk.nil)
  | (apply AWP.block)))
              refine AWP.loopW (α := Nat) (fun j => j ≤ s.length) (fun j => ⟨[(30, iV j), (29, iV s.length), (28, nats s), (9, .osl 10 1 0 hv.length), (8, nats s), (2, .opt 0 0), (4, .opt 2 0), (5, .opt 3 0), (7, .opt 4 0)], subO (srcB0 M D ps) (.box [bools hv]) (.box [iV 0]) (.box [.d (.v (.slice none 0 0))]) (.box [iV f]) (upN hv) (f + 1) (.lp .busy none #[25] cA cB (tmpsOf (srcEnv hv f) Tryz.f109.ntmps)) ++ [.row 1 1 4 ((minusN hv (s.take j)).map tD)]⟩) (fun j => s.length - j) 0 (Nat.zero_le _) ?wkr2 fun j hj => ?_
              case wkr2 => exact ⟨[0, 1, 2, 3, 4, 5, 6, 7, 8, 9, 10], rfl, rfl, rfl, rfl, iV_eq (by rw [hms]), rfl, rfl, rfl, rfl, rfl, rfl, rfl, trivial⟩
              by_cases hjl : j < s.length
              · have hu := hup s[j] (hs1.subset (List.getElem_mem hjl))
                have hmn := minusN_length (s.take j) hv
                have hsn := minusN_snoc hv (s.take j) s[j]
                rw [← List.take_succ_eq_append_getElem hjl] at hsn
                replace hsn := Lib.hid hsn
                generalize minusN hv (s.take j) = A at *
                (repeat' (first
  | (apply W.qd; (first
    | (apply q_mv; (first|exact vD|exact vO|exact vP|exact vA|exact vF|exact vR|exact vN|exact vY|exact vT|exact vM|exact vL|exact vX))|(apply q_as; (first|exact vD|exact vO|exact vP|exact vA|exact vF|exact vR|exact vN|exact vY|exact vT|exact vM|exact vL|exact vX))|(apply q_lss; exact rfl; exact rfl)|(apply q_add; exact rfl; exact rfl; omega)|(apply q_ld_map; (iterate 3 exact rfl); (first | omega | (focus (simp; done))))|(apply q_ix_slF; (iterate 4 exact rfl); (first | (with_reducible exact rfl) | exact natI_spec rfl | assumption | exact (Int.toNat_of_nonneg (by omega)).symm); (first | omega | (focus (simp only [List.length_map]; omega)) | (focus (simp; done)) | (focus (simp; omega))))
    | (apply q_ix_osl0; (iterate 4 exact rfl); (first | (with_reducible exact rfl) | exact natI_spec rfl | assumption | exact (Int.toNat_of_nonneg (by omega)).symm); (first | omega | (focus (simp only [List.length_map]; omega)) | (focus (simp; done)) | (focus (simp; omega))))))|(apply W.ln; (apply l_st_rpt; (iterate 7 exact rfl); exact fun _ => rfl; (first | omega | (focus (simp only [List.length_map]; omega)) | (focus (simp; omega)))))|(apply AWP.seq)|(apply ACont_normal)|(apply W.region; kernel_rfl)|(apply Walk.nil)|(apply AWP.block)|(apply AWP.skip)|(apply ABlock_normal)
  | (refine W.cond _ rfl (fun hb => ?_) (fun hb => ?_) <;> ((try simp only [hb, zA, zB]) <;> (try simp only [zC, zD, zE, zF, zG, zH, zI, zJ] at hb) <;> (try (exfalso; omega))))))
                refine ⟨j + 1, by omega, by omega, ?_⟩
                rw [hsn.out]
                exact ⟨[0, 1, 2, 3, 4, 5, 6, 7, 8, 9, 10], rfl, rfl, rfl, iV_eq (by omega), rfl, rfl, rfl, rfl, rfl, rfl, rfl, rfl, trivial⟩
              have ejl : j = s.length := by omega
              subst ejl
              rw [List.take_length]
              have hmn := minusN_length s hv
              (repeat' (first
  | (apply W.qd; (apply q_lss; exact rfl; exact rfl))|(apply AWP.seq)|(apply ACont_normal)|(apply (W.regionS 15); exact rfl; kernel_rfl)|(apply Walk.nil)|(apply AWP.exit)|(apply ACont_exit)|(apply ABlock_exit)
  | (refine W.cond _ rfl (fun hb => ?_) (fun hb => ?_) <;> ((try simp only [hb, zA, zB]) <;> (try simp only [zC, zD, zE, zF, zG, zH, zI, zJ] at hb) <;> (try (exfalso; omega))))))
              refine AWP.wk ⟨[(9, bools (minusN hv s)), (8, nats s), (2, .opt 0 0), (4, .opt 2 0), (5, .opt 3 0), (7, .opt 4 0)], subO (srcB0 M D ps) (.box [bools hv]) (.box [iV 0]) (.box [.d (.v (.slice none 0 0))]) (.box [iV f]) (upN hv) (f + 1) (.lp .busy none #[25] cA cB (tmpsOf (srcEnv hv f) Tryz.f109.ntmps))⟩ ?wkf2 ?_
              case wkf2 => exact ⟨[0, 1, 2, 3, 4, 5, 6, 7, 8, 9], rfl, rfl, rfl, (frz_rowJ (i := 10) (ver := 1) (n := hv.length) (l := (minusN hv s).map tD) rfl rfl (by rw [List.length_map, hmn])).symm, rfl, rfl, rfl, rfl, rfl, trivial⟩
              have hds := hdecs s
              rw [hg] at hds
              (repeat' (first
  | (apply W.qd; (first
    | (apply (q_callC (hds)); exact rfl; exact rfl; kernel_rfl; kernel_rfl; kernel_rfl)|(apply q_mv; (first|exact vD|exact vO|exact vP|exact vA|exact vF|exact vR|exact vN|exact vY|exact vT|exact vM|exact vL|exact vX))|(apply q_ld_boxF; (iterate 4 exact rfl))
    | (apply q_not; exact rfl)))|(apply ACont_normal)|(apply W.region; kernel_rfl)|(apply Walk.nil)|(apply AWP.skip)|(apply ABlock_normal)
  | (apply W.condF; exact rfl)))
              exact ⟨rfl, ⟨[0, 1, 2, 3, 4, 5, 6, 7, 8, 9], rfl, rfl, rfl, by (repeat (first | exact trivial | refine ⟨rfl, ?_⟩))⟩⟩
          | false =>
            rw [if_neg (by decide)]
            refine YAt.ret (own1 := subO (srcB0 M D ps) (.box [bools hv]) (.box [iV f]) (.box [nats s]) (.box [iV f]) (upN hv) (f + 1) (.lp .busy none #[25] _ _ _)) (s2 := ⟨(8, nats s) :: srcEnv hv f, _⟩) rfl rfl rfl rfl (fun g => ?_) rfl (fun g => ?_) rfl rfl
            · refine AWP.toW ?_
              (repeat' (first
  | (apply W.qd; (apply q_as; (first|exact vD|exact vO|exact vP|exact vA|exact vF|exact vR|exact vN|exact vY|exact vT|exact vM|exact vL|exact vX)))|(apply W.region; kernel_rfl)
  | (apply Walk.nil)))
              exact ⟨rfl, ⟨[0, 1, 2, 3, 4, 5, 6, 7, 8, 9], rfl, rfl, rfl, by (repeat (first | exact trivial | refine ⟨rfl, ?_⟩))⟩⟩
            · refine AWP.toX ?_
              refine gen_entE (motive := fun L => AWPG (Ctx.round g) Tryz.prog Tryz.f109.ntmps 10 _ (fun e s9 => e = .ret ∧ Wk 10 s9 ⟨[], subO (srcB0 M D ps) (.box [bools hv]) (.box [iV f]) (.box [nats s]) (.box [iV f]) (upN hv) (f + 1) L⟩) ⟨(8, nats s) :: srcEnv hv f, subO (srcB0 M D ps) (.box [bools hv]) (.box [iV 0]) (.box [.d (.v (.slice none 0 0))]) (.box [iV f]) (upN hv) (f + 1) L⟩) _ fun L hL => ?_
              obtain ⟨cA, cB, hL⟩ : ∃ cA cB, L = .lp .busy none #[25] cA cB (tmpsOf (srcEnv hv f) Tryz.f109.ntmps) := ⟨_, _, hL⟩
              subst hL
              have hms : (s.map kD).length = s.length := List.length_map _
              (repeat' (first
  | (apply W.qd; (first
    | (apply q_mv; (first|exact vD|exact vO|exact vP|exact vA|exact vF|exact vR|exact vN|exact vY|exact vT|exact vM|exact vL|exact vX))|(apply q_as; (first|exact vD|exact vO|exact vP|exact vA|exact vF|exact vR|exact vN|exact vY|exact vT|exact vM|exact vL|exact vX))|(apply q_ld_box; (iterate 4 exact rfl))
    | (apply q_len_sl; exact rfl; exact rfl)))|(apply W.ed; (apply (e_callJ (js := []) (hcl)); (iterate 5 exact rfl); kernel_rfl; kernel_rfl))|(apply AWP.seq)|(apply ACont_normal)|(apply W.region; kernel_rfl)|(apply Walk.nil)
  | (apply AWP.block)))
              refine AWP.loopW (α := Nat) (fun j => j ≤ s.length) (fun j => ⟨[(30, iV j), (29, iV s.length), (28, nats s), (9, .osl 10 1 0 hv.length), (8, nats s), (2, .opt 0 0), (4, .opt 2 0), (5, .opt 3 0), (7, .opt 4 0)], subO (srcB0 M D ps) (.box [bools hv]) (.box [iV 0]) (.box [.d (.v (.slice none 0 0))]) (.box [iV f]) (upN hv) (f + 1) (.lp .busy none #[25] cA cB (tmpsOf (srcEnv hv f) Tryz.f109.ntmps)) ++ [.row 1 1 4 ((minusN hv (s.take j)).map tD)]⟩) (fun j => s.length - j) 0 (Nat.zero_le _) ?wkr3 fun j hj => ?_
              case wkr3 => exact ⟨[0, 1, 2, 3, 4, 5, 6, 7, 8, 9, 10], rfl, rfl, rfl, rfl, iV_eq (by rw [hms]), rfl, rfl, rfl, rfl, rfl, rfl, rfl, trivial⟩
              by_cases hjl : j < s.length
              · have hu := hup s[j] (hs1.subset (List.getElem_mem hjl))
                have hmn := minusN_length (s.take j) hv
                have hsn := minusN_snoc hv (s.take j) s[j]
                rw [← List.take_succ_eq_append_getElem hjl] at hsn
                replace hsn := Lib.hid hsn
                generalize minusN hv (s.take j) = A at *
                (repeat' (first
  | (apply W.qd; (first
    | (apply q_mv; (first|exact vD|exact vO|exact vP|exact vA|exact vF|exact vR|exact vN|exact vY|exact vT|exact vM|exact vL|exact vX))|(apply q_as; (first|exact vD|exact vO|exact vP|exact vA|exact vF|exact vR|exact vN|exact vY|exact vT|exact vM|exact vL|exact vX))|(apply q_lss; exact rfl; exact rfl)|(apply q_add; exact rfl; exact rfl; omega)|(apply q_ld_map; (iterate 3 exact rfl); (first | omega | (focus (simp; done))))|(apply q_ix_slF; (iterate 4 exact rfl); (first | (with_reducible exact rfl) | exact natI_spec rfl | assumption | exact (Int.toNat_of_nonneg (by omega)).symm); (first | omega | (focus (simp only [List.length_map]; omega)) | (focus (simp; done)) | (focus (simp; omega))))
    | (apply q_ix_osl0; (iterate 4 exact rfl); (first | (with_reducible exact rfl) | exact natI_spec rfl | assumption | exact (Int.toNat_of_nonneg (by omega)).symm); (first | omega | (focus (simp only [List.length_map]; omega)) | (focus (simp; done)) | (focus (simp; omega))))))|(apply W.ln; (apply l_st_rpt; (iterate 7 exact rfl); exact fun _ => rfl; (first | omega | (focus (simp only [List.length_map]; omega)) | (focus (simp; omega)))))|(apply AWP.seq)|(apply ACont_normal)|(apply W.region; kernel_rfl)|(apply Walk.nil)|(apply AWP.block)|(apply AWP.skip)|(apply ABlock_normal)
  | (refine W.cond _ rfl (fun hb => ?_) (fun hb => ?_) <;> ((try simp only [hb, zA, zB]) <;> (try simp only [zC, zD, zE, zF, zG, zH, zI, zJ] at hb) <;> (try (exfalso; omega))))))
                refine ⟨j + 1, by omega, by omega, ?_⟩
                rw [hsn.out]
                exact ⟨[0, 1, 2, 3, 4, 5, 6, 7, 8, 9, 10], rfl, rfl, rfl, iV_eq (by omega), rfl, rfl, rfl, rfl, rfl, rfl, rfl, rfl, trivial⟩
              have ejl : j = s.length := by omega
              subst ejl
              rw [List.take_length]
              have hmn := minusN_length s hv
              (repeat' (first
  | (apply W.qd; (apply q_lss; exact rfl; exact rfl))|(apply AWP.seq)|(apply ACont_normal)|(apply (W.regionS 15); exact rfl; kernel_rfl)|(apply Walk.nil)|(apply AWP.exit)|(apply ACont_exit)|(apply ABlock_exit)
  | (refine W.cond _ rfl (fun hb => ?_) (fun hb => ?_) <;> ((try simp only [hb, zA, zB]) <;> (try simp only [zC, zD, zE, zF, zG, zH, zI, zJ] at hb) <;> (try (exfalso; omega))))))
              refine AWP.wk ⟨[(9, bools (minusN hv s)), (8, nats s), (2, .opt 0 0), (4, .opt 2 0), (5, .opt 3 0), (7, .opt 4 0)], subO (srcB0 M D ps) (.box [bools hv]) (.box [iV 0]) (.box [.d (.v (.slice none 0 0))]) (.box [iV f]) (upN hv) (f + 1) (.lp .busy none #[25] cA cB (tmpsOf (srcEnv hv f) Tryz.f109.ntmps))⟩ ?wkf3 ?_
              case wkf3 => exact ⟨[0, 1, 2, 3, 4, 5, 6, 7, 8, 9], rfl, rfl, rfl, (frz_rowJ (i := 10) (ver := 1) (n := hv.length) (l := (minusN hv s).map tD) rfl rfl (by rw [List.length_map, hmn])).symm, rfl, rfl, rfl, rfl, rfl, trivial⟩
              have hds := hdecs s
              rw [hg] at hds
              (repeat' (first
  | (apply W.qd; (first
    | (apply (q_callC (hds)); exact rfl; exact rfl; kernel_rfl; kernel_rfl; kernel_rfl)|(apply q_mv; (first|exact vD|exact vO|exact vP|exact vA|exact vF|exact vR|exact vN|exact vY|exact vT|exact vM|exact vL|exact vX))|(apply q_ld_box; (iterate 4 exact rfl))|(apply q_ld_boxF; (iterate 4 exact rfl))
    | (apply q_not; exact rfl)))|(apply W.ln; (apply l_st_box; (iterate 6 exact rfl); kernel_rfl; kernel_rfl; kernel_rfl))|(apply AWP.seq)|(apply ACont_normal)|(apply W.region; kernel_rfl)|(apply Walk.nil)|(apply AWP.ret)|(apply ABlock_ret)
  | (apply W.condT; exact rfl)))
              exact ⟨rfl, ⟨[0, 1, 2, 3, 4, 5, 6, 7, 8, 9], rfl, rfl, rfl, by (repeat (first | exact trivial | refine ⟨rfl, ?_⟩))⟩⟩
        dsimp only
        (repeat' (first
  | (apply AWP.ret)|(apply ACont_ret)
  | (apply ABlock_ret)))
        exact ⟨.inl rfl, [], [iV f, nats s0], rfl, ⟨⟨2, [iV f], false, rfl, rfl, rfl, rfl⟩, ⟨3, [nats s0], false, rfl, rfl, rfl, rfl⟩, trivial⟩, AVle.tup2 (AVle.refl _) (AVle.anyS _ _), rfl⟩
    · have e4 : f = 4 := by omega
      subst e4
      have hn : (List.range 4).find? (badN dec hv) = none := by
        rw [List.find?_eq_none]
        intro g hg
        rw [hf.2 g (List.mem_range.1 hg)]; decide
      rw [hn] at hR
      obtain rfl : 4 = R := hR
      (repeat' (first
  | (apply W.qd; (apply q_lss; exact rfl; exact rfl))|(apply W.ln; (apply l_st_box; (iterate 6 exact rfl); kernel_rfl; kernel_rfl; kernel_rfl))|(apply AWP.seq)|(apply ACont_normal)|(apply W.region; kernel_rfl)|(apply Walk.nil)|(apply AWP.exit)|(apply AWP.ret)|(apply ACont_exit)|(apply ABlock_exit)
  | (apply W.condF; exact rfl)))
      exact ⟨.inl rfl, [], [iV 4, .d (.v (.slice none 0 0))], rfl, ⟨⟨2, [iV 4], false, rfl, rfl, rfl, rfl⟩, ⟨3, [.d (.v (.slice none 0 0))], false, rfl, rfl, rfl, rfl⟩, trivial⟩, AVle.tup2 (AVle.refl _) (AVle.anyV rfl), rfl⟩
end Go.Proofs.YtaclmbbiegklcaaGreatDoor
end
section
/- A row of the call's own gets other elements, of the same number: a whole element of several cells is stored, elements are cleared, elements are copied. No program in sight. -/
namespace Go.Proofs.YtaclmbbiegklcaaGreatDoor
open Go.RowKit
theorem seg_get (l us : List Value) (o x : Nat) (h : o + us.length ≤ l.length) : (l.take o ++ us ++ l.drop (o + us.length))[x]? = if o ≤ x ∧ x < o + us.length then us[x - o]? else l[x]? := by
  have ht : (l.take o).length = o := by rw [List.length_take]; omega
  by_cases h1 : x < o
  · rw [if_neg (by omega), List.append_assoc, List.getElem?_append_left (by omega), List.getElem?_take, if_pos h1]
  · by_cases h2 : x < o + us.length
    · rw [if_pos ⟨by omega, h2⟩, List.append_assoc, List.getElem?_append_right (by omega), ht, List.getElem?_append_left (by omega)]
    · rw [if_neg (by omega), List.getElem?_append_right (by rw [List.length_append, ht]; omega), List.length_append, ht, List.getElem?_drop]
      congr 1
      omega
theorem setK_same {κ : List (Option Nat)} {i : Nat} {og : Option Nat} (h : κ[i]? = some og) : κ.set i og = κ := List.ext_getElem? fun j => by
  by_cases hj : j = i
  · subst hj; rw [List.getElem?_set_self (List.getElem?_eq_some_iff.1 h).1, h]
  · rw [List.getElem?_set_ne (Ne.symm hj)]
theorem row_put {F : Nat → Prop} {κ : List (Option Nat)} {w : World} {m : Nat} {own : List Ent} {i ver sz g : Nat} {e : TypeId} {l l' : List (List Dat)} {cur cur' : Array Value} (ho : OwnSat F own κ w) (hi : own[i]? = some (.row ver sz e l)) (h3 : κ[i]? = some (some g)) (h5 : w.heap[g]? = some (.cells cur e (0, 0))) (h0 : 0 < sz) (hs : cur'.size = cur.size) (hl : l'.length = l.length) (h6 : l.length * sz ≤ cur.size)
    (hr : ∀ j e', l'[j]? = some e' → e'.length = sz ∧ ∀ q y, e'[q]? = some y → ∃ u, cur'[j * sz + q]? = some u ∧ u.oneCell' = true ∧ Dat.sat (badK F κ) w y u) :
    OwnSat F (own.set i (.row ver sz e l')) κ (w.setRow g cur') ∧ Tr F m own κ w (own.set i (.row ver sz e l')) κ (w.setRow g cur') := by
  have hrow := setRow_heap w g cur cur' e (0, 0) h5
  have key := step_upd (m := m) (x' := .row ver sz e l') (og := some g) (og' := some g) (w' := w.setRow g cur') ho hi h3 rfl rfl rfl (by simp [World.setRow]) (fun b hb hne => by
        simp only [World.setRow, Array.getElem?_modify]
        rw [if_neg (fun e => hne (by rw [e]))]) (.inl rfl) (.inr rfl) (.inr ⟨rfl, rfl, rfl, hl.symm, rfl, fun g' hg' cur2 t' fz' hcur' => by
          obtain rfl : g = g' := by simpa using hg'
          rw [h5] at hcur'
          obtain ⟨rfl, rfl, rfl⟩ : cur = cur2 ∧ e = t' ∧ (0, 0) = fz' := by simpa using hcur'
          exact ⟨_, _, _, hrow, hs.symm⟩⟩) (fun hst => ⟨h0, .inr ⟨g, rfl, _, hrow, by rw [hl, hs]; exact h6, by
            rw [Dat.rowsSat_iff]
            intro j' e' hj'
            obtain ⟨h8, h9⟩ := hr j' e' hj'
            refine ⟨h8, ?_⟩
            rw [Dat.rowSat_iff]
            intro q y hq
            obtain ⟨u, q1, q2, q3⟩ := h9 q y hq
            refine ⟨u, ?_, q2, Dat.sat_wide hst.wide y q3⟩
            rw [cell_of_row _ g _ _ e (0, 0) hrow, Nat.zero_add]
            exact q1⟩⟩)
  rw [setK_same h3] at key
  exact key
theorem row_cells {F : Nat → Prop} {κ : List (Option Nat)} {w : World} {own : List Ent} {i ver sz g : Nat} {e : TypeId} {l : List (List Dat)} (ho : OwnSat F own κ w) (hi : own[i]? = some (.row ver sz e l)) (h3 : κ[i]? = some (some g)) :
    0 < sz ∧ ∃ cur, w.heap[g]? = some (.cells cur e (0, 0)) ∧ l.length * sz ≤ cur.size ∧ ∀ j e', l[j]? = some e' → e'.length = sz ∧ ∀ q y, e'[q]? = some y → ∃ u, cur[j * sz + q]? = some u ∧ u.oneCell' = true ∧ Dat.sat (badK F κ) w y u := by
  obtain ⟨h0, hent⟩ := ho.ent i _ hi
  rw [getD_some h3] at hent
  rcases hent with ⟨hxx, _⟩ | ⟨g', hg', cur, h5, h6, h7⟩
  · cases hxx
  · obtain rfl : g = g' := by simpa using hg'
    refine ⟨h0, cur, h5, h6, fun j e' hj => ?_⟩
    rw [Dat.rowsSat_iff] at h7
    obtain ⟨h8, h9⟩ := h7 j e' hj
    refine ⟨h8, fun q y hq => ?_⟩
    rw [Dat.rowSat_iff] at h9
    obtain ⟨u, q1, q2, q3⟩ := h9 q y hq
    rw [cell_of_row w g _ cur e (0, 0) h5, Nat.zero_add] at q1
    exact ⟨u, q1, q2, q3⟩
theorem idx_ne {j j' q o sz : Nat} (hq : q < sz) (ho : o < sz) (h : j' ≠ j) : ¬ (j * sz ≤ j' * sz + q ∧ j' * sz + q < j * sz + sz) := fun ⟨a, b⟩ => by
  rcases Nat.lt_or_gt_of_ne h with h1 | h1
  · have := Nat.mul_le_mul_right sz (show j' + 1 ≤ j from h1)
    rw [Nat.succ_mul] at this; omega
  · have := Nat.mul_le_mul_right sz (show j + 1 ≤ j' from h1)
    rw [Nat.succ_mul] at this; omega
section
variable {P : Program} {m : Nat} {env : List (Nat × AV)} {own : List Ent} {dst : Option Tmp} {ty : TypeId} {pos : String} {af : Array Edge} {gd : Option (Nat × Bool)}
theorem e_st_rpts {t : TypeId} {k : Nat} {b : Bool} {x y : Operand} {i ver j sz : Nat} {e : TypeId} {l : List (List Dat)} {ds : List Dat} {own' : List Ent} (hx : lookO env x = .rpt i ver j 0) (hi : own[i]? = some (.row ver sz e l)) (ht : tyInfo P t = some (b, k)) (hk : k = sz) (hy : cellsD (lookO env y) = some ds) (hds : ds.length = sz) (h1 : ds.all (fun d => oneA (.d d)) = true) (ho' : setF own i (.row ver sz e (l.set j ds)) = some own') :
    Eff P m ⟨dst, .store t x y, ty, pos, af, gd⟩ env own [i] (.d (.v undef)) own' := by
  rw [setF_spec ho']
  exact Eff.mk (set_same _ i) fun F κ a w hs ho hm => by
    subst hk
    have hx1 := hs x (by simp [Op.operands]); rw [hx, AV.sat] at hx1
    have hy1 := hs y (by simp [Op.operands])
    obtain ⟨hcA, hok⟩ := cellsD_A hy
    have hcs := cellsA_sat hcA hy1 hok
    have hcl := satL_length hcs
    obtain ⟨hj, g, h3, h4⟩ := hx1.2 k e l hi
    obtain ⟨h0, cur, h5, h6, h7⟩ := row_cells ho hi h3
    have hvn : (a.eval y).cells.size = k := by
      rw [List.length_map, hds] at hcl
      rw [← Array.length_toList]; exact hcl.symm
    have hvl : (a.eval y).cells.toList.length = k := by rw [Array.length_toList]; exact hvn
    have hus : ∀ q d, ds[q]? = some d → ∃ u, (a.eval y).cells.toList[q]? = some u ∧ u.oneCell' = true ∧ Dat.sat (badK F κ) w d u := fun q d hq => by
      obtain ⟨u, q1, q2⟩ := satL_get hcs q (.d d) (by rw [List.getElem?_map, hq]; rfl)
      have q3 := List.all_eq_true.1 h1 d (List.mem_of_getElem? hq)
      refine ⟨u, q1, one_of_cellsA q3 q2, ?_⟩
      rw [AV.sat] at q2; exact q2
    have hone : ∀ u ∈ (a.eval y).cells.toList, u.oneCell' = true := fun u hu => by
      obtain ⟨q, hq⟩ := List.mem_iff_getElem?.1 hu
      have hlt : q < ds.length := by have := (List.getElem?_eq_some_iff.1 hq).1; omega
      obtain ⟨u', q1, q2, _⟩ := hus q _ (List.getElem?_eq_getElem hlt)
      rw [hq] at q1
      obtain rfl : u = u' := by simpa using q1
      exact q2
    have hjk : j * k + k ≤ l.length * k := by
      have := Nat.mul_le_mul_right k (show j + 1 ≤ l.length from hj)
      rw [Nat.succ_mul] at this; omega
    have hrun : (execOp a.eval ⟨dst, .store t x y, ty, pos, af, gd⟩).run P w = .ok .skip (w.setRow g (cur.toList.take (j * k) ++ (a.eval y).cells.toList ++ cur.toList.drop (j * k + (a.eval y).cells.toList.length)).toArray) := by
      have := run_storeAt (P := P) ht h5 (v := a.eval y) (o := j * k) hvn (by omega) hone
      rw [Nat.add_zero] at h4
      exact exec_u (by rw [h4]; exact this)
    rw [hrun]
    have hcs2 : cur.toList.length = cur.size := Array.length_toList
    obtain ⟨r1, r2⟩ := row_put (m := m) (cur' := (cur.toList.take (j * k) ++ (a.eval y).cells.toList ++ cur.toList.drop (j * k + (a.eval y).cells.toList.length)).toArray) (l' := l.set j ds) ho hi h3 h5 h0 (by simp; omega) (by simp) h6 (fun j' e' hj' => by
      have hget : ∀ x, (cur.toList.take (j * k) ++ (a.eval y).cells.toList ++ cur.toList.drop (j * k + (a.eval y).cells.toList.length)).toArray[x]? = if j * k ≤ x ∧ x < j * k + k then (a.eval y).cells.toList[x - j * k]? else cur[x]? := fun x => by
        have ec : cur.toList[x]? = cur[x]? := Array.getElem?_toList
        rw [List.getElem?_toArray, seg_get _ _ _ _ (by omega), hvl, ec]
      by_cases hjj : j' = j
      · subst hjj
        rw [List.getElem?_set_self hj] at hj'
        obtain rfl : ds = e' := by simpa using hj'
        refine ⟨hds, fun q y' hq => ?_⟩
        have hql : q < k := by have := (List.getElem?_eq_some_iff.1 hq).1; omega
        obtain ⟨u, q1, q2, q3⟩ := hus q y' hq
        refine ⟨u, ?_, q2, q3⟩
        rw [hget, if_pos ⟨by omega, by omega⟩, show j' * k + q - j' * k = q by omega]
        exact q1
      · rw [List.getElem?_set_ne (Ne.symm hjj)] at hj'
        obtain ⟨h8, h9⟩ := h7 j' e' hj'
        refine ⟨h8, fun q y' hq => ?_⟩
        have hql : q < k := by have := (List.getElem?_eq_some_iff.1 hq).1; omega
        obtain ⟨u, q1, q2, q3⟩ := h9 q y' hq
        exact ⟨u, by rw [hget, if_neg (idx_ne hql h0 hjj)]; exact q1, q2, q3⟩)
    exact ⟨κ, by rw [AV.sat, Dat.sat], r1, r2⟩
theorem e_st_rptM {α : Type} {f : α → List Dat} {l : List α} {t : TypeId} {k : Nat} {b : Bool} {x y : Operand} {i ver j sz : Nat} {e : TypeId} {ds : List Dat} {own' : List Ent} (v : α) (hx : lookO env x = .rpt i ver j 0) (hi : own[i]? = some (.row ver sz e (l.map f))) (ht : tyInfo P t = some (b, k)) (hk : k = sz) (hy : cellsD (lookO env y) = some ds) (hv : f v = ds) (hds : (f v).length = sz) (h1 : (f v).all (fun d => oneA (.d d)) = true) (ho' : setF own i (.row ver sz e ((l.set j v).map f)) = some own') :
    Eff P m ⟨dst, .store t x y, ty, pos, af, gd⟩ env own [i] (.d (.v undef)) own' := by
  subst hv
  refine e_st_rpts hx hi ht hk hy hds h1 ?_
  rw [List.map_set] at ho'
  exact ho'
theorem sat_slice_own {F : Nat → Prop} {κ : List (Option Nat)} {w : World} {p ver q n sz : Nat} {e : TypeId} {l : List (List Dat)} {u : Value} (hp : own[p]? = some (.row ver sz e l)) (h : AV.sat F own κ w (.osl p ver q n) u) (hn : 0 < n) : q + n ≤ l.length ∧ ∃ g c, κ[p]? = some (some g) ∧ u = .slice (some ⟨g, q * sz, none⟩) n c := by
  rw [AV.sat] at h
  obtain ⟨h1, A, c, h2, h3, h4, h5⟩ := h.2 sz e l hp
  rcases h5 (.inl hn) with ⟨g, g1, rfl, _⟩ | ⟨_, _, hc⟩
  · exact ⟨h1, g, c, g1, h2⟩
  · omega
theorem zero_get (z : Array Value) (n x : Nat) (hx : x < n * z.size) : (Builtin.zeroCells z n).toList[x]? = z[x % z.size]? := by
  have h0 : 0 < z.size := by
    by_cases h : z.size = 0
    · rw [h] at hx; omega
    · omega
  have hm := Nat.mod_lt x h0
  rw [Array.getElem?_toList]
  simp only [Builtin.zeroCells, Array.getElem?_map, Array.getElem?_range, hx, if_true, Option.map_some]
  rw [Array.getElem?_eq_getElem hm, getElem!_pos z (x % z.size) hm]
theorem e_clear {t e e' : TypeId} {by' sz : Nat} {z : Value} {zs : List Dat} {x : Operand} {p ver q n : Nat} {l : List (List Dat)} {own' : List Ent} (hx : lookO env x = .osl p ver q n) (hp : own[p]? = some (.row ver sz e l)) (ht : slInfo P t = some (e', sz, by', z)) (hz : z.cells.size = sz) (hz1 : z.cells.toList = zs.map fun d => match d with | .v u => u | _ => undef) (hz2 : zs.all (fun d => match d with | .v u => u.oneCell' | _ => false) = true) (hqn : q + n ≤ l.length) (ho' : setF own p (.row ver sz e (l.take q ++ List.replicate n zs ++ l.drop (q + n))) = some own') :
    Eff P m ⟨dst, .call ⟨.builtin .clear, #[x], #[t]⟩, ty, pos, af, gd⟩ env own [p] (.tup []) own' := by
  rw [setF_spec ho']
  exact Eff.mk (set_same _ p) fun F κ a w hs ho hm => by
    have hx1 := hs x (by simp [Op.operands, Call.operands]); rw [hx] at hx1
    obtain ⟨he, inf, hi1, hi2, _, hzz⟩ := slInfo_spec ht
    have hzl : zs.length = sz := by
      have := congrArg List.length hz1
      rw [List.length_map, Array.length_toList] at this
      omega
    by_cases hn : n = 0
    · subst hn
      rw [AV.sat] at hx1
      obtain ⟨h1, A, c, hxv, _⟩ := hx1.2 sz e l hp
      have hrun : (Builtin.clear_ #[t] ty #[a.eval x]).run P w = .ok (.tuple #[]) w := by
        rw [hxv]
        cases A <;> simp [Builtin.clear_, run_underlying he]
      have hex : (execOp a.eval ⟨dst, .call ⟨.builtin .clear, #[x], #[t]⟩, ty, pos, af, gd⟩).run P w = .ok (.value (.tuple #[])) w := by
        rw [exec_builtin]
        simp only [builtin, List.map_toArray, List.map_cons, List.map_nil]
        exact exec_v hrun
      rw [hex]
      have el : l.take q ++ List.replicate 0 zs ++ l.drop (q + 0) = l := by simp
      rw [el]
      have eo : own.set p (.row ver sz e l) = own := by
        apply List.ext_getElem?
        intro j
        by_cases hj : j = p
        · subst hj; rw [List.getElem?_set_self (List.getElem?_eq_some_iff.1 hp).1, hp]
        · rw [List.getElem?_set_ne (Ne.symm hj)]
      rw [eo]
      exact ⟨κ, by rw [AV.sat]; exact ⟨#[], rfl, by simp [AV.satL]⟩, ho, Tr.refl _ _ _ _ _⟩
    · obtain ⟨h1, g, c, hg, hxv⟩ := sat_slice_own hp hx1 (by omega)
      obtain ⟨h0, cur, h5, h6, h7⟩ := row_cells ho hp hg
      have hcl : cur.toList.length = cur.size := Array.length_toList
      have hzcl : (Builtin.zeroCells z.cells n).toList.length = n * sz := by simp [Builtin.zeroCells, hz]
      have hqs : q * sz + n * sz ≤ l.length * sz := by rw [← Nat.add_mul]; exact Nat.mul_le_mul_right _ h1
      have hzone : ∀ u ∈ z.cells.toList, u.oneCell' = true := fun u hu => by
        rw [hz1] at hu
        obtain ⟨d, hd, rfl⟩ := List.mem_map.1 hu
        have := List.all_eq_true.1 hz2 d hd
        cases d <;> simp_all
      have hz3 : ∀ x, x < n * sz → ∃ d u, zs[x % sz]? = some d ∧ d = .v u ∧ (Builtin.zeroCells z.cells n).toList[x]? = some u ∧ u.oneCell' = true := fun x hx => by
        have hm := Nat.mod_lt x h0
        have hq := zero_get z.cells n x (by rw [hz]; exact hx)
        rw [hz] at hq
        have e1 : z.cells.toList[x % sz]? = z.cells[x % sz]? := Array.getElem?_toList
        rw [hq, ← e1, hz1, List.getElem?_map, List.getElem?_eq_getElem (show x % sz < zs.length by omega)]
        have := List.all_eq_true.1 hz2 (zs[x % sz]'(by omega)) (List.getElem_mem _)
        generalize zs[x % sz]'(by omega) = d at this
        cases d with
        | v u => exact ⟨_, u, rfl, rfl, rfl, this⟩
        | any => cases this
        | sl => cases this
      have hst := run_storeCells_at P g (q * sz) e (Builtin.zeroCells z.cells n).toList 0 cur w h5 (by rw [hzcl]; omega) (fun v hv => by
        obtain ⟨x, hx⟩ := List.mem_iff_getElem?.1 hv
        have hxl : x < n * sz := by rw [← hzcl]; exact (List.getElem?_eq_some_iff.1 hx).1
        obtain ⟨d, u, _, _, q3, q4⟩ := hz3 x hxl
        rw [hx] at q3
        obtain rfl : v = u := by simpa using q3
        exact q4)
      rw [Nat.add_zero] at hst
      have hzv : ∀ w, (zeroValue e').run P w = .ok z w := fun w => by simp [zeroValue, typeInfo, hi1, hzz]
      have hrun : (Builtin.clear_ #[t] ty #[a.eval x]).run P w = .ok (.tuple #[]) (w.setRow g (cur.toList.take (q * sz) ++ (Builtin.zeroCells z.cells n).toList ++ cur.toList.drop (q * sz + (Builtin.zeroCells z.cells n).toList.length)).toArray) := by
        rw [hxv]
        obtain ⟨n', rfl⟩ : ∃ n', n = n' + 1 := ⟨n - 1, by omega⟩
        simp [Builtin.clear_, run_underlying he, hzv, hst]
      have hex : (execOp a.eval ⟨dst, .call ⟨.builtin .clear, #[x], #[t]⟩, ty, pos, af, gd⟩).run P w = .ok (.value (.tuple #[])) (w.setRow g (cur.toList.take (q * sz) ++ (Builtin.zeroCells z.cells n).toList ++ cur.toList.drop (q * sz + (Builtin.zeroCells z.cells n).toList.length)).toArray) := by
        rw [exec_builtin]
        simp only [builtin, List.map_toArray, List.map_cons, List.map_nil]
        exact exec_v hrun
      rw [hex]
      have hlt : (l.take q).length = q := by rw [List.length_take]; omega
      obtain ⟨r1, r2⟩ := row_put (m := m) (cur' := (cur.toList.take (q * sz) ++ (Builtin.zeroCells z.cells n).toList ++ cur.toList.drop (q * sz + (Builtin.zeroCells z.cells n).toList.length)).toArray) (l' := l.take q ++ List.replicate n zs ++ l.drop (q + n)) ho hp hg h5 h0 (by simp only [List.size_toArray, List.length_append, List.length_take, List.length_drop, hzcl, hcl]; omega) (by simp; omega) h6 (fun j e2 hj => by
        have hget : ∀ x, (cur.toList.take (q * sz) ++ (Builtin.zeroCells z.cells n).toList ++ cur.toList.drop (q * sz + (Builtin.zeroCells z.cells n).toList.length)).toArray[x]? = if q * sz ≤ x ∧ x < q * sz + n * sz then (Builtin.zeroCells z.cells n).toList[x - q * sz]? else cur[x]? := fun x => by
          have ec : cur.toList[x]? = cur[x]? := Array.getElem?_toList
          rw [List.getElem?_toArray, seg_get _ _ _ _ (by omega), hzcl, ec]
        have old : ∀ (e3 : List Dat), l[j]? = some e3 → (j < q ∨ q + n ≤ j) → e3.length = sz ∧ ∀ (q' : Nat) (y : Dat), e3[q']? = some y → ∃ u, (cur.toList.take (q * sz) ++ (Builtin.zeroCells z.cells n).toList ++ cur.toList.drop (q * sz + (Builtin.zeroCells z.cells n).toList.length)).toArray[j * sz + q']? = some u ∧ u.oneCell' = true ∧ Dat.sat (badK F κ) w y u := fun e3 h hn => by
          obtain ⟨h8, h9⟩ := h7 j e3 h
          refine ⟨h8, fun q' y hq => ?_⟩
          have hql : q' < sz := by have := (List.getElem?_eq_some_iff.1 hq).1; omega
          obtain ⟨u, q1, q2, q3⟩ := h9 q' y hq
          have hne : ¬ (q * sz ≤ j * sz + q' ∧ j * sz + q' < q * sz + n * sz) := fun ⟨a1, a2⟩ => by
            rcases hn with hn | hn
            · have := Nat.mul_le_mul_right sz (show j + 1 ≤ q from hn)
              rw [Nat.succ_mul] at this; omega
            · have := Nat.mul_le_mul_right sz hn
              rw [Nat.add_mul] at this; omega
          exact ⟨u, by rw [hget, if_neg hne]; exact q1, q2, q3⟩
        by_cases h8 : j < q
        · rw [List.append_assoc, List.getElem?_append_left (by omega), List.getElem?_take, if_pos h8] at hj
          exact old e2 hj (.inl h8)
        · by_cases h9 : j < q + n
          · rw [List.append_assoc, List.getElem?_append_right (by omega), hlt, List.getElem?_append_left (by rw [List.length_replicate]; omega), List.getElem?_replicate, if_pos (by omega)] at hj
            obtain rfl : zs = e2 := by simpa using hj
            refine ⟨hzl, fun q' y hq => ?_⟩
            have hql : q' < sz := by have := (List.getElem?_eq_some_iff.1 hq).1; omega
            have e6 : j * sz + q' - q * sz = (j - q) * sz + q' := by
              have := Nat.sub_mul j q sz
              have := Nat.mul_le_mul_right sz (show q ≤ j by omega)
              omega
            have e7 : (j - q) * sz + q' < n * sz := by
              have := Nat.mul_le_mul_right sz (show (j - q) + 1 ≤ n by omega)
              rw [Nat.succ_mul] at this; omega
            obtain ⟨d, u, k1, k2, k3, k4⟩ := hz3 _ e7
            have e8 : ((j - q) * sz + q') % sz = q' := by rw [Nat.mul_comm, Nat.mul_add_mod, Nat.mod_eq_of_lt hql]
            rw [e8] at k1
            rw [hq] at k1
            obtain rfl : y = d := by simpa using k1
            subst k2
            refine ⟨u, ?_, k4, rfl⟩
            have hge : q * sz ≤ j * sz := Nat.mul_le_mul_right sz (show q ≤ j by omega)
            rw [hget, if_pos ⟨by omega, by omega⟩, e6]; exact k3
          · rw [List.getElem?_append_right (by rw [List.length_append, List.length_replicate]; omega), List.length_append, hlt, List.length_replicate, List.getElem?_drop, show q + n + (j - (q + n)) = j by omega] at hj
            exact old e2 hj (.inr (by omega)))
      exact ⟨κ, by rw [AV.sat]; exact ⟨#[], rfl, by simp [AV.satL]⟩, r1, r2⟩
end
end Go.Proofs.YtaclmbbiegklcaaGreatDoor
end
section
/- Layer 9 over the machine of abstract values: slices.Repeat of one truth value, distance.valid, Left, Losses. -/
namespace Go.Proofs.YtaclmbbiegklcaaGreatDoor
open Go.RowKit
set_option maxHeartbeats 4000000
set_option maxRecDepth 100000
section
variable {P : Program} {m : Nat} {env : List (Nat × AV)} {own : List Ent} {dst : Option Tmp} {ty : TypeId} {pos : String} {af : Array Edge} {gd : Option (Nat × Bool)}
theorem q_convU {src dst' : TypeId} {x : Operand} {k : IntKind} {n : Int} {v : Nat} (hx : lookO env x = .d (.v (.int k n))) (hs : (P.underlying src).isSome = true) (hd : isInt P dst' .u64 = true) (hn : n = (v : Int)) (h : v < 18446744073709551616) :
    Quiet P m ⟨dst, .convert src dst' x, ty, pos, af, gd⟩ env own [] (.d (.v (.int .u64 (v : Int)))) := by
  have := q_conv (P := P) (m := m) (env := env) (own := own) (dst := dst) (ty := ty) (pos := pos) (af := af) (gd := gd) (src := src) .u64 hs hd hx
  rwa [hn, capK_wrap (k := .u64) h] at this
end
attribute [local irreducible] Quiet Eff OpOk AWPG ACont ABlock ACalls AGoto
end Go.Proofs.YtaclmbbiegklcaaGreatDoor
end
section
/- Layer 9 over the machine of abstract values: distance.valid, Left, Losses, of any code. -/
namespace Go.Proofs.YtaclmbbiegklcaaGreatDoor
open Go.RowKit
set_option maxHeartbeats 4000000
set_option maxRecDepth 100000
def decZ (M D : Int) (par : List (List Int)) : List Bool → Bool := decN M.toNat D.toNat (par.map fun r => r.map Int.toNat)
def leftC (nm : List Nat) (M D : Int) (par : List (List Int)) (dom : Int) (hv : List Bool) : Int := if chkC nm M D par dom = true ∧ (hv.length : Int) = D + (par.length : Int) then leftN (decZ M D par) hv else -1
structure FIn (nm : List Nat) (D : Int) (par : List (List Int)) : Prop where
  n : isB nm
  l : nm.length < 9223372036854775808
  d : 0 ≤ D ∧ D ≤ 1000000
  p : par.length ≤ 1000000
theorem toZ_back (ps : List (List Nat)) : ((toZ ps).map fun r => r.map Int.toNat) = ps := by
  unfold toZ
  rw [List.map_map]
  have : ((fun r : List Int => r.map Int.toNat) ∘ fun r : List Nat => r.map fun n : Nat => (n : Int)) = id := by
    funext r
    simp [Function.comp_def]
  rw [this]; simp
theorem decZ_nat (M D : Nat) (ps : List (List Nat)) : decZ M D (toZ ps) = decN M D ps := by
  unfold decZ
  rw [toZ_back]; rfl
theorem chk_code {nm : List Nat} {M D dom : Int} {par : List (List Int)} (h : chkC nm M D par dom = true) : ∃ (m d : Nat) (ps : List (List Nat)), M = m ∧ D = d ∧ par = toZ ps ∧ CodeOk m d ps := ok_valid (chk_valid h)
attribute [local irreducible] Quiet Eff OpOk AWPG ACont ABlock ACalls AGoto
theorem A_dvalid {nm : List Nat} {M D dom : Int} {par : List (List Int)} {n : Nat} (h : FIn nm D par) : ACalls Tryz.prog 108 [cdF nm M D par dom, iV n] [] (bV (decide (chkC nm M D par dom = true ∧ (n : Int) = D + (par.length : Int)))) [] := by
  obtain ⟨e, hc, he⟩ := A_lcheck (M := M) (dom := dom) h.n h.l h.d h.p
  refine acalls_of_body Tryz.func108 rfl (Nat.le_of_ble_eq_true rfl) ?_
  by_cases hk : chkC nm M D par dom = true
  · obtain rfl : e = 0 := he.2 hk
    have hV := chk_valid hk
    obtain ⟨m, d, ps, rfl, rfl, rfl, hok⟩ := chk_code hk
    have hw := (A_ewidth (M := m) (D := d) (code_in hok)).cdF (nm := nm) (dom := dom)
    rw [if_pos hV] at hw
    (repeat' (first
  | (apply W.gOn; exact rfl; exact rfl)
  | (apply W.qd; (first
    | (apply (q_callC (hc)); exact rfl; exact rfl; kernel_rfl; kernel_rfl; kernel_rfl)|(apply (q_callC (hw)); exact rfl; exact rfl; kernel_rfl; kernel_rfl; kernel_rfl)|(apply q_mv; (first|exact vD|exact vO|exact vP|exact vA|exact vF|exact vR|exact vN|exact vY|exact vT|exact vM|exact vL|exact vX))|(apply q_as; (first|exact vD|exact vO|exact vP|exact vA|exact vF|exact vR|exact vN|exact vY|exact vT|exact vM|exact vL|exact vX))|(apply q_ld_boxF; (iterate 4 exact rfl))|(apply q_eql; exact rfl; exact rfl)
    | (apply (q_pickT (u := .d _)); exact rfl; exact rfl)))|(apply W.ed; (apply e_boxF; (iterate 3 exact rfl); kernel_rfl; kernel_rfl))|(apply AWP.seq)|(apply ACont_normal)|(apply W.region; kernel_rfl)|(apply Walk.nil)
  | (apply AWP.ret)))
    refine Ends.b rfl ?_
    rw [decide_eq_decide]
    exact ⟨fun h => ⟨hk, h⟩, fun h => h.2⟩
  · have hne : e ≠ 0 := fun h0 => hk (he.1 h0)
    (repeat' (first
  | (apply W.qd; (first
    | (apply (q_callC (hc)); exact rfl; exact rfl; kernel_rfl; kernel_rfl; kernel_rfl)|(apply q_mv; (first|exact vD|exact vO|exact vP|exact vA|exact vF|exact vR|exact vN|exact vY|exact vT|exact vM|exact vL|exact vX))|(apply q_as; (first|exact vD|exact vO|exact vP|exact vA|exact vF|exact vR|exact vN|exact vY|exact vT|exact vM|exact vL|exact vX))|(apply q_ld_boxF; (iterate 4 exact rfl))|(apply q_eql; exact rfl; exact rfl)
    | (apply (q_pickF (u := .d _)); exact rfl; exact rfl)))|(apply W.ed; (apply e_boxF; (iterate 3 exact rfl); kernel_rfl; kernel_rfl))|(refine W.gOff _ _ rfl rfl (by intro h; cases h) ?_)|(apply AWP.seq)|(apply ACont_normal)|(apply W.region; kernel_rfl)|(apply Walk.nil)|(apply AWP.ret)
  | (refine W.gT _ _ rfl rfl (fun hb => ?_) (fun hb => ?_) <;> ((try simp only [hb, zA, zB]) <;> (try simp only [zC, zD, zE, zF, zG, zH, zI, zJ] at hb) <;> (try (exfalso; omega))))))
    exact Ends.b rfl (decide_eq_false fun h => hk h.1).symm
theorem A_left {nm : List Nat} {M D dom : Int} {par : List (List Int)} {hv : List Bool} (h : FIn nm D par) (hl : hv.length < 9223372036854775808) : ACalls Tryz.prog 64 [cdF nm M D par dom, bools hv] [] (iV (leftC nm M D par dom hv)) [] := by
  have hv0 := A_dvalid (M := M) (dom := dom) (n := hv.length) h
  refine acalls_of_body Tryz.func64 rfl (Nat.le_of_ble_eq_true rfl) ?_
  have hmh : (hv.map tD).length = hv.length := List.length_map _
  rw [← hmh] at hv0
  unfold leftC
  by_cases hk : chkC nm M D par dom = true ∧ (hv.length : Int) = D + (par.length : Int)
  · rw [if_pos hk]
    rw [hmh, decide_eq_true hk, ← hmh] at hv0
    obtain ⟨m, d, ps, rfl, rfl, rfl, hok⟩ := chk_code hk.1
    have hpl : (toZ ps).length = ps.length := List.length_map _
    have hs := A_search hok (hv := hv) (by omega)
    rw [cdN_A] at hs
    have hs := hs.cdF (nm := nm) (dom := dom)
    rw [decZ_nat]
    (repeat' (first
  | (apply W.qd; (first
    | (apply (q_callC (hv0)); exact rfl; exact rfl; kernel_rfl; kernel_rfl; kernel_rfl)|(apply (q_callC (hs)); exact rfl; exact rfl; kernel_rfl; kernel_rfl; kernel_rfl)|(apply q_mv; (first|exact vD|exact vO|exact vP|exact vA|exact vF|exact vR|exact vN|exact vY|exact vT|exact vM|exact vL|exact vX))|(apply q_as; (first|exact vD|exact vO|exact vP|exact vA|exact vF|exact vR|exact vN|exact vY|exact vT|exact vM|exact vL|exact vX))|(apply q_ld_boxF; (iterate 4 exact rfl))|(apply q_not; exact rfl)|(apply q_extract; exact rfl; exact rfl)
    | (apply q_len_sl; exact rfl; exact rfl)))|(apply W.ed; (apply e_boxF; (iterate 3 exact rfl); kernel_rfl; kernel_rfl))|(apply AWP.seq)|(apply ACont_normal)|(apply W.region; kernel_rfl)|(apply Walk.nil)|(apply AWP.skip)|(apply AWP.ret)
  | (apply W.condF; exact rfl)))
    exact Ends.i rfl rfl
  · rw [if_neg hk]
    rw [hmh, decide_eq_false hk, ← hmh] at hv0
    (repeat' (first
  | (apply W.qd; (first
    | (apply (q_callC (hv0)); exact rfl; exact rfl; kernel_rfl; kernel_rfl; kernel_rfl)|(apply q_mv; (first|exact vD|exact vO|exact vP|exact vA|exact vF|exact vR|exact vN|exact vY|exact vT|exact vM|exact vL|exact vX))|(apply q_as; (first|exact vD|exact vO|exact vP|exact vA|exact vF|exact vR|exact vN|exact vY|exact vT|exact vM|exact vL|exact vX))|(apply q_ld_boxF; (iterate 4 exact rfl))|(apply q_not; exact rfl)
    | (apply q_len_sl; exact rfl; exact rfl)))|(apply W.ed; (apply e_boxF; (iterate 3 exact rfl); kernel_rfl; kernel_rfl))|(apply AWP.seq)|(apply ACont_normal)|(apply W.region; kernel_rfl)|(apply Walk.nil)|(apply AWP.ret)|(apply ACont_ret)
  | (apply W.condT; exact rfl)))
    exact Ends.i rfl rfl
end Go.Proofs.YtaclmbbiegklcaaGreatDoor
end
section
/- Layer 36: the health of a stripe as data. -/
namespace Go.Proofs.YtaclmbbiegklcaaGreatDoor
open Go.RowKit
abbrev Hl := Int × Int × Int × Int
def hlD (h : Hl) : List Dat := [.v (.int .i64 h.1), .v (.int .i64 h.2.1), .v (.int .i64 h.2.2.1), .v (.int .i64 h.2.2.2)]
abbrev hls (l : List Hl) : AV := .d (.sl 4 (l.map hlD))
def hl0 : Hl := (0, 0, 0, 0)
end Go.Proofs.YtaclmbbiegklcaaGreatDoor
end
section
/- slices.SortStableFunc at solvent/api.Health: swapRange, rotate, the insertion sort. -/
namespace Go.Proofs.YtaclmbbiegklcaaGreatDoor
open Go.RowKit
set_option maxHeartbeats 4000000
set_option maxRecDepth 100000
def ltH (c : Hl → Hl → Int) (x y : Hl) : Bool := decide (c x y < 0)
structure CmpH (cf : FuncId) (caps : List AV) (B : Ent) (c : Hl → Hl → Int) : Prop where
  isf : isFn Tryz.prog cf = true
  call : ∀ (x y : Hl) (ver : Nat) (rows : List (List Dat)), ACalls Tryz.prog cf (.agg ((hlD x).map .d) :: .agg ((hlD y).map .d) :: caps) [B, .row ver 4 83 rows] (iV (c x y)) [B, .row ver 4 83 rows]
  weak : Weak (ltH c)
attribute [local irreducible] Quiet Eff OpOk AWPG ACont ABlock ACalls AGoto
section
variable {B : Ent} {cf : FuncId} {caps : List AV} {c : Hl → Hl → Int} {ver N : Nat}
abbrev srtH (B : Ent) (ver : Nat) (L : List Hl) : List Ent := [B, .row ver 4 83 (L.map hlD)]
theorem A_swapRangeH {a b n : Nat} {L : List Hl} (hN : N ≤ L.length) (hL : L.length ≤ 1000000) (ha : a + n ≤ N) (hb : b + n ≤ N) :
    ACalls Tryz.prog 210 [.osl 1 ver 0 N, iV a, iV b, iV n, .fn cf caps] (srtH B ver L) (.tup []) (srtH B ver (swpF hl0 n L a b)) := by
  refine acalls_of_bodyS Tryz.func210 rfl (Nat.le_of_ble_eq_true rfl) ?_
  generalize hR : swpF hl0 n L a b = R
  (repeat' (first
  | (apply W.qd; (apply q_as; (first|exact vD|exact vO|exact vP|exact vA|exact vF|exact vR|exact vN|exact vY|exact vT|exact vM|exact vL|exact vX)))|(apply AWP.seq)|(apply ACont_normal)|(apply W.region; kernel_rfl)|(apply Walk.nil)
  | (apply AWP.block)))
  refine AWP.loopE (α := List Hl × Nat) (fun p => p.2 ≤ n ∧ p.1.length = L.length ∧ swpF hl0 (n - p.2) p.1 (a + p.2) (b + p.2) = R) (fun p => ⟨[(10, iV p.2), (0, .osl 1 ver 0 N), (1, iV a), (2, iV b), (3, iV n)], srtH B ver p.1⟩) (fun p => n - p.2) (L, 0) ⟨Nat.zero_le _, rfl, hR⟩ ⟨rfl, by (repeat (first | exact trivial | refine ⟨rfl, ?_⟩))⟩ fun p hp => ?_
  obtain ⟨K, i⟩ := p
  obtain ⟨h1, h2, h3⟩ := hp
  dsimp only at h1 h2 h3 ⊢
  by_cases hin : i < n
  · rw [show n - i = (n - (i + 1)) + 1 by omega, swpF] at h3
    have e1 : K.getD (a + i) hl0 = K[a + i]'(by omega) := by rw [List.getD_eq_getElem?_getD, List.getElem?_eq_getElem (by omega)]; rfl
    have e2 : K.getD (b + i) hl0 = K[b + i]'(by omega) := by rw [List.getD_eq_getElem?_getD, List.getElem?_eq_getElem (by omega)]; rfl
    unfold swpN at h3
    rw [e1, e2] at h3
    (repeat' (first
  | (apply W.qd; (first
    | (apply q_mv; (first|exact vD|exact vO|exact vP|exact vA|exact vF|exact vR|exact vN|exact vY|exact vT|exact vM|exact vL|exact vX))|(apply q_as; (first|exact vD|exact vO|exact vP|exact vA|exact vF|exact vR|exact vN|exact vY|exact vT|exact vM|exact vL|exact vX))|(apply q_lss; exact rfl; exact rfl)|(apply q_add; exact rfl; exact rfl; omega)|(apply q_ix_osl0; (iterate 4 exact rfl); (first | (with_reducible exact rfl) | exact natI_spec rfl | assumption | exact (Int.toNat_of_nonneg (by omega)).symm); (first | omega | (focus (simp only [List.length_map]; omega)) | (focus (simp; done)) | (focus (simp; omega))))
    | (apply q_ld_rptsm; (iterate 4 exact rfl); (first | omega | (focus (simp only [List.length_map]; omega)) | (focus (simp; done)) | (focus (simp; omega))))))|(apply W.en; ((apply (e_st_rptM _); (iterate 9 exact rfl))))|(apply AWP.seq)|(apply ACont_normal)|(apply W.region; kernel_rfl)|(apply W.regionD; exact rfl; kernel_rfl)|(apply Walk.nil)|(apply W.chk; kernel_rfl)|(apply AWP.block)|(apply AWP.skip)|(apply ABlock_normal)
  | (refine W.cond _ rfl (fun hb => ?_) (fun hb => ?_) <;> ((try simp only [hb, zA, zB]) <;> (try simp only [zC, zD, zE, zF, zG, zH, zI, zJ] at hb) <;> (try (exfalso; omega))))))
    exact ⟨(_, i + 1), ⟨by omega, by simp [h2], h3⟩, by dsimp only; omega, rfl, iV_eq (by omega), rfl, rfl, rfl, rfl, trivial⟩
  · rw [show n - i = 0 by omega, swpF] at h3
    subst h3
    (repeat' (first
  | (apply W.qd; (first
    | (apply q_mv; (first|exact vD|exact vO|exact vP|exact vA|exact vF|exact vR|exact vN|exact vY|exact vT|exact vM|exact vL|exact vX))
    | (apply q_lss; exact rfl; exact rfl)))|(apply AWP.seq)|(apply ACont_normal)|(apply W.region; kernel_rfl)|(apply Walk.nil)|(apply AWP.exit)|(apply ACont_exit)|(apply ABlock_exit)
  | (refine W.cond _ rfl (fun hb => ?_) (fun hb => ?_) <;> ((try simp only [hb, zA, zB]) <;> (try simp only [zC, zD, zE, zF, zG, zH, zI, zJ] at hb) <;> (try (exfalso; omega))))))
    exact ⟨.inr rfl, [], trivial, AVle.of_eq rfl, rfl⟩
theorem A_rotateH {a m b : Nat} {P U V S : List Hl} (hN : N ≤ (P ++ (U ++ (V ++ S))).length) (hL : (P ++ (U ++ (V ++ S))).length ≤ 1000000) (ha : P.length = a) (hm : P.length + U.length = m) (hb : m + V.length = b) (hbN : b ≤ N) (hU : 0 < U.length) (hV : 0 < V.length) :
    ACalls Tryz.prog 188 [.osl 1 ver 0 N, iV a, iV m, iV b, .fn cf caps] (srtH B ver (P ++ (U ++ (V ++ S)))) (.tup []) (srtH B ver (P ++ (V ++ (U ++ S)))) := by
  refine acalls_of_bodyS Tryz.func188 rfl (Nat.le_of_ble_eq_true rfl) ?_
  generalize hR : P ++ (V ++ (U ++ S)) = R
  generalize hT : (P ++ (U ++ (V ++ S))).length = T at *
  (repeat' (first
  | (apply W.qd; (first
    | (apply q_mv; (first|exact vD|exact vO|exact vP|exact vA|exact vF|exact vR|exact vN|exact vY|exact vT|exact vM|exact vL|exact vX))|(apply q_as; (first|exact vD|exact vO|exact vP|exact vA|exact vF|exact vR|exact vN|exact vY|exact vT|exact vM|exact vL|exact vX))
    | (apply q_sub; exact rfl; exact rfl; omega)))|(apply AWP.seq)|(apply ACont_normal)|(apply W.region; kernel_rfl)|(apply Walk.nil)
  | (apply AWP.block)))
  refine AWP.loopE (α := List Hl × Nat × Nat) (fun p => p.1.length = T ∧ ∃ P U V S : List Hl, p.1 = P ++ (U ++ (V ++ S)) ∧ P ++ (V ++ (U ++ S)) = R ∧ P.length + U.length = m ∧ U.length = p.2.1 ∧ V.length = p.2.2 ∧ 0 < U.length ∧ 0 < V.length ∧ m + V.length ≤ N) (fun p => ⟨[(10, iV p.2.1), (11, iV p.2.2), (0, .osl 1 ver 0 N), (2, iV m), (4, .fn cf caps)], srtH B ver p.1⟩) (fun p => p.2.1 + p.2.2) (P ++ (U ++ (V ++ S)), U.length, V.length) ⟨hT, P, U, V, S, rfl, hR, hm, rfl, rfl, hU, hV, by omega⟩ ?w0 fun p hp => ?_
  case w0 => exact ⟨rfl, iV_eq (by dsimp only; omega), iV_eq (by dsimp only; omega), rfl, rfl, rfl, trivial⟩
  obtain ⟨K, i, j⟩ := p
  obtain ⟨h0, P, U, V, S, h1, h2, h3, h4, h5, h6, h7, h8⟩ := hp
  dsimp only at h0 h1 h4 h5 ⊢
  clear hU hV ha hb hm hT hR
  have em : ((m : Int) - (i : Int)) = ((m - i : Nat) : Int) := by omega
  rcases Nat.lt_trichotomy i j with hij | hij | hij
  · have hcall := A_swapRangeH (B := B) (ver := ver) (N := N) (a := m - i) (b := m + j - i) (n := i) (L := K) (cf := cf) (caps := caps) (by omega) (by omega) (by omega) (by omega)
    have e2 : iV (((m : Int) + (j : Int)) - (i : Int)) = iV ((m + j - i : Nat) : Int) := iV_eq (by omega)
    rw [← e2, ← em] at hcall
    have hblk := swpF_block hl0 U (V.drop (j - i)) P (V.take (j - i)) S (by rw [List.length_drop]; omega)
    have eK : P ++ (U ++ (V.take (j - i) ++ (V.drop (j - i) ++ S))) = K := by rw [h1, ← List.append_assoc (V.take _), List.take_append_drop]
    rw [eK, h4, show P.length = m - i by omega, show m - i + i + (V.take (j - i)).length = m + j - i by rw [List.length_take]; omega] at hblk
    rw [hblk] at hcall
    have hlen : (P ++ (V.drop (j - i) ++ (V.take (j - i) ++ (U ++ S)))).length = K.length := by rw [← eK]; simp; omega
    (repeat' (first
  | (apply W.qd; (first
    | (apply q_mv; (first|exact vD|exact vO|exact vP|exact vA|exact vF|exact vR|exact vN|exact vY|exact vT|exact vM|exact vL|exact vX))|(apply q_as; (first|exact vD|exact vO|exact vP|exact vA|exact vF|exact vR|exact vN|exact vY|exact vT|exact vM|exact vL|exact vX))|(apply q_gtr; exact rfl; exact rfl)|(apply q_neq; exact rfl; exact rfl)|(apply q_add; exact rfl; exact rfl; omega)
    | (apply q_sub; exact rfl; exact rfl; omega)))|(apply W.ed; ((exact e_callA hcall rfl rfl rfl)))|(apply AWP.seq)|(apply ACont_normal)|(apply W.region; kernel_rfl)|(apply Walk.nil)|(apply AWP.block)|(apply AWP.skip)|(apply ABlock_normal)
  | (refine W.cond _ rfl (fun hb => ?_) (fun hb => ?_) <;> ((try simp only [hb, zA, zB]) <;> (try simp only [zC, zD, zE, zF, zG, zH, zI, zJ] at hb) <;> (try (exfalso; omega))))))
    refine ⟨(P ++ (V.drop (j - i) ++ (V.take (j - i) ++ (U ++ S))), i, j - i), ⟨by dsimp only; omega, P, V.drop (j - i), V.take (j - i), U ++ S, rfl, ?_, by rw [List.length_drop]; omega, by rw [List.length_drop]; dsimp only; omega, by rw [List.length_take]; dsimp only; omega, by rw [List.length_drop]; omega, by rw [List.length_take]; omega, by rw [List.length_take]; omega⟩, by dsimp only; omega, rfl, rfl, iV_eq (by dsimp only; omega), rfl, rfl, rfl, trivial⟩
    rw [← h2, ← List.append_assoc (V.take _), List.take_append_drop]
  · subst hij
    have hcall := A_swapRangeH (B := B) (ver := ver) (N := N) (a := m - i) (b := m) (n := i) (L := K) (cf := cf) (caps := caps) (by omega) (by omega) (by omega) (by omega)
    rw [← em] at hcall
    have hblk := swpF_block hl0 U V P [] S (by omega)
    rw [show P ++ (U ++ ([] ++ (V ++ S))) = K by rw [h1]; simp, h4, show P.length = m - i by omega, show m - i + i + ([] : List Hl).length = m by simp; omega] at hblk
    rw [hblk, show P ++ (V ++ ([] ++ (U ++ S))) = R by rw [← h2]; simp] at hcall
    (repeat' (first
  | (apply W.qd; (first
    | (apply q_mv; (first|exact vD|exact vO|exact vP|exact vA|exact vF|exact vR|exact vN|exact vY|exact vT|exact vM|exact vL|exact vX))|(apply q_neq; exact rfl; exact rfl)
    | (apply q_sub; exact rfl; exact rfl; omega)))|(apply W.ed; ((exact e_callA hcall rfl rfl rfl)))|(apply AWP.seq)|(apply ACont_normal)|(apply W.region; kernel_rfl)|(apply Walk.nil)|(apply AWP.exit)|(apply ACont_exit)|(apply ABlock_exit)
  | (refine W.cond _ rfl (fun hb => ?_) (fun hb => ?_) <;> ((try simp only [hb, zA, zB]) <;> (try simp only [zC, zD, zE, zF, zG, zH, zI, zJ] at hb) <;> (try (exfalso; omega))))))
    exact ⟨.inr rfl, [], trivial, AVle.of_eq rfl, rfl⟩
  · have hcall := A_swapRangeH (B := B) (ver := ver) (N := N) (a := m - i) (b := m) (n := j) (L := K) (cf := cf) (caps := caps) (by omega) (by omega) (by omega) (by omega)
    rw [← em] at hcall
    have hblk := swpF_block hl0 (U.take j) V P (U.drop j) S (by rw [List.length_take]; omega)
    have eK : P ++ (U.take j ++ (U.drop j ++ (V ++ S))) = K := by rw [h1, ← List.append_assoc (U.take _), List.take_append_drop]
    have eTj : (U.take j).length = j := by rw [List.length_take]; omega
    rw [eK, eTj, show P.length = m - i by omega, show m - i + j + (U.drop j).length = m by rw [List.length_drop]; omega] at hblk
    rw [hblk] at hcall
    have hlen : (P ++ (V ++ (U.drop j ++ (U.take j ++ S)))).length = K.length := by rw [← eK]; simp; omega
    (repeat' (first
  | (apply W.qd; (first
    | (apply q_mv; (first|exact vD|exact vO|exact vP|exact vA|exact vF|exact vR|exact vN|exact vY|exact vT|exact vM|exact vL|exact vX))|(apply q_as; (first|exact vD|exact vO|exact vP|exact vA|exact vF|exact vR|exact vN|exact vY|exact vT|exact vM|exact vL|exact vX))|(apply q_gtr; exact rfl; exact rfl)|(apply q_neq; exact rfl; exact rfl)
    | (apply q_sub; exact rfl; exact rfl; omega)))|(apply W.ed; ((exact e_callA hcall rfl rfl rfl)))|(apply AWP.seq)|(apply ACont_normal)|(apply W.region; kernel_rfl)|(apply Walk.nil)|(apply AWP.block)|(apply AWP.skip)|(apply ABlock_normal)
  | (refine W.cond _ rfl (fun hb => ?_) (fun hb => ?_) <;> ((try simp only [hb, zA, zB]) <;> (try simp only [zC, zD, zE, zF, zG, zH, zI, zJ] at hb) <;> (try (exfalso; omega))))))
    refine ⟨(P ++ (V ++ (U.drop j ++ (U.take j ++ S))), i - j, j), ⟨by dsimp only; omega, P ++ V, U.drop j, U.take j, S, by simp, ?_, by rw [List.length_drop, List.length_append]; omega, by rw [List.length_drop]; dsimp only; omega, by rw [eTj], by rw [List.length_drop]; omega, by omega, by omega⟩, by dsimp only; omega, rfl, iV_eq (by dsimp only; omega), rfl, rfl, rfl, rfl, trivial⟩
    rw [← h2, List.append_assoc, ← List.append_assoc (U.take _), List.take_append_drop]
end
end Go.Proofs.YtaclmbbiegklcaaGreatDoor
end
section
/- slices.SortStableFunc at solvent/api.Health: the insertion sort. -/
namespace Go.Proofs.YtaclmbbiegklcaaGreatDoor
open Go.RowKit
set_option maxHeartbeats 4000000
set_option maxRecDepth 100000
attribute [local irreducible] Quiet Eff OpOk AWPG ACont ABlock ACalls AGoto
section
variable {B : Ent} {cf : FuncId} {caps : List AV} {c : Hl → Hl → Int} {ver N : Nat}
theorem A_insSortH {a b : Nat} {P S R : List Hl} (hc : CmpH cf caps B c) (hN : N ≤ (P ++ (S ++ R)).length) (hL : (P ++ (S ++ R)).length ≤ 1000000) (ha : P.length = a) (hb : a + S.length = b) (hbN : b ≤ N) :
    ACalls Tryz.prog 162 [.osl 1 ver 0 N, iV a, iV b, .fn cf caps] (srtH B ver (P ++ (S ++ R))) (.tup []) (srtH B ver (P ++ (sortN (ltH c) S ++ R))) := by
  refine acalls_of_bodyS Tryz.func162 rfl (Nat.le_of_ble_eq_true rfl) ?_
  have hw := hc.weak
  have hgf := hc.isf
  have hcl := hc.call
  generalize hT : (P ++ (S ++ R)).length = T at *
  (repeat' (first
  | (apply W.qd; (first
    | (apply q_mv; (first|exact vD|exact vO|exact vP|exact vA|exact vF|exact vR|exact vN|exact vY|exact vT|exact vM|exact vL|exact vX))|(apply q_as; (first|exact vD|exact vO|exact vP|exact vA|exact vF|exact vR|exact vN|exact vY|exact vT|exact vM|exact vL|exact vX))
    | (apply q_add; exact rfl; exact rfl; omega)))|(apply AWP.seq)|(apply ACont_normal)|(apply W.region; kernel_rfl)|(apply Walk.nil)
  | (apply AWP.block)))
  refine AWP.loopE (α := List Hl × Nat) (fun p => p.1.length = T ∧ a + 1 ≤ p.2 ∧ p.2 ≤ b + 1 ∧ p.1 = P ++ (sortN (ltH c) (S.take (p.2 - a)) ++ (S.drop (p.2 - a) ++ R))) (fun p => ⟨[(8, iV p.2), (0, .osl 1 ver 0 N), (1, iV a), (2, iV b), (3, .fn cf caps)], srtH B ver p.1⟩) (fun p => b + 1 - p.2) (P ++ (S ++ R), a + 1) ⟨hT, Nat.le_refl _, by dsimp only; omega, ?i0⟩ ?w0 fun p hp => ?_
  case i0 =>
    dsimp only
    rw [Nat.add_sub_cancel_left]
    have e : sortN (ltH c) (S.take 1) = S.take 1 := by cases S <;> rfl
    rw [e, ← List.append_assoc (S.take 1), List.take_append_drop]
  case w0 => exact ⟨rfl, iV_eq (by dsimp only; omega), rfl, rfl, rfl, rfl, trivial⟩
  obtain ⟨K, i⟩ := p
  obtain ⟨h1, h2, h3, h4⟩ := hp
  dsimp only at h1 h2 h3 h4 ⊢
  by_cases hib : i < b
  · have hia : i - a < S.length := by omega
    obtain ⟨x, hx⟩ : ∃ x, x = S[i - a] := ⟨_, rfl⟩
    have hdrop : S.drop (i - a) = x :: S.drop (i - a + 1) := by rw [hx]; exact List.drop_eq_getElem_cons hia
    have htake : S.take (i - a + 1) = S.take (i - a) ++ [x] := by rw [hx]; exact List.take_succ_eq_append_getElem hia
    obtain ⟨k1, k2⟩ := sortN_spec hw (S.take (i - a))
    have hkl : (sortN (ltH c) (S.take (i - a))).length = i - a := by rw [sortN_len, List.length_take]; omega
    have hfin : ∀ A Bq : List Hl, Srt (ltH c) (A ++ Bq) → (∀ b ∈ Bq, ltH c x b = true) → Stb (ltH c) (S.take (i - a) ++ [x]) (A ++ x :: Bq) → (∀ A' u, A = A' ++ [u] → ltH c x u = false) → P ++ (A ++ x :: (Bq ++ (S.drop (i - a + 1) ++ R))) = P ++ (sortN (ltH c) (S.take (i + 1 - a)) ++ (S.drop (i + 1 - a) ++ R)) := fun A Bq q1 q2 q3 q4 => by
      have q5 : Srt (ltH c) (A ++ x :: Bq) := srt_insert hw q1 (fun y hy => by
        rcases List.eq_nil_or_concat A with rfl | ⟨A', u, rfl⟩
        · simp at hy
        · rw [List.concat_eq_append] at hy q1 q4
          exact hw.le_trans (q1.left.last hw hy) (q4 A' u rfl)) (fun y hy => hw.asymm (q2 y hy))
      have q6 := sortN_eq hw q5 q3
      rw [← htake] at q6
      rw [show i + 1 - a = i - a + 1 by omega, ← q6]
      simp
    clear hdrop htake
    have h4 : K = P ++ (sortN (ltH c) (S.take (i - a)) ++ x :: ([] ++ (S.drop (i - a + 1) ++ R))) := by
      rw [h4, show S.drop (i - a) = x :: S.drop (i - a + 1) by rw [hx]; exact List.drop_eq_getElem_cons hia]; simp
    generalize sortN (ltH c) (S.take (i - a)) = Z at *
    (repeat' (first
  | (apply W.qd; (first
    | (apply q_mv; (first|exact vD|exact vO|exact vP|exact vA|exact vF|exact vR|exact vN|exact vY|exact vT|exact vM|exact vL|exact vX))|(apply q_as; (first|exact vD|exact vO|exact vP|exact vA|exact vF|exact vR|exact vN|exact vY|exact vT|exact vM|exact vL|exact vX))
    | (apply q_lss; exact rfl; exact rfl)))|(apply AWP.seq)|(apply ACont_normal)|(apply W.region; kernel_rfl)|(apply Walk.nil)|(apply AWP.block)|(apply AWP.skip)
  | (refine W.cond _ rfl (fun hb => ?_) (fun hb => ?_) <;> ((try simp only [hb, zA, zB]) <;> (try simp only [zC, zD, zE, zF, zG, zH, zI, zJ] at hb) <;> (try (exfalso; omega))))))
    refine AWP.loopE (α := List Hl × Nat) (fun p => p.1.length = T ∧ p.2 ≤ i ∧ ∃ A Bq : List Hl, p.1 = P ++ (A ++ x :: (Bq ++ (S.drop (i - a + 1) ++ R))) ∧ P.length + A.length = p.2 ∧ Srt (ltH c) (A ++ Bq) ∧ (∀ b ∈ Bq, ltH c x b = true) ∧ Stb (ltH c) (S.take (i - a) ++ [x]) (A ++ x :: Bq)) (fun p => ⟨[(9, iV p.2), (8, iV i), (0, .osl 1 ver 0 N), (1, iV a), (2, iV b), (3, .fn cf caps)], srtH B ver p.1⟩) (fun p => p.2) (K, i) ⟨h1, Nat.le_refl _, Z, [], h4, by dsimp only; omega, by rw [List.append_nil]; exact k1, by simp, k2.app (Stb.refl [x])⟩ ⟨rfl, by (repeat (first | exact trivial | refine ⟨rfl, ?_⟩))⟩ fun p hp => ?_
    obtain ⟨K', j⟩ := p
    obtain ⟨g1, g2, A, Bq, g3, g4, g5, g6, g7⟩ := hp
    dsimp only at g1 g2 g3 g4 ⊢
    clear h4 h1 k1 k2 hkl
    by_cases hja : a < j
    · rcases List.eq_nil_or_concat A with rfl | ⟨A', u, rfl⟩
      · simp only [List.length_nil] at g4; omega
      · rw [List.concat_eq_append] at g3 g4 g5 g7
        have hl1 : A'.length + 1 = (A' ++ [u]).length := by simp
        have hj1 : j < K'.length := by omega
        have ej : (j : Int) - 1 = ((j - 1 : Nat) : Int) := by omega
        have gK : K' = (P ++ A') ++ u :: x :: (Bq ++ (S.drop (i - a + 1) ++ R)) := by rw [g3]; simp
        have el : (P ++ A').length = j - 1 := by rw [List.length_append]; omega
        have ed1 : K'.getD (j - 1) hl0 = u := by rw [gK, ← el]; exact getD_mid _ _ _ _
        have ed2 : K'.getD j hl0 = x := by
          have := getD_mid hl0 ((P ++ A') ++ [u]) (Bq ++ (S.drop (i - a + 1) ++ R)) x
          rw [List.length_append, el, List.length_singleton, show j - 1 + 1 = j by omega] at this
          rw [gK]; simpa using this
        have eg1 : K'[j - 1]'(by omega) = u := by rw [← ed1, List.getD_eq_getElem?_getD, List.getElem?_eq_getElem (by omega)]; rfl
        have eg2 : K'[j] = x := by rw [← ed2, List.getD_eq_getElem?_getD, List.getElem?_eq_getElem (by omega)]; rfl
        have hcall := hcl (K'[j]) (K'[j - 1]'(by omega)) ver (K'.map hlD)
        by_cases hlt : c (K'[j]) (K'[j - 1]'(by omega)) < 0
        · have hswp := swp_adj' hl0 (P ++ A') (Bq ++ (S.drop (i - a + 1) ++ R)) u x
          rw [← gK, el, show j - 1 + 1 = j by omega] at hswp
          unfold swpN at hswp
          have hux : ltH c x u = true := by unfold ltH; rw [← eg1, ← eg2]; exact decide_eq_true hlt
          rw [ed1, ed2, ← eg1, ← eg2] at hswp
          clear hfin hcl
          (repeat' (first
  | (apply W.gOn; exact rfl; exact rfl)
  | (apply W.qd; (first
    | (apply q_mv; (first|exact vD|exact vO|exact vP|exact vA|exact vF|exact vR|exact vN|exact vY|exact vT|exact vM|exact vL|exact vX))|(apply q_as; (first|exact vD|exact vO|exact vP|exact vA|exact vF|exact vR|exact vN|exact vY|exact vT|exact vM|exact vL|exact vX))|(apply q_lss; exact rfl; exact rfl)|(apply q_gtr; exact rfl; exact rfl)|(apply q_sub; exact rfl; exact rfl; omega)|(apply (q_pickT (u := .d _)); exact rfl; exact rfl)|(apply q_ix_osl0; (iterate 4 exact rfl); (first | (with_reducible exact rfl) | exact natI_spec rfl | assumption | exact (Int.toNat_of_nonneg (by omega)).symm); (first | omega | (focus (simp only [List.length_map]; omega)) | (focus (simp; done)) | (focus (simp; omega))))
    | (apply q_ld_rptsm; (iterate 4 exact rfl); (first | omega | (focus (simp only [List.length_map]; omega)) | (focus (simp; done)) | (focus (simp; omega))))))|(apply W.ed; (apply (e_callS (hcall)); exact rfl; exact rfl; (first | assumption | kernel_rfl)))|(apply W.en; ((apply (e_st_rptM _); (iterate 9 exact rfl))))|(apply AWP.seq)|(apply ACont_normal)|(apply W.region; kernel_rfl)|(apply W.regionD; exact rfl; kernel_rfl)|(apply Walk.nil)|(apply W.chk; kernel_rfl)|(apply AWP.block)|(apply AWP.skip)|(apply ABlock_normal)|(refine W.gT _ _ rfl rfl (fun hb => ?_) (fun hb => ?_) <;> ((try simp only [hb, zA, zB]) <;> (try simp only [zC, zD, zE, zF, zG, zH, zI, zJ] at hb) <;> (try (exfalso; omega))))
  | (refine W.cond _ rfl (fun hb => ?_) (fun hb => ?_) <;> ((try simp only [hb, zA, zB]) <;> (try simp only [zC, zD, zE, zF, zG, zH, zI, zJ] at hb) <;> (try (exfalso; omega))))))
          refine ⟨(_, j - 1), ⟨by simp [g1], by dsimp only; omega, A', u :: Bq, hswp.trans ?_, by dsimp only; omega, by simpa using g5, fun y hy => ?_, Stb.trans g7 ?_⟩, by dsimp only; omega, rfl, iV_eq (by dsimp only; omega), rfl, rfl, rfl, rfl, rfl, trivial⟩
          · rw [eg1, eg2]; simp
          · rcases List.mem_cons.1 hy with rfl | hy
            · exact hux
            · exact g6 y hy
          · have := ((Stb.refl A').app (Stb.swap (lt := ltH c) hw (U := [u]) (X := [x]) fun y hy z hz => by rw [List.mem_singleton.1 hy, List.mem_singleton.1 hz]; exact hux)).app (Stb.refl Bq)
            simpa using this
        · have hux : ltH c x u = false := by unfold ltH; rw [← eg1, ← eg2]; exact decide_eq_false hlt
          have hK := hfin (A' ++ [u]) Bq g5 g6 g7 fun A2 u2 e => by
            obtain ⟨_, rfl⟩ := List.append_inj' e rfl |>.imp id (fun h => by simpa using h)
            exact hux
          rw [← g3] at hK
          clear hfin hcl
          (repeat' (first
  | (apply W.gOn; exact rfl; exact rfl)
  | (apply W.qd; (first
    | (apply q_mv; (first|exact vD|exact vO|exact vP|exact vA|exact vF|exact vR|exact vN|exact vY|exact vT|exact vM|exact vL|exact vX))|(apply q_as; (first|exact vD|exact vO|exact vP|exact vA|exact vF|exact vR|exact vN|exact vY|exact vT|exact vM|exact vL|exact vX))|(apply q_lss; exact rfl; exact rfl)|(apply q_gtr; exact rfl; exact rfl)|(apply q_add; exact rfl; exact rfl; omega)|(apply q_sub; exact rfl; exact rfl; omega)|(apply (q_pickT (u := .d _)); exact rfl; exact rfl)|(apply q_ix_osl0; (iterate 4 exact rfl); (first | (with_reducible exact rfl) | exact natI_spec rfl | assumption | exact (Int.toNat_of_nonneg (by omega)).symm); (first | omega | (focus (simp only [List.length_map]; omega)) | (focus (simp; done)) | (focus (simp; omega))))
    | (apply q_ld_rptsm; (iterate 4 exact rfl); (first | omega | (focus (simp only [List.length_map]; omega)) | (focus (simp; done)) | (focus (simp; omega))))))|(apply W.ed; (apply (e_callS (hcall)); exact rfl; exact rfl; (first | assumption | kernel_rfl)))|(apply AWP.seq)|(apply ACont_normal)|(apply W.region; kernel_rfl)|(apply W.regionD; exact rfl; kernel_rfl)|(apply Walk.nil)|(apply W.chk; kernel_rfl)|(apply AWP.exit)|(apply ACont_exit)|(apply ABlock_normal)|(apply ABlock_exit)|(refine W.gT _ _ rfl rfl (fun hb => ?_) (fun hb => ?_) <;> ((try simp only [hb, zA, zB]) <;> (try simp only [zC, zD, zE, zF, zG, zH, zI, zJ] at hb) <;> (try (exfalso; omega))))
  | (refine W.cond _ rfl (fun hb => ?_) (fun hb => ?_) <;> ((try simp only [hb, zA, zB]) <;> (try simp only [zC, zD, zE, zF, zG, zH, zI, zJ] at hb) <;> (try (exfalso; omega))))))
          exact ⟨(K', i + 1), ⟨g1, by dsimp only; omega, by dsimp only; omega, hK⟩, by dsimp only; omega, rfl, iV_eq (by dsimp only; omega), rfl, rfl, rfl, rfl, trivial⟩
    · have hA : A = [] := List.eq_nil_of_length_eq_zero (by omega)
      subst hA
      have hK := hfin [] Bq g5 g6 g7 fun A2 u2 e => by simp at e
      rw [← g3] at hK
      clear hfin hcl
      (repeat' (first
  | (apply W.qd; (first
    | (apply q_mv; (first|exact vD|exact vO|exact vP|exact vA|exact vF|exact vR|exact vN|exact vY|exact vT|exact vM|exact vL|exact vX))|(apply q_as; (first|exact vD|exact vO|exact vP|exact vA|exact vF|exact vR|exact vN|exact vY|exact vT|exact vM|exact vL|exact vX))|(apply q_gtr; exact rfl; exact rfl)|(apply q_add; exact rfl; exact rfl; omega)
    | (apply (q_pickF (u := .d _)); exact rfl; exact rfl)))|(refine W.gOff _ _ rfl rfl (by intro h; cases h) ?_)|(apply AWP.seq)|(apply ACont_normal)|(apply W.region; kernel_rfl)|(apply W.regionD; exact rfl; kernel_rfl)|(apply Walk.nil)|(apply W.chk; kernel_rfl)|(apply AWP.exit)|(apply ACont_exit)|(apply ABlock_normal)|(apply ABlock_exit)|(apply W.condF; exact rfl)
  | (refine W.gT _ _ rfl rfl (fun hb => ?_) (fun hb => ?_) <;> ((try simp only [hb, zA, zB]) <;> (try simp only [zC, zD, zE, zF, zG, zH, zI, zJ] at hb) <;> (try (exfalso; omega))))))
      exact ⟨(K', i + 1), ⟨g1, by dsimp only; omega, by dsimp only; omega, hK⟩, by dsimp only; omega, rfl, iV_eq (by dsimp only; omega), rfl, rfl, rfl, rfl, trivial⟩
  · have e1 : S.take (i - a) = S := List.take_of_length_le (by omega)
    have e2 : S.drop (i - a) = [] := List.drop_eq_nil_of_le (by omega)
    rw [e1, e2, List.nil_append] at h4
    rw [← h4]
    clear hcl
    (repeat' (first
  | (apply W.qd; (first
    | (apply q_mv; (first|exact vD|exact vO|exact vP|exact vA|exact vF|exact vR|exact vN|exact vY|exact vT|exact vM|exact vL|exact vX))
    | (apply q_lss; exact rfl; exact rfl)))|(apply AWP.seq)|(apply ACont_normal)|(apply W.region; kernel_rfl)|(apply Walk.nil)|(apply AWP.exit)|(apply ACont_exit)|(apply ABlock_exit)
  | (refine W.cond _ rfl (fun hb => ?_) (fun hb => ?_) <;> ((try simp only [hb, zA, zB]) <;> (try simp only [zC, zD, zE, zF, zG, zH, zI, zJ] at hb) <;> (try (exfalso; omega))))))
    exact ⟨.inr rfl, [], trivial, AVle.of_eq rfl, rfl⟩
end
end Go.Proofs.YtaclmbbiegklcaaGreatDoor
end
