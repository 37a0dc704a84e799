import Derived.Test.YtaclmbbiegklcaaDoorMClassSeparate4
/- Joined texts: Cl3 Cl4 Cl5 Cl6 Cl7 Cl8 Cl11 Cl12. -/
set_option linter.unusedVariables false
set_option linter.unusedSimpArgs false
section
/- Layer 30 over the machine of abstract values: copies of lists, of a code, of a library. -/
namespace Go.Proofs.YtaclmbbiegklcaaDoor
open Go.RowKit
set_option maxHeartbeats 4000000
set_option maxRecDepth 100000
attribute [local irreducible] Quiet Eff OpOk AWPG ACont ABlock ACalls AGoto
theorem A_cloneC (l : List Cd) (hl : l.length ≤ 1000000) : ∃ ver, ACalls Tryd.prog 79 [cds l] [] (.osl 0 ver 0 l.length) [.row ver 5 28 (l.map cdD)] := by
  have hm : (l.map cdD).length = l.length := List.length_map _
  rcases Nat.eq_zero_or_pos l.length with h0 | h0
  · obtain rfl := List.eq_nil_of_length_eq_zero h0
    refine ⟨0, acalls_empty fun A c hc => ?_⟩
    cases A with
    | none =>
      refine acalls_nilrow (own' := []) 0 5 28 (by omega) ?_
      refine acalls_of_body Tryd.func79 rfl (Nat.le_of_ble_eq_true rfl) ?_
      (repeat' (first
  | (apply W.qd; (first
    | ((apply q_eqnilV; (iterate 3 exact rfl)))|(apply q_mv; (first|exact vD|exact vO|exact vP|exact vA|exact vF|exact vR|exact vN|exact vY|exact vT|exact vM|exact vL|exact vX))
    | (apply q_as; (first|exact vD|exact vO|exact vP|exact vA|exact vF|exact vR|exact vN|exact vY|exact vT|exact vM|exact vL|exact vX))))|(apply AWP.seq)|(apply ACont_normal)|(apply W.region; kernel_rfl)|(apply Walk.nil)|(apply AWP.ret)|(apply ACont_ret)
  | (apply W.condT; exact rfl)))
      exact Ends.d rfl rfl
    | some b =>
      refine acalls_of_bodyO Tryd.func79 rfl (Nat.le_of_ble_eq_true rfl) ?_
      (repeat' (first
  | (apply W.qd; (first
    | ((apply q_eqnilV; (iterate 3 exact rfl)))|(apply q_mv; (first|exact vD|exact vO|exact vP|exact vA|exact vF|exact vR|exact vN|exact vY|exact vT|exact vM|exact vL|exact vX))
    | (apply q_as; (first|exact vD|exact vO|exact vP|exact vA|exact vF|exact vR|exact vN|exact vY|exact vT|exact vM|exact vL|exact vX))))|(apply AWP.seq)|(apply ACont_normal)|(apply (W.regionS 3); exact rfl; kernel_rfl)|(apply Walk.nil)|(apply AWP.skip)
  | (apply W.condF; exact rfl)))
      refine AWP.le 0 (cds []) rfl (AVle.empty hc 5) ?_
      (repeat' (first
  | (apply W.ed; (apply e_lit0F; (iterate 5 exact rfl)))
  | (apply W.qd; (first
    | (apply q_mv; (first|exact vD|exact vO|exact vP|exact vA|exact vF|exact vR|exact vN|exact vY|exact vT|exact vM|exact vL|exact vX))|(apply q_as; (first|exact vD|exact vO|exact vP|exact vA|exact vF|exact vR|exact vN|exact vY|exact vT|exact vM|exact vL|exact vX))
    | (apply q_app0; (iterate 4 exact rfl))))|(apply ACont_normal)|(apply W.region; kernel_rfl)|(apply Walk.nil)
  | (apply AWP.ret)))
      exact ⟨.inl rfl, [0], [.osl 0 0 0 0], rfl, rfl, ⟨rfl, trivial⟩, AVle.of_eq rfl, rfl⟩
  · refine ⟨1, ?_⟩
    refine acalls_of_bodyO Tryd.func79 rfl (Nat.le_of_ble_eq_true rfl) ?_
    (repeat' (first
  | (apply W.ed; (apply e_lit0F; (iterate 5 exact rfl)))
  | (apply W.qd; (first
    | (apply q_mv; (first|exact vD|exact vO|exact vP|exact vA|exact vF|exact vR|exact vN|exact vY|exact vT|exact vM|exact vL|exact vX))|(apply q_as; (first|exact vD|exact vO|exact vP|exact vA|exact vF|exact vR|exact vN|exact vY|exact vT|exact vM|exact vL|exact vX))
    | (apply q_eqnilm; (iterate 3 exact rfl); (first | assumption | omega))))|(apply W.ed; (apply e_appF; (iterate 8 exact rfl); (first | rfl | simp); (first | exact Nat.zero_lt_one | (focus (simp; done)) | omega); (first | (focus (simp; done)) | (focus (simp; omega)) | omega)))|(apply AWP.seq)|(apply ACont_normal)|(apply W.region; kernel_rfl)|(apply Walk.nil)|(apply AWP.skip)|(apply AWP.ret)
  | (apply W.condF; exact rfl)))
    refine ⟨.inl rfl, [0], [.osl 0 1 0 ((([] : List Nat).length) + (l.map cdD).length)], rfl, rfl, ⟨rfl, trivial⟩, AVle.of_eq ?_, rfl⟩
    show AV.osl 0 1 0 (0 + (l.map cdD).length) = .osl 0 1 0 l.length
    rw [hm, Nat.zero_add]
theorem A_cloneV (l : List Sv) (hl : l.length ≤ 1000000) : ∃ ver, ACalls Tryd.prog 80 [svs l] [] (.osl 0 ver 0 l.length) [.row ver 5 42 (l.map svD)] := by
  have hm : (l.map svD).length = l.length := List.length_map _
  rcases Nat.eq_zero_or_pos l.length with h0 | h0
  · obtain rfl := List.eq_nil_of_length_eq_zero h0
    refine ⟨0, acalls_empty fun A c hc => ?_⟩
    cases A with
    | none =>
      refine acalls_nilrow (own' := []) 0 5 42 (by omega) ?_
      refine acalls_of_body Tryd.func80 rfl (Nat.le_of_ble_eq_true rfl) ?_
      (repeat' (first
  | (apply W.qd; (first
    | ((apply q_eqnilV; (iterate 3 exact rfl)))|(apply q_mv; (first|exact vD|exact vO|exact vP|exact vA|exact vF|exact vR|exact vN|exact vY|exact vT|exact vM|exact vL|exact vX))
    | (apply q_as; (first|exact vD|exact vO|exact vP|exact vA|exact vF|exact vR|exact vN|exact vY|exact vT|exact vM|exact vL|exact vX))))|(apply AWP.seq)|(apply ACont_normal)|(apply W.region; kernel_rfl)|(apply Walk.nil)|(apply AWP.ret)|(apply ACont_ret)
  | (apply W.condT; exact rfl)))
      exact Ends.d rfl rfl
    | some b =>
      refine acalls_of_bodyO Tryd.func80 rfl (Nat.le_of_ble_eq_true rfl) ?_
      (repeat' (first
  | (apply W.qd; (first
    | ((apply q_eqnilV; (iterate 3 exact rfl)))|(apply q_mv; (first|exact vD|exact vO|exact vP|exact vA|exact vF|exact vR|exact vN|exact vY|exact vT|exact vM|exact vL|exact vX))
    | (apply q_as; (first|exact vD|exact vO|exact vP|exact vA|exact vF|exact vR|exact vN|exact vY|exact vT|exact vM|exact vL|exact vX))))|(apply AWP.seq)|(apply ACont_normal)|(apply (W.regionS 3); exact rfl; kernel_rfl)|(apply Walk.nil)|(apply AWP.skip)
  | (apply W.condF; exact rfl)))
      refine AWP.le 0 (svs []) rfl (AVle.empty hc 5) ?_
      (repeat' (first
  | (apply W.ed; (apply e_lit0F; (iterate 5 exact rfl)))
  | (apply W.qd; (first
    | (apply q_mv; (first|exact vD|exact vO|exact vP|exact vA|exact vF|exact vR|exact vN|exact vY|exact vT|exact vM|exact vL|exact vX))|(apply q_as; (first|exact vD|exact vO|exact vP|exact vA|exact vF|exact vR|exact vN|exact vY|exact vT|exact vM|exact vL|exact vX))
    | (apply q_app0; (iterate 4 exact rfl))))|(apply ACont_normal)|(apply W.region; kernel_rfl)|(apply Walk.nil)
  | (apply AWP.ret)))
      exact ⟨.inl rfl, [0], [.osl 0 0 0 0], rfl, rfl, ⟨rfl, trivial⟩, AVle.of_eq rfl, rfl⟩
  · refine ⟨1, ?_⟩
    refine acalls_of_bodyO Tryd.func80 rfl (Nat.le_of_ble_eq_true rfl) ?_
    (repeat' (first
  | (apply W.ed; (apply e_lit0F; (iterate 5 exact rfl)))
  | (apply W.qd; (first
    | (apply q_mv; (first|exact vD|exact vO|exact vP|exact vA|exact vF|exact vR|exact vN|exact vY|exact vT|exact vM|exact vL|exact vX))|(apply q_as; (first|exact vD|exact vO|exact vP|exact vA|exact vF|exact vR|exact vN|exact vY|exact vT|exact vM|exact vL|exact vX))
    | (apply q_eqnilm; (iterate 3 exact rfl); (first | assumption | omega))))|(apply W.ed; (apply e_appF; (iterate 8 exact rfl); (first | rfl | simp); (first | exact Nat.zero_lt_one | (focus (simp; done)) | omega); (first | (focus (simp; done)) | (focus (simp; omega)) | omega)))|(apply AWP.seq)|(apply ACont_normal)|(apply W.region; kernel_rfl)|(apply Walk.nil)|(apply AWP.skip)|(apply AWP.ret)
  | (apply W.condF; exact rfl)))
    refine ⟨.inl rfl, [0], [.osl 0 1 0 ((([] : List Nat).length) + (l.map svD).length)], rfl, rfl, ⟨rfl, trivial⟩, AVle.of_eq ?_, rfl⟩
    show AV.osl 0 1 0 (0 + (l.map svD).length) = .osl 0 1 0 l.length
    rw [hm, Nat.zero_add]
theorem A_cloneP (l : List (List Int)) (hl : l.length ≤ 1000000) : ∃ ver, ACalls Tryd.prog 81 [rowsA l] [] (.osl 0 ver 0 l.length) [.row ver 1 40 (l.map rD)] := by
  have hm : (l.map rD).length = l.length := List.length_map _
  rcases Nat.eq_zero_or_pos l.length with h0 | h0
  · obtain rfl := List.eq_nil_of_length_eq_zero h0
    refine ⟨0, acalls_empty fun A c hc => ?_⟩
    cases A with
    | none =>
      refine acalls_nilrow (own' := []) 0 1 40 (by omega) ?_
      refine acalls_of_body Tryd.func81 rfl (Nat.le_of_ble_eq_true rfl) ?_
      (repeat' (first
  | (apply W.qd; (first
    | ((apply q_eqnilV; (iterate 3 exact rfl)))|(apply q_mv; (first|exact vD|exact vO|exact vP|exact vA|exact vF|exact vR|exact vN|exact vY|exact vT|exact vM|exact vL|exact vX))
    | (apply q_as; (first|exact vD|exact vO|exact vP|exact vA|exact vF|exact vR|exact vN|exact vY|exact vT|exact vM|exact vL|exact vX))))|(apply AWP.seq)|(apply ACont_normal)|(apply W.region; kernel_rfl)|(apply Walk.nil)|(apply AWP.ret)|(apply ACont_ret)
  | (apply W.condT; exact rfl)))
      exact Ends.d rfl rfl
    | some b =>
      refine acalls_of_bodyO Tryd.func81 rfl (Nat.le_of_ble_eq_true rfl) ?_
      (repeat' (first
  | (apply W.qd; (first
    | ((apply q_eqnilV; (iterate 3 exact rfl)))|(apply q_mv; (first|exact vD|exact vO|exact vP|exact vA|exact vF|exact vR|exact vN|exact vY|exact vT|exact vM|exact vL|exact vX))
    | (apply q_as; (first|exact vD|exact vO|exact vP|exact vA|exact vF|exact vR|exact vN|exact vY|exact vT|exact vM|exact vL|exact vX))))|(apply AWP.seq)|(apply ACont_normal)|(apply (W.regionS 3); exact rfl; kernel_rfl)|(apply Walk.nil)|(apply AWP.skip)
  | (apply W.condF; exact rfl)))
      refine AWP.le 0 (rowsA []) rfl (AVle.empty hc 1) ?_
      (repeat' (first
  | (apply W.ed; (apply e_lit0F; (iterate 5 exact rfl)))
  | (apply W.qd; (first
    | (apply q_mv; (first|exact vD|exact vO|exact vP|exact vA|exact vF|exact vR|exact vN|exact vY|exact vT|exact vM|exact vL|exact vX))|(apply q_as; (first|exact vD|exact vO|exact vP|exact vA|exact vF|exact vR|exact vN|exact vY|exact vT|exact vM|exact vL|exact vX))
    | (apply q_app0; (iterate 4 exact rfl))))|(apply ACont_normal)|(apply W.region; kernel_rfl)|(apply Walk.nil)
  | (apply AWP.ret)))
      exact ⟨.inl rfl, [0], [.osl 0 0 0 0], rfl, rfl, ⟨rfl, trivial⟩, AVle.of_eq rfl, rfl⟩
  · refine ⟨1, ?_⟩
    refine acalls_of_bodyO Tryd.func81 rfl (Nat.le_of_ble_eq_true rfl) ?_
    (repeat' (first
  | (apply W.ed; (apply e_lit0F; (iterate 5 exact rfl)))
  | (apply W.qd; (first
    | (apply q_mv; (first|exact vD|exact vO|exact vP|exact vA|exact vF|exact vR|exact vN|exact vY|exact vT|exact vM|exact vL|exact vX))|(apply q_as; (first|exact vD|exact vO|exact vP|exact vA|exact vF|exact vR|exact vN|exact vY|exact vT|exact vM|exact vL|exact vX))
    | (apply q_eqnilm; (iterate 3 exact rfl); (first | assumption | omega))))|(apply W.ed; (apply e_appF; (iterate 8 exact rfl); (first | rfl | simp); (first | exact Nat.zero_lt_one | (focus (simp; done)) | omega); (first | (focus (simp; done)) | (focus (simp; omega)) | omega)))|(apply AWP.seq)|(apply ACont_normal)|(apply W.region; kernel_rfl)|(apply Walk.nil)|(apply AWP.skip)|(apply AWP.ret)
  | (apply W.condF; exact rfl)))
    refine ⟨.inl rfl, [0], [.osl 0 1 0 ((([] : List Nat).length) + (l.map rD).length)], rfl, rfl, ⟨rfl, trivial⟩, AVle.of_eq ?_, rfl⟩
    show AV.osl 0 1 0 (0 + (l.map rD).length) = .osl 0 1 0 l.length
    rw [hm, Nat.zero_add]
theorem A_cloneK (l : List Int) (hl : l.length ≤ 1000000) : ACalls Tryd.prog 82 [ints l] [] (ints l) [] := by
  rcases Nat.eq_zero_or_pos l.length with h0 | h0
  · obtain rfl := List.eq_nil_of_length_eq_zero h0
    refine acalls_empty fun A c hc => ?_
    refine acalls_of_body Tryd.func82 rfl (Nat.le_of_ble_eq_true rfl) ?_
    (repeat' (first
  | (apply W.qd; (first
    | ((apply q_eqnilV; (iterate 3 exact rfl)))|(apply q_mv; (first|exact vD|exact vO|exact vP|exact vA|exact vF|exact vR|exact vN|exact vY|exact vT|exact vM|exact vL|exact vX))
    | (apply q_as; (first|exact vD|exact vO|exact vP|exact vA|exact vF|exact vR|exact vN|exact vY|exact vT|exact vM|exact vL|exact vX))))|(apply AWP.seq)|(apply ACont_normal)|(apply (W.regionS 3); exact rfl; kernel_rfl)|(apply Walk.nil)|(apply AWP.skip)|(apply AWP.ret)|(apply ACont_ret)
  | (refine W.cond _ rfl (fun hb => ?_) (fun hb => ?_) <;> ((try simp only [hb, zA, zB]) <;> (try simp only [zC, zD, zE, zF, zG, zH, zI, zJ] at hb) <;> (try (exfalso; omega))))))
    · exact Ends.nil rfl rfl
    · refine AWP.le 0 (ints []) rfl (AVle.empty hc 1) ?_
      (repeat' (first
  | (apply W.ed; (apply e_lit0F; (iterate 5 exact rfl)))
  | (apply W.qd; (first
    | (apply q_mv; (first|exact vD|exact vO|exact vP|exact vA|exact vF|exact vR|exact vN|exact vY|exact vT|exact vM|exact vL|exact vX))|(apply q_as; (first|exact vD|exact vO|exact vP|exact vA|exact vF|exact vR|exact vN|exact vY|exact vT|exact vM|exact vL|exact vX))
    | (apply q_app0; (iterate 4 exact rfl))))|(apply ACont_normal)|(apply W.region; kernel_rfl)|(apply Walk.nil)
  | (apply AWP.ret)))
      exact Ends.osl rfl rfl rfl rfl
  · refine acalls_of_body Tryd.func82 rfl (Nat.le_of_ble_eq_true rfl) ?_
    have hm : (l.map iD).length = l.length := List.length_map _
    (repeat' (first
  | (apply W.ed; (apply e_lit0F; (iterate 5 exact rfl)))
  | (apply W.qd; (first
    | (apply q_mv; (first|exact vD|exact vO|exact vP|exact vA|exact vF|exact vR|exact vN|exact vY|exact vT|exact vM|exact vL|exact vX))|(apply q_as; (first|exact vD|exact vO|exact vP|exact vA|exact vF|exact vR|exact vN|exact vY|exact vT|exact vM|exact vL|exact vX))
    | (apply q_eqnilm; (iterate 3 exact rfl); (first | assumption | omega))))|(apply W.ed; (apply e_appF; (iterate 8 exact rfl); (first | rfl | simp); (first | exact Nat.zero_lt_one | (focus (simp; done)) | omega); (first | (focus (simp; done)) | (focus (simp; omega)) | omega)))|(apply AWP.seq)|(apply ACont_normal)|(apply W.region; kernel_rfl)|(apply Walk.nil)|(apply AWP.skip)|(apply AWP.ret)
  | (apply W.condF; exact rfl)))
    exact Ends.osl rfl rfl (by simp) rfl
theorem A_fresh {c : Cd} (hp : c.2.2.2.1.length ≤ 1000000) (hr : ∀ r ∈ c.2.2.2.1, r.length ≤ 1000000) : ACalls Tryd.prog 43 [cdA1 c] [] (cdA1 c) [] := by
  obtain ⟨nm, M, D, par, dom⟩ := c
  dsimp only at hp hr
  have hm : (par.map rD).length = par.length := List.length_map _
  obtain ⟨ver, hc⟩ := A_cloneP par hp
  refine acalls_of_body Tryd.func43 rfl (Nat.le_of_ble_eq_true rfl) ?_
  (repeat' (first
  | (apply W.qd; (first
    | (apply q_mv; (first|exact vD|exact vO|exact vP|exact vA|exact vF|exact vR|exact vN|exact vY|exact vT|exact vM|exact vL|exact vX))|(apply q_fld_optF; (iterate 3 exact rfl))|(apply q_ld_box; (iterate 4 exact rfl))
    | (apply q_len_osl; (iterate 3 exact rfl))))
  | (apply W.ed; (first
    | (apply (e_callJ (js := []) (hc)); (iterate 5 exact rfl); kernel_rfl; kernel_rfl)|(apply e_boxF; (iterate 3 exact rfl); kernel_rfl; kernel_rfl)
    | (apply e_allocF; (iterate 3 exact rfl); kernel_rfl)))|(apply W.ln; (apply l_st_box; (iterate 6 exact rfl); kernel_rfl; kernel_rfl; kernel_rfl))|(apply AWP.seq)|(apply ACont_normal)|(apply (W.regionS 3); exact rfl; kernel_rfl)|(apply Walk.nil)
  | (apply AWP.block)))
  refine AWP.loopW (α := Nat) (fun k => k ≤ par.length) (fun k => ⟨[(11, iV k), (10, iV par.length), (1, .opt 0 0), (2, .opt 1 0)], [.box [bS nm, iV M, iV D, .osl 2 ver 0 par.length, iV dom], .box [.d (.v (.string ⟨#[]⟩)), iV 0, iV 0, .d (.v (.slice none 0 0)), iV 0], .row ver 1 40 (par.map rD)]⟩) (fun k => par.length - k) 0 (Nat.zero_le _) ⟨[0, 1, 2], rfl, rfl, rfl, by (repeat (first | exact trivial | refine ⟨rfl, ?_⟩))⟩ fun k hk => ?_
  by_cases hkl : k < par.length
  · have hk1 := A_cloneK par[k] (hr _ (List.getElem_mem hkl))
    have hset : par.set k par[k] = par := List.set_getElem_self hkl
    (repeat' (first
  | (apply W.qd; (first
    | (apply (q_callC (hk1)); exact rfl; exact rfl; kernel_rfl; kernel_rfl; kernel_rfl)|(apply q_mv; (first|exact vD|exact vO|exact vP|exact vA|exact vF|exact vR|exact vN|exact vY|exact vT|exact vM|exact vL|exact vX))|(apply q_as; (first|exact vD|exact vO|exact vP|exact vA|exact vF|exact vR|exact vN|exact vY|exact vT|exact vM|exact vL|exact vX))|(apply q_fld_optF; (iterate 3 exact rfl))|(apply q_ld_box; (iterate 4 exact rfl))|(apply q_lss; exact rfl; exact rfl)|(apply q_add; exact rfl; exact rfl; omega)|(apply q_ix_osl0; (iterate 4 exact rfl); (first | (with_reducible exact rfl) | exact natI_spec rfl | assumption | exact (Int.toNat_of_nonneg (by omega)).symm); (first | omega | (focus (simp only [List.length_map]; omega)) | (focus (simp; done)) | (focus (simp; omega))))
    | (apply q_ld_rptm; (iterate 4 exact rfl); (first | omega | (focus (simp only [List.length_map]; omega)) | (focus (simp; done)) | (focus (simp; omega))))))|(apply W.ln; (apply l_st_rpt; (iterate 7 exact rfl); exact fun _ => rfl; (first | omega | (focus (simp only [List.length_map]; omega)) | (focus (simp; omega)))))|(apply AWP.seq)|(apply ACont_normal)|(apply W.region; kernel_rfl)|(apply W.regionD; exact rfl; kernel_rfl)|(apply Walk.nil)|(apply W.chk; kernel_rfl)|(apply AWP.block)|(apply AWP.skip)|(apply ABlock_normal)
  | (refine W.cond _ rfl (fun hb => ?_) (fun hb => ?_) <;> ((try simp only [hb, zA, zB]) <;> (try simp only [zC, zD, zE, zF, zG, zH, zI, zJ] at hb) <;> (try (exfalso; omega))))))
    refine ⟨k + 1, by omega, by omega, ?_⟩
    rw [hset]
    exact ⟨[0, 1, 2], rfl, rfl, rfl, iV_eq (by omega), rfl, rfl, rfl, trivial⟩
  · (repeat' (first
  | (apply W.qd; (first
    | (apply q_ld_boxF; (iterate 4 exact rfl))
    | (apply q_lss; exact rfl; exact rfl)))|(apply W.ln; (apply l_st_box; (iterate 6 exact rfl); kernel_rfl; kernel_rfl; kernel_rfl))|(apply AWP.seq)|(apply ACont_normal)|(apply W.region; kernel_rfl)|(apply Walk.nil)|(apply AWP.exit)|(apply AWP.ret)|(apply ACont_exit)|(apply ABlock_exit)
  | (refine W.cond _ rfl (fun hb => ?_) (fun hb => ?_) <;> ((try simp only [hb, zA, zB]) <;> (try simp only [zC, zD, zE, zF, zG, zH, zI, zJ] at hb) <;> (try (exfalso; omega))))))
    refine Ends.cell1 (i := 1) (tyc := 28) rfl rfl rfl ?_
    show AV.agg [bS nm, iV M, iV D, AV.frz _ [] (.osl 2 ver 0 par.length), iV dom] = _
    rw [frz_rowJ (i := 2) (ver := ver) (n := par.length) (l := par.map rD) rfl rfl hm.symm]
    rfl
abbrev lbO (a b : Nat) (cs : List Cd) (vs : List Sv) : List Ent := [.row a 5 28 (cs.map cdD), .row b 5 42 (vs.map svD)]
abbrev lbA (a b i j : Nat) (cs : List Cd) (vs : List Sv) : AV := .agg [.osl i a 0 cs.length, .osl j b 0 vs.length]
theorem A_copied {cs : List Cd} {vs : List Sv} (hc : cs.length ≤ 1000000) (hv : vs.length ≤ 1000000) (hp : ∀ c ∈ cs, c.2.2.2.1.length ≤ 1000000) (hr : ∀ c ∈ cs, ∀ r ∈ c.2.2.2.1, r.length ≤ 1000000) : ∃ a b, ACalls Tryd.prog 42 [lib cs vs] [] (lbA a b 0 1 cs vs) (lbO a b cs vs) := by
  have hmc : (cs.map cdD).length = cs.length := List.length_map _
  have hmv : (vs.map svD).length = vs.length := List.length_map _
  obtain ⟨a, h1⟩ := A_cloneC cs hc
  obtain ⟨b, h2⟩ := A_cloneV vs hv
  refine ⟨a, b, ?_⟩
  refine acalls_of_bodyO Tryd.func42 rfl (Nat.le_of_ble_eq_true rfl) ?_
  (repeat' (first
  | (apply W.qd; (first
    | (apply q_mv; (first|exact vD|exact vO|exact vP|exact vA|exact vF|exact vR|exact vN|exact vY|exact vT|exact vM|exact vL|exact vX))|(apply q_fld_optF; (iterate 3 exact rfl))|(apply q_ld_box; (iterate 4 exact rfl))
    | (apply q_len_osl; (iterate 3 exact rfl))))
  | (apply W.ed; (first
    | (apply (e_callJ (js := []) (h1)); (iterate 5 exact rfl); kernel_rfl; kernel_rfl)|(apply (e_callJ (js := []) (h2)); (iterate 5 exact rfl); kernel_rfl; kernel_rfl)|(apply e_boxF; (iterate 3 exact rfl); kernel_rfl; kernel_rfl)
    | (apply e_allocF; (iterate 3 exact rfl); kernel_rfl)))|(apply W.ln; (apply l_st_box; (iterate 6 exact rfl); kernel_rfl; kernel_rfl; kernel_rfl))|(apply AWP.seq)|(apply ACont_normal)|(apply (W.regionS 3); exact rfl; kernel_rfl)|(apply (W.regionDS 3); exact rfl; exact rfl; kernel_rfl)|(apply Walk.nil)|(apply W.chk; kernel_rfl)
  | (apply AWP.block)))
  refine AWP.loopW (α := Nat) (fun k => k ≤ cs.length) (fun k => ⟨[(15, iV k), (14, iV cs.length), (1, .opt 0 0), (2, .opt 1 0)], [.box [.osl 2 a 0 cs.length, .osl 3 b 0 vs.length], .box [.d (.v (.slice none 0 0)), .d (.v (.slice none 0 0))], .row a 5 28 (cs.map cdD), .row b 5 42 (vs.map svD)]⟩) (fun k => cs.length - k) 0 (Nat.zero_le _) ⟨[0, 1, 2, 3], rfl, rfl, rfl, by (repeat (first | exact trivial | refine ⟨rfl, ?_⟩))⟩ fun k hk => ?_
  by_cases hkl : k < cs.length
  · have hmem := List.getElem_mem hkl
    have hk1 := A_fresh (hp _ hmem) (hr _ hmem)
    have hset : cs.set k cs[k] = cs := List.set_getElem_self hkl
    (repeat' (first
  | (apply W.qd; (first
    | (apply (q_callC (hk1)); exact rfl; exact rfl; kernel_rfl; kernel_rfl; kernel_rfl)|(apply q_mv; (first|exact vD|exact vO|exact vP|exact vA|exact vF|exact vR|exact vN|exact vY|exact vT|exact vM|exact vL|exact vX))|(apply q_as; (first|exact vD|exact vO|exact vP|exact vA|exact vF|exact vR|exact vN|exact vY|exact vT|exact vM|exact vL|exact vX))|(apply q_fld_optF; (iterate 3 exact rfl))|(apply q_ld_box; (iterate 4 exact rfl))|(apply q_lss; exact rfl; exact rfl)|(apply q_add; exact rfl; exact rfl; omega)|(apply q_ix_osl0; (iterate 4 exact rfl); (first | (with_reducible exact rfl) | exact natI_spec rfl | assumption | exact (Int.toNat_of_nonneg (by omega)).symm); (first | omega | (focus (simp only [List.length_map]; omega)) | (focus (simp; done)) | (focus (simp; omega))))
    | (apply q_ld_rptsm; (iterate 4 exact rfl); (first | omega | (focus (simp only [List.length_map]; omega)) | (focus (simp; done)) | (focus (simp; omega))))))|(apply W.en; ((apply (e_st_rptM (f := cdD) cs[k]); (iterate 9 exact rfl))))|(apply AWP.seq)|(apply ACont_normal)|(apply W.region; kernel_rfl)|(apply W.regionD; exact rfl; kernel_rfl)|(apply Walk.nil)|(apply W.chk; kernel_rfl)|(apply AWP.block)|(apply AWP.skip)|(apply ABlock_normal)
  | (refine W.cond _ rfl (fun hb => ?_) (fun hb => ?_) <;> ((try simp only [hb, zA, zB]) <;> (try simp only [zC, zD, zE, zF, zG, zH, zI, zJ] at hb) <;> (try (exfalso; omega))))))
    refine ⟨k + 1, by omega, by omega, ?_⟩
    rw [hset]
    exact ⟨[0, 1, 2, 3], rfl, rfl, rfl, iV_eq (by omega), rfl, rfl, rfl, trivial⟩
  · (repeat' (first
  | (apply W.qd; (first
    | (apply q_ld_boxF; (iterate 4 exact rfl))
    | (apply q_lss; exact rfl; exact rfl)))|(apply W.ln; (apply l_st_box; (iterate 6 exact rfl); kernel_rfl; kernel_rfl; kernel_rfl))|(apply AWP.seq)|(apply ACont_normal)|(apply W.region; kernel_rfl)|(apply Walk.nil)|(apply AWP.exit)|(apply AWP.ret)|(apply ACont_exit)|(apply ABlock_exit)
  | (refine W.cond _ rfl (fun hb => ?_) (fun hb => ?_) <;> ((try simp only [hb, zA, zB]) <;> (try simp only [zC, zD, zE, zF, zG, zH, zI, zJ] at hb) <;> (try (exfalso; omega))))))
    exact ⟨.inl rfl, [2, 3], [.agg [.osl 2 a 0 cs.length, .osl 3 b 0 vs.length]], rfl, rfl, ⟨⟨1, _, true, rfl, rfl, rfl, rfl⟩, trivial⟩, AVle.of_eq rfl, rfl⟩
end Go.Proofs.YtaclmbbiegklcaaDoor
end
section
/- Layer 30 over the machine of abstract values: codes and classes are added, classes changed; the newest code. -/
namespace Go.Proofs.YtaclmbbiegklcaaDoor
open Go.RowKit
set_option maxHeartbeats 4000000
set_option maxRecDepth 100000
structure LibOk (cs : List Cd) (vs : List Sv) : Prop where
  cn : ∀ c ∈ cs, NameIn c.1
  ck : ∀ c ∈ cs, chkD c = true
  vn : ∀ v ∈ vs, NameIn v.1
  cl : cs.length ≤ 1000
  vl : vs.length ≤ 1000
abbrev Lb := List Cd × List Sv
def lb0 : Lb := ([], [])
abbrev res3 (r : Lb × Int × Int) : AV := .tup [lib r.1.1 r.1.2, iV r.2.1, iV r.2.2]
abbrev res2 (r : Lb × Int) : AV := .tup [lib r.1.1 r.1.2, iV r.2]
def addCN (cs : List Cd) (vs : List Sv) (c : Cd) : Lb × Int × Int :=
  if chkD c = false then (lb0, 0, 1) else if 0 ≤ fcI cs c.1 then (lb0, 0, 20) else if 8 ≤ cs.length then (lb0, 0, 2) else ((cs ++ [c], vs), (cs.length : Int), 0)
def addVN (cs : List Cd) (vs : List Sv) (nm : List Nat) (k l w : Int) : Lb × Int × Int :=
  if plausB nm l w = false then (lb0, 0, 1) else if 0 ≤ fvI vs nm then (lb0, 0, 20) else if 8 ≤ vs.length then (lb0, 0, 2) else if hasB cs.length k = false then (lb0, 0, 12) else if 0 ≤ userI vs k then (lb0, 0, 19) else if keepsB cs k l = false then (lb0, 0, 17) else ((cs, vs ++ [(nm, k, -1, l, w)]), (vs.length : Int), 0)
def atV (vs : List Sv) (k : Int) : Sv := vs.getD k.toNat sv0
def chgN (cs : List Cd) (vs : List Sv) (k c : Int) : Lb × Int :=
  if hasB vs.length k = false then (lb0, 12) else if hasB cs.length c = false then (lb0, 12) else if (atV vs k).2.2.1 ≠ -1 then (lb0, 19) else if (atV vs k).2.1 = c then (lb0, 1) else if 0 ≤ userI vs c then (lb0, 19) else if keepsB cs c (atV vs k).2.2.2.1 = false then (lb0, 17) else ((cs, vs.set k.toNat ((atV vs k).1, (atV vs k).2.1, c, (atV vs k).2.2.2)), 0)
def finN (cs : List Cd) (vs : List Sv) (k : Int) : Lb × Int :=
  if hasB vs.length k = false then (lb0, 12) else if (atV vs k).2.2.1 = -1 then (lb0, 19) else ((cs, vs.set k.toNat ((atV vs k).1, (atV vs k).2.2.1, -1, (atV vs k).2.2.2)), 0)
def tgtN (vs : List Sv) (k : Int) : Int × Int :=
  if hasB vs.length k = false then (0, 12) else if (atV vs k).2.2.1 ≠ -1 then ((atV vs k).2.2.1, 0) else ((atV vs k).2.1, 0)
theorem lib0_le : AVle (.agg [.d (.v (.slice none 0 0)), .d (.v (.slice none 0 0))]) (lib [] []) := AVle.agg ⟨AVle.nil 5, AVle.nil 5, trivial⟩
theorem err3_le (e : Int) : AVle (.tup [.agg [.d (.v (.slice none 0 0)), .d (.v (.slice none 0 0))], iV 0, iV e]) (res3 (lb0, 0, e)) := AVle.tup ⟨lib0_le, AVle.refl _, AVle.refl _, trivial⟩
theorem err2_le (e : Int) : AVle (.tup [.agg [.d (.v (.slice none 0 0)), .d (.v (.slice none 0 0))], iV e]) (res2 (lb0, e)) := AVle.tup ⟨lib0_le, AVle.refl _, trivial⟩
theorem chk_rows {c : Cd} (h : chkD c = true) : c.2.2.2.1.length ≤ 31 ∧ ∀ r ∈ c.2.2.2.1, r.length ≤ 31 := by
  have hv := chk_valid h
  unfold validC at hv
  simp only [Bool.and_eq_true, decide_eq_true_eq, List.all_eq_true] at hv
  obtain ⟨⟨⟨⟨h1, h2⟩, h3⟩, h4⟩, h5⟩ := hv
  have h6 : c.2.2.1 ≤ 31 := by
    unfold chkD chkC at h
    simp only [Bool.and_eq_true, decide_eq_true_eq] at h
    have := h.1.1.2
    omega
  refine ⟨by omega, fun r hr => ?_⟩
  have := h5 r hr
  unfold rowOk at this
  simp only [Bool.and_eq_true, decide_eq_true_eq] at this
  omega
theorem LibOk.fin {cs : List Cd} {vs : List Sv} (h : LibOk cs vs) : ∀ c ∈ cs, FInD c := fun c hc => fin_chk (h.ck c hc) (h.cn c hc)
theorem find_no {i : Int} (h : ¬ 0 ≤ i) : findA i = .tup [iV 0, iV 12] := by
  unfold findA fxI fxE
  rw [if_pos (by omega), if_pos (by omega)]
attribute [local irreducible] Quiet Eff OpOk AWPG ACont ABlock ACalls AGoto
theorem A_copy {cs : List Cd} {vs : List Sv} (h : LibOk cs vs) : ∃ a b, ACalls Tryd.prog 42 [lib cs vs] [] (lbA a b 0 1 cs vs) (lbO a b cs vs) := by
  have h1 := h.cl
  have h2 := h.vl
  exact A_copied (by omega) (by omega) (fun c hc => by have := (chk_rows (h.ck c hc)).1; omega) (fun c hc r hr => by have := (chk_rows (h.ck c hc)).2 r hr; omega)
theorem A_addCode {cs : List Cd} {vs : List Sv} {c : Cd} (h : LibOk cs vs) (hn : NameIn c.1) (hp : c.2.2.2.1.length ≤ 9223372036854775807) : ACalls Tryd.prog 16 [lib cs vs, cdA1 c] [] (res3 (addCN cs vs c)) [] := by
  have hcl := h.cl
  have hvl := h.vl
  have hmc : (cs.map cdD).length = cs.length := List.length_map _
  have hmv : (vs.map svD).length = vs.length := List.length_map _
  have hf := A_findC (cs := cs) (vs := vs) (nm := c.1) (by omega) (fun c hc => (h.cn c hc).b) hn.b
  obtain ⟨e, hc, he⟩ := A_lcheckG (M := c.2.1) (D := c.2.2.1) (par := c.2.2.2.1) (dom := c.2.2.2.2) hn.b hn.l hp
  have he : e = 0 ↔ chkD c = true := he
  unfold addCN
  refine acalls_of_body Tryd.func16 rfl (Nat.le_of_ble_eq_true rfl) ?_
  cases hq : chkD c with
  | false =>
    have hne : e ≠ 0 := fun h0 => by have := he.1 h0; rw [hq] at this; cases this
    rw [if_pos rfl]
    by_cases hi : 0 ≤ fcI cs c.1
    · rw [find_nn hi] at hf
      generalize fcI cs c.1 = i at *
      (repeat' (first
  | (apply W.qd; (first
    | (apply (q_callC (hf)); exact rfl; exact rfl; kernel_rfl; kernel_rfl; kernel_rfl)|(apply (q_callC (hc)); exact rfl; exact rfl; kernel_rfl; kernel_rfl; kernel_rfl)|(apply q_mv; (first|exact vD|exact vO|exact vP|exact vA|exact vF|exact vR|exact vN|exact vY|exact vT|exact vM|exact vL|exact vX))|(apply q_as; (first|exact vD|exact vO|exact vP|exact vA|exact vF|exact vR|exact vN|exact vY|exact vT|exact vM|exact vL|exact vX))|(apply q_fld_optF; (iterate 3 exact rfl))|(apply q_ld_box; (iterate 4 exact rfl))|(apply q_ld_boxF; (iterate 4 exact rfl))|(apply q_neq; exact rfl; exact rfl)|(apply q_extract; exact rfl; exact rfl)
    | (apply q_buildF; exact rfl; exact rfl; kernel_rfl)))
  | (apply W.ed; (first
    | (apply e_boxF; (iterate 3 exact rfl); kernel_rfl; kernel_rfl)
    | (apply e_allocF; (iterate 3 exact rfl); kernel_rfl)))|(apply W.ln; (apply l_st_box; (iterate 6 exact rfl); kernel_rfl; kernel_rfl; kernel_rfl))|(apply AWP.seq)|(apply ACont_normal)|(apply W.region; kernel_rfl)|(apply Walk.nil)|(apply AWP.block)|(apply AWP.ret)|(apply ACont_ret)|(apply ABlock_ret)
  | (refine W.cond _ rfl (fun hb => ?_) (fun hb => ?_) <;> ((try simp only [hb, zA, zB]) <;> (try simp only [zC, zD, zE, zF, zG, zH, zI, zJ] at hb) <;> (try (exfalso; omega))))))
      all_goals first | (exfalso; contradiction) | exact ⟨.inl rfl, [], [.agg [.d (.v (.slice none 0 0)), .d (.v (.slice none 0 0))], iV 0, iV 1], rfl, ⟨⟨2, _, true, rfl, rfl, rfl, rfl⟩, rfl, rfl, trivial⟩, err3_le 1, rfl⟩
    · rw [find_no hi] at hf
      (repeat' (first
  | (apply W.qd; (first
    | (apply (q_callC (hf)); exact rfl; exact rfl; kernel_rfl; kernel_rfl; kernel_rfl)|(apply (q_callC (hc)); exact rfl; exact rfl; kernel_rfl; kernel_rfl; kernel_rfl)|(apply q_mv; (first|exact vD|exact vO|exact vP|exact vA|exact vF|exact vR|exact vN|exact vY|exact vT|exact vM|exact vL|exact vX))|(apply q_as; (first|exact vD|exact vO|exact vP|exact vA|exact vF|exact vR|exact vN|exact vY|exact vT|exact vM|exact vL|exact vX))|(apply q_fld_optF; (iterate 3 exact rfl))|(apply q_ld_box; (iterate 4 exact rfl))|(apply q_ld_boxF; (iterate 4 exact rfl))|(apply q_neq; exact rfl; exact rfl)|(apply q_extract; exact rfl; exact rfl)
    | (apply q_buildF; exact rfl; exact rfl; kernel_rfl)))
  | (apply W.ed; (first
    | (apply e_boxF; (iterate 3 exact rfl); kernel_rfl; kernel_rfl)
    | (apply e_allocF; (iterate 3 exact rfl); kernel_rfl)))|(apply W.ln; (apply l_st_box; (iterate 6 exact rfl); kernel_rfl; kernel_rfl; kernel_rfl))|(apply AWP.seq)|(apply ACont_normal)|(apply W.region; kernel_rfl)|(apply Walk.nil)|(apply AWP.block)|(apply AWP.ret)|(apply ACont_ret)|(apply ABlock_ret)
  | (refine W.cond _ rfl (fun hb => ?_) (fun hb => ?_) <;> ((try simp only [hb, zA, zB]) <;> (try simp only [zC, zD, zE, zF, zG, zH, zI, zJ] at hb) <;> (try (exfalso; omega))))))
      all_goals first | (exfalso; contradiction) | exact ⟨.inl rfl, [], [.agg [.d (.v (.slice none 0 0)), .d (.v (.slice none 0 0))], iV 0, iV 1], rfl, ⟨⟨2, _, true, rfl, rfl, rfl, rfl⟩, rfl, rfl, trivial⟩, err3_le 1, rfl⟩
  | true =>
    obtain rfl := he.2 hq
    rw [if_neg (by decide)]
    by_cases hi : 0 ≤ fcI cs c.1
    · rw [if_pos hi]
      rw [find_nn hi] at hf
      generalize fcI cs c.1 = i at *
      (repeat' (first
  | (apply W.qd; (first
    | (apply (q_callC (hf)); exact rfl; exact rfl; kernel_rfl; kernel_rfl; kernel_rfl)|(apply (q_callC (hc)); exact rfl; exact rfl; kernel_rfl; kernel_rfl; kernel_rfl)|(apply q_mv; (first|exact vD|exact vO|exact vP|exact vA|exact vF|exact vR|exact vN|exact vY|exact vT|exact vM|exact vL|exact vX))|(apply q_as; (first|exact vD|exact vO|exact vP|exact vA|exact vF|exact vR|exact vN|exact vY|exact vT|exact vM|exact vL|exact vX))|(apply q_fld_optF; (iterate 3 exact rfl))|(apply q_ld_box; (iterate 4 exact rfl))|(apply q_ld_boxF; (iterate 4 exact rfl))|(apply q_eql; exact rfl; exact rfl)|(apply q_neq; exact rfl; exact rfl)|(apply q_extract; exact rfl; exact rfl)
    | (apply q_buildF; exact rfl; exact rfl; kernel_rfl)))
  | (apply W.ed; (first
    | (apply e_boxF; (iterate 3 exact rfl); kernel_rfl; kernel_rfl)
    | (apply e_allocF; (iterate 3 exact rfl); kernel_rfl)))|(apply W.ln; (apply l_st_box; (iterate 6 exact rfl); kernel_rfl; kernel_rfl; kernel_rfl))|(apply AWP.seq)|(apply ACont_normal)|(apply W.region; kernel_rfl)|(apply Walk.nil)|(apply AWP.block)|(apply AWP.ret)|(apply ACont_ret)|(apply ABlock_ret)|(apply W.condT; exact rfl)
  | (apply W.condF; exact rfl)))
      all_goals exact ⟨.inl rfl, [], [.agg [.d (.v (.slice none 0 0)), .d (.v (.slice none 0 0))], iV 0, iV 20], rfl, ⟨⟨2, _, true, rfl, rfl, rfl, rfl⟩, rfl, rfl, trivial⟩, err3_le 20, rfl⟩
    · rw [if_neg hi]
      rw [find_no hi] at hf
      obtain ⟨a, b, hcp⟩ := A_copy h
      obtain ⟨hr1, hr2⟩ := chk_rows hq
      have hfr := A_fresh (c := c) (by omega) (fun r hr => by have := hr2 r hr; omega)
      by_cases h8 : 8 ≤ cs.length
      · rw [if_pos h8]
        (repeat' (first
  | (apply W.qd; (first
    | (apply (q_callC (hf)); exact rfl; exact rfl; kernel_rfl; kernel_rfl; kernel_rfl)|(apply (q_callC (hc)); exact rfl; exact rfl; kernel_rfl; kernel_rfl; kernel_rfl)|(apply q_mv; (first|exact vD|exact vO|exact vP|exact vA|exact vF|exact vR|exact vN|exact vY|exact vT|exact vM|exact vL|exact vX))|(apply q_as; (first|exact vD|exact vO|exact vP|exact vA|exact vF|exact vR|exact vN|exact vY|exact vT|exact vM|exact vL|exact vX))|(apply q_fld_optF; (iterate 3 exact rfl))|(apply q_ld_box; (iterate 4 exact rfl))|(apply q_ld_boxF; (iterate 4 exact rfl))|(apply q_geq; exact rfl; exact rfl)|(apply q_eql; exact rfl; exact rfl)|(apply q_neq; exact rfl; exact rfl)|(apply q_extract; exact rfl; exact rfl)|(apply q_len_sl; exact rfl; exact rfl)
    | (apply q_buildF; exact rfl; exact rfl; kernel_rfl)))
  | (apply W.ed; (first
    | (apply e_boxF; (iterate 3 exact rfl); kernel_rfl; kernel_rfl)
    | (apply e_allocF; (iterate 3 exact rfl); kernel_rfl)))|(apply W.ln; (apply l_st_box; (iterate 6 exact rfl); kernel_rfl; kernel_rfl; kernel_rfl))|(apply AWP.seq)|(apply ACont_normal)|(apply (W.regionS 8); exact rfl; kernel_rfl)|(apply Walk.nil)|(apply AWP.block)|(apply AWP.ret)|(apply ACont_ret)|(apply ABlock_ret)|(apply W.condF; exact rfl)
  | (refine W.cond _ rfl (fun hb => ?_) (fun hb => ?_) <;> ((try simp only [hb, zA, zB]) <;> (try simp only [zC, zD, zE, zF, zG, zH, zI, zJ] at hb) <;> (try (exfalso; omega))))))
        all_goals first | (exfalso; omega) | exact ⟨.inl rfl, [], [.agg [.d (.v (.slice none 0 0)), .d (.v (.slice none 0 0))], iV 0, iV 2], rfl, ⟨⟨2, _, true, rfl, rfl, rfl, rfl⟩, rfl, rfl, trivial⟩, err3_le 2, rfl⟩
      · rw [if_neg h8]
        (repeat' (first
  | (apply W.qd; (first
    | (apply (q_callC (hf)); exact rfl; exact rfl; kernel_rfl; kernel_rfl; kernel_rfl)|(apply (q_callC (hc)); exact rfl; exact rfl; kernel_rfl; kernel_rfl; kernel_rfl)|(apply q_mv; (first|exact vD|exact vO|exact vP|exact vA|exact vF|exact vR|exact vN|exact vY|exact vT|exact vM|exact vL|exact vX))|(apply q_as; (first|exact vD|exact vO|exact vP|exact vA|exact vF|exact vR|exact vN|exact vY|exact vT|exact vM|exact vL|exact vX))|(apply q_fld_optF; (iterate 3 exact rfl))|(apply q_ld_box; (iterate 4 exact rfl))|(apply q_ld_boxF; (iterate 4 exact rfl))|(apply q_geq; exact rfl; exact rfl)|(apply q_eql; exact rfl; exact rfl)|(apply q_neq; exact rfl; exact rfl)|(apply q_extract; exact rfl; exact rfl)
    | (apply q_len_sl; exact rfl; exact rfl)))
  | (apply W.ed; (first
    | (apply e_boxF; (iterate 3 exact rfl); kernel_rfl; kernel_rfl)
    | (apply e_allocF; (iterate 3 exact rfl); kernel_rfl)))|(apply AWP.seq)|(apply ACont_normal)|(apply (W.regionS 8); exact rfl; kernel_rfl)|(apply Walk.nil)|(apply AWP.block)|(apply AWP.skip)|(apply ABlock_normal)|(apply W.condF; exact rfl)
  | (refine W.cond _ rfl (fun hb => ?_) (fun hb => ?_) <;> ((try simp only [hb, zA, zB]) <;> (try simp only [zC, zD, zE, zF, zG, zH, zI, zJ] at hb) <;> (try (exfalso; omega))))))
        all_goals try (exfalso; omega)
        (repeat' (first
  | (apply W.qd; (first
    | (apply (q_callC (hfr)); exact rfl; exact rfl; kernel_rfl; kernel_rfl; kernel_rfl)|(apply q_mv; (first|exact vD|exact vO|exact vP|exact vA|exact vF|exact vR|exact vN|exact vY|exact vT|exact vM|exact vL|exact vX))|(apply q_as; (first|exact vD|exact vO|exact vP|exact vA|exact vF|exact vR|exact vN|exact vY|exact vT|exact vM|exact vL|exact vX))|(apply q_fld_optF; (iterate 3 exact rfl))|(apply q_ld_box; (iterate 4 exact rfl))|(apply q_ld_boxF; (iterate 4 exact rfl))|(apply q_len_sl; exact rfl; exact rfl)
    | (apply q_litF; (iterate 5 exact rfl); kernel_rfl; kernel_rfl; exact rfl)))|(apply W.ld; (apply l_app1; (iterate 8 exact rfl); (first | omega | (focus (simp; omega)) | (focus (simp; done)))))|(apply W.ed; (apply (e_callJ (js := []) (hcp)); (iterate 5 exact rfl); kernel_rfl; kernel_rfl))|(apply W.ln; (apply l_st_box; (iterate 6 exact rfl); kernel_rfl; kernel_rfl; kernel_rfl))|(apply AWP.seq)|(apply ACont_normal)|(apply W.region; kernel_rfl)|(apply W.regionD; exact rfl; kernel_rfl)|(apply Walk.nil)|(apply W.chk; kernel_rfl)
  | (apply AWP.ret)))
        refine ⟨.inl rfl, [], [.agg [.osl 3 (a + 1) 0 (cs ++ [c]).length, .osl 4 b 0 vs.length], iV cs.length, iV 0], rfl, ⟨⟨2, _, true, rfl, rfl, rfl, rfl⟩, iV_eq (by rw [hmc]), rfl, trivial⟩, AVle.of_eq ?_, rfl⟩
        show AV.tup [AV.agg [AV.frz _ [] (.osl 3 (a + 1) 0 (cs ++ [c]).length), AV.frz _ [] (.osl 4 b 0 vs.length)], iV cs.length, iV 0] = _
        rw [frz_rowJ (i := 3) (ver := a + 1) (n := (cs ++ [c]).length) (l := (cs ++ [c]).map cdD) rfl rfl (by simp), frz_rowJ (i := 4) (ver := b) (n := vs.length) (l := vs.map svD) rfl rfl hmv.symm]
end Go.Proofs.YtaclmbbiegklcaaDoor
end
section
/- Layer 30 over the machine of abstract values: AddClass, Change, Finish, Target. -/
namespace Go.Proofs.YtaclmbbiegklcaaDoor
open Go.RowKit
set_option maxHeartbeats 4000000
set_option maxRecDepth 100000
theorem hasB_nat {n : Nat} {k : Int} (h : hasB n k = true) : ∃ j : Nat, k = j ∧ j < n := by
  unfold hasB at h
  rw [Bool.and_eq_true, decide_eq_true_eq, decide_eq_true_eq] at h
  exact ⟨k.toNat, by omega, by omega⟩
attribute [local irreducible] Quiet Eff OpOk AWPG ACont ABlock ACalls AGoto
theorem A_addClass {cs : List Cd} {vs : List Sv} {nm : List Nat} {k l w : Int} (h : LibOk cs vs) (hn : NameIn nm) : ACalls Tryd.prog 17 [lib cs vs, bS nm, iV k, iV l, iV w] [] (res3 (addVN cs vs nm k l w)) [] := by
  have hcl := h.cl
  have hvl := h.vl
  have hmc : (cs.map cdD).length = cs.length := List.length_map _
  have hmv : (vs.map svD).length = vs.length := List.length_map _
  have hf := A_findV (cs := cs) (vs := vs) (nm := nm) (by omega) (fun c hc => (h.vn c hc).b) hn.b
  have hp := A_plausible (l := l) (w := w) hn
  have hh := A_has (cs := cs) (vs := vs) (k := k)
  have hu := A_user (cs := cs) (vs := vs) (k := k) (by omega)
  have hk := A_keeps (vs := vs) (k := k) (n := l) h.fin
  obtain ⟨a, b, hcp⟩ := A_copy h
  unfold addVN
  generalize fvI vs nm = i at *
  generalize userI vs k = u at *
  refine acalls_of_body Tryd.func17 rfl (Nat.le_of_ble_eq_true rfl) ?_
  have hfi : ∃ e x : Int, findA i = .tup [iV x, iV e] ∧ (e = 0 ↔ 0 ≤ i) := by
    by_cases hi : 0 ≤ i
    · exact ⟨0, i, find_nn hi, by simp [hi]⟩
    · exact ⟨12, 0, find_no hi, by simp [hi]⟩
  obtain ⟨e, x, hfe, hei⟩ := hfi
  rw [hfe] at hf
  cases hq : plausB nm l w with
  | false =>
    rw [hq] at hp
    rw [if_pos rfl]
    (repeat' (first
  | (apply W.qd; (first
    | (apply (q_callC (hf)); exact rfl; exact rfl; kernel_rfl; kernel_rfl; kernel_rfl)|(apply (q_callC (hp)); exact rfl; exact rfl; kernel_rfl; kernel_rfl; kernel_rfl)|(apply q_mv; (first|exact vD|exact vO|exact vP|exact vA|exact vF|exact vR|exact vN|exact vY|exact vT|exact vM|exact vL|exact vX))|(apply q_as; (first|exact vD|exact vO|exact vP|exact vA|exact vF|exact vR|exact vN|exact vY|exact vT|exact vM|exact vL|exact vX))|(apply q_ld_boxF; (iterate 4 exact rfl))|(apply q_not; exact rfl)|(apply q_extract; exact rfl; exact rfl)
    | (apply q_buildF; exact rfl; exact rfl; kernel_rfl)))
  | (apply W.ed; (first
    | (apply e_boxF; (iterate 3 exact rfl); kernel_rfl; kernel_rfl)
    | (apply e_allocF; (iterate 3 exact rfl); kernel_rfl)))|(apply W.ln; (apply l_st_box; (iterate 6 exact rfl); kernel_rfl; kernel_rfl; kernel_rfl))|(apply AWP.seq)|(apply ACont_normal)|(apply W.region; kernel_rfl)|(apply Walk.nil)|(apply AWP.block)|(apply AWP.ret)|(apply ACont_ret)|(apply ABlock_ret)
  | (apply W.condT; exact rfl)))
    all_goals exact ⟨.inl rfl, [], [.agg [.d (.v (.slice none 0 0)), .d (.v (.slice none 0 0))], iV 0, iV 1], rfl, ⟨⟨1, _, true, rfl, rfl, rfl, rfl⟩, rfl, rfl, trivial⟩, err3_le 1, rfl⟩
  | true =>
    rw [hq] at hp
    rw [if_neg (by decide)]
    by_cases hi : 0 ≤ i
    · obtain rfl := hei.2 hi
      rw [if_pos hi]
      (repeat' (first
  | (apply W.qd; (first
    | (apply (q_callC (hf)); exact rfl; exact rfl; kernel_rfl; kernel_rfl; kernel_rfl)|(apply (q_callC (hp)); exact rfl; exact rfl; kernel_rfl; kernel_rfl; kernel_rfl)|(apply q_mv; (first|exact vD|exact vO|exact vP|exact vA|exact vF|exact vR|exact vN|exact vY|exact vT|exact vM|exact vL|exact vX))|(apply q_as; (first|exact vD|exact vO|exact vP|exact vA|exact vF|exact vR|exact vN|exact vY|exact vT|exact vM|exact vL|exact vX))|(apply q_ld_boxF; (iterate 4 exact rfl))|(apply q_eql; exact rfl; exact rfl)|(apply q_not; exact rfl)|(apply q_extract; exact rfl; exact rfl)
    | (apply q_buildF; exact rfl; exact rfl; kernel_rfl)))
  | (apply W.ed; (first
    | (apply e_boxF; (iterate 3 exact rfl); kernel_rfl; kernel_rfl)
    | (apply e_allocF; (iterate 3 exact rfl); kernel_rfl)))|(apply W.ln; (apply l_st_box; (iterate 6 exact rfl); kernel_rfl; kernel_rfl; kernel_rfl))|(apply AWP.seq)|(apply ACont_normal)|(apply W.region; kernel_rfl)|(apply Walk.nil)|(apply AWP.block)|(apply AWP.ret)|(apply ACont_ret)|(apply ABlock_ret)|(apply W.condT; exact rfl)
  | (apply W.condF; exact rfl)))
      all_goals exact ⟨.inl rfl, [], [.agg [.d (.v (.slice none 0 0)), .d (.v (.slice none 0 0))], iV 0, iV 20], rfl, ⟨⟨1, _, true, rfl, rfl, rfl, rfl⟩, rfl, rfl, trivial⟩, err3_le 20, rfl⟩
    · have hne : e ≠ 0 := fun h0 => hi (hei.1 h0)
      rw [if_neg hi]
      by_cases h8 : 8 ≤ vs.length
      · rw [if_pos h8]
        (repeat' (first
  | (apply W.qd; (first
    | (apply (q_callC (hf)); exact rfl; exact rfl; kernel_rfl; kernel_rfl; kernel_rfl)|(apply (q_callC (hp)); exact rfl; exact rfl; kernel_rfl; kernel_rfl; kernel_rfl)|(apply q_mv; (first|exact vD|exact vO|exact vP|exact vA|exact vF|exact vR|exact vN|exact vY|exact vT|exact vM|exact vL|exact vX))|(apply q_as; (first|exact vD|exact vO|exact vP|exact vA|exact vF|exact vR|exact vN|exact vY|exact vT|exact vM|exact vL|exact vX))|(apply q_fld_optF; (iterate 3 exact rfl))|(apply q_ld_box; (iterate 4 exact rfl))|(apply q_ld_boxF; (iterate 4 exact rfl))|(apply q_geq; exact rfl; exact rfl)|(apply q_eql; exact rfl; exact rfl)|(apply q_not; exact rfl)|(apply q_extract; exact rfl; exact rfl)|(apply q_len_sl; exact rfl; exact rfl)
    | (apply q_buildF; exact rfl; exact rfl; kernel_rfl)))
  | (apply W.ed; (first
    | (apply e_boxF; (iterate 3 exact rfl); kernel_rfl; kernel_rfl)
    | (apply e_allocF; (iterate 3 exact rfl); kernel_rfl)))|(apply W.ln; (apply l_st_box; (iterate 6 exact rfl); kernel_rfl; kernel_rfl; kernel_rfl))|(apply AWP.seq)|(apply ACont_normal)|(apply (W.regionS 8); exact rfl; kernel_rfl)|(apply Walk.nil)|(apply AWP.block)|(apply AWP.ret)|(apply ACont_ret)|(apply ABlock_ret)|(apply W.condF; exact rfl)
  | (refine W.cond _ rfl (fun hb => ?_) (fun hb => ?_) <;> ((try simp only [hb, zA, zB]) <;> (try simp only [zC, zD, zE, zF, zG, zH, zI, zJ] at hb) <;> (try (exfalso; omega))))))
        all_goals first | (exfalso; contradiction) | (exfalso; omega) | exact ⟨.inl rfl, [], [.agg [.d (.v (.slice none 0 0)), .d (.v (.slice none 0 0))], iV 0, iV 2], rfl, ⟨⟨1, _, true, rfl, rfl, rfl, rfl⟩, rfl, rfl, trivial⟩, err3_le 2, rfl⟩
      · rw [if_neg h8]
        cases hq2 : hasB cs.length k with
        | false =>
          rw [hq2] at hh
          rw [if_pos rfl]
          (repeat' (first
  | (apply W.qd; (first
    | (apply (q_callC (hf)); exact rfl; exact rfl; kernel_rfl; kernel_rfl; kernel_rfl)|(apply (q_callC (hp)); exact rfl; exact rfl; kernel_rfl; kernel_rfl; kernel_rfl)|(apply (q_callC (hh)); exact rfl; exact rfl; kernel_rfl; kernel_rfl; kernel_rfl)|(apply q_mv; (first|exact vD|exact vO|exact vP|exact vA|exact vF|exact vR|exact vN|exact vY|exact vT|exact vM|exact vL|exact vX))|(apply q_as; (first|exact vD|exact vO|exact vP|exact vA|exact vF|exact vR|exact vN|exact vY|exact vT|exact vM|exact vL|exact vX))|(apply q_fld_optF; (iterate 3 exact rfl))|(apply q_ld_box; (iterate 4 exact rfl))|(apply q_ld_boxF; (iterate 4 exact rfl))|(apply q_geq; exact rfl; exact rfl)|(apply q_eql; exact rfl; exact rfl)|(apply q_not; exact rfl)|(apply q_extract; exact rfl; exact rfl)|(apply q_len_sl; exact rfl; exact rfl)
    | (apply q_buildF; exact rfl; exact rfl; kernel_rfl)))
  | (apply W.ed; (first
    | (apply e_boxF; (iterate 3 exact rfl); kernel_rfl; kernel_rfl)
    | (apply e_allocF; (iterate 3 exact rfl); kernel_rfl)))|(apply W.ln; (apply l_st_box; (iterate 6 exact rfl); kernel_rfl; kernel_rfl; kernel_rfl))|(apply AWP.seq)|(apply ACont_normal)|(apply (W.regionS 10); exact rfl; kernel_rfl)|(apply Walk.nil)|(apply AWP.block)|(apply AWP.ret)|(apply ACont_ret)|(apply ABlock_ret)|(apply W.condT; exact rfl)|(apply W.condF; exact rfl)
  | (refine W.cond _ rfl (fun hb => ?_) (fun hb => ?_) <;> ((try simp only [hb, zA, zB]) <;> (try simp only [zC, zD, zE, zF, zG, zH, zI, zJ] at hb) <;> (try (exfalso; omega))))))
          all_goals first | (exfalso; contradiction) | (exfalso; omega) | exact ⟨.inl rfl, [], [.agg [.d (.v (.slice none 0 0)), .d (.v (.slice none 0 0))], iV 0, iV 12], rfl, ⟨⟨1, _, true, rfl, rfl, rfl, rfl⟩, rfl, rfl, trivial⟩, err3_le 12, rfl⟩
        | true =>
          rw [hq2] at hh
          rw [if_neg (by decide)]
          by_cases hu0 : 0 ≤ u
          · rw [if_pos hu0]
            (repeat' (first
  | (apply W.qd; (first
    | (apply (q_callC (hf)); exact rfl; exact rfl; kernel_rfl; kernel_rfl; kernel_rfl)|(apply (q_callC (hp)); exact rfl; exact rfl; kernel_rfl; kernel_rfl; kernel_rfl)|(apply (q_callC (hh)); exact rfl; exact rfl; kernel_rfl; kernel_rfl; kernel_rfl)|(apply (q_callC (hu)); exact rfl; exact rfl; kernel_rfl; kernel_rfl; kernel_rfl)|(apply q_mv; (first|exact vD|exact vO|exact vP|exact vA|exact vF|exact vR|exact vN|exact vY|exact vT|exact vM|exact vL|exact vX))|(apply q_as; (first|exact vD|exact vO|exact vP|exact vA|exact vF|exact vR|exact vN|exact vY|exact vT|exact vM|exact vL|exact vX))|(apply q_fld_optF; (iterate 3 exact rfl))|(apply q_ld_box; (iterate 4 exact rfl))|(apply q_ld_boxF; (iterate 4 exact rfl))|(apply q_geq; exact rfl; exact rfl)|(apply q_eql; exact rfl; exact rfl)|(apply q_not; exact rfl)|(apply q_extract; exact rfl; exact rfl)|(apply q_len_sl; exact rfl; exact rfl)
    | (apply q_buildF; exact rfl; exact rfl; kernel_rfl)))
  | (apply W.ed; (first
    | (apply e_boxF; (iterate 3 exact rfl); kernel_rfl; kernel_rfl)
    | (apply e_allocF; (iterate 3 exact rfl); kernel_rfl)))|(apply W.ln; (apply l_st_box; (iterate 6 exact rfl); kernel_rfl; kernel_rfl; kernel_rfl))|(apply AWP.seq)|(apply ACont_normal)|(apply (W.regionS 12); exact rfl; kernel_rfl)|(apply Walk.nil)|(apply AWP.block)|(apply AWP.ret)|(apply ACont_ret)|(apply ABlock_ret)|(apply W.condF; exact rfl)
  | (refine W.cond _ rfl (fun hb => ?_) (fun hb => ?_) <;> ((try simp only [hb, zA, zB]) <;> (try simp only [zC, zD, zE, zF, zG, zH, zI, zJ] at hb) <;> (try (exfalso; omega))))))
            all_goals first | (exfalso; contradiction) | (exfalso; omega) | exact ⟨.inl rfl, [], [.agg [.d (.v (.slice none 0 0)), .d (.v (.slice none 0 0))], iV 0, iV 19], rfl, ⟨⟨1, _, true, rfl, rfl, rfl, rfl⟩, rfl, rfl, trivial⟩, err3_le 19, rfl⟩
          · rw [if_neg hu0]
            cases hq3 : keepsB cs k l with
            | false =>
              rw [hq3] at hk
              rw [if_pos rfl]
              (repeat' (first
  | (apply W.qd; (first
    | (apply (q_callC (hf)); exact rfl; exact rfl; kernel_rfl; kernel_rfl; kernel_rfl)|(apply (q_callC (hp)); exact rfl; exact rfl; kernel_rfl; kernel_rfl; kernel_rfl)|(apply (q_callC (hh)); exact rfl; exact rfl; kernel_rfl; kernel_rfl; kernel_rfl)|(apply (q_callC (hu)); exact rfl; exact rfl; kernel_rfl; kernel_rfl; kernel_rfl)|(apply (q_callC (hk)); exact rfl; exact rfl; kernel_rfl; kernel_rfl; kernel_rfl)|(apply q_mv; (first|exact vD|exact vO|exact vP|exact vA|exact vF|exact vR|exact vN|exact vY|exact vT|exact vM|exact vL|exact vX))|(apply q_as; (first|exact vD|exact vO|exact vP|exact vA|exact vF|exact vR|exact vN|exact vY|exact vT|exact vM|exact vL|exact vX))|(apply q_fld_optF; (iterate 3 exact rfl))|(apply q_ld_box; (iterate 4 exact rfl))|(apply q_ld_boxF; (iterate 4 exact rfl))|(apply q_geq; exact rfl; exact rfl)|(apply q_eql; exact rfl; exact rfl)|(apply q_not; exact rfl)|(apply q_extract; exact rfl; exact rfl)|(apply q_len_sl; exact rfl; exact rfl)
    | (apply q_buildF; exact rfl; exact rfl; kernel_rfl)))
  | (apply W.ed; (first
    | (apply e_boxF; (iterate 3 exact rfl); kernel_rfl; kernel_rfl)
    | (apply e_allocF; (iterate 3 exact rfl); kernel_rfl)))|(apply W.ln; (apply l_st_box; (iterate 6 exact rfl); kernel_rfl; kernel_rfl; kernel_rfl))|(apply AWP.seq)|(apply ACont_normal)|(apply (W.regionS 14); exact rfl; kernel_rfl)|(apply Walk.nil)|(apply AWP.block)|(apply AWP.ret)|(apply ACont_ret)|(apply ABlock_ret)|(apply W.condT; exact rfl)|(apply W.condF; exact rfl)
  | (refine W.cond _ rfl (fun hb => ?_) (fun hb => ?_) <;> ((try simp only [hb, zA, zB]) <;> (try simp only [zC, zD, zE, zF, zG, zH, zI, zJ] at hb) <;> (try (exfalso; omega))))))
              all_goals first | (exfalso; contradiction) | (exfalso; omega) | exact ⟨.inl rfl, [], [.agg [.d (.v (.slice none 0 0)), .d (.v (.slice none 0 0))], iV 0, iV 17], rfl, ⟨⟨1, _, true, rfl, rfl, rfl, rfl⟩, rfl, rfl, trivial⟩, err3_le 17, rfl⟩
            | true =>
              rw [hq3] at hk
              rw [if_neg (by decide)]
              (repeat' (first
  | (apply W.qd; (first
    | (apply (q_callC (hf)); exact rfl; exact rfl; kernel_rfl; kernel_rfl; kernel_rfl)|(apply (q_callC (hp)); exact rfl; exact rfl; kernel_rfl; kernel_rfl; kernel_rfl)|(apply (q_callC (hh)); exact rfl; exact rfl; kernel_rfl; kernel_rfl; kernel_rfl)|(apply (q_callC (hu)); exact rfl; exact rfl; kernel_rfl; kernel_rfl; kernel_rfl)|(apply (q_callC (hk)); exact rfl; exact rfl; kernel_rfl; kernel_rfl; kernel_rfl)|(apply q_mv; (first|exact vD|exact vO|exact vP|exact vA|exact vF|exact vR|exact vN|exact vY|exact vT|exact vM|exact vL|exact vX))|(apply q_as; (first|exact vD|exact vO|exact vP|exact vA|exact vF|exact vR|exact vN|exact vY|exact vT|exact vM|exact vL|exact vX))|(apply q_fld_optF; (iterate 3 exact rfl))|(apply q_ld_box; (iterate 4 exact rfl))|(apply q_ld_boxF; (iterate 4 exact rfl))|(apply q_geq; exact rfl; exact rfl)|(apply q_eql; exact rfl; exact rfl)|(apply q_not; exact rfl)|(apply q_extract; exact rfl; exact rfl)
    | (apply q_len_sl; exact rfl; exact rfl)))
  | (apply W.ed; (first
    | (apply e_boxF; (iterate 3 exact rfl); kernel_rfl; kernel_rfl)
    | (apply e_allocF; (iterate 3 exact rfl); kernel_rfl)))|(apply AWP.seq)|(apply ACont_normal)|(apply (W.regionS 14); exact rfl; kernel_rfl)|(apply Walk.nil)|(apply AWP.block)|(apply AWP.skip)|(apply ABlock_normal)|(apply W.condF; exact rfl)
  | (refine W.cond _ rfl (fun hb => ?_) (fun hb => ?_) <;> ((try simp only [hb, zA, zB]) <;> (try simp only [zC, zD, zE, zF, zG, zH, zI, zJ] at hb) <;> (try (exfalso; omega))))))
              all_goals try first | (exfalso; contradiction) | (exfalso; omega)
              (repeat' (first
  | (apply W.qd; (first
    | (apply q_mv; (first|exact vD|exact vO|exact vP|exact vA|exact vF|exact vR|exact vN|exact vY|exact vT|exact vM|exact vL|exact vX))|(apply q_as; (first|exact vD|exact vO|exact vP|exact vA|exact vF|exact vR|exact vN|exact vY|exact vT|exact vM|exact vL|exact vX))|(apply q_fld_optF; (iterate 3 exact rfl))|(apply q_ld_box; (iterate 4 exact rfl))|(apply q_ld_boxF; (iterate 4 exact rfl))|(apply q_len_sl; exact rfl; exact rfl)|(apply q_buildF; exact rfl; exact rfl; kernel_rfl)
    | (apply q_litF; (iterate 5 exact rfl); kernel_rfl; kernel_rfl; exact rfl)))
  | (apply W.ed; (first
    | (apply (e_callJ (js := []) (hcp)); (iterate 5 exact rfl); kernel_rfl; kernel_rfl)
    | ((apply (e_app1F (f := svD) (nm, k, -1, l, w)); (iterate 8 exact rfl); omega))))|(apply W.ln; (apply l_st_box; (iterate 6 exact rfl); kernel_rfl; kernel_rfl; kernel_rfl))|(apply AWP.seq)|(apply ACont_normal)|(apply W.region; kernel_rfl)|(apply Walk.nil)
  | (apply AWP.ret)))
              refine ⟨.inl rfl, [], [.agg [.osl 2 a 0 cs.length, .osl 3 (b + 1) 0 (vs ++ [((nm, k, -1, l, w) : Sv)]).length], iV vs.length, iV 0], rfl, ⟨⟨1, _, true, rfl, rfl, rfl, rfl⟩, iV_eq (by rw [hmv]), rfl, trivial⟩, AVle.of_eq ?_, rfl⟩
              show AV.tup [AV.agg [AV.frz _ [] (.osl 2 a 0 cs.length), AV.frz _ [] (.osl 3 (b + 1) 0 (vs ++ [((nm, k, -1, l, w) : Sv)]).length)], iV vs.length, iV 0] = _
              rw [frz_rowJ (i := 2) (ver := a) (n := cs.length) (l := cs.map cdD) rfl rfl hmc.symm, frz_rowJ (i := 3) (ver := b + 1) (n := (vs ++ [((nm, k, -1, l, w) : Sv)]).length) (l := (vs ++ [((nm, k, -1, l, w) : Sv)]).map svD) rfl rfl (by simp)]
theorem A_change {cs : List Cd} {vs : List Sv} {k c : Int} (h : LibOk cs vs) : ACalls Tryd.prog 18 [lib cs vs, iV k, iV c] [] (res2 (chgN cs vs k c)) [] := by
  have hcl := h.cl
  have hvl := h.vl
  have hmc : (cs.map cdD).length = cs.length := List.length_map _
  have hmv : (vs.map svD).length = vs.length := List.length_map _
  have hkn := A_known (cs := cs) (vs := vs) (k := k)
  have hh := A_has (cs := cs) (vs := vs) (k := c)
  have hu := A_user (cs := cs) (vs := vs) (k := c) (by omega)
  obtain ⟨a, b, hcp⟩ := A_copy h
  unfold chgN atV
  refine acalls_of_body Tryd.func18 rfl (Nat.le_of_ble_eq_true rfl) ?_
  cases hq1 : hasB vs.length k with
  | false =>
    rw [hq1] at hkn
    rw [if_pos rfl]
    (repeat' (first
  | (apply W.qd; (first
    | (apply (q_callC (hkn)); exact rfl; exact rfl; kernel_rfl; kernel_rfl; kernel_rfl)|(apply q_mv; (first|exact vD|exact vO|exact vP|exact vA|exact vF|exact vR|exact vN|exact vY|exact vT|exact vM|exact vL|exact vX))|(apply q_as; (first|exact vD|exact vO|exact vP|exact vA|exact vF|exact vR|exact vN|exact vY|exact vT|exact vM|exact vL|exact vX))|(apply q_ld_boxF; (iterate 4 exact rfl))|(apply q_not; exact rfl)|(apply q_buildF; exact rfl; exact rfl; kernel_rfl)
    | (apply (q_pickT (u := .d _)); exact rfl; exact rfl)))
  | (apply W.ed; (first
    | (apply e_boxF; (iterate 3 exact rfl); kernel_rfl; kernel_rfl)
    | (apply e_allocF; (iterate 3 exact rfl); kernel_rfl)))|(apply W.ln; (apply l_st_box; (iterate 6 exact rfl); kernel_rfl; kernel_rfl; kernel_rfl))|(refine W.gOff _ _ rfl rfl (by intro h; cases h) ?_)|(apply AWP.seq)|(apply ACont_normal)|(apply W.region; kernel_rfl)|(apply Walk.nil)|(apply AWP.ret)|(apply ACont_ret)
  | (apply W.condT; exact rfl)))
    all_goals exact ⟨.inl rfl, [], [.agg [.d (.v (.slice none 0 0)), .d (.v (.slice none 0 0))], iV 12], rfl, ⟨⟨1, _, true, rfl, rfl, rfl, rfl⟩, rfl, trivial⟩, err2_le 12, rfl⟩
  | true =>
    rw [hq1] at hkn
    rw [if_neg (by decide)]
    obtain ⟨j, rfl, hj⟩ := hasB_nat hq1
    have eg : vs.getD (j : Int).toNat sv0 = vs[j] := by rw [Int.toNat_natCast, List.getD_eq_getElem?_getD, List.getElem?_eq_getElem hj]; rfl
    rw [eg, Int.toNat_natCast]
    cases hq2 : hasB cs.length c with
    | false =>
      rw [hq2] at hh
      rw [if_pos rfl]
      (repeat' (first
  | (apply W.gOn; exact rfl; exact rfl)
  | (apply W.qd; (first
    | (apply (q_callC (hkn)); exact rfl; exact rfl; kernel_rfl; kernel_rfl; kernel_rfl)|(apply (q_callC (hh)); exact rfl; exact rfl; kernel_rfl; kernel_rfl; kernel_rfl)|(apply q_mv; (first|exact vD|exact vO|exact vP|exact vA|exact vF|exact vR|exact vN|exact vY|exact vT|exact vM|exact vL|exact vX))|(apply q_as; (first|exact vD|exact vO|exact vP|exact vA|exact vF|exact vR|exact vN|exact vY|exact vT|exact vM|exact vL|exact vX))|(apply q_ld_boxF; (iterate 4 exact rfl))|(apply q_not; exact rfl)|(apply q_buildF; exact rfl; exact rfl; kernel_rfl)
    | (apply (q_pickF (u := .d _)); exact rfl; exact rfl)))
  | (apply W.ed; (first
    | (apply e_boxF; (iterate 3 exact rfl); kernel_rfl; kernel_rfl)
    | (apply e_allocF; (iterate 3 exact rfl); kernel_rfl)))|(apply W.ln; (apply l_st_box; (iterate 6 exact rfl); kernel_rfl; kernel_rfl; kernel_rfl))|(apply AWP.seq)|(apply ACont_normal)|(apply W.region; kernel_rfl)|(apply Walk.nil)|(apply AWP.ret)|(apply ACont_ret)
  | (apply W.condT; exact rfl)))
      all_goals exact ⟨.inl rfl, [], [.agg [.d (.v (.slice none 0 0)), .d (.v (.slice none 0 0))], iV 12], rfl, ⟨⟨1, _, true, rfl, rfl, rfl, rfl⟩, rfl, trivial⟩, err2_le 12, rfl⟩
    | true =>
      rw [hq2] at hh
      rw [if_neg (by decide)]
      have hk := A_keeps (vs := vs) (k := c) (n := vs[j].2.2.2.1) h.fin
      generalize userI vs c = u at *
      by_cases h1 : vs[j].2.2.1 ≠ -1
      · rw [if_pos h1]
        (repeat' (first
  | (apply W.gOn; exact rfl; exact rfl)
  | (apply W.qd; (first
    | (apply (q_callC (hkn)); exact rfl; exact rfl; kernel_rfl; kernel_rfl; kernel_rfl)|(apply (q_callC (hh)); exact rfl; exact rfl; kernel_rfl; kernel_rfl; kernel_rfl)|(apply q_mv; (first|exact vD|exact vO|exact vP|exact vA|exact vF|exact vR|exact vN|exact vY|exact vT|exact vM|exact vL|exact vX))|(apply q_as; (first|exact vD|exact vO|exact vP|exact vA|exact vF|exact vR|exact vN|exact vY|exact vT|exact vM|exact vL|exact vX))|(apply q_fld_optF; (iterate 3 exact rfl))|(apply q_ld_box; (iterate 4 exact rfl))|(apply q_ld_boxF; (iterate 4 exact rfl))|(apply q_neq; exact rfl; exact rfl)|(apply q_not; exact rfl)|(apply q_ld_maps; (iterate 3 exact rfl); (first | omega | (focus (simp; done))))|(apply q_buildF; exact rfl; exact rfl; kernel_rfl)|(apply q_ix_slF; (iterate 4 exact rfl); (first | (with_reducible exact rfl) | exact natI_spec rfl | assumption | exact (Int.toNat_of_nonneg (by omega)).symm); (first | omega | (focus (simp only [List.length_map]; omega)) | (focus (simp; done)) | (focus (simp; omega))))
    | (apply (q_pickF (u := .d _)); exact rfl; exact rfl)))
  | (apply W.ed; (first
    | (apply e_boxF; (iterate 3 exact rfl); kernel_rfl; kernel_rfl)
    | (apply e_allocF; (iterate 3 exact rfl); kernel_rfl)))|(apply W.ln; (apply l_st_box; (iterate 6 exact rfl); kernel_rfl; kernel_rfl; kernel_rfl))|(apply AWP.seq)|(apply ACont_normal)|(apply (W.regionS 6); exact rfl; kernel_rfl)|(apply Walk.nil)|(apply AWP.block)|(apply AWP.skip)|(apply AWP.ret)|(apply ACont_ret)|(apply ABlock_ret)|(apply W.condF; exact rfl)
  | (refine W.cond _ rfl (fun hb => ?_) (fun hb => ?_) <;> ((try simp only [hb, zA, zB]) <;> (try simp only [zC, zD, zE, zF, zG, zH, zI, zJ] at hb) <;> (try (exfalso; omega))))))
        all_goals first | (exfalso; omega) | exact ⟨.inl rfl, [], [.agg [.d (.v (.slice none 0 0)), .d (.v (.slice none 0 0))], iV 19], rfl, ⟨⟨1, _, true, rfl, rfl, rfl, rfl⟩, rfl, trivial⟩, err2_le 19, rfl⟩
      · rw [if_neg h1]
        by_cases h2 : vs[j].2.1 = c
        · rw [if_pos h2]
          (repeat' (first
  | (apply W.gOn; exact rfl; exact rfl)
  | (apply W.qd; (first
    | (apply (q_callC (hkn)); exact rfl; exact rfl; kernel_rfl; kernel_rfl; kernel_rfl)|(apply (q_callC (hh)); exact rfl; exact rfl; kernel_rfl; kernel_rfl; kernel_rfl)|(apply q_mv; (first|exact vD|exact vO|exact vP|exact vA|exact vF|exact vR|exact vN|exact vY|exact vT|exact vM|exact vL|exact vX))|(apply q_as; (first|exact vD|exact vO|exact vP|exact vA|exact vF|exact vR|exact vN|exact vY|exact vT|exact vM|exact vL|exact vX))|(apply q_fld_optF; (iterate 3 exact rfl))|(apply q_ld_box; (iterate 4 exact rfl))|(apply q_ld_boxF; (iterate 4 exact rfl))|(apply q_eql; exact rfl; exact rfl)|(apply q_neq; exact rfl; exact rfl)|(apply q_not; exact rfl)|(apply q_ld_maps; (iterate 3 exact rfl); (first | omega | (focus (simp; done))))|(apply q_buildF; exact rfl; exact rfl; kernel_rfl)|(apply q_ix_slF; (iterate 4 exact rfl); (first | (with_reducible exact rfl) | exact natI_spec rfl | assumption | exact (Int.toNat_of_nonneg (by omega)).symm); (first | omega | (focus (simp only [List.length_map]; omega)) | (focus (simp; done)) | (focus (simp; omega))))
    | (apply (q_pickF (u := .d _)); exact rfl; exact rfl)))
  | (apply W.ed; (first
    | (apply e_boxF; (iterate 3 exact rfl); kernel_rfl; kernel_rfl)
    | (apply e_allocF; (iterate 3 exact rfl); kernel_rfl)))|(apply W.ln; (apply l_st_box; (iterate 6 exact rfl); kernel_rfl; kernel_rfl; kernel_rfl))|(apply AWP.seq)|(apply ACont_normal)|(apply (W.regionS 8); exact rfl; kernel_rfl)|(apply Walk.nil)|(apply AWP.block)|(apply AWP.skip)|(apply AWP.ret)|(apply ACont_ret)|(apply ABlock_ret)|(apply W.condF; exact rfl)
  | (refine W.cond _ rfl (fun hb => ?_) (fun hb => ?_) <;> ((try simp only [hb, zA, zB]) <;> (try simp only [zC, zD, zE, zF, zG, zH, zI, zJ] at hb) <;> (try (exfalso; omega))))))
          all_goals first | (exfalso; omega) | exact ⟨.inl rfl, [], [.agg [.d (.v (.slice none 0 0)), .d (.v (.slice none 0 0))], iV 1], rfl, ⟨⟨1, _, true, rfl, rfl, rfl, rfl⟩, rfl, trivial⟩, err2_le 1, rfl⟩
        · rw [if_neg h2]
          by_cases hu0 : 0 ≤ u
          · rw [if_pos hu0]
            (repeat' (first
  | (apply W.gOn; exact rfl; exact rfl)
  | (apply W.qd; (first
    | (apply (q_callC (hkn)); exact rfl; exact rfl; kernel_rfl; kernel_rfl; kernel_rfl)|(apply (q_callC (hh)); exact rfl; exact rfl; kernel_rfl; kernel_rfl; kernel_rfl)|(apply (q_callC (hu)); exact rfl; exact rfl; kernel_rfl; kernel_rfl; kernel_rfl)|(apply q_mv; (first|exact vD|exact vO|exact vP|exact vA|exact vF|exact vR|exact vN|exact vY|exact vT|exact vM|exact vL|exact vX))|(apply q_as; (first|exact vD|exact vO|exact vP|exact vA|exact vF|exact vR|exact vN|exact vY|exact vT|exact vM|exact vL|exact vX))|(apply q_fld_optF; (iterate 3 exact rfl))|(apply q_ld_box; (iterate 4 exact rfl))|(apply q_ld_boxF; (iterate 4 exact rfl))|(apply q_geq; exact rfl; exact rfl)|(apply q_eql; exact rfl; exact rfl)|(apply q_neq; exact rfl; exact rfl)|(apply q_not; exact rfl)|(apply q_ld_maps; (iterate 3 exact rfl); (first | omega | (focus (simp; done))))|(apply q_buildF; exact rfl; exact rfl; kernel_rfl)|(apply q_ix_slF; (iterate 4 exact rfl); (first | (with_reducible exact rfl) | exact natI_spec rfl | assumption | exact (Int.toNat_of_nonneg (by omega)).symm); (first | omega | (focus (simp only [List.length_map]; omega)) | (focus (simp; done)) | (focus (simp; omega))))
    | (apply (q_pickF (u := .d _)); exact rfl; exact rfl)))
  | (apply W.ed; (first
    | (apply e_boxF; (iterate 3 exact rfl); kernel_rfl; kernel_rfl)
    | (apply e_allocF; (iterate 3 exact rfl); kernel_rfl)))|(apply W.ln; (apply l_st_box; (iterate 6 exact rfl); kernel_rfl; kernel_rfl; kernel_rfl))|(apply AWP.seq)|(apply ACont_normal)|(apply (W.regionS 10); exact rfl; kernel_rfl)|(apply Walk.nil)|(apply AWP.block)|(apply AWP.skip)|(apply AWP.ret)|(apply ACont_ret)|(apply ABlock_ret)|(apply W.condF; exact rfl)
  | (refine W.cond _ rfl (fun hb => ?_) (fun hb => ?_) <;> ((try simp only [hb, zA, zB]) <;> (try simp only [zC, zD, zE, zF, zG, zH, zI, zJ] at hb) <;> (try (exfalso; omega))))))
            all_goals first | (exfalso; omega) | exact ⟨.inl rfl, [], [.agg [.d (.v (.slice none 0 0)), .d (.v (.slice none 0 0))], iV 19], rfl, ⟨⟨1, _, true, rfl, rfl, rfl, rfl⟩, rfl, trivial⟩, err2_le 19, rfl⟩
          · rw [if_neg hu0]
            cases hq3 : keepsB cs c vs[j].2.2.2.1 with
            | false =>
              rw [hq3] at hk
              rw [if_pos rfl]
              (repeat' (first
  | (apply W.gOn; exact rfl; exact rfl)
  | (apply W.qd; (first
    | (apply (q_callC (hkn)); exact rfl; exact rfl; kernel_rfl; kernel_rfl; kernel_rfl)|(apply (q_callC (hh)); exact rfl; exact rfl; kernel_rfl; kernel_rfl; kernel_rfl)|(apply (q_callC (hu)); exact rfl; exact rfl; kernel_rfl; kernel_rfl; kernel_rfl)|(apply (q_callC (hk)); exact rfl; exact rfl; kernel_rfl; kernel_rfl; kernel_rfl)|(apply q_mv; (first|exact vD|exact vO|exact vP|exact vA|exact vF|exact vR|exact vN|exact vY|exact vT|exact vM|exact vL|exact vX))|(apply q_as; (first|exact vD|exact vO|exact vP|exact vA|exact vF|exact vR|exact vN|exact vY|exact vT|exact vM|exact vL|exact vX))|(apply q_fld_optF; (iterate 3 exact rfl))|(apply q_ld_box; (iterate 4 exact rfl))|(apply q_ld_boxF; (iterate 4 exact rfl))|(apply q_geq; exact rfl; exact rfl)|(apply q_eql; exact rfl; exact rfl)|(apply q_neq; exact rfl; exact rfl)|(apply q_not; exact rfl)|(apply q_ld_maps; (iterate 3 exact rfl); (first | omega | (focus (simp; done))))|(apply q_buildF; exact rfl; exact rfl; kernel_rfl)|(apply q_ix_slF; (iterate 4 exact rfl); (first | (with_reducible exact rfl) | exact natI_spec rfl | assumption | exact (Int.toNat_of_nonneg (by omega)).symm); (first | omega | (focus (simp only [List.length_map]; omega)) | (focus (simp; done)) | (focus (simp; omega))))
    | (apply (q_pickF (u := .d _)); exact rfl; exact rfl)))
  | (apply W.ed; (first
    | (apply e_boxF; (iterate 3 exact rfl); kernel_rfl; kernel_rfl)
    | (apply e_allocF; (iterate 3 exact rfl); kernel_rfl)))|(apply W.ln; (apply l_st_box; (iterate 6 exact rfl); kernel_rfl; kernel_rfl; kernel_rfl))|(apply AWP.seq)|(apply ACont_normal)|(apply (W.regionS 12); exact rfl; kernel_rfl)|(apply Walk.nil)|(apply AWP.block)|(apply AWP.skip)|(apply AWP.ret)|(apply ACont_ret)|(apply ABlock_ret)|(apply W.condT; exact rfl)|(apply W.condF; exact rfl)
  | (refine W.cond _ rfl (fun hb => ?_) (fun hb => ?_) <;> ((try simp only [hb, zA, zB]) <;> (try simp only [zC, zD, zE, zF, zG, zH, zI, zJ] at hb) <;> (try (exfalso; omega))))))
              all_goals first | (exfalso; omega) | exact ⟨.inl rfl, [], [.agg [.d (.v (.slice none 0 0)), .d (.v (.slice none 0 0))], iV 17], rfl, ⟨⟨1, _, true, rfl, rfl, rfl, rfl⟩, rfl, trivial⟩, err2_le 17, rfl⟩
            | true =>
              rw [hq3] at hk
              rw [if_neg (by decide)]
              (repeat' (first
  | (apply W.gOn; exact rfl; exact rfl)
  | (apply W.qd; (first
    | (apply (q_callC (hkn)); exact rfl; exact rfl; kernel_rfl; kernel_rfl; kernel_rfl)|(apply (q_callC (hh)); exact rfl; exact rfl; kernel_rfl; kernel_rfl; kernel_rfl)|(apply (q_callC (hu)); exact rfl; exact rfl; kernel_rfl; kernel_rfl; kernel_rfl)|(apply (q_callC (hk)); exact rfl; exact rfl; kernel_rfl; kernel_rfl; kernel_rfl)|(apply q_mv; (first|exact vD|exact vO|exact vP|exact vA|exact vF|exact vR|exact vN|exact vY|exact vT|exact vM|exact vL|exact vX))|(apply q_as; (first|exact vD|exact vO|exact vP|exact vA|exact vF|exact vR|exact vN|exact vY|exact vT|exact vM|exact vL|exact vX))|(apply q_fld_optF; (iterate 3 exact rfl))|(apply q_ld_box; (iterate 4 exact rfl))|(apply q_ld_boxF; (iterate 4 exact rfl))|(apply q_geq; exact rfl; exact rfl)|(apply q_eql; exact rfl; exact rfl)|(apply q_neq; exact rfl; exact rfl)|(apply q_not; exact rfl)|(apply q_ld_maps; (iterate 3 exact rfl); (first | omega | (focus (simp; done))))|(apply q_ix_slF; (iterate 4 exact rfl); (first | (with_reducible exact rfl) | exact natI_spec rfl | assumption | exact (Int.toNat_of_nonneg (by omega)).symm); (first | omega | (focus (simp only [List.length_map]; omega)) | (focus (simp; done)) | (focus (simp; omega))))
    | (apply (q_pickF (u := .d _)); exact rfl; exact rfl)))
  | (apply W.ed; (first
    | (apply e_boxF; (iterate 3 exact rfl); kernel_rfl; kernel_rfl)
    | (apply e_allocF; (iterate 3 exact rfl); kernel_rfl)))|(apply W.ln; (apply l_st_box; (iterate 6 exact rfl); kernel_rfl; kernel_rfl; kernel_rfl))|(apply AWP.seq)|(apply ACont_normal)|(apply (W.regionS 12); exact rfl; kernel_rfl)|(apply Walk.nil)|(apply AWP.block)|(apply AWP.skip)|(apply ABlock_normal)|(apply W.condF; exact rfl)
  | (refine W.cond _ rfl (fun hb => ?_) (fun hb => ?_) <;> ((try simp only [hb, zA, zB]) <;> (try simp only [zC, zD, zE, zF, zG, zH, zI, zJ] at hb) <;> (try (exfalso; omega))))))
              all_goals try (exfalso; omega)
              (repeat' (first
  | (apply W.qd; (first
    | ((apply q_fld_rptF; (iterate 4 exact rfl)))|(apply q_mv; (first|exact vD|exact vO|exact vP|exact vA|exact vF|exact vR|exact vN|exact vY|exact vT|exact vM|exact vL|exact vX))|(apply q_as; (first|exact vD|exact vO|exact vP|exact vA|exact vF|exact vR|exact vN|exact vY|exact vT|exact vM|exact vL|exact vX))|(apply q_fld_optF; (iterate 3 exact rfl))|(apply q_ld_box; (iterate 4 exact rfl))|(apply q_ld_boxF; (iterate 4 exact rfl))
    | (apply q_ix_osl0; (iterate 4 exact rfl); (first | (with_reducible exact rfl) | exact natI_spec rfl | assumption | exact (Int.toNat_of_nonneg (by omega)).symm); (first | omega | (focus (simp only [List.length_map]; omega)) | (focus (simp; done)) | (focus (simp; omega))))))|(apply W.ed; (apply (e_callJ (js := []) (hcp)); (iterate 5 exact rfl); kernel_rfl; kernel_rfl))|(apply W.ln; (apply l_st_box; (iterate 6 exact rfl); kernel_rfl; kernel_rfl; kernel_rfl))|(apply W.en; ((apply (e_st_rptF (f := svD) (vs[j].1, vs[j].2.1, c, vs[j].2.2.2)); (iterate 8 exact rfl))))|(apply AWP.seq)|(apply ACont_normal)|(apply W.region; kernel_rfl)|(apply Walk.nil)
  | (apply AWP.ret)))
              refine ⟨.inl rfl, [], [.agg [.osl 3 a 0 cs.length, .osl 4 b 0 vs.length], iV 0], rfl, ⟨⟨1, _, true, rfl, rfl, rfl, rfl⟩, rfl, trivial⟩, AVle.of_eq ?_, rfl⟩
              show AV.tup [AV.agg [AV.frz _ [] (.osl 3 a 0 cs.length), AV.frz _ [] (.osl 4 b 0 vs.length)], iV 0] = _
              rw [frz_rowJ (i := 3) (ver := a) (n := cs.length) (l := cs.map cdD) rfl rfl hmc.symm, frz_rowJ (i := 4) (ver := b) (n := vs.length) (l := (vs.set j ((vs[j].1, vs[j].2.1, c, vs[j].2.2.2) : Sv)).map svD) rfl rfl (by simp)]
theorem A_finish {cs : List Cd} {vs : List Sv} {k : Int} (h : LibOk cs vs) : ACalls Tryd.prog 19 [lib cs vs, iV k] [] (res2 (finN cs vs k)) [] := by
  have hcl := h.cl
  have hvl := h.vl
  have hmc : (cs.map cdD).length = cs.length := List.length_map _
  have hmv : (vs.map svD).length = vs.length := List.length_map _
  have hkn := A_known (cs := cs) (vs := vs) (k := k)
  obtain ⟨a, b, hcp⟩ := A_copy h
  unfold finN atV
  refine acalls_of_body Tryd.func19 rfl (Nat.le_of_ble_eq_true rfl) ?_
  cases hq1 : hasB vs.length k with
  | false =>
    rw [hq1] at hkn
    rw [if_pos rfl]
    (repeat' (first
  | (apply W.qd; (first
    | (apply (q_callC (hkn)); exact rfl; exact rfl; kernel_rfl; kernel_rfl; kernel_rfl)|(apply q_mv; (first|exact vD|exact vO|exact vP|exact vA|exact vF|exact vR|exact vN|exact vY|exact vT|exact vM|exact vL|exact vX))|(apply q_as; (first|exact vD|exact vO|exact vP|exact vA|exact vF|exact vR|exact vN|exact vY|exact vT|exact vM|exact vL|exact vX))|(apply q_ld_boxF; (iterate 4 exact rfl))|(apply q_not; exact rfl)
    | (apply q_buildF; exact rfl; exact rfl; kernel_rfl)))
  | (apply W.ed; (first
    | (apply e_boxF; (iterate 3 exact rfl); kernel_rfl; kernel_rfl)
    | (apply e_allocF; (iterate 3 exact rfl); kernel_rfl)))|(apply W.ln; (apply l_st_box; (iterate 6 exact rfl); kernel_rfl; kernel_rfl; kernel_rfl))|(apply AWP.seq)|(apply ACont_normal)|(apply W.region; kernel_rfl)|(apply Walk.nil)|(apply AWP.ret)|(apply ACont_ret)
  | (apply W.condT; exact rfl)))
    all_goals exact ⟨.inl rfl, [], [.agg [.d (.v (.slice none 0 0)), .d (.v (.slice none 0 0))], iV 12], rfl, ⟨⟨1, _, true, rfl, rfl, rfl, rfl⟩, rfl, trivial⟩, err2_le 12, rfl⟩
  | true =>
    rw [hq1] at hkn
    rw [if_neg (by decide)]
    obtain ⟨j, rfl, hj⟩ := hasB_nat hq1
    have eg : vs.getD (j : Int).toNat sv0 = vs[j] := by rw [Int.toNat_natCast, List.getD_eq_getElem?_getD, List.getElem?_eq_getElem hj]; rfl
    rw [eg, Int.toNat_natCast]
    by_cases h1 : vs[j].2.2.1 = -1
    · rw [if_pos h1]
      (repeat' (first
  | (apply W.qd; (first
    | (apply (q_callC (hkn)); exact rfl; exact rfl; kernel_rfl; kernel_rfl; kernel_rfl)|(apply q_mv; (first|exact vD|exact vO|exact vP|exact vA|exact vF|exact vR|exact vN|exact vY|exact vT|exact vM|exact vL|exact vX))|(apply q_as; (first|exact vD|exact vO|exact vP|exact vA|exact vF|exact vR|exact vN|exact vY|exact vT|exact vM|exact vL|exact vX))|(apply q_fld_optF; (iterate 3 exact rfl))|(apply q_ld_box; (iterate 4 exact rfl))|(apply q_ld_boxF; (iterate 4 exact rfl))|(apply q_eql; exact rfl; exact rfl)|(apply q_not; exact rfl)|(apply q_ld_map; (iterate 3 exact rfl); (first | omega | (focus (simp; done))))|(apply q_fld_fptF; (iterate 3 exact rfl))|(apply q_buildF; exact rfl; exact rfl; kernel_rfl)
    | (apply q_ix_slF; (iterate 4 exact rfl); (first | (with_reducible exact rfl) | exact natI_spec rfl | assumption | exact (Int.toNat_of_nonneg (by omega)).symm); (first | omega | (focus (simp only [List.length_map]; omega)) | (focus (simp; done)) | (focus (simp; omega))))))
  | (apply W.ed; (first
    | (apply e_boxF; (iterate 3 exact rfl); kernel_rfl; kernel_rfl)
    | (apply e_allocF; (iterate 3 exact rfl); kernel_rfl)))|(apply W.ln; (apply l_st_box; (iterate 6 exact rfl); kernel_rfl; kernel_rfl; kernel_rfl))|(apply AWP.seq)|(apply ACont_normal)|(apply (W.regionS 5); exact rfl; kernel_rfl)|(apply Walk.nil)|(apply AWP.skip)|(apply AWP.ret)|(apply ACont_ret)|(apply W.condF; exact rfl)
  | (refine W.cond _ rfl (fun hb => ?_) (fun hb => ?_) <;> ((try simp only [hb, zA, zB]) <;> (try simp only [zC, zD, zE, zF, zG, zH, zI, zJ] at hb) <;> (try (exfalso; omega))))))
      all_goals first | (exfalso; omega) | exact ⟨.inl rfl, [], [.agg [.d (.v (.slice none 0 0)), .d (.v (.slice none 0 0))], iV 19], rfl, ⟨⟨1, _, true, rfl, rfl, rfl, rfl⟩, rfl, trivial⟩, err2_le 19, rfl⟩
    · rw [if_neg h1]
      have hss : (vs.set j ((vs[j].1, vs[j].2.2.1, vs[j].2.2) : Sv)).set j ((vs[j].1, vs[j].2.2.1, -1, vs[j].2.2.2) : Sv) = vs.set j ((vs[j].1, vs[j].2.2.1, -1, vs[j].2.2.2) : Sv) := List.set_set _
      have hsv : svD (vs[j].1, vs[j].2.2.1, -1, vs[j].2.2.2) = (svD ((vs.set j ((vs[j].1, vs[j].2.2.1, vs[j].2.2) : Sv))[j]'(by rw [List.length_set]; exact hj))).set 2 (.v (.int .i64 (-1))) := by rw [List.getElem_set_self]; rfl
      (repeat' (first
  | (apply W.qd; (first
    | (apply (q_callC (hkn)); exact rfl; exact rfl; kernel_rfl; kernel_rfl; kernel_rfl)|(apply q_mv; (first|exact vD|exact vO|exact vP|exact vA|exact vF|exact vR|exact vN|exact vY|exact vT|exact vM|exact vL|exact vX))|(apply q_as; (first|exact vD|exact vO|exact vP|exact vA|exact vF|exact vR|exact vN|exact vY|exact vT|exact vM|exact vL|exact vX))|(apply q_fld_optF; (iterate 3 exact rfl))|(apply q_ld_box; (iterate 4 exact rfl))|(apply q_ld_boxF; (iterate 4 exact rfl))|(apply q_eql; exact rfl; exact rfl)|(apply q_not; exact rfl)|(apply q_ld_map; (iterate 3 exact rfl); (first | omega | (focus (simp; done))))|(apply q_fld_fptF; (iterate 3 exact rfl))
    | (apply q_ix_slF; (iterate 4 exact rfl); (first | (with_reducible exact rfl) | exact natI_spec rfl | assumption | exact (Int.toNat_of_nonneg (by omega)).symm); (first | omega | (focus (simp only [List.length_map]; omega)) | (focus (simp; done)) | (focus (simp; omega))))))
  | (apply W.ed; (first
    | (apply e_boxF; (iterate 3 exact rfl); kernel_rfl; kernel_rfl)
    | (apply e_allocF; (iterate 3 exact rfl); kernel_rfl)))|(apply AWP.seq)|(apply ACont_normal)|(apply (W.regionS 5); exact rfl; kernel_rfl)|(apply Walk.nil)|(apply AWP.skip)|(apply W.condF; exact rfl)
  | (refine W.cond _ rfl (fun hb => ?_) (fun hb => ?_) <;> ((try simp only [hb, zA, zB]) <;> (try simp only [zC, zD, zE, zF, zG, zH, zI, zJ] at hb) <;> (try (exfalso; omega))))))
      all_goals try (exfalso; omega)
      (repeat' (first
  | (apply W.qd; (first
    | ((apply q_nil_rpt; exact rfl; exact rfl))
    | ((apply q_fld_rptF; (iterate 4 exact rfl)))|(apply q_mv; (first|exact vD|exact vO|exact vP|exact vA|exact vF|exact vR|exact vN|exact vY|exact vT|exact vM|exact vL|exact vX))|(apply q_as; (first|exact vD|exact vO|exact vP|exact vA|exact vF|exact vR|exact vN|exact vY|exact vT|exact vM|exact vL|exact vX))|(apply q_fld_optF; (iterate 3 exact rfl))|(apply q_ld_box; (iterate 4 exact rfl))|(apply q_ld_boxF; (iterate 4 exact rfl))|(apply q_ix_osl0; (iterate 4 exact rfl); (first | (with_reducible exact rfl) | exact natI_spec rfl | assumption | exact (Int.toNat_of_nonneg (by omega)).symm); (first | omega | (focus (simp only [List.length_map]; omega)) | (focus (simp; done)) | (focus (simp; omega))))
    | (apply q_ld_rptm; (iterate 4 exact rfl); (first | omega | (focus (simp only [List.length_map]; omega)) | (focus (simp; done)) | (focus (simp; omega))))))|(apply W.ed; (apply (e_callJ (js := []) (hcp)); (iterate 5 exact rfl); kernel_rfl; kernel_rfl))|(apply W.ln; (apply l_st_box; (iterate 6 exact rfl); kernel_rfl; kernel_rfl; kernel_rfl))
  | (apply W.en; (first
    | ((apply (e_st_rptF (f := svD) (vs[j].1, vs[j].2.2.1, vs[j].2.2)); (iterate 8 exact rfl)))
    | ((apply (e_st_rptF (f := svD) (l := vs.set j (vs[j].1, vs[j].2.2.1, vs[j].2.2)) (vs[j].1, vs[j].2.2.1, -1, vs[j].2.2.2)); (iterate 5 exact rfl); exact hsv; exact rfl; exact rfl))))|(apply AWP.seq)|(apply ACont_normal)|(apply W.region; kernel_rfl)|(apply Walk.nil)
  | (apply AWP.ret)))
      rw [← hss]
      refine ⟨.inl rfl, [], [.agg [.osl 2 a 0 cs.length, .osl 3 b 0 vs.length], iV 0], rfl, ⟨⟨1, _, true, rfl, rfl, rfl, rfl⟩, rfl, trivial⟩, AVle.of_eq ?_, rfl⟩
      show AV.tup [AV.agg [AV.frz _ [] (.osl 2 a 0 cs.length), AV.frz _ [] (.osl 3 b 0 vs.length)], iV 0] = _
      rw [frz_rowJ (i := 2) (ver := a) (n := cs.length) (l := cs.map cdD) rfl rfl hmc.symm, frz_rowJ (i := 3) (ver := b) (n := vs.length) (l := ((vs.set j ((vs[j].1, vs[j].2.2.1, vs[j].2.2) : Sv)).set j ((vs[j].1, vs[j].2.2.1, -1, vs[j].2.2.2) : Sv)).map svD) rfl rfl (by simp)]
theorem A_target {cs : List Cd} {vs : List Sv} {k : Int} : ACalls Tryd.prog 20 [lib cs vs, iV k] [] (.tup [iV (tgtN vs k).1, iV (tgtN vs k).2]) [] := by
  have hmv : (vs.map svD).length = vs.length := List.length_map _
  have hkn := A_known (cs := cs) (vs := vs) (k := k)
  unfold tgtN atV
  refine acalls_of_body Tryd.func20 rfl (Nat.le_of_ble_eq_true rfl) ?_
  cases hq1 : hasB vs.length k with
  | false =>
    rw [hq1] at hkn
    rw [if_pos rfl]
    (repeat' (first
  | (apply W.qd; (first
    | (apply (q_callC (hkn)); exact rfl; exact rfl; kernel_rfl; kernel_rfl; kernel_rfl)|(apply q_mv; (first|exact vD|exact vO|exact vP|exact vA|exact vF|exact vR|exact vN|exact vY|exact vT|exact vM|exact vL|exact vX))|(apply q_as; (first|exact vD|exact vO|exact vP|exact vA|exact vF|exact vR|exact vN|exact vY|exact vT|exact vM|exact vL|exact vX))|(apply q_ld_boxF; (iterate 4 exact rfl))
    | (apply q_not; exact rfl)))|(apply W.ed; (apply e_boxF; (iterate 3 exact rfl); kernel_rfl; kernel_rfl))|(apply AWP.seq)|(apply ACont_normal)|(apply W.region; kernel_rfl)|(apply Walk.nil)|(apply AWP.ret)|(apply ACont_ret)
  | (apply W.condT; exact rfl)))
    exact Ends.two rfl rfl rfl
  | true =>
    rw [hq1] at hkn
    rw [if_neg (by decide)]
    obtain ⟨j, rfl, hj⟩ := hasB_nat hq1
    have eg : vs.getD (j : Int).toNat sv0 = vs[j] := by rw [Int.toNat_natCast, List.getD_eq_getElem?_getD, List.getElem?_eq_getElem hj]; rfl
    rw [eg]
    by_cases h1 : vs[j].2.2.1 ≠ -1
    · rw [if_pos h1]
      (repeat' (first
  | (apply W.qd; (first
    | (apply (q_callC (hkn)); exact rfl; exact rfl; kernel_rfl; kernel_rfl; kernel_rfl)|(apply q_mv; (first|exact vD|exact vO|exact vP|exact vA|exact vF|exact vR|exact vN|exact vY|exact vT|exact vM|exact vL|exact vX))|(apply q_as; (first|exact vD|exact vO|exact vP|exact vA|exact vF|exact vR|exact vN|exact vY|exact vT|exact vM|exact vL|exact vX))|(apply q_fld_optF; (iterate 3 exact rfl))|(apply q_ld_box; (iterate 4 exact rfl))|(apply q_ld_boxF; (iterate 4 exact rfl))|(apply q_neq; exact rfl; exact rfl)|(apply q_not; exact rfl)|(apply q_ld_maps; (iterate 3 exact rfl); (first | omega | (focus (simp; done))))
    | (apply q_ix_slF; (iterate 4 exact rfl); (first | (with_reducible exact rfl) | exact natI_spec rfl | assumption | exact (Int.toNat_of_nonneg (by omega)).symm); (first | omega | (focus (simp only [List.length_map]; omega)) | (focus (simp; done)) | (focus (simp; omega))))))
  | (apply W.ed; (first
    | (apply e_boxF; (iterate 3 exact rfl); kernel_rfl; kernel_rfl)
    | (apply e_allocF; (iterate 3 exact rfl); kernel_rfl)))|(apply W.ln; (apply l_st_box; (iterate 6 exact rfl); kernel_rfl; kernel_rfl; kernel_rfl))|(apply AWP.seq)|(apply ACont_normal)|(apply W.region; kernel_rfl)|(apply Walk.nil)|(apply AWP.skip)|(apply AWP.ret)|(apply ACont_ret)|(apply W.condF; exact rfl)
  | (refine W.cond _ rfl (fun hb => ?_) (fun hb => ?_) <;> ((try simp only [hb, zA, zB]) <;> (try simp only [zC, zD, zE, zF, zG, zH, zI, zJ] at hb) <;> (try (exfalso; omega))))))
      all_goals first | (exfalso; omega) | exact Ends.two rfl rfl rfl
    · rw [if_neg h1]
      (repeat' (first
  | (apply W.qd; (first
    | (apply (q_callC (hkn)); exact rfl; exact rfl; kernel_rfl; kernel_rfl; kernel_rfl)|(apply q_mv; (first|exact vD|exact vO|exact vP|exact vA|exact vF|exact vR|exact vN|exact vY|exact vT|exact vM|exact vL|exact vX))|(apply q_as; (first|exact vD|exact vO|exact vP|exact vA|exact vF|exact vR|exact vN|exact vY|exact vT|exact vM|exact vL|exact vX))|(apply q_fld_optF; (iterate 3 exact rfl))|(apply q_ld_box; (iterate 4 exact rfl))|(apply q_ld_boxF; (iterate 4 exact rfl))|(apply q_neq; exact rfl; exact rfl)|(apply q_not; exact rfl)|(apply q_ld_map; (iterate 3 exact rfl); (first | omega | (focus (simp; done))))|(apply q_ld_maps; (iterate 3 exact rfl); (first | omega | (focus (simp; done))))|(apply q_fld_fptF; (iterate 3 exact rfl))
    | (apply q_ix_slF; (iterate 4 exact rfl); (first | (with_reducible exact rfl) | exact natI_spec rfl | assumption | exact (Int.toNat_of_nonneg (by omega)).symm); (first | omega | (focus (simp only [List.length_map]; omega)) | (focus (simp; done)) | (focus (simp; omega))))))
  | (apply W.ed; (first
    | (apply e_boxF; (iterate 3 exact rfl); kernel_rfl; kernel_rfl)
    | (apply e_allocF; (iterate 3 exact rfl); kernel_rfl)))|(apply W.ln; (apply l_st_box; (iterate 6 exact rfl); kernel_rfl; kernel_rfl; kernel_rfl))|(apply AWP.seq)|(apply ACont_normal)|(apply W.region; kernel_rfl)|(apply Walk.nil)|(apply AWP.skip)|(apply AWP.ret)|(apply W.condF; exact rfl)
  | (refine W.cond _ rfl (fun hb => ?_) (fun hb => ?_) <;> ((try simp only [hb, zA, zB]) <;> (try simp only [zC, zD, zE, zF, zG, zH, zI, zJ] at hb) <;> (try (exfalso; omega))))))
      all_goals first | (exfalso; omega) | exact Ends.two rfl rfl rfl
end Go.Proofs.YtaclmbbiegklcaaDoor
end
section
/- Layer 30, the plain laws: a valid library stays valid. -/
namespace Go.Proofs.YtaclmbbiegklcaaDoor
open Go.RowKit
set_option maxHeartbeats 4000000
set_option maxRecDepth 100000
section
variable {α : Type} {q : α → Bool} {l : List α}
theorem idxA_iff {i : Nat} : idxA q l = (i : Int) ↔ ∃ h : i < l.length, q l[i] = true ∧ ∀ (j : Nat) (hj : j < i), q (l[j]'(by omega)) = false := by
  unfold idxA
  constructor
  · intro h
    split at h
    · rename_i k hk
      obtain rfl : k = i := by omega
      obtain ⟨h1, h2, h3⟩ := List.findIdx?_eq_some_iff_getElem.1 hk
      exact ⟨h1, h2, fun j hj => by simpa using h3 j hj⟩
    · omega
  · rintro ⟨h1, h2, h3⟩
    have : l.findIdx? q = some i := List.findIdx?_eq_some_iff_getElem.2 ⟨h1, h2, fun j hj => by simpa using h3 j hj⟩
    rw [this]
theorem idxA_neg : ¬ 0 ≤ idxA q l ↔ ∀ x ∈ l, q x = false := by
  unfold idxA
  split
  · rename_i k hk
    obtain ⟨h1, h2, h3⟩ := List.findIdx?_eq_some_iff_getElem.1 hk
    constructor
    · intro h; omega
    · intro h
      rw [h _ (List.getElem_mem h1)] at h2; cases h2
  · rename_i hn
    exact ⟨fun _ => List.findIdx?_eq_none_iff.1 hn, fun _ => by omega⟩
theorem idxA_set {i j : Nat} {y : α} (h : idxA q l = (i : Int)) (h1 : i = j → q y = true) (h2 : j < i → q y = false) : idxA q (l.set j y) = (i : Int) := by
  obtain ⟨g1, g2, g3⟩ := idxA_iff.1 h
  refine idxA_iff.2 ⟨by simpa using g1, ?_, fun k hk => ?_⟩
  · rw [List.getElem_set]
    split
    · rename_i e; exact h1 e.symm
    · exact g2
  · rw [List.getElem_set]
    split
    · rename_i e; exact h2 (by omega)
    · exact g3 k hk
theorem idxA_new {j : Nat} {y : α} (h : ¬ 0 ≤ idxA q l) (hj : j < l.length) (hy : q y = true) : idxA q (l.set j y) = (j : Int) := by
  refine idxA_iff.2 ⟨by simpa using hj, by rw [List.getElem_set_self]; exact hy, fun k hk => ?_⟩
  rw [List.getElem_set_ne (by omega)]
  exact idxA_neg.1 h _ (List.getElem_mem (by omega))
end
theorem getDc {cs : List Cd} {i : Nat} (h : i < cs.length) : cs.getD i cd0 = cs[i] := by rw [List.getD_eq_getElem?_getD, List.getElem?_eq_getElem h]; rfl
theorem getDv {vs : List Sv} {i : Nat} (h : i < vs.length) : vs.getD i sv0 = vs[i] := by rw [List.getD_eq_getElem?_getD, List.getElem?_eq_getElem h]; rfl
structure VOk (cs : List Cd) (vs : List Sv) (i : Nat) (v : Sv) : Prop where
  nm : fvI vs v.1 = (i : Int)
  pl : plausB v.1 v.2.2.2.1 v.2.2.2.2 = true
  kp : keepsB cs v.2.1 v.2.2.2.1 = true
  ne : v.2.2.1 ≠ v.2.1
  kn : v.2.2.1 = -1 ∨ keepsB cs v.2.2.1 v.2.2.2.1 = true
  us : userI vs v.2.1 = (i : Int)
  un : v.2.2.1 = -1 ∨ userI vs v.2.2.1 = (i : Int)
theorem okV_iff {cs : List Cd} {vs : List Sv} {i : Nat} (h : i < vs.length) : okV cs vs i = true ↔ VOk cs vs i vs[i] := by
  unfold okV aloneB
  rw [getDv h]
  simp only [Bool.and_eq_true, Bool.or_eq_true, decide_eq_true_eq]
  exact ⟨fun ⟨h1, h2, h3, h4, h5, h6, h7⟩ => ⟨h1, h2, h3, h4, h5, h6, h7⟩, fun ⟨h1, h2, h3, h4, h5, h6, h7⟩ => ⟨h1, h2, h3, h4, h5, h6, h7⟩⟩
theorem okC_iff {cs : List Cd} {i : Nat} (h : i < cs.length) : okC cs i = true ↔ fcI cs cs[i].1 = (i : Int) ∧ chkD cs[i] = true := by
  unfold okC
  rw [getDc h, Bool.and_eq_true, decide_eq_true_eq]
structure Vld (cs : List Cd) (vs : List Sv) : Prop where
  cl : cs.length ≤ 8
  vl : vs.length ≤ 8
  c : ∀ (i : Nat) (h : i < cs.length), fcI cs cs[i].1 = (i : Int) ∧ chkD cs[i] = true
  v : ∀ (i : Nat) (h : i < vs.length), VOk cs vs i vs[i]
theorem valid_iff {cs : List Cd} {vs : List Sv} : validB cs vs = true ↔ Vld cs vs := by
  unfold validB
  simp only [Bool.and_eq_true, decide_eq_true_eq, all_range]
  exact ⟨fun ⟨⟨h1, h2⟩, h3, h4⟩ => ⟨h1, h2, fun i h => (okC_iff h).1 (h3 i h), fun i h => (okV_iff h).1 (h4 i h)⟩, fun ⟨h1, h2, h3, h4⟩ => ⟨⟨h1, h2⟩, fun i h => (okC_iff h).2 (h3 i h), fun i h => (okV_iff h).2 (h4 i h)⟩⟩
theorem keeps_has {cs : List Cd} {k n : Int} (h : keepsB cs k n = true) : 0 ≤ k ∧ k < cs.length := by
  unfold keepsB at h
  rw [Bool.and_eq_true] at h
  obtain ⟨j, rfl, hj⟩ := hasB_nat h.1
  omega
theorem fv_set {vs : List Sv} {nm : List Nat} {i j : Nat} {y : Sv} (hj : j < vs.length) (hy : y.1 = vs[j].1) (h : fvI vs nm = (i : Int)) : fvI (vs.set j y) nm = (i : Int) := by
  obtain ⟨g1, g2, g3⟩ := idxA_iff.1 h
  refine idxA_set h (fun e => ?_) (fun e => ?_)
  · subst e; rw [hy]; exact g2
  · rw [hy]; exact g3 j e
theorem vld_chg {cs : List Cd} {vs : List Sv} {j : Nat} {c : Int} (h : Vld cs vs) (hj : j < vs.length) (h1 : vs[j].2.2.1 = -1) (h2 : vs[j].2.1 ≠ c) (h3 : ¬ 0 ≤ userI vs c) (h4 : keepsB cs c vs[j].2.2.2.1 = true) : Vld cs (vs.set j (vs[j].1, vs[j].2.1, c, vs[j].2.2.2)) where
  cl := h.cl
  vl := by simpa using h.vl
  c := h.c
  v i hi := by
    rw [List.length_set] at hi
    have hO := h.v i hi
    have hJ := h.v j hj
    have hno := idxA_neg.1 h3
    have hc0 := keeps_has h4
    have hu : ∀ q : Int, userI vs q = (i : Int) → q ≠ c → (i = j → vs[j].2.1 = q) → userI (vs.set j (vs[j].1, vs[j].2.1, c, vs[j].2.2.2)) q = (i : Int) := fun q hq hqc hij => by
      obtain ⟨g1, g2, g3⟩ := idxA_iff.1 hq
      refine idxA_set hq (fun e => ?_) (fun e => ?_)
      · unfold usesB; rw [decide_eq_true (hij e)]; rfl
      · have g4 := g3 j e
        unfold usesB at g4 ⊢
        rw [Bool.or_eq_false_iff] at g4
        rw [Bool.or_eq_false_iff]
        exact ⟨g4.1, decide_eq_false fun e2 => hqc e2.symm⟩
    rw [List.getElem_set]
    split
    · rename_i e
      subst e
      refine ⟨fv_set hj rfl hJ.nm, hJ.pl, hJ.kp, fun e => h2 e.symm, .inr h4, hu _ hJ.us h2 fun _ => rfl, .inr ?_⟩
      exact idxA_new h3 hj (by unfold usesB; simp)
    · rename_i e
      have hni := hno _ (List.getElem_mem hi)
      unfold usesB at hni
      rw [Bool.or_eq_false_iff, decide_eq_false_iff_not, decide_eq_false_iff_not] at hni
      refine ⟨fv_set hj rfl hO.nm, hO.pl, hO.kp, hO.ne, hO.kn, hu _ hO.us hni.1 (fun e2 => absurd e2.symm e), hO.un.imp id fun h => hu _ h hni.2 fun e2 => absurd e2.symm e⟩
end Go.Proofs.YtaclmbbiegklcaaDoor
end
section
/- Layer 30: the statements' own small functions; the sanity example. -/
namespace Go.Proofs.YtaclmbbiegklcaaDoor
open Go.RowKit
set_option maxHeartbeats 4000000
set_option maxRecDepth 100000
def few30 (c : Cd) : Bool := decide (0 ≤ c.2.2.1) && (decide (c.2.2.1 ≤ 5) && (decide (c.2.2.2.1.length ≤ 5) && decide (c.2.2.1 + (c.2.2.2.1.length : Int) ≤ 7)))
def small30 (cs : List Cd) (vs : List Sv) : Bool := (decide (cs.length ≤ 9) && decide (vs.length ≤ 9)) && cs.all few30
theorem LibOk.nil : LibOk [] [] := ⟨by simp, by simp, by simp, by decide, by decide⟩
theorem LibOk.addC {cs : List Cd} {vs : List Sv} (h : LibOk cs vs) (c : Cd) (h1 : NameIn c.1) (h2 : chkD c = true) (h3 : cs.length < 900) : LibOk (cs ++ [c]) vs where
  cn x hx := by
    rcases List.mem_append.1 hx with h4 | h4
    · exact h.cn x h4
    · rw [List.mem_singleton.1 h4]; exact h1
  ck x hx := by
    rcases List.mem_append.1 hx with h4 | h4
    · exact h.ck x h4
    · rw [List.mem_singleton.1 h4]; exact h2
  vn := h.vn
  cl := by simp; omega
  vl := h.vl
theorem LibOk.addV {cs : List Cd} {vs : List Sv} (h : LibOk cs vs) (v : Sv) (h1 : NameIn v.1) (h3 : vs.length < 900) : LibOk cs (vs ++ [v]) where
  cn := h.cn
  ck := h.ck
  vn x hx := by
    rcases List.mem_append.1 hx with h4 | h4
    · exact h.vn x h4
    · rw [List.mem_singleton.1 h4]; exact h1
  cl := h.cl
  vl := by simp; omega
theorem LibOk.lin {cs : List Cd} {vs : List Sv} (h : LibOk cs vs) : LibIn cs vs where
  cn := h.cn
  cp c hc := by have := (chk_rows (h.ck c hc)).1; omega
  vn := h.vn
  cl := by have := h.cl; omega
  vl := by have := h.vl; omega
def rs30 : Cd := ([114, 115], 8, 2, [[1, 1], [1, 2]], 1)
def pa30 : Cd := ([112, 97, 114], 8, 2, [[1, 1]], 1)
def pb30 : Cd := ([112, 97, 114], 8, 2, [[1, 2]], 1)
def pc30 : Cd := ([112, 97, 114, 50], 8, 2, [[1, 2]], 1)
def gold : Sv := ([103, 111, 108, 100], 0, -1, 2, 40)
def low1 : Sv := ([108, 111, 119], 1, -1, 1, 9)
def low2 : Sv := ([108, 111, 119], 1, 2, 1, 9)
def low3 : Sv := ([108, 111, 119], 2, -1, 1, 9)
theorem n_rs : NameIn rs30.1 := ⟨by unfold isB rs30; decide, by decide⟩
theorem n_pa : NameIn pa30.1 := ⟨by unfold isB pa30; decide, by decide⟩
theorem n_pc : NameIn pc30.1 := ⟨by unfold isB pc30; decide, by decide⟩
theorem n_gold : NameIn gold.1 := ⟨by unfold isB gold; decide, by decide⟩
theorem n_gold2 : NameIn [103, 111, 108, 100, 50] := ⟨by unfold isB; decide, by decide⟩
theorem n_low : NameIn low1.1 := ⟨by unfold isB low1; decide, by decide⟩
theorem L1 : LibOk [rs30] [] := LibOk.nil.addC rs30 n_rs (by kernel_rfl) (by decide)
theorem L2 : LibOk [rs30, pa30] [] := L1.addC pa30 n_pa (by kernel_rfl) (by decide)
theorem L3 : LibOk [rs30, pa30, pc30] [] := L2.addC pc30 n_pc (by kernel_rfl) (by decide)
theorem L4 : LibOk [rs30, pa30, pc30] [gold] := L3.addV gold n_gold (by decide)
theorem L5 : LibOk [rs30, pa30, pc30] [gold, low1] := L4.addV low1 n_low (by decide)
theorem L6 : LibOk [rs30, pa30, pc30] [gold, low2] := L4.addV low2 n_low (by decide)
theorem L7 : LibOk [rs30, pa30, pc30] [gold, low3] := L4.addV low3 n_low (by decide)
theorem r1 : addCN [] [] rs30 = (([rs30], []), 0, 0) := by kernel_rfl
theorem r2 : addCN [rs30] [] pa30 = (([rs30, pa30], []), 1, 0) := by kernel_rfl
theorem r3 : addCN [rs30, pa30] [] pb30 = (lb0, 0, 20) := by kernel_rfl
theorem r4 : addCN [rs30, pa30] [] pc30 = (([rs30, pa30, pc30], []), 2, 0) := by kernel_rfl
theorem r5 : addVN [rs30, pa30, pc30] [] gold.1 0 2 40 = (([rs30, pa30, pc30], [gold]), 0, 0) := by kernel_rfl
theorem r6 : addVN [rs30, pa30, pc30] [gold] [103, 111, 108, 100, 50] 0 2 40 = (lb0, 0, 19) := by kernel_rfl
theorem r7 : addVN [rs30, pa30, pc30] [gold] [103, 111, 108, 100, 50] 1 2 40 = (lb0, 0, 17) := by kernel_rfl
theorem r8 : chgN [rs30, pa30, pc30] [gold] 0 1 = (lb0, 17) := by kernel_rfl
theorem r9 : chgN [rs30, pa30, pc30] [gold] 0 0 = (lb0, 1) := by kernel_rfl
theorem r10 : chgN [rs30, pa30, pc30] [gold] 0 3 = (lb0, 12) := by kernel_rfl
theorem r11 : finN [rs30, pa30, pc30] [gold] 0 = (lb0, 19) := by kernel_rfl
theorem r12 : addVN [rs30, pa30, pc30] [gold] low1.1 1 1 9 = (([rs30, pa30, pc30], [gold, low1]), 1, 0) := by kernel_rfl
theorem r13 : chgN [rs30, pa30, pc30] [gold, low1] 1 2 = (([rs30, pa30, pc30], [gold, low2]), 0) := by kernel_rfl
theorem r14 : tgtN [gold, low2] 1 = (2, 0) := by kernel_rfl
theorem r15 : finN [rs30, pa30, pc30] [gold, low2] 1 = (([rs30, pa30, pc30], [gold, low3]), 0) := by kernel_rfl
theorem r16 : validB [rs30, pa30, pc30] [gold, low3] = true := by kernel_rfl
theorem fi_sv : fldsT Tryd.prog 42 = some [.s 0, .i 1, .i 2, .i 3, .i 4] := by kernel_rfl
attribute [local irreducible] Quiet Eff OpOk AWPG ACont ABlock ACalls AGoto
theorem A_few30 {c : Cd} : ACalls Tryd.prog 13 [cdA1 c] [] (bV (few30 c)) [] := by
  obtain ⟨nm, M, D, par, dom⟩ := c
  show ACalls Tryd.prog 13 [cdF nm M D par dom] [] (bV (few30 (nm, M, D, par, dom))) []
  refine acalls_of_body Tryd.func13 rfl (Nat.le_of_ble_eq_true rfl) ?_
  have hmp : (par.map rD).length = par.length := List.length_map _
  unfold few30
  dsimp only
  by_cases h1 : 0 ≤ D
  · by_cases h2 : D ≤ 5
    · by_cases h3 : par.length ≤ 5
      · rw [decide_eq_true h1, decide_eq_true h2, decide_eq_true h3]
        (repeat' (first
  | (apply W.gOn; exact rfl; exact rfl)
  | (apply W.qd; (first
    | (apply q_mv; (first|exact vD|exact vO|exact vP|exact vA|exact vF|exact vR|exact vN|exact vY|exact vT|exact vM|exact vL|exact vX))|(apply q_as; (first|exact vD|exact vO|exact vP|exact vA|exact vF|exact vR|exact vN|exact vY|exact vT|exact vM|exact vL|exact vX))|(apply q_fld_optF; (iterate 3 exact rfl))|(apply q_ld_box; (iterate 4 exact rfl))|(apply q_leq; exact rfl; exact rfl)|(apply q_geq; exact rfl; exact rfl)|(apply q_add; exact rfl; exact rfl; omega)|(apply q_len_sl; exact rfl; exact rfl)
    | (apply (q_pickT (u := .d _)); exact rfl; exact rfl)))|(apply W.ed; (apply e_boxF; (iterate 3 exact rfl); kernel_rfl; kernel_rfl))|(apply AWP.seq)|(apply ACont_normal)|(apply W.region; kernel_rfl)|(apply Walk.nil)|(apply AWP.ret)
  | (refine W.gT _ _ rfl rfl (fun hb => ?_) (fun hb => ?_) <;> ((try simp only [hb, zA, zB]) <;> (try simp only [zC, zD, zE, zF, zG, zH, zI, zJ] at hb) <;> (try (exfalso; omega))))))
        all_goals refine Ends.b rfl ?_
        all_goals simp [hmp]
      · rw [decide_eq_true h1, decide_eq_true h2, decide_eq_false h3]
        (repeat' (first
  | (apply W.gOn; exact rfl; exact rfl)
  | (apply W.qd; (first
    | (apply q_mv; (first|exact vD|exact vO|exact vP|exact vA|exact vF|exact vR|exact vN|exact vY|exact vT|exact vM|exact vL|exact vX))|(apply q_as; (first|exact vD|exact vO|exact vP|exact vA|exact vF|exact vR|exact vN|exact vY|exact vT|exact vM|exact vL|exact vX))|(apply q_fld_optF; (iterate 3 exact rfl))|(apply q_ld_box; (iterate 4 exact rfl))|(apply q_leq; exact rfl; exact rfl)|(apply q_geq; exact rfl; exact rfl)|(apply q_len_sl; exact rfl; exact rfl)|(apply (q_pickT (u := .d _)); exact rfl; exact rfl)
    | (apply (q_pickF (u := .d _)); exact rfl; exact rfl)))|(apply W.ed; (apply e_boxF; (iterate 3 exact rfl); kernel_rfl; kernel_rfl))|(refine W.gOff _ _ rfl rfl (by intro h; cases h) ?_)|(apply AWP.seq)|(apply ACont_normal)|(apply W.region; kernel_rfl)|(apply Walk.nil)|(apply AWP.ret)
  | (refine W.gT _ _ rfl rfl (fun hb => ?_) (fun hb => ?_) <;> ((try simp only [hb, zA, zB]) <;> (try simp only [zC, zD, zE, zF, zG, zH, zI, zJ] at hb) <;> (try (exfalso; omega))))))
        all_goals exact Ends.b rfl rfl
    · rw [decide_eq_true h1, decide_eq_false h2]
      (repeat' (first
  | (apply W.gOn; exact rfl; exact rfl)
  | (apply W.qd; (first
    | (apply q_mv; (first|exact vD|exact vO|exact vP|exact vA|exact vF|exact vR|exact vN|exact vY|exact vT|exact vM|exact vL|exact vX))|(apply q_as; (first|exact vD|exact vO|exact vP|exact vA|exact vF|exact vR|exact vN|exact vY|exact vT|exact vM|exact vL|exact vX))|(apply q_fld_optF; (iterate 3 exact rfl))|(apply q_ld_box; (iterate 4 exact rfl))|(apply q_leq; exact rfl; exact rfl)|(apply q_geq; exact rfl; exact rfl)|(apply (q_pickT (u := .d _)); exact rfl; exact rfl)
    | (apply (q_pickF (u := .d _)); exact rfl; exact rfl)))|(apply W.ed; (apply e_boxF; (iterate 3 exact rfl); kernel_rfl; kernel_rfl))|(refine W.gOff _ _ rfl rfl (by intro h; cases h) ?_)|(apply AWP.seq)|(apply ACont_normal)|(apply W.region; kernel_rfl)|(apply Walk.nil)|(apply AWP.ret)
  | (refine W.gT _ _ rfl rfl (fun hb => ?_) (fun hb => ?_) <;> ((try simp only [hb, zA, zB]) <;> (try simp only [zC, zD, zE, zF, zG, zH, zI, zJ] at hb) <;> (try (exfalso; omega))))))
      all_goals exact Ends.b rfl rfl
  · rw [decide_eq_false h1]
    (repeat' (first
  | (apply W.qd; (first
    | (apply q_mv; (first|exact vD|exact vO|exact vP|exact vA|exact vF|exact vR|exact vN|exact vY|exact vT|exact vM|exact vL|exact vX))|(apply q_as; (first|exact vD|exact vO|exact vP|exact vA|exact vF|exact vR|exact vN|exact vY|exact vT|exact vM|exact vL|exact vX))|(apply q_fld_optF; (iterate 3 exact rfl))|(apply q_ld_box; (iterate 4 exact rfl))|(apply q_geq; exact rfl; exact rfl)
    | (apply (q_pickF (u := .d _)); exact rfl; exact rfl)))|(apply W.ed; (apply e_boxF; (iterate 3 exact rfl); kernel_rfl; kernel_rfl))|(refine W.gOff _ _ rfl rfl (by intro h; cases h) ?_)|(apply AWP.seq)|(apply ACont_normal)|(apply W.region; kernel_rfl)|(apply Walk.nil)|(apply AWP.ret)
  | (refine W.gT _ _ rfl rfl (fun hb => ?_) (fun hb => ?_) <;> ((try simp only [hb, zA, zB]) <;> (try simp only [zC, zD, zE, zF, zG, zH, zI, zJ] at hb) <;> (try (exfalso; omega))))))
    all_goals exact Ends.b rfl rfl
theorem A_sml30 {cs : List Cd} {vs : List Sv} (hc : cs.length ≤ 9223372036854775807) (hv : vs.length ≤ 9223372036854775807) : ACalls Tryd.prog 12 [lib cs vs] [] (bV (small30 cs vs)) [] := by
  refine acalls_of_body Tryd.func12 rfl (Nat.le_of_ble_eq_true rfl) ?_
  have hmc : (cs.map cdD).length = cs.length := List.length_map _
  have hmv : (vs.map svD).length = vs.length := List.length_map _
  by_cases hg : cs.length ≤ 9 ∧ vs.length ≤ 9
  case neg =>
    have e : small30 cs vs = false := by
      unfold small30
      rw [Bool.and_eq_false_iff]
      left
      rw [Bool.and_eq_false_iff, decide_eq_false_iff_not, decide_eq_false_iff_not]
      omega
    rw [e]
    (repeat' (first
  | (apply W.gOn; exact rfl; exact rfl)
  | (apply W.qd; (first
    | (apply q_mv; (first|exact vD|exact vO|exact vP|exact vA|exact vF|exact vR|exact vN|exact vY|exact vT|exact vM|exact vL|exact vX))|(apply q_as; (first|exact vD|exact vO|exact vP|exact vA|exact vF|exact vR|exact vN|exact vY|exact vT|exact vM|exact vL|exact vX))|(apply q_fld_optF; (iterate 3 exact rfl))|(apply q_ld_box; (iterate 4 exact rfl))|(apply q_gtr; exact rfl; exact rfl)|(apply q_len_sl; exact rfl; exact rfl)|(apply (q_pickT (u := .d _)); exact rfl; exact rfl)
    | (apply (q_pickF (u := .d _)); exact rfl; exact rfl)))|(apply W.ed; (apply e_boxF; (iterate 3 exact rfl); kernel_rfl; kernel_rfl))|(refine W.gOff _ _ rfl rfl (by intro h; cases h) ?_)|(apply AWP.seq)|(apply ACont_normal)|(apply (W.regionS 3); exact rfl; kernel_rfl)|(apply Walk.nil)|(apply AWP.ret)|(apply ACont_ret)|(apply W.condT; exact rfl)|(refine W.gF _ _ rfl rfl (fun hb => ?_) (fun hb => ?_) <;> ((try simp only [hb, zA, zB]) <;> (try simp only [zC, zD, zE, zF, zG, zH, zI, zJ] at hb) <;> (try (exfalso; omega))))
  | (refine W.cond _ rfl (fun hb => ?_) (fun hb => ?_) <;> ((try simp only [hb, zA, zB]) <;> (try simp only [zC, zD, zE, zF, zG, zH, zI, zJ] at hb) <;> (try (exfalso; omega))))))
    all_goals first | exact Ends.b rfl rfl | (exfalso; omega)
  obtain ⟨hg1, hg2⟩ := hg
  have hV : small30 cs vs = cs.all few30 := by unfold small30; rw [decide_eq_true hg1, decide_eq_true hg2]; rfl
  have hbad : ∀ i (hi : i < cs.length), few30 cs[i] = false → small30 cs vs = false := fun i hi h => by
    rw [hV, List.all_eq_false]; exact ⟨cs[i], List.getElem_mem hi, by rw [h]; decide⟩
  have hgood : (∀ i (hi : i < cs.length), few30 cs[i] = true) → small30 cs vs = true := fun h => by
    rw [hV, List.all_eq_true]
    intro x hx
    obtain ⟨i, hi, rfl⟩ := List.getElem_of_mem hx
    exact h i hi
  clear hV
  generalize small30 cs vs = V at *
  (repeat' (first
  | (apply W.gOn; exact rfl; exact rfl)
  | (apply W.qd; (first
    | (apply q_mv; (first|exact vD|exact vO|exact vP|exact vA|exact vF|exact vR|exact vN|exact vY|exact vT|exact vM|exact vL|exact vX))|(apply q_as; (first|exact vD|exact vO|exact vP|exact vA|exact vF|exact vR|exact vN|exact vY|exact vT|exact vM|exact vL|exact vX))|(apply q_fld_optF; (iterate 3 exact rfl))|(apply q_ld_box; (iterate 4 exact rfl))|(apply q_gtr; exact rfl; exact rfl)|(apply q_len_sl; exact rfl; exact rfl)
    | (apply (q_pickF (u := .d _)); exact rfl; exact rfl)))|(apply W.ed; (apply e_boxF; (iterate 3 exact rfl); kernel_rfl; kernel_rfl))|(apply AWP.seq)|(apply ACont_normal)|(apply (W.regionS 4); exact rfl; kernel_rfl)|(apply Walk.nil)|(apply AWP.block)|(apply AWP.skip)|(refine W.gF _ _ rfl rfl (fun hb => ?_) (fun hb => ?_) <;> ((try simp only [hb, zA, zB]) <;> (try simp only [zC, zD, zE, zF, zG, zH, zI, zJ] at hb) <;> (try (exfalso; omega))))
  | (refine W.cond _ rfl (fun hb => ?_) (fun hb => ?_) <;> ((try simp only [hb, zA, zB]) <;> (try simp only [zC, zD, zE, zF, zG, zH, zI, zJ] at hb) <;> (try (exfalso; omega))))))
  all_goals try (exfalso; omega)
  refine AWP.loopW (α := Nat) (fun k => k ≤ cs.length ∧ ∀ j (hj : j < cs.length), j < k → few30 cs[j] = true) (fun k => ⟨[(3, iV k), (1, .opt 0 0)], [.box [cds cs, svs vs]]⟩) (fun k => cs.length - k) 0 ⟨Nat.zero_le _, fun j hj h => by omega⟩ ⟨[0], rfl, rfl, rfl, by (repeat (first | exact trivial | refine ⟨rfl, ?_⟩))⟩ fun k hk => ?_
  by_cases hkl : k < cs.length
  · have hf := A_few30 (c := cs[k])
    have hbk := hbad k hkl
    have hnx : few30 cs[k] = true → ∀ j (hj : j < cs.length), j < k + 1 → few30 cs[j] = true := fun h1 j hj hjk => by
      by_cases e : j = k
      · subst e; exact h1
      · exact hk.2 j hj (by omega)
    clear hk hbad hgood
    generalize few30 cs[k] = fk at *
    (repeat' (first
  | (apply W.qd; (first
    | (apply (q_callC (hf)); exact rfl; exact rfl; kernel_rfl; kernel_rfl; kernel_rfl)|(apply q_mv; (first|exact vD|exact vO|exact vP|exact vA|exact vF|exact vR|exact vN|exact vY|exact vT|exact vM|exact vL|exact vX))|(apply q_as; (first|exact vD|exact vO|exact vP|exact vA|exact vF|exact vR|exact vN|exact vY|exact vT|exact vM|exact vL|exact vX))|(apply q_fld_optF; (iterate 3 exact rfl))|(apply q_ld_box; (iterate 4 exact rfl))|(apply q_lss; exact rfl; exact rfl)|(apply q_not; exact rfl)|(apply q_add; exact rfl; exact rfl; omega)|(apply q_len_sl; exact rfl; exact rfl)|(apply q_ld_maps; (iterate 3 exact rfl); (first | omega | (focus (simp; done))))
    | (apply q_ix_slF; (iterate 4 exact rfl); (first | (with_reducible exact rfl) | exact natI_spec rfl | assumption | exact (Int.toNat_of_nonneg (by omega)).symm); (first | omega | (focus (simp only [List.length_map]; omega)) | (focus (simp; done)) | (focus (simp; omega))))))|(apply AWP.seq)|(apply ACont_normal)|(apply W.region; kernel_rfl)|(apply Walk.nil)|(apply AWP.block)|(apply AWP.skip)|(apply AWP.ret)|(apply ACont_ret)|(apply ABlock_normal)|(apply ABlock_ret)
  | (refine W.cond _ rfl (fun hb => ?_) (fun hb => ?_) <;> ((try simp only [hb, zA, zB]) <;> (try simp only [zC, zD, zE, zF, zG, zH, zI, zJ] at hb) <;> (try (exfalso; omega))))))
    all_goals first
      | exact Ends.b rfl (hbk (by assumption)).symm
      | exact ⟨k + 1, ⟨by omega, hnx (by assumption)⟩, by omega, [0], rfl, rfl, rfl, iV_eq (by omega), rfl, trivial⟩
  · have e : V = true := hgood fun i hi => hk.2 i hi (by omega)
    subst e
    clear hk hbad hgood
    (repeat' (first
  | (apply W.qd; (first
    | (apply q_mv; (first|exact vD|exact vO|exact vP|exact vA|exact vF|exact vR|exact vN|exact vY|exact vT|exact vM|exact vL|exact vX))|(apply q_as; (first|exact vD|exact vO|exact vP|exact vA|exact vF|exact vR|exact vN|exact vY|exact vT|exact vM|exact vL|exact vX))|(apply q_fld_optF; (iterate 3 exact rfl))|(apply q_ld_box; (iterate 4 exact rfl))|(apply q_lss; exact rfl; exact rfl)
    | (apply q_len_sl; exact rfl; exact rfl)))|(apply AWP.seq)|(apply ACont_normal)|(apply W.region; kernel_rfl)|(apply Walk.nil)|(apply AWP.exit)|(apply AWP.ret)|(apply ACont_exit)|(apply ABlock_exit)
  | (refine W.cond _ rfl (fun hb => ?_) (fun hb => ?_) <;> ((try simp only [hb, zA, zB]) <;> (try simp only [zC, zD, zE, zF, zG, zH, zI, zJ] at hb) <;> (try (exfalso; omega))))))
    all_goals exact Ends.b rfl rfl
theorem A_code30 (nm : List Nat) (rows : List (List Int)) : ACalls Tryd.prog 41 [bS nm, rowsA rows] [] (cdA1 (nm, 8, 2, rows, 1)) [] := by
  refine acalls_of_body Tryd.func41 rfl (Nat.le_of_ble_eq_true rfl) ?_
  (repeat' (first
  | (apply W.qd; (first
    | (apply q_mv; (first|exact vD|exact vO|exact vP|exact vA|exact vF|exact vR|exact vN|exact vY|exact vT|exact vM|exact vL|exact vX))
    | (apply q_buildF; exact rfl; exact rfl; kernel_rfl)))|(apply W.ed; (apply e_allocF; (iterate 3 exact rfl); kernel_rfl))|(apply W.ln; (apply l_st_box; (iterate 6 exact rfl); kernel_rfl; kernel_rfl; kernel_rfl))|(apply AWP.seq)|(apply ACont_normal)|(apply W.region; kernel_rfl)|(apply Walk.nil)
  | (apply AWP.ret)))
  exact Ends.cell1 (i := 0) (tyc := 28) rfl rfl rfl rfl
theorem A_sanity30 : ACalls Tryd.prog 15 [] [] (bV true) [] := by
  refine acalls_of_body Tryd.func15 rfl (Nat.le_of_ble_eq_true rfl) ?_
  have c1 := A_code30 [114, 115] [[1, 1], [1, 2]]
  have c2 := A_code30 [112, 97, 114] [[1, 1]]
  have c3 := A_code30 [112, 97, 114] [[1, 2]]
  have c4 := A_code30 [112, 97, 114, 50] [[1, 2]]
  have k1 := (A_addCode LibOk.nil n_rs (by decide)).le (args' := [.agg [.d (.v (.slice none 0 0)), .d (.v (.slice none 0 0))], cdA1 rs30]) fun F κ w us hs => AVleL.sat (xs := [.agg [.d (.v (.slice none 0 0)), .d (.v (.slice none 0 0))], cdA1 rs30]) (ys := [lib [] [], cdA1 rs30]) ⟨lib0_le, AVle.refl _, trivial⟩ F _ κ w us hs
  rw [r1] at k1
  have k2 := A_addCode L1 n_pa (by decide)
  rw [r2] at k2
  have k3 := A_addCode (c := pb30) L2 n_pa (by decide)
  rw [r3] at k3
  have k4 := A_addCode L2 n_pc (by decide)
  rw [r4] at k4
  have k5 := A_addClass (k := 0) (l := 2) (w := 40) L3 n_gold
  rw [r5] at k5
  have k6 := A_addClass (k := 0) (l := 2) (w := 40) L4 n_gold2
  rw [r6] at k6
  have k7 := A_addClass (k := 1) (l := 2) (w := 40) L4 n_gold2
  rw [r7] at k7
  have k8 := A_change (k := 0) (c := 1) L4
  rw [r8] at k8
  have k9 := A_change (k := 0) (c := 0) L4
  rw [r9] at k9
  have k10 := A_change (k := 0) (c := 3) L4
  rw [r10] at k10
  have k11 := A_finish (k := 0) L4
  rw [r11] at k11
  have k12 := A_addClass (k := 1) (l := 1) (w := 9) L4 n_low
  rw [r12] at k12
  have k13 := A_change (k := 1) (c := 2) L5
  rw [r13] at k13
  have k14 := A_target (cs := [rs30, pa30, pc30]) (vs := [gold, low2]) (k := 1)
  rw [r14] at k14
  have k15 := A_finish (k := 1) L6
  rw [r15] at k15
  have k16 := A_valid30 L7.lin
  rw [r16] at k16
  (repeat' (first
  | (apply W.gOn; exact rfl; exact rfl)
  | (apply W.qd; (first
    | (apply (q_callC (c1)); exact rfl; exact rfl; kernel_rfl; kernel_rfl; kernel_rfl)|(apply (q_callC (c2)); exact rfl; exact rfl; kernel_rfl; kernel_rfl; kernel_rfl)|(apply (q_callC (c3)); exact rfl; exact rfl; kernel_rfl; kernel_rfl; kernel_rfl)|(apply (q_callC (c4)); exact rfl; exact rfl; kernel_rfl; kernel_rfl; kernel_rfl)|(apply (q_callC (k1)); exact rfl; exact rfl; kernel_rfl; kernel_rfl; kernel_rfl)|(apply (q_callC (k2)); exact rfl; exact rfl; kernel_rfl; kernel_rfl; kernel_rfl)|(apply (q_callC (k3)); exact rfl; exact rfl; kernel_rfl; kernel_rfl; kernel_rfl)|(apply (q_callC (k4)); exact rfl; exact rfl; kernel_rfl; kernel_rfl; kernel_rfl)|(apply (q_callC (k5)); exact rfl; exact rfl; kernel_rfl; kernel_rfl; kernel_rfl)|(apply (q_callC (k6)); exact rfl; exact rfl; kernel_rfl; kernel_rfl; kernel_rfl)|(apply (q_callC (k7)); exact rfl; exact rfl; kernel_rfl; kernel_rfl; kernel_rfl)|(apply (q_callC (k8)); exact rfl; exact rfl; kernel_rfl; kernel_rfl; kernel_rfl)|(apply (q_callC (k9)); exact rfl; exact rfl; kernel_rfl; kernel_rfl; kernel_rfl)|(apply (q_callC (k10)); exact rfl; exact rfl; kernel_rfl; kernel_rfl; kernel_rfl)|(apply (q_callC (k11)); exact rfl; exact rfl; kernel_rfl; kernel_rfl; kernel_rfl)|(apply (q_callC (k12)); exact rfl; exact rfl; kernel_rfl; kernel_rfl; kernel_rfl)|(apply (q_callC (k13)); exact rfl; exact rfl; kernel_rfl; kernel_rfl; kernel_rfl)|(apply (q_callC (k14)); exact rfl; exact rfl; kernel_rfl; kernel_rfl; kernel_rfl)|(apply (q_callC (k15)); exact rfl; exact rfl; kernel_rfl; kernel_rfl; kernel_rfl)|(apply (q_callC (k16)); exact rfl; exact rfl; kernel_rfl; kernel_rfl; kernel_rfl)
    | ((apply (q_eqT fi_sv); (iterate 5 exact rfl); exact (show _ = true by kernel_rfl)))|(apply q_mv; (first|exact vD|exact vO|exact vP|exact vA|exact vF|exact vR|exact vN|exact vY|exact vT|exact vM|exact vL|exact vX))|(apply q_as; (first|exact vD|exact vO|exact vP|exact vA|exact vF|exact vR|exact vN|exact vY|exact vT|exact vM|exact vL|exact vX))|(apply q_fld_optF; (iterate 3 exact rfl))|(apply q_ld_box; (iterate 4 exact rfl))|(apply q_ld_boxF; (iterate 4 exact rfl))|(apply q_eql; exact rfl; exact rfl)|(apply q_extract; exact rfl; exact rfl)|(apply q_len_sl; exact rfl; exact rfl)|(apply q_ld_maps; (iterate 3 exact rfl); (first | omega | (focus (simp; done))))|(apply q_buildF; exact rfl; exact rfl; kernel_rfl)|(apply q_litF; (iterate 5 exact rfl); kernel_rfl; kernel_rfl; exact rfl)|(apply q_ix_slF; (iterate 4 exact rfl); (first | (with_reducible exact rfl) | exact natI_spec rfl | assumption | exact (Int.toNat_of_nonneg (by omega)).symm); (first | omega | (focus (simp only [List.length_map]; omega)) | (focus (simp; done)) | (focus (simp; omega))))
    | (apply (q_pickT (u := .d _)); exact rfl; exact rfl)))|(apply W.ed; (apply e_allocF; (iterate 3 exact rfl); kernel_rfl))|(apply W.ln; (apply l_st_box; (iterate 6 exact rfl); kernel_rfl; kernel_rfl; kernel_rfl))|(apply AWP.seq)|(apply ACont_normal)|(apply W.region; kernel_rfl)|(apply W.regionD; exact rfl; kernel_rfl)|(apply Walk.nil)|(apply W.chk; kernel_rfl)
  | (apply AWP.ret)))
  all_goals exact Ends.b rfl rfl
end Go.Proofs.YtaclmbbiegklcaaDoor
end
section
/- Layer 30: the statements ClassStaysValid and ClassFinds over the machine of abstract values (by Valid of all that comes back). -/
namespace Go.Proofs.YtaclmbbiegklcaaDoor
open Go.RowKit
set_option maxHeartbeats 4000000
set_option maxRecDepth 100000
theorem Vld.ok {cs : List Cd} {vs : List Sv} (h : Vld cs vs) (hi : LibIn cs vs) : LibOk cs vs where
  cn := hi.cn
  ck c hc := by
    obtain ⟨i, hi, rfl⟩ := List.getElem_of_mem hc
    exact (h.c i hi).2
  vn := hi.vn
  cl := by have := h.cl; omega
  vl := by have := h.vl; omega
theorem Vld.nil : Vld [] [] := ⟨by decide, by decide, fun i h => absurd h (by simp), fun i h => absurd h (by simp)⟩
structure Gd30 (cs : List Cd) (vs : List Sv) : Prop where
  v : Vld cs vs
  n : LibIn cs vs
theorem Gd30.nil : Gd30 [] [] := ⟨Vld.nil, LibOk.nil.lin⟩
theorem libin_set {cs : List Cd} {vs : List Sv} {j : Nat} {v : Sv} (h : LibIn cs vs) (hv : NameIn v.1) : LibIn cs (vs.set j v) where
  cn := h.cn
  cp := h.cp
  vn x hx := by
    rcases List.mem_or_eq_of_mem_set hx with h1 | rfl
    · exact h.vn x h1
    · exact hv
  cl := h.cl
  vl := by simpa using h.vl
theorem atV_nat {vs : List Sv} {j : Nat} (h : j < vs.length) : atV vs (j : Int) = vs[j] := by unfold atV; rw [Int.toNat_natCast, getDv h]
theorem good_chg {cs : List Cd} {vs : List Sv} {k c : Int} (h : Gd30 cs vs) : Gd30 (chgN cs vs k c).1.1 (chgN cs vs k c).1.2 := by
  unfold chgN
  split
  · exact Gd30.nil
  · rename_i h1
    obtain ⟨j, rfl, hj⟩ := hasB_nat (Bool.not_eq_false _ ▸ h1)
    rw [atV_nat hj]
    split
    · exact Gd30.nil
    · split
      · exact Gd30.nil
      · split
        · exact Gd30.nil
        · split
          · exact Gd30.nil
          · split
            · exact Gd30.nil
            · rename_i h2 h3 h4 h5
              rw [Int.toNat_natCast]
              exact ⟨vld_chg h.v hj (by omega) h3 h4 (Bool.not_eq_false _ ▸ h5), libin_set h.n (h.n.vn vs[j] (List.getElem_mem hj) :)⟩
attribute [local irreducible] Quiet Eff OpOk AWPG ACont ABlock ACalls AGoto
end Go.Proofs.YtaclmbbiegklcaaDoor
end
section
/- Layer 30: SameCode of the specification, of a code with itself. -/
namespace Go.Proofs.YtaclmbbiegklcaaDoor
open Go.RowKit
set_option maxHeartbeats 4000000
set_option maxRecDepth 100000
attribute [local irreducible] Quiet Eff OpOk AWPG ACont ABlock ACalls AGoto
theorem A_sameSelf {c : Cd} (hn : NameIn c.1) (hp : c.2.2.2.1.length ≤ 1000000) (hr : ∀ r ∈ c.2.2.2.1, r.length ≤ 1000000) : ACalls Tryd.prog 22 [cdA1 c, cdA1 c] [] (bV true) [] := by
  obtain ⟨nm, M, D, par, dom⟩ := c
  dsimp only at hp hr
  have hb1 : isB nm := hn.b
  have hmp : (par.map rD).length = par.length := List.length_map _
  show ACalls Tryd.prog 22 [cdF nm M D par dom, cdF nm M D par dom] [] (bV true) []
  refine acalls_of_body Tryd.func22 rfl (Nat.le_of_ble_eq_true rfl) ?_
  (repeat' (first
  | (apply W.gOn; exact rfl; exact rfl)
  | (apply W.qd; (first
    | (apply q_mv; (first|exact vD|exact vO|exact vP|exact vA|exact vF|exact vR|exact vN|exact vY|exact vT|exact vM|exact vL|exact vX))|(apply q_as; (first|exact vD|exact vO|exact vP|exact vA|exact vF|exact vR|exact vN|exact vY|exact vT|exact vM|exact vL|exact vX))|(apply q_fld_optF; (iterate 3 exact rfl))|(apply q_ld_box; (iterate 4 exact rfl))|(apply q_neq; exact rfl; exact rfl)|(apply q_len_sl; exact rfl; exact rfl)|(apply (q_pickF (u := .d _)); exact rfl; exact rfl)
    | (apply q_neqS; exact rfl; exact rfl; (first | assumption | exact isB_nil | exact isB_xor (by assumption) (by assumption)); (first | assumption | exact isB_nil | exact isB_xor (by assumption) (by assumption)))))|(apply W.ed; (apply e_boxF; (iterate 3 exact rfl); kernel_rfl; kernel_rfl))|(apply AWP.seq)|(apply ACont_normal)|(apply (W.regionS 4); exact rfl; kernel_rfl)|(apply Walk.nil)|(apply AWP.block)|(apply AWP.skip)|(refine W.gF _ _ rfl rfl (fun hb => ?_) (fun hb => ?_) <;> ((try simp only [hb, zA, zB]) <;> (try simp only [zC, zD, zE, zF, zG, zH, zI, zJ] at hb) <;> (try (exfalso; omega))))
  | (refine W.cond _ rfl (fun hb => ?_) (fun hb => ?_) <;> ((try simp only [hb, zA, zB]) <;> (try simp only [zC, zD, zE, zF, zG, zH, zI, zJ] at hb) <;> (try (exfalso; omega))))))
  all_goals first | (exfalso; contradiction) | (exfalso; simp at hb; done) | skip
  refine AWP.loopW (α := Nat) (fun k => k ≤ par.length) (fun k => ⟨[(5, iV k), (2, .opt 0 0), (3, .opt 1 0)], [.box [bS nm, iV M, iV D, rowsA par, iV dom], .box [bS nm, iV M, iV D, rowsA par, iV dom]]⟩) (fun k => par.length - k) 0 (Nat.zero_le _) ⟨[0, 1], rfl, rfl, rfl, by (repeat (first | exact trivial | refine ⟨rfl, ?_⟩))⟩ fun k hk => ?_
  by_cases hkl : k < par.length
  · have hrl := hr _ (List.getElem_mem hkl)
    have hmr : (par[k].map iD).length = par[k].length := List.length_map _
    (repeat' (first
  | (apply W.qd; (first
    | (apply q_mv; (first|exact vD|exact vO|exact vP|exact vA|exact vF|exact vR|exact vN|exact vY|exact vT|exact vM|exact vL|exact vX))|(apply q_as; (first|exact vD|exact vO|exact vP|exact vA|exact vF|exact vR|exact vN|exact vY|exact vT|exact vM|exact vL|exact vX))|(apply q_fld_optF; (iterate 3 exact rfl))|(apply q_ld_box; (iterate 4 exact rfl))|(apply q_lss; exact rfl; exact rfl)|(apply q_neq; exact rfl; exact rfl)|(apply q_len_sl; exact rfl; exact rfl)|(apply q_ld_map; (iterate 3 exact rfl); (first | omega | (focus (simp; done))))
    | (apply q_ix_slF; (iterate 4 exact rfl); (first | (with_reducible exact rfl) | exact natI_spec rfl | assumption | exact (Int.toNat_of_nonneg (by omega)).symm); (first | omega | (focus (simp only [List.length_map]; omega)) | (focus (simp; done)) | (focus (simp; omega))))))|(apply AWP.seq)|(apply ACont_normal)|(apply (W.regionS 9); exact rfl; kernel_rfl)|(apply (W.regionDS 9); exact rfl; exact rfl; kernel_rfl)|(apply Walk.nil)|(apply W.chk; kernel_rfl)|(apply AWP.block)|(apply AWP.skip)
  | (refine W.cond _ rfl (fun hb => ?_) (fun hb => ?_) <;> ((try simp only [hb, zA, zB]) <;> (try simp only [zC, zD, zE, zF, zG, zH, zI, zJ] at hb) <;> (try (exfalso; omega))))))
    all_goals first | (exfalso; contradiction) | (exfalso; simp at hb; done) | skip
    refine AWP.loopW (α := Nat) (fun j => j ≤ par[k].length) (fun j => ⟨[(6, iV j), (5, iV k), (2, .opt 0 0), (3, .opt 1 0)], [.box [bS nm, iV M, iV D, rowsA par, iV dom], .box [bS nm, iV M, iV D, rowsA par, iV dom]]⟩) (fun j => par[k].length - j) 0 (Nat.zero_le _) ⟨[0, 1], rfl, rfl, rfl, by (repeat (first | exact trivial | refine ⟨rfl, ?_⟩))⟩ fun j hj => ?_
    by_cases hjl : j < par[k].length
    · (repeat' (first
  | (apply W.qd; (first
    | (apply q_mv; (first|exact vD|exact vO|exact vP|exact vA|exact vF|exact vR|exact vN|exact vY|exact vT|exact vM|exact vL|exact vX))|(apply q_as; (first|exact vD|exact vO|exact vP|exact vA|exact vF|exact vR|exact vN|exact vY|exact vT|exact vM|exact vL|exact vX))|(apply q_fld_optF; (iterate 3 exact rfl))|(apply q_ld_box; (iterate 4 exact rfl))|(apply q_lss; exact rfl; exact rfl)|(apply q_neq; exact rfl; exact rfl)|(apply q_add; exact rfl; exact rfl; omega)|(apply q_len_sl; exact rfl; exact rfl)|(apply q_ld_map; (iterate 3 exact rfl); (first | omega | (focus (simp; done))))
    | (apply q_ix_slF; (iterate 4 exact rfl); (first | (with_reducible exact rfl) | exact natI_spec rfl | assumption | exact (Int.toNat_of_nonneg (by omega)).symm); (first | omega | (focus (simp only [List.length_map]; omega)) | (focus (simp; done)) | (focus (simp; omega))))))|(apply AWP.seq)|(apply ACont_normal)|(apply W.region; kernel_rfl)|(apply W.regionD; exact rfl; kernel_rfl)|(apply Walk.nil)|(apply W.chk; kernel_rfl)|(apply AWP.block)|(apply AWP.skip)|(apply ABlock_normal)
  | (refine W.cond _ rfl (fun hb => ?_) (fun hb => ?_) <;> ((try simp only [hb, zA, zB]) <;> (try simp only [zC, zD, zE, zF, zG, zH, zI, zJ] at hb) <;> (try (exfalso; omega))))))
      all_goals first
        | exact ⟨j + 1, by omega, by omega, [0, 1], rfl, rfl, rfl, iV_eq (by omega), rfl, rfl, rfl, trivial⟩
        | (exfalso; contradiction)
        | (exfalso; simp at hb; done)
    · (repeat' (first
  | (apply W.qd; (first
    | (apply q_mv; (first|exact vD|exact vO|exact vP|exact vA|exact vF|exact vR|exact vN|exact vY|exact vT|exact vM|exact vL|exact vX))|(apply q_as; (first|exact vD|exact vO|exact vP|exact vA|exact vF|exact vR|exact vN|exact vY|exact vT|exact vM|exact vL|exact vX))|(apply q_fld_optF; (iterate 3 exact rfl))|(apply q_ld_box; (iterate 4 exact rfl))|(apply q_lss; exact rfl; exact rfl)|(apply q_add; exact rfl; exact rfl; omega)|(apply q_len_sl; exact rfl; exact rfl)|(apply q_ld_map; (iterate 3 exact rfl); (first | omega | (focus (simp; done))))
    | (apply q_ix_slF; (iterate 4 exact rfl); (first | (with_reducible exact rfl) | exact natI_spec rfl | assumption | exact (Int.toNat_of_nonneg (by omega)).symm); (first | omega | (focus (simp only [List.length_map]; omega)) | (focus (simp; done)) | (focus (simp; omega))))))|(apply AWP.seq)|(apply ACont_normal)|(apply W.region; kernel_rfl)|(apply Walk.nil)|(apply AWP.exit)|(apply ACont_exit)|(apply ABlock_normal)|(apply ABlock_exit)
  | (refine W.cond _ rfl (fun hb => ?_) (fun hb => ?_) <;> ((try simp only [hb, zA, zB]) <;> (try simp only [zC, zD, zE, zF, zG, zH, zI, zJ] at hb) <;> (try (exfalso; omega))))))
      all_goals first
        | exact ⟨k + 1, by omega, by omega, [0, 1], rfl, rfl, rfl, iV_eq (by omega), rfl, rfl, trivial⟩
        | (exfalso; omega)
  · (repeat' (first
  | (apply W.qd; (first
    | (apply q_mv; (first|exact vD|exact vO|exact vP|exact vA|exact vF|exact vR|exact vN|exact vY|exact vT|exact vM|exact vL|exact vX))|(apply q_as; (first|exact vD|exact vO|exact vP|exact vA|exact vF|exact vR|exact vN|exact vY|exact vT|exact vM|exact vL|exact vX))|(apply q_fld_optF; (iterate 3 exact rfl))|(apply q_ld_box; (iterate 4 exact rfl))|(apply q_lss; exact rfl; exact rfl)
    | (apply q_len_sl; exact rfl; exact rfl)))|(apply AWP.seq)|(apply ACont_normal)|(apply W.region; kernel_rfl)|(apply Walk.nil)|(apply AWP.exit)|(apply AWP.ret)|(apply ACont_exit)|(apply ABlock_exit)
  | (refine W.cond _ rfl (fun hb => ?_) (fun hb => ?_) <;> ((try simp only [hb, zA, zB]) <;> (try simp only [zC, zD, zE, zF, zG, zH, zI, zJ] at hb) <;> (try (exfalso; omega))))))
    all_goals first | exact Ends.b rfl rfl | (exfalso; omega)
end Go.Proofs.YtaclmbbiegklcaaDoor
end
section
/- Layer 30: the statement ClassSeparate over the machine of abstract values. -/
namespace Go.Proofs.YtaclmbbiegklcaaDoor
open Go.RowKit
set_option maxHeartbeats 4000000
set_option maxRecDepth 100000
theorem chg_cases (cs : List Cd) (vs : List Sv) (k c : Int) : ((chgN cs vs k c).2 ≠ 0 ∧ (chgN cs vs k c).1 = lb0) ∨ ∃ (j : Nat) (hj : j < vs.length), k = j ∧ hasB cs.length c = true ∧ vs[j].2.2.1 = -1 ∧ chgN cs vs k c = ((cs, vs.set j (vs[j].1, vs[j].2.1, c, vs[j].2.2.2)), 0) := by
  unfold chgN
  split
  · exact .inl ⟨by decide, rfl⟩
  · rename_i h1
    obtain ⟨j, rfl, hj⟩ := hasB_nat (Bool.not_eq_false _ ▸ h1)
    rw [atV_nat hj, Int.toNat_natCast]
    split
    · exact .inl ⟨by decide, rfl⟩
    · rename_i h2
      split
      · exact .inl ⟨by decide, rfl⟩
      · rename_i h3
        split
        · exact .inl ⟨by decide, rfl⟩
        · split
          · exact .inl ⟨by decide, rfl⟩
          · split
            · exact .inl ⟨by decide, rfl⟩
            · exact .inr ⟨j, hj, rfl, Bool.not_eq_false _ ▸ h2, by omega, rfl⟩
theorem fin_chg {cs : List Cd} {vs : List Sv} {j : Nat} {c : Int} (hj : j < vs.length) (hc : hasB cs.length c = true) : finN cs (vs.set j (vs[j].1, vs[j].2.1, c, vs[j].2.2.2)) (j : Int) = ((cs, vs.set j (vs[j].1, c, -1, vs[j].2.2.2)), 0) := by
  have hl : j < (vs.set j ((vs[j].1, vs[j].2.1, c, vs[j].2.2.2) : Sv)).length := by rw [List.length_set]; exact hj
  obtain ⟨m, rfl, hm⟩ := hasB_nat hc
  unfold finN
  rw [if_neg (by unfold hasB; simp; omega), atV_nat hl, List.getElem_set_self, if_neg (by dsimp only; omega), Int.toNat_natCast, List.set_set]
attribute [local irreducible] Quiet Eff OpOk AWPG ACont ABlock ACalls AGoto
theorem A_separate {cs : List Cd} {vs : List Sv} {k c : Int} (h : LibIn cs vs) : ACalls Tryd.prog 5 [lib cs vs, iV k, iV c] [] (bV true) [] := by
  refine acalls_of_body Tryd.func5 rfl (Nat.le_of_ble_eq_true rfl) ?_
  have hsa := A_sanity30
  have hmc : (cs.map cdD).length = cs.length := List.length_map _
  have hmv : (vs.map svD).length = vs.length := List.length_map _
  have hs := A_sml30 (cs := cs) (vs := vs) h.cl h.vl
  have hv := A_valid30 h
  cases h1 : small30 cs vs with
  | false =>
    rw [h1] at hs
    (repeat' (first
  | (apply W.qd; (first
    | (apply (q_callC (hs)); exact rfl; exact rfl; kernel_rfl; kernel_rfl; kernel_rfl)|(apply (q_callC (hv)); exact rfl; exact rfl; kernel_rfl; kernel_rfl; kernel_rfl)|(apply (q_callC (hsa)); exact rfl; exact rfl; kernel_rfl; kernel_rfl; kernel_rfl)|(apply q_mv; (first|exact vD|exact vO|exact vP|exact vA|exact vF|exact vR|exact vN|exact vY|exact vT|exact vM|exact vL|exact vX))|(apply q_as; (first|exact vD|exact vO|exact vP|exact vA|exact vF|exact vR|exact vN|exact vY|exact vT|exact vM|exact vL|exact vX))|(apply q_ld_boxF; (iterate 4 exact rfl))|(apply q_not; exact rfl)
    | (apply (q_pickT (u := .d _)); exact rfl; exact rfl)))|(apply W.ed; (apply e_boxF; (iterate 3 exact rfl); kernel_rfl; kernel_rfl))|(refine W.gOff _ _ rfl rfl (by intro h; cases h) ?_)|(apply AWP.seq)|(apply ACont_normal)|(apply W.region; kernel_rfl)|(apply Walk.nil)|(apply AWP.ret)|(apply ACont_ret)
  | (apply W.condT; exact rfl)))
    all_goals exact Ends.b rfl rfl
  | true =>
  cases hq : validB cs vs with
  | false =>
    rw [h1] at hs
    rw [hq] at hv
    (repeat' (first
  | (apply W.gOn; exact rfl; exact rfl)
  | (apply W.qd; (first
    | (apply (q_callC (hs)); exact rfl; exact rfl; kernel_rfl; kernel_rfl; kernel_rfl)|(apply (q_callC (hv)); exact rfl; exact rfl; kernel_rfl; kernel_rfl; kernel_rfl)|(apply (q_callC (hsa)); exact rfl; exact rfl; kernel_rfl; kernel_rfl; kernel_rfl)|(apply q_mv; (first|exact vD|exact vO|exact vP|exact vA|exact vF|exact vR|exact vN|exact vY|exact vT|exact vM|exact vL|exact vX))|(apply q_as; (first|exact vD|exact vO|exact vP|exact vA|exact vF|exact vR|exact vN|exact vY|exact vT|exact vM|exact vL|exact vX))|(apply q_ld_boxF; (iterate 4 exact rfl))|(apply q_not; exact rfl)
    | (apply (q_pickF (u := .d _)); exact rfl; exact rfl)))|(apply W.ed; (apply e_boxF; (iterate 3 exact rfl); kernel_rfl; kernel_rfl))|(apply AWP.seq)|(apply ACont_normal)|(apply W.region; kernel_rfl)|(apply Walk.nil)|(apply AWP.ret)|(apply ACont_ret)
  | (apply W.condT; exact rfl)))
    all_goals exact Ends.b rfl rfl
  | true =>
  rw [h1] at hs
  rw [hq] at hv
  have hg : Gd30 cs vs := ⟨valid_iff.1 hq, h⟩
  have hok := hg.v.ok h
  have hcl := hg.v.cl
  have hvl := hg.v.vl
  have k1 := A_change (k := k) (c := c) hok
  have g1 := good_chg (k := k) (c := c) hg
  rcases chg_cases cs vs k c with ⟨hne, he⟩ | ⟨j, hj, rfl, hc, hn, he⟩
  · unfold res2 at k1
    rw [he] at k1
    generalize (chgN cs vs k c).2 = e at *
    have k1 : ACalls Tryd.prog 18 [lib cs vs, iV k, iV c] [] (.tup [lib [] [], iV e]) [] := k1
    (repeat' (first
  | (apply W.gOn; exact rfl; exact rfl)
  | (apply W.qd; (first
    | (apply (q_callC (hs)); exact rfl; exact rfl; kernel_rfl; kernel_rfl; kernel_rfl)|(apply (q_callC (hv)); exact rfl; exact rfl; kernel_rfl; kernel_rfl; kernel_rfl)|(apply (q_callC (hsa)); exact rfl; exact rfl; kernel_rfl; kernel_rfl; kernel_rfl)|(apply (q_callC (k1)); exact rfl; exact rfl; kernel_rfl; kernel_rfl; kernel_rfl)|(apply q_mv; (first|exact vD|exact vO|exact vP|exact vA|exact vF|exact vR|exact vN|exact vY|exact vT|exact vM|exact vL|exact vX))|(apply q_as; (first|exact vD|exact vO|exact vP|exact vA|exact vF|exact vR|exact vN|exact vY|exact vT|exact vM|exact vL|exact vX))|(apply q_fld_optF; (iterate 3 exact rfl))|(apply q_ld_box; (iterate 4 exact rfl))|(apply q_ld_boxF; (iterate 4 exact rfl))|(apply q_eql; exact rfl; exact rfl)|(apply q_neq; exact rfl; exact rfl)|(apply q_not; exact rfl)|(apply q_extract; exact rfl; exact rfl)|(apply q_len_sl; exact rfl; exact rfl)|(apply (q_pickT (u := .d _)); exact rfl; exact rfl)
    | (apply (q_pickF (u := .d _)); exact rfl; exact rfl)))
  | (apply W.ed; (first
    | (apply e_boxF; (iterate 3 exact rfl); kernel_rfl; kernel_rfl)
    | (apply e_allocF; (iterate 3 exact rfl); kernel_rfl)))|(apply W.ln; (apply l_st_box; (iterate 6 exact rfl); kernel_rfl; kernel_rfl; kernel_rfl))|(apply AWP.seq)|(apply ACont_normal)|(apply W.region; kernel_rfl)|(apply Walk.nil)|(apply AWP.skip)|(apply AWP.ret)|(apply ACont_ret)|(apply W.condF; exact rfl)
  | (refine W.cond _ rfl (fun hb => ?_) (fun hb => ?_) <;> ((try simp only [hb, zA, zB]) <;> (try simp only [zC, zD, zE, zF, zG, zH, zI, zJ] at hb) <;> (try (exfalso; omega))))))
    all_goals first | exact Ends.b rfl rfl | (exfalso; contradiction)
  · rw [he] at k1 g1
    have k2 := A_finish (k := (j : Int)) (g1.v.ok g1.n)
    dsimp only at k2
    rw [fin_chg hj hc] at k2
    obtain ⟨v1, hv1⟩ : ∃ v : List Sv, vs.set j ((vs[j].1, vs[j].2.1, c, vs[j].2.2.2) : Sv) = v := ⟨_, rfl⟩
    obtain ⟨v2, hv2⟩ : ∃ v : List Sv, vs.set j ((vs[j].1, c, -1, vs[j].2.2.2) : Sv) = v := ⟨_, rfl⟩
    have hl1 : v1.length = vs.length := by rw [← hv1]; simp
    have hl2 : v2.length = vs.length := by rw [← hv2]; simp
    have e1 : ∀ i (hi : i < vs.length), v1[i]'(by omega) = if j = i then ((vs[j].1, vs[j].2.1, c, vs[j].2.2.2) : Sv) else vs[i] := fun i hi => by subst hv1; exact List.getElem_set ..
    have e2 : ∀ i (hi : i < vs.length), v2[i]'(by omega) = if j = i then ((vs[j].1, c, -1, vs[j].2.2.2) : Sv) else vs[i] := fun i hi => by subst hv2; exact List.getElem_set ..
    have hm1 : (v1.map svD).length = vs.length := by simp [hl1]
    have hm2 : (v2.map svD).length = vs.length := by simp [hl2]
    rw [hv1] at k1 k2
    rw [hv2] at k2
    clear hv1 hv2 g1 he
    (repeat' (first
  | (apply W.gOn; exact rfl; exact rfl)
  | (apply W.qd; (first
    | (apply (q_callC (hs)); exact rfl; exact rfl; kernel_rfl; kernel_rfl; kernel_rfl)|(apply (q_callC (hv)); exact rfl; exact rfl; kernel_rfl; kernel_rfl; kernel_rfl)|(apply (q_callC (k1)); exact rfl; exact rfl; kernel_rfl; kernel_rfl; kernel_rfl)|(apply (q_callC (k2)); exact rfl; exact rfl; kernel_rfl; kernel_rfl; kernel_rfl)|(apply q_mv; (first|exact vD|exact vO|exact vP|exact vA|exact vF|exact vR|exact vN|exact vY|exact vT|exact vM|exact vL|exact vX))|(apply q_as; (first|exact vD|exact vO|exact vP|exact vA|exact vF|exact vR|exact vN|exact vY|exact vT|exact vM|exact vL|exact vX))|(apply q_fld_optF; (iterate 3 exact rfl))|(apply q_ld_box; (iterate 4 exact rfl))|(apply q_ld_boxF; (iterate 4 exact rfl))|(apply q_neq; exact rfl; exact rfl)|(apply q_not; exact rfl)|(apply q_extract; exact rfl; exact rfl)|(apply q_len_sl; exact rfl; exact rfl)
    | (apply (q_pickF (u := .d _)); exact rfl; exact rfl)))
  | (apply W.ed; (first
    | (apply e_boxF; (iterate 3 exact rfl); kernel_rfl; kernel_rfl)
    | (apply e_allocF; (iterate 3 exact rfl); kernel_rfl)))|(apply W.ln; (apply l_st_box; (iterate 6 exact rfl); kernel_rfl; kernel_rfl; kernel_rfl))|(apply AWP.seq)|(apply ACont_normal)|(apply (W.regionS 12); exact rfl; kernel_rfl)|(apply Walk.nil)|(apply AWP.block)|(apply AWP.skip)|(apply W.condF; exact rfl)|(refine W.gF _ _ rfl rfl (fun hb => ?_) (fun hb => ?_) <;> ((try simp only [hb, zA, zB]) <;> (try simp only [zC, zD, zE, zF, zG, zH, zI, zJ] at hb) <;> (try (exfalso; omega))))
  | (refine W.cond _ rfl (fun hb => ?_) (fun hb => ?_) <;> ((try simp only [hb, zA, zB]) <;> (try simp only [zC, zD, zE, zF, zG, zH, zI, zJ] at hb) <;> (try (exfalso; omega))))))
    all_goals try first | (exfalso; contradiction) | (exfalso; omega)
    refine AWP.loopW (α := Nat) (fun i => i ≤ cs.length) (fun i => ⟨[(13, iV i), (1, iV j), (2, iV c), (3, .opt 0 0), (9, .opt 1 0), (11, .opt 2 0)], [.box [cds cs, svs vs], .box [cds cs, svs v1], .box [cds cs, svs v2]]⟩) (fun i => cs.length - i) 0 (Nat.zero_le _) ⟨[0, 1, 2], rfl, rfl, rfl, by (repeat (first | exact trivial | refine ⟨rfl, ?_⟩))⟩ fun i hi => ?_
    by_cases hil : i < cs.length
    · have hmem := List.getElem_mem hil
      obtain ⟨hr1, hr2⟩ := chk_rows (hok.ck _ hmem)
      have hsm := A_sameSelf (c := cs[i]) (hok.cn _ hmem) (by omega) (fun r hr => by have := hr2 r hr; omega)
      (repeat' (first
  | (apply W.qd; (first
    | (apply (q_callC (hsm)); exact rfl; exact rfl; kernel_rfl; kernel_rfl; kernel_rfl)|(apply q_mv; (first|exact vD|exact vO|exact vP|exact vA|exact vF|exact vR|exact vN|exact vY|exact vT|exact vM|exact vL|exact vX))|(apply q_as; (first|exact vD|exact vO|exact vP|exact vA|exact vF|exact vR|exact vN|exact vY|exact vT|exact vM|exact vL|exact vX))|(apply q_fld_optF; (iterate 3 exact rfl))|(apply q_ld_box; (iterate 4 exact rfl))|(apply q_lss; exact rfl; exact rfl)|(apply q_not; exact rfl)|(apply q_add; exact rfl; exact rfl; omega)|(apply q_len_sl; exact rfl; exact rfl)|(apply q_ld_maps; (iterate 3 exact rfl); (first | omega | (focus (simp; done))))
    | (apply q_ix_slF; (iterate 4 exact rfl); (first | (with_reducible exact rfl) | exact natI_spec rfl | assumption | exact (Int.toNat_of_nonneg (by omega)).symm); (first | omega | (focus (simp only [List.length_map]; omega)) | (focus (simp; done)) | (focus (simp; omega))))))|(apply AWP.seq)|(apply ACont_normal)|(apply W.region; kernel_rfl)|(apply W.regionD; exact rfl; kernel_rfl)|(apply Walk.nil)|(apply W.chk; kernel_rfl)|(apply AWP.block)|(apply AWP.skip)|(apply ABlock_normal)|(apply W.condF; exact rfl)
  | (refine W.cond _ rfl (fun hb => ?_) (fun hb => ?_) <;> ((try simp only [hb, zA, zB]) <;> (try simp only [zC, zD, zE, zF, zG, zH, zI, zJ] at hb) <;> (try (exfalso; omega))))))
      all_goals exact ⟨i + 1, by omega, by omega, [0, 1, 2], rfl, rfl, rfl, iV_eq (by omega), rfl, rfl, rfl, rfl, rfl, trivial⟩
    · (repeat' (first
  | (apply W.qd; (first
    | (apply q_mv; (first|exact vD|exact vO|exact vP|exact vA|exact vF|exact vR|exact vN|exact vY|exact vT|exact vM|exact vL|exact vX))|(apply q_as; (first|exact vD|exact vO|exact vP|exact vA|exact vF|exact vR|exact vN|exact vY|exact vT|exact vM|exact vL|exact vX))|(apply q_fld_optF; (iterate 3 exact rfl))|(apply q_ld_box; (iterate 4 exact rfl))|(apply q_lss; exact rfl; exact rfl)
    | (apply q_len_sl; exact rfl; exact rfl)))|(apply AWP.seq)|(apply ACont_normal)|(apply (W.regionS 18); exact rfl; kernel_rfl)|(apply Walk.nil)|(apply AWP.block)|(apply AWP.exit)|(apply ACont_exit)|(apply ABlock_exit)
  | (refine W.cond _ rfl (fun hb => ?_) (fun hb => ?_) <;> ((try simp only [hb, zA, zB]) <;> (try simp only [zC, zD, zE, zF, zG, zH, zI, zJ] at hb) <;> (try (exfalso; omega))))))
      refine AWP.loopW (α := Nat) (fun i => i ≤ vs.length) (fun i => ⟨[(15, iV i), (1, iV j), (2, iV c), (3, .opt 0 0), (9, .opt 1 0), (11, .opt 2 0)], [.box [cds cs, svs vs], .box [cds cs, svs v1], .box [cds cs, svs v2]]⟩) (fun i => vs.length - i) 0 (Nat.zero_le _) ⟨[0, 1, 2], rfl, rfl, rfl, by (repeat (first | exact trivial | refine ⟨rfl, ?_⟩))⟩ fun i hi => ?_
      by_cases hiv : i < vs.length
      · have x1 := e1 i hiv
        have x2 := e2 i hiv
        by_cases hij : j = i
        · subst hij
          rw [if_pos rfl] at x1 x2
          (repeat' (first
  | (apply W.gOn; exact rfl; exact rfl)
  | (apply W.qd; (first
    | ((apply (q_neT fi_sv); (iterate 5 exact rfl); exact (show _ = false by simp [x2, hn])))|(apply q_mv; (first|exact vD|exact vO|exact vP|exact vA|exact vF|exact vR|exact vN|exact vY|exact vT|exact vM|exact vL|exact vX))|(apply q_as; (first|exact vD|exact vO|exact vP|exact vA|exact vF|exact vR|exact vN|exact vY|exact vT|exact vM|exact vL|exact vX))|(apply q_fld_optF; (iterate 3 exact rfl))|(apply q_ld_box; (iterate 4 exact rfl))|(apply q_ld_boxF; (iterate 4 exact rfl))|(apply q_lss; exact rfl; exact rfl)|(apply q_eql; exact rfl; exact rfl)|(apply q_neq; exact rfl; exact rfl)|(apply q_add; exact rfl; exact rfl; omega)|(apply q_len_sl; exact rfl; exact rfl)|(apply q_ld_maps; (iterate 3 exact rfl); (first | omega | (focus (simp; done))))|(apply q_ix_slF; (iterate 4 exact rfl); (first | (with_reducible exact rfl) | exact natI_spec rfl | assumption | exact (Int.toNat_of_nonneg (by omega)).symm); (first | omega | (focus (simp only [List.length_map]; omega)) | (focus (simp; done)) | (focus (simp; omega))))
    | (apply (q_pickF (u := .d _)); exact rfl; exact rfl)))|(apply W.ed; (apply e_allocF; (iterate 3 exact rfl); kernel_rfl))|(apply W.ln; (apply l_st_box; (iterate 6 exact rfl); kernel_rfl; kernel_rfl; kernel_rfl))|(refine W.gOff _ _ rfl rfl (by intro h; cases h) ?_)|(apply AWP.seq)|(apply ACont_normal)|(apply W.region; kernel_rfl)|(apply W.regionD; exact rfl; kernel_rfl)|(apply Walk.nil)|(apply W.chk; kernel_rfl)|(apply AWP.block)|(apply AWP.skip)|(apply ABlock_normal)|(apply W.condF; exact rfl)|(refine W.gT _ _ rfl rfl (fun hb => ?_) (fun hb => ?_) <;> ((try simp only [hb, zA, zB]) <;> (try simp only [zC, zD, zE, zF, zG, zH, zI, zJ] at hb) <;> (try (exfalso; omega))))
  | (refine W.cond _ rfl (fun hb => ?_) (fun hb => ?_) <;> ((try simp only [hb, zA, zB]) <;> (try simp only [zC, zD, zE, zF, zG, zH, zI, zJ] at hb) <;> (try (exfalso; omega))))))
          all_goals first | (exfalso; omega) | exact ⟨j + 1, by omega, by omega, [0, 1, 2], rfl, rfl, rfl, iV_eq (by omega), rfl, rfl, rfl, rfl, rfl, trivial⟩
        · rw [if_neg hij] at x1 x2
          (repeat' (first
  | (apply W.gOn; exact rfl; exact rfl)
  | (apply W.qd; (first
    | ((apply (q_neT fi_sv); (iterate 5 exact rfl); exact (show _ = false by simp [x1, x2])))|(apply q_mv; (first|exact vD|exact vO|exact vP|exact vA|exact vF|exact vR|exact vN|exact vY|exact vT|exact vM|exact vL|exact vX))|(apply q_as; (first|exact vD|exact vO|exact vP|exact vA|exact vF|exact vR|exact vN|exact vY|exact vT|exact vM|exact vL|exact vX))|(apply q_fld_optF; (iterate 3 exact rfl))|(apply q_ld_box; (iterate 4 exact rfl))|(apply q_ld_boxF; (iterate 4 exact rfl))|(apply q_lss; exact rfl; exact rfl)|(apply q_eql; exact rfl; exact rfl)|(apply q_neq; exact rfl; exact rfl)|(apply q_add; exact rfl; exact rfl; omega)|(apply q_len_sl; exact rfl; exact rfl)|(apply q_ld_maps; (iterate 3 exact rfl); (first | omega | (focus (simp; done))))|(apply q_ix_slF; (iterate 4 exact rfl); (first | (with_reducible exact rfl) | exact natI_spec rfl | assumption | exact (Int.toNat_of_nonneg (by omega)).symm); (first | omega | (focus (simp only [List.length_map]; omega)) | (focus (simp; done)) | (focus (simp; omega))))|(apply (q_pickT (u := .d _)); exact rfl; exact rfl)
    | (apply (q_pickF (u := .d _)); exact rfl; exact rfl)))|(apply W.ed; (apply e_allocF; (iterate 3 exact rfl); kernel_rfl))|(apply W.ln; (apply l_st_box; (iterate 6 exact rfl); kernel_rfl; kernel_rfl; kernel_rfl))|(apply AWP.seq)|(apply ACont_normal)|(apply W.region; kernel_rfl)|(apply W.regionD; exact rfl; kernel_rfl)|(apply Walk.nil)|(apply W.chk; kernel_rfl)|(apply AWP.block)|(apply AWP.skip)|(apply ABlock_normal)|(apply W.condF; exact rfl)|(refine W.gT _ _ rfl rfl (fun hb => ?_) (fun hb => ?_) <;> ((try simp only [hb, zA, zB]) <;> (try simp only [zC, zD, zE, zF, zG, zH, zI, zJ] at hb) <;> (try (exfalso; omega))))
  | (refine W.cond _ rfl (fun hb => ?_) (fun hb => ?_) <;> ((try simp only [hb, zA, zB]) <;> (try simp only [zC, zD, zE, zF, zG, zH, zI, zJ] at hb) <;> (try (exfalso; omega))))))
          all_goals first | (exfalso; omega) | exact ⟨i + 1, by omega, by omega, [0, 1, 2], rfl, rfl, rfl, iV_eq (by omega), rfl, rfl, rfl, rfl, rfl, trivial⟩
      · have x1 := e1 j hj
        rw [if_pos rfl] at x1
        (repeat' (first
  | (apply W.gOn; exact rfl; exact rfl)
  | (apply W.qd; (first
    | (apply (q_callC (hsa)); exact rfl; exact rfl; kernel_rfl; kernel_rfl; kernel_rfl)|(apply q_mv; (first|exact vD|exact vO|exact vP|exact vA|exact vF|exact vR|exact vN|exact vY|exact vT|exact vM|exact vL|exact vX))|(apply q_as; (first|exact vD|exact vO|exact vP|exact vA|exact vF|exact vR|exact vN|exact vY|exact vT|exact vM|exact vL|exact vX))|(apply q_fld_optF; (iterate 3 exact rfl))|(apply q_ld_box; (iterate 4 exact rfl))|(apply q_lss; exact rfl; exact rfl)|(apply q_eql; exact rfl; exact rfl)|(apply q_len_sl; exact rfl; exact rfl)|(apply q_ld_map; (iterate 3 exact rfl); (first | omega | (focus (simp; done))))|(apply q_fld_fptF; (iterate 3 exact rfl))|(apply q_ix_slF; (iterate 4 exact rfl); (first | (with_reducible exact rfl) | exact natI_spec rfl | assumption | exact (Int.toNat_of_nonneg (by omega)).symm); (first | omega | (focus (simp only [List.length_map]; omega)) | (focus (simp; done)) | (focus (simp; omega))))|(apply (q_pickT (u := .d _)); exact rfl; exact rfl)
    | (apply (q_pickF (u := .d _)); exact rfl; exact rfl)))|(refine W.gOff _ _ rfl rfl (by intro h; cases h) ?_)|(apply AWP.seq)|(apply ACont_normal)|(apply W.region; kernel_rfl)|(apply W.regionD; exact rfl; kernel_rfl)|(apply Walk.nil)|(apply W.chk; kernel_rfl)|(apply AWP.exit)|(apply AWP.ret)|(apply ACont_exit)|(apply ABlock_exit)|(refine W.gT _ _ rfl rfl (fun hb => ?_) (fun hb => ?_) <;> ((try simp only [hb, zA, zB]) <;> (try simp only [zC, zD, zE, zF, zG, zH, zI, zJ] at hb) <;> (try (exfalso; omega))))
  | (refine W.cond _ rfl (fun hb => ?_) (fun hb => ?_) <;> ((try simp only [hb, zA, zB]) <;> (try simp only [zC, zD, zE, zF, zG, zH, zI, zJ] at hb) <;> (try (exfalso; omega))))))
        all_goals first | (exfalso; rw [x1] at hb; exact hb rfl) | exact Ends.b rfl (by simp [x1])
end Go.Proofs.YtaclmbbiegklcaaDoor
end
