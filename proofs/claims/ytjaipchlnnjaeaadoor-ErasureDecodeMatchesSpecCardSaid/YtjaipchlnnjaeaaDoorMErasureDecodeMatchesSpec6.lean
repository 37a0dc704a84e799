import Derived.Test.YtjaipchlnnjaeaaDoorMErasureDecodeMatchesSpec5
/- Joined texts: Xp6 Xp7 Lw10. -/
set_option linter.unusedVariables false
set_option linter.unusedSimpArgs false
section
/- The reference of layer 8 over the machine of abstract values: Basis, Combination, Recoverable. -/
namespace Go.Proofs.YtjaipchlnnjaeaaDoor
open Go.RowKit
set_option maxHeartbeats 4000000
set_option maxRecDepth 100000
theorem frz_rowS {own own' : List Ent} {i ver n sz : Nat} {e : TypeId} {l : List (List Dat)} (ho : own[i]? = some (.row ver sz e l)) (hs : own'[i]? = own[i]?) (hn : n = l.length) : AV.frz own' [] (.osl i ver 0 n) = .d (.sl sz l) := frz_rowJ (hs.trans ho) rfl hn
theorem takeB_succ {B : List Nat} {m : Nat} (hm : m < B.length) : B.take (m + 1) = B.take m ++ [B.getD m 0] := by
  have : B.getD m 0 = B[m] := by rw [List.getD_eq_getElem?_getD, List.getElem?_eq_getElem hm]; rfl
  rw [List.take_succ_eq_append_getElem hm, this]
theorem bas_pres {M D : Nat} {ps : List (List Nat)} {hv : List Bool} (h : CodeOk M D ps) (hl : hv.length = D + ps.length) {q : Nat} (hq : q < (basisN M D ps hv).length) : hv.getD ((basisN M D ps hv).getD q 0) false = true := by
  obtain ⟨T, S, hB⟩ := basis_to h hl
  exact hB.mem q hq
theorem bas_inc {M D : Nat} {ps : List (List Nat)} {hv : List Bool} (h : CodeOk M D ps) (hl : hv.length = D + ps.length) {q q' : Nat} (hqq : q < q') (hq : q' < (basisN M D ps hv).length) : (basisN M D ps hv).getD q 0 < (basisN M D ps hv).getD q' 0 := by
  obtain ⟨T, S, hB⟩ := basis_to h hl
  exact hB.inc q q' hqq hq
attribute [local irreducible] Quiet Eff OpOk AWPG ACont ABlock ACalls AGoto
theorem A_r8basis {M D : Nat} {ps : List (List Nat)} {hv : List Bool} (h : CodeOk M D ps) (hl : hv.length = D + ps.length) : ACalls Tryd.prog 31 [cdN M D ps, bools hv] [] (.tup [nats (basisN M D ps hv), iV 0]) [] := by
  refine acalls_of_bodyO Tryd.func31 rfl (Nat.le_of_ble_eq_true rfl) ?_
  have hM := h.f
  have h1 := h.d
  have h2 := h.w
  have hw := A_r8widthN h
  have hmh : (hv.map tD).length = hv.length := List.length_map _
  have hbl := bas_le h hl
  have hpres := fun q hq => bas_pres h hl (q := q) hq
  have hinc := fun q q' hqq hq => bas_inc h hl (q := q) (q' := q') hqq hq
  have hnone := fun m hm => step_none h hl (m := m) hm
  have hsome := fun m i hi hm hge => step_some h hl (m := m) (i := i) hi hm hge
  have hrow := fun i (hi : i < D + ps.length) => A_r8row h hi
  have hexp := fun m i (hm : m ≤ (basisN M D ps hv).length) => A_express (M := M) (D := D) (rows := takeR D ps (basisN M D ps hv) m) (t := rowN D ps i) hM (by omega) (by omega) (by rw [takeR_length hm]; omega) (fun r hr => by
    obtain ⟨u, _, rfl⟩ := List.mem_map.1 hr; exact rowN_length ..) (rowN_length ..) (takeR_lt h hl _ _) (rowN_lt h hl i)
  generalize basisN M D ps hv = B at *
  have htl := fun m (hm : m ≤ B.length) => takeR_length (D := D) (ps := ps) (B := B) hm
  have hts := fun m (hm : m < B.length) => Lib.hid (takeR_succ (D := D) (ps := ps) (B := B) hm)
  have hbs := fun m (hm : m < B.length) => Lib.hid (takeB_succ (B := B) hm)
  have ht0 : takeR D ps B 0 = [] := rfl
  obtain ⟨Wd, hW⟩ : ∃ Wd, D + ps.length = Wd := ⟨_, rfl⟩
  rw [hW] at hw hl hrow
  (repeat' (first
  | (apply W.gOn; exact rfl; exact rfl)
  | (apply W.qd; (first
    | (apply (q_callC (hw)); exact rfl; exact rfl; kernel_rfl; kernel_rfl; kernel_rfl)|(apply q_mv; (first|exact vD|exact vO|exact vP|exact vA|exact vF|exact vR|exact vN|exact vY|exact vT|exact vX))|(apply q_as; (first|exact vD|exact vO|exact vP|exact vA|exact vF|exact vR|exact vN|exact vY|exact vT|exact vX))|(apply q_ld_boxF; exact rfl; exact rfl; exact rfl; exact rfl)|(apply q_eql; exact rfl; exact rfl)|(apply q_neq; exact rfl; exact rfl)|(apply q_len_sl; exact rfl; exact rfl)
    | (apply (q_pickF (u := .d _)); exact rfl; exact rfl)))|(apply W.ed; (apply e_boxF; exact rfl; exact rfl; exact rfl; kernel_rfl; kernel_rfl))|(apply AWP.seq)|(apply ACont_normal)|(apply (W.regionS 6); exact rfl; kernel_rfl)|(apply Walk.nil)|(apply AWP.skip)|(refine W.gF _ _ rfl rfl (fun hb => ?_) (fun hb => ?_) <;> ((try simp only [hb, Bool.not_true, Bool.not_false]) <;> (try simp only [decide_eq_true_eq, decide_eq_false_iff_not, Bool.not_eq_true', Bool.not_eq_false', Int.not_lt, Int.not_le, List.length_map, not_true_eq_false] at hb) <;> (try (exfalso; omega))))
  | (refine W.cond _ rfl (fun hb => ?_) (fun hb => ?_) <;> ((try simp only [hb, Bool.not_true, Bool.not_false]) <;> (try simp only [decide_eq_true_eq, decide_eq_false_iff_not, Bool.not_eq_true', Bool.not_eq_false', Int.not_lt, Int.not_le, List.length_map, not_true_eq_false] at hb) <;> (try (exfalso; omega))))))
  refine AWP.nilRow 7 1 3 rfl (by omega) ?_
  refine AWP.nilRow 8 1 29 rfl (by omega) ?_
  (repeat' (first
  | (apply W.qd; (apply q_as; (first|exact vD|exact vO|exact vP|exact vA|exact vF|exact vR|exact vN|exact vY|exact vT|exact vX)))|(apply ACont_normal)|(apply (W.regionS 7); exact rfl; kernel_rfl)|(apply Walk.nil)
  | (apply AWP.block)))
  refine AWP.loopW (α := Nat × Nat) (fun s => s.1 ≤ Wd ∧ s.2 ≤ B.length ∧ (∀ q, q < s.2 → B.getD q 0 < s.1) ∧ ∀ q, s.2 ≤ q → q < B.length → s.1 ≤ B.getD q 0) (fun s => ⟨[(9, iV s.1), (6, iV Wd), (7, .osl 1 s.2 0 s.2), (8, .osl 2 s.2 0 s.2), (1, bools hv), (2, .opt 0 0)], [.box [.d .any, iV M, iV D, rowsN ps, .d .any], .row s.2 1 3 ((B.take s.2).map kD), .row s.2 1 29 ((takeR D ps B s.2).map rnD)]⟩) (fun s => Wd - s.1) (0, 0) ⟨Nat.zero_le _, Nat.zero_le _, fun q hq => by omega, fun q _ _ => Nat.zero_le _⟩ ⟨[0, 1, 2], rfl, rfl, rfl, by (repeat (first | exact trivial | refine ⟨rfl, ?_⟩))⟩ fun s hs => ?_
  obtain ⟨i, m⟩ := s
  obtain ⟨p1, p2, p3, p4⟩ := hs
  dsimp only at p1 p2 p3 p4 ⊢
  by_cases hiW : i < Wd
  · have eg : hv.getD i false = hv[i]'(by omega) := by rw [List.getD_eq_getElem?_getD, List.getElem?_eq_getElem (show i < hv.length by omega)]; rfl
    have hr := hrow i hiW
    have he := hexp m i p2
    have hl2 := htl m p2
    have hfz : ∀ own own' : List Ent, own[2]? = some (.row m 1 29 ((takeR D ps B m).map rnD)) → same [2] own own' → AV.frzL own' [] [iV M, .osl 2 m 0 m, nats (rowN D ps i)] = [iV M, rowsN (takeR D ps B m), nats (rowN D ps i)] := fun own own' h1 h2 =>
      congrArg (fun z => [iV M, z, nats (rowN D ps i)]) (frz_rowS h1 (h2 2 (by simp)) (by rw [List.length_map]; exact hl2.symm))
    have hbt : (B.take m).length = m := by rw [List.length_take]; omega
    cases hb0 : hv[i]'(by omega) with
    | false =>
      have hne : ∀ q, m ≤ q → q < B.length → i + 1 ≤ B.getD q 0 := fun q h5 h6 => by
        have h7 := p4 q h5 h6
        by_cases e : B.getD q 0 = i
        · have := hpres q h6; rw [e, eg, hb0] at this; cases this
        · omega
      clear he hexp hr hrow hnone hsome hts hbs
      (repeat' (first
  | (apply W.qd; (first
    | (apply q_mv; (first|exact vD|exact vO|exact vP|exact vA|exact vF|exact vR|exact vN|exact vY|exact vT|exact vX))|(apply q_as; (first|exact vD|exact vO|exact vP|exact vA|exact vF|exact vR|exact vN|exact vY|exact vT|exact vX))|(apply q_fld_optF; exact rfl; exact rfl; exact rfl)|(apply q_ld_box; exact rfl; exact rfl; exact rfl; exact rfl)|(apply q_ld_boxF; exact rfl; exact rfl; exact rfl; exact rfl)|(apply q_lss; exact rfl; exact rfl)|(apply q_not; exact rfl)|(apply q_add; exact rfl; exact rfl; omega)|(apply q_ld_map; exact rfl; exact rfl; exact rfl; (first | omega | (focus (simp; done))))
    | (apply q_ix_slF; exact rfl; exact rfl; exact rfl; exact rfl; (first | (with_reducible exact rfl) | exact natI_spec rfl | assumption | exact (Int.toNat_of_nonneg (by omega)).symm); (first | omega | (focus (simp only [List.length_map]; omega)) | (focus (simp; done)) | (focus (simp; omega))))))|(apply AWP.seq)|(apply ACont_normal)|(apply W.region; kernel_rfl)|(apply W.regionD; exact rfl; kernel_rfl)|(apply Walk.nil)|(apply AWP.block)|(apply AWP.skip)|(apply AWP.exit)|(apply ACont_exit)|(apply ABlock_exit)
  | (refine W.cond _ rfl (fun hb => ?_) (fun hb => ?_) <;> ((try simp only [hb, Bool.not_true, Bool.not_false]) <;> (try simp only [decide_eq_true_eq, decide_eq_false_iff_not, Bool.not_eq_true', Bool.not_eq_false', Int.not_lt, Int.not_le, List.length_map, not_true_eq_false] at hb) <;> (try (exfalso; omega))))))
      (all_goals (try (exfalso; exact absurd ((‹hv[i] = true› : hv[i] = true).symm.trans (‹hv[i] = false› : hv[i] = false)) (by decide))))
      all_goals exact ⟨(i + 1, m), ⟨by show i + 1 ≤ Wd; omega, p2, fun q hq => Nat.lt_succ_of_lt (p3 q hq), hne⟩, by show Wd - (i + 1) < _; omega, [0, 1, 2], rfl, rfl, rfl, iV_eq (by show ((i + 1 : Nat) : Int) = _; omega), rfl, rfl, rfl, rfl, rfl, trivial⟩
    | true =>
      by_cases hcase : ∃ hm : m < B.length, B.getD m 0 = i
      · obtain ⟨hm, hBm⟩ := hcase
        have hno := hnone m hm
        rw [hBm] at hno
        rw [hno] at he
        unfold exprA at he
        dsimp only at he
        have hts2 := hts m hm
        have hbs2 := hbs m hm
        rw [hBm] at hts2 hbs2
        have hn1 : ∀ q, q < m + 1 → B.getD q 0 < i + 1 := fun q hq => by
          by_cases e : q = m
          · rw [e, hBm]; omega
          · have := p3 q (by omega); omega
        have hn2 : ∀ q, m + 1 ≤ q → q < B.length → i + 1 ≤ B.getD q 0 := fun q h5 h6 => by have := hinc m q (by omega) h6; omega
        clear hexp hrow hnone hsome hts hbs p3 p4
        generalize takeR D ps B m = R at *
        generalize B.take m = T at *
        generalize rowN D ps i = rw0 at *
        (repeat' (first
  | (apply W.qd; (first
    | (apply (q_callC (hr)); exact rfl; exact rfl; kernel_rfl; kernel_rfl; kernel_rfl)
    | ((apply (q_callF (js := [2]) he); exact rfl; exact fun own' hh => hfz _ own' rfl hh; exact rfl; kernel_rfl))|(apply q_mv; (first|exact vD|exact vO|exact vP|exact vA|exact vF|exact vR|exact vN|exact vY|exact vT|exact vX))|(apply q_as; (first|exact vD|exact vO|exact vP|exact vA|exact vF|exact vR|exact vN|exact vY|exact vT|exact vX))|(apply q_fld_optF; exact rfl; exact rfl; exact rfl)|(apply q_ld_box; exact rfl; exact rfl; exact rfl; exact rfl)|(apply q_ld_boxF; exact rfl; exact rfl; exact rfl; exact rfl)|(apply q_lss; exact rfl; exact rfl)|(apply q_not; exact rfl)|(apply q_add; exact rfl; exact rfl; omega)|(apply q_extract; exact rfl; exact rfl)|(apply q_ld_map; exact rfl; exact rfl; exact rfl; (first | omega | (focus (simp; done))))|(apply q_litF; exact rfl; exact rfl; exact rfl; exact rfl; exact rfl; kernel_rfl; kernel_rfl; exact rfl)
    | (apply q_ix_slF; exact rfl; exact rfl; exact rfl; exact rfl; (first | (with_reducible exact rfl) | exact natI_spec rfl | assumption | exact (Int.toNat_of_nonneg (by omega)).symm); (first | omega | (focus (simp only [List.length_map]; omega)) | (focus (simp; done)) | (focus (simp; omega))))))
  | (apply W.ed; (first
    | ((apply (s_app1 (f := kD) i); exact rfl; exact rfl; exact rfl; exact rfl; exact rfl; exact rfl; exact rfl; exact hbt.symm; omega))
    | ((apply (s_app1 (f := rnD) rw0); exact rfl; exact rfl; exact rfl; exact rfl; exact rfl; exact rfl; exact rfl; exact hl2.symm; omega))))|(apply AWP.seq)|(apply ACont_normal)|(apply W.region; kernel_rfl)|(apply W.regionD; exact rfl; kernel_rfl)|(apply Walk.nil)|(apply W.chk; kernel_rfl)|(apply AWP.block)|(apply AWP.skip)|(apply AWP.exit)|(apply ACont_exit)|(apply ABlock_normal)|(apply ABlock_exit)|(apply W.condT; exact rfl)
  | (refine W.cond _ rfl (fun hb => ?_) (fun hb => ?_) <;> ((try simp only [hb, Bool.not_true, Bool.not_false]) <;> (try simp only [decide_eq_true_eq, decide_eq_false_iff_not, Bool.not_eq_true', Bool.not_eq_false', Int.not_lt, Int.not_le, List.length_map, not_true_eq_false] at hb) <;> (try (exfalso; omega))))))
        (all_goals (try (exfalso; exact absurd ((‹hv[i] = true› : hv[i] = true).symm.trans (‹hv[i] = false› : hv[i] = false)) (by decide))))
        all_goals refine ⟨(i + 1, m + 1), ⟨by show i + 1 ≤ Wd; omega, by show m + 1 ≤ _; omega, hn1, hn2⟩, by show Wd - (i + 1) < _; omega, [0, 1, 2], rfl, rfl, ?_, iV_eq (by show ((i + 1 : Nat) : Int) = _; omega), rfl, rfl, rfl, rfl, rfl, trivial⟩
        all_goals (show [_, Ent.row (m + 1) 1 _ ((B.take (m + 1)).map kD), Ent.row (m + 1) 1 _ ((takeR D ps B (m + 1)).map rnD)] = _; rw [hts2.out, hbs2.out]; rfl)
      · have hne : ∀ q, m ≤ q → q < B.length → i < B.getD q 0 := fun q h5 h6 => by
          have h7 := p4 q h5 h6
          by_cases e : B.getD q 0 = i
          · exfalso
            by_cases e2 : q = m
            · exact hcase ⟨by omega, by rw [← e2]; exact e⟩
            · have h8 := hinc m q (by omega) h6
              have h9 := p4 m (Nat.le_refl _) (by omega)
              omega
          · omega
        have hso := hsome m i (by rw [eg, hb0]) p2 hne
        obtain ⟨K, hK⟩ := Option.isSome_iff_exists.1 hso
        rw [hK] at he
        unfold exprA at he
        dsimp only at he
        clear hexp hrow hnone hsome hts hbs p4 hso
        (repeat' (first
  | (apply W.qd; (first
    | (apply (q_callC (hr)); exact rfl; exact rfl; kernel_rfl; kernel_rfl; kernel_rfl)
    | ((apply (q_callF (js := [2]) he); exact rfl; exact fun own' hh => hfz _ own' rfl hh; exact rfl; kernel_rfl))|(apply q_mv; (first|exact vD|exact vO|exact vP|exact vA|exact vF|exact vR|exact vN|exact vY|exact vT|exact vX))|(apply q_as; (first|exact vD|exact vO|exact vP|exact vA|exact vF|exact vR|exact vN|exact vY|exact vT|exact vX))|(apply q_fld_optF; exact rfl; exact rfl; exact rfl)|(apply q_ld_box; exact rfl; exact rfl; exact rfl; exact rfl)|(apply q_ld_boxF; exact rfl; exact rfl; exact rfl; exact rfl)|(apply q_lss; exact rfl; exact rfl)|(apply q_not; exact rfl)|(apply q_add; exact rfl; exact rfl; omega)|(apply q_extract; exact rfl; exact rfl)|(apply q_ld_map; exact rfl; exact rfl; exact rfl; (first | omega | (focus (simp; done))))
    | (apply q_ix_slF; exact rfl; exact rfl; exact rfl; exact rfl; (first | (with_reducible exact rfl) | exact natI_spec rfl | assumption | exact (Int.toNat_of_nonneg (by omega)).symm); (first | omega | (focus (simp only [List.length_map]; omega)) | (focus (simp; done)) | (focus (simp; omega))))))|(apply AWP.seq)|(apply ACont_normal)|(apply W.region; kernel_rfl)|(apply W.regionD; exact rfl; kernel_rfl)|(apply Walk.nil)|(apply W.chk; kernel_rfl)|(apply AWP.block)|(apply AWP.skip)|(apply AWP.exit)|(apply ACont_exit)|(apply ABlock_normal)|(apply ABlock_exit)|(apply W.condF; exact rfl)
  | (refine W.cond _ rfl (fun hb => ?_) (fun hb => ?_) <;> ((try simp only [hb, Bool.not_true, Bool.not_false]) <;> (try simp only [decide_eq_true_eq, decide_eq_false_iff_not, Bool.not_eq_true', Bool.not_eq_false', Int.not_lt, Int.not_le, List.length_map, not_true_eq_false] at hb) <;> (try (exfalso; omega))))))
        (all_goals (try (exfalso; exact absurd ((‹hv[i] = true› : hv[i] = true).symm.trans (‹hv[i] = false› : hv[i] = false)) (by decide))))
        all_goals exact ⟨(i + 1, m), ⟨by show i + 1 ≤ Wd; omega, p2, fun q hq => Nat.lt_succ_of_lt (p3 q hq), fun q h5 h6 => hne q h5 h6⟩, by show Wd - (i + 1) < _; omega, [0, 1, 2], rfl, rfl, rfl, iV_eq (by show ((i + 1 : Nat) : Int) = _; omega), rfl, rfl, rfl, rfl, rfl, trivial⟩
  · have hmB : m = B.length := by
      by_cases e : m < B.length
      · exfalso
        have h5 := p4 m (Nat.le_refl _) e
        have h6 := hpres m e
        rw [List.getD_eq_getElem?_getD, List.getElem?_eq_none (by omega)] at h6
        cases h6
      · omega
    subst hmB
    clear hexp hrow hnone hsome hts hbs
    have e1 : B.take B.length = B := List.take_length
    refine AWP.wk ⟨[(9, iV i), (6, iV Wd), (7, nats B), (2, .opt 0 0)], [.box [.d .any, iV M, iV D, rowsN ps, .d .any]]⟩ ⟨[0], rfl, rfl, rfl, rfl, rfl, (congrArg (fun l => nats l) e1.symm).trans (frz_rowJ rfl rfl (by simp)).symm, rfl, trivial⟩ ?_
    (repeat' (first
  | (apply W.qd; (first
    | (apply q_mv; (first|exact vD|exact vO|exact vP|exact vA|exact vF|exact vR|exact vN|exact vY|exact vT|exact vX))|(apply q_as; (first|exact vD|exact vO|exact vP|exact vA|exact vF|exact vR|exact vN|exact vY|exact vT|exact vX))
    | (apply q_lss; exact rfl; exact rfl)))|(apply AWP.seq)|(apply ACont_normal)|(apply W.region; kernel_rfl)|(apply Walk.nil)|(apply AWP.exit)|(apply AWP.ret)|(apply ACont_exit)|(apply ABlock_exit)
  | (refine W.cond _ rfl (fun hb => ?_) (fun hb => ?_) <;> ((try simp only [hb, Bool.not_true, Bool.not_false]) <;> (try simp only [decide_eq_true_eq, decide_eq_false_iff_not, Bool.not_eq_true', Bool.not_eq_false', Int.not_lt, Int.not_le, List.length_map, not_true_eq_false] at hb) <;> (try (exfalso; omega))))))
    exact ⟨.inl rfl, [], [nats B, iV 0], rfl, rfl, ⟨rfl, rfl, trivial⟩, AVle.of_eq rfl, rfl⟩
end Go.Proofs.YtjaipchlnnjaeaaDoor
end
section
/- Layer 8, package and reference, over the machine of abstract values: Combination and Recoverable, for all arguments. -/
namespace Go.Proofs.YtjaipchlnnjaeaaDoor
open Go.RowKit
set_option maxHeartbeats 4000000
set_option maxRecDepth 100000
attribute [local irreducible] Quiet Eff OpOk AWPG ACont ABlock ACalls AGoto
theorem A_r8basis_bad {M D : Int} {par : List (List Int)} {hv : List Bool} (hD : D ≤ 1000000) (hP : par.length ≤ 1000000) (h : ¬ (validC M D par = true ∧ (hv.length : Int) = D + (par.length : Int))) : ACalls Tryd.prog 31 [cdA M D par, bools hv] [] (.tup [nats [], iV 1]) [] := by
  refine acalls_of_bodyO Tryd.func31 rfl (Nat.le_of_ble_eq_true rfl) ?_
  have hw := A_r8width (M := M) hD hP
  have hmh : (hv.map tD).length = hv.length := List.length_map _
  cases hv0 : validC M D par with
  | false =>
    rw [hv0, if_neg (by decide)] at hw
    (repeat' (first
  | (apply W.qd; (first
    | (apply (q_callC (hw)); exact rfl; exact rfl; kernel_rfl; kernel_rfl; kernel_rfl)|(apply q_mv; (first|exact vD|exact vO|exact vP|exact vA|exact vF|exact vR|exact vN|exact vY|exact vT|exact vX))|(apply q_as; (first|exact vD|exact vO|exact vP|exact vA|exact vF|exact vR|exact vN|exact vY|exact vT|exact vX))|(apply q_ld_boxF; exact rfl; exact rfl; exact rfl; exact rfl)|(apply q_eql; exact rfl; exact rfl)
    | (apply (q_pickT (u := .d _)); exact rfl; exact rfl)))|(apply W.ed; (apply e_boxF; exact rfl; exact rfl; exact rfl; kernel_rfl; kernel_rfl))|(refine W.gOff _ _ rfl rfl (by intro h; cases h) ?_)|(apply AWP.seq)|(apply ACont_normal)|(apply W.region; kernel_rfl)|(apply Walk.nil)|(apply AWP.ret)|(apply ACont_ret)
  | (apply W.condT; exact rfl)))
    all_goals exact ⟨.inl rfl, [], [.d (.v (.slice none 0 0)), iV 1], rfl, rfl, ⟨rfl, rfl, trivial⟩, AVle.tup2 (AVle.nil 1) (AVle.refl _), rfl⟩
  | true =>
    rw [hv0, if_pos rfl] at hw
    have hne : ¬ (hv.length : Int) = D + (par.length : Int) := fun e => h ⟨hv0, e⟩
    (repeat' (first
  | (apply W.gOn; exact rfl; exact rfl)
  | (apply W.qd; (first
    | (apply (q_callC (hw)); exact rfl; exact rfl; kernel_rfl; kernel_rfl; kernel_rfl)|(apply q_mv; (first|exact vD|exact vO|exact vP|exact vA|exact vF|exact vR|exact vN|exact vY|exact vT|exact vX))|(apply q_as; (first|exact vD|exact vO|exact vP|exact vA|exact vF|exact vR|exact vN|exact vY|exact vT|exact vX))|(apply q_ld_boxF; exact rfl; exact rfl; exact rfl; exact rfl)|(apply q_eql; exact rfl; exact rfl)|(apply q_neq; exact rfl; exact rfl)|(apply q_len_sl; exact rfl; exact rfl)|(apply (q_pickT (u := .d _)); exact rfl; exact rfl)
    | (apply (q_pickF (u := .d _)); exact rfl; exact rfl)))|(apply W.ed; (apply e_boxF; exact rfl; exact rfl; exact rfl; kernel_rfl; kernel_rfl))|(refine W.gOff _ _ rfl rfl (by intro h; cases h) ?_)|(apply AWP.seq)|(apply ACont_normal)|(apply W.region; kernel_rfl)|(apply Walk.nil)|(apply AWP.ret)|(apply ACont_ret)|(apply W.condT; exact rfl)|(refine W.gF _ _ rfl rfl (fun hb => ?_) (fun hb => ?_) <;> ((try simp only [hb, Bool.not_true, Bool.not_false]) <;> (try simp only [decide_eq_true_eq, decide_eq_false_iff_not, Bool.not_eq_true', Bool.not_eq_false', Int.not_lt, Int.not_le, List.length_map, not_true_eq_false] at hb) <;> (try (exfalso; omega))))
  | (refine W.cond _ rfl (fun hb => ?_) (fun hb => ?_) <;> ((try simp only [hb, Bool.not_true, Bool.not_false]) <;> (try simp only [decide_eq_true_eq, decide_eq_false_iff_not, Bool.not_eq_true', Bool.not_eq_false', Int.not_lt, Int.not_le, List.length_map, not_true_eq_false] at hb) <;> (try (exfalso; omega))))))
    all_goals exact ⟨.inl rfl, [], [.d (.v (.slice none 0 0)), iV 1], rfl, rfl, ⟨rfl, rfl, trivial⟩, AVle.tup2 (AVle.nil 1) (AVle.refl _), rfl⟩
theorem A_ebasis_bad {M D : Int} {par : List (List Int)} {hv : List Bool} (hp : CodeIn par) (h : ¬ (validC M D par = true ∧ (hv.length : Int) = D + (par.length : Int))) : ACalls Tryd.prog 28 [cdA M D par, bools hv] [] (.tup [nats [], iV 1]) [] := by
  refine acalls_of_bodyO Tryd.func28 rfl (Nat.le_of_ble_eq_true rfl) ?_
  have hmh : (hv.map tD).length = hv.length := List.length_map _
  cases hv0 : validC M D par with
  | false =>
    have hg := A_egen_bad (M := M) (D := D) hp hv0
    (repeat' (first
  | (apply W.qd; (first
    | (apply (q_callC (hg)); exact rfl; exact rfl; kernel_rfl; kernel_rfl; kernel_rfl)|(apply q_mv; (first|exact vD|exact vO|exact vP|exact vA|exact vF|exact vR|exact vN|exact vY|exact vT|exact vX))|(apply q_as; (first|exact vD|exact vO|exact vP|exact vA|exact vF|exact vR|exact vN|exact vY|exact vT|exact vX))|(apply q_ld_boxF; exact rfl; exact rfl; exact rfl; exact rfl)|(apply q_neq; exact rfl; exact rfl)|(apply q_extract; exact rfl; exact rfl)
    | (apply (q_pickT (u := .d _)); exact rfl; exact rfl)))
  | (apply W.ed; (first
    | (apply e_boxF; exact rfl; exact rfl; exact rfl; kernel_rfl; kernel_rfl)
    | (apply e_allocF; exact rfl; exact rfl; exact rfl; kernel_rfl)))|(apply W.ln; (apply l_st_box; exact rfl; exact rfl; exact rfl; exact rfl; exact rfl; exact rfl; kernel_rfl; kernel_rfl; kernel_rfl))|(refine W.gOff _ _ rfl rfl (by intro h; cases h) ?_)|(apply AWP.seq)|(apply ACont_normal)|(apply W.region; kernel_rfl)|(apply Walk.nil)|(apply AWP.ret)|(apply ACont_ret)
  | (apply W.condT; exact rfl)))
    all_goals exact ⟨.inl rfl, [], [.d (.v (.slice none 0 0)), iV 1], rfl, rfl, ⟨rfl, rfl, trivial⟩, AVle.tup2 (AVle.nil 1) (AVle.refl _), rfl⟩
  | true =>
    obtain ⟨m, d, ps, rfl, rfl, rfl, hok⟩ := ok_valid hv0
    have hpl : (toZ ps).length = ps.length := List.length_map _
    have hne : ¬ hv.length = d + ps.length := fun e => h ⟨hv0, by rw [hpl]; omega⟩
    have hg := A_egen hok
    rw [cdN_A] at hg
    (repeat' (first
  | (apply W.gOn; exact rfl; exact rfl)
  | (apply W.qd; (first
    | (apply (q_callC (hg)); exact rfl; exact rfl; kernel_rfl; kernel_rfl; kernel_rfl)|(apply q_mv; (first|exact vD|exact vO|exact vP|exact vA|exact vF|exact vR|exact vN|exact vY|exact vT|exact vX))|(apply q_as; (first|exact vD|exact vO|exact vP|exact vA|exact vF|exact vR|exact vN|exact vY|exact vT|exact vX))|(apply q_fld_optF; exact rfl; exact rfl; exact rfl)|(apply q_ld_box; exact rfl; exact rfl; exact rfl; exact rfl)|(apply q_ld_boxF; exact rfl; exact rfl; exact rfl; exact rfl)|(apply q_neq; exact rfl; exact rfl)|(apply q_extract; exact rfl; exact rfl)|(apply q_len_sl; exact rfl; exact rfl)
    | (apply (q_pickF (u := .d _)); exact rfl; exact rfl)))
  | (apply W.ed; (first
    | (apply e_boxF; exact rfl; exact rfl; exact rfl; kernel_rfl; kernel_rfl)
    | (apply e_allocF; exact rfl; exact rfl; exact rfl; kernel_rfl)))|(apply W.ln; (apply l_st_box; exact rfl; exact rfl; exact rfl; exact rfl; exact rfl; exact rfl; kernel_rfl; kernel_rfl; kernel_rfl))|(apply AWP.seq)|(apply ACont_normal)|(apply W.region; kernel_rfl)|(apply Walk.nil)|(apply AWP.ret)|(apply ACont_ret)
  | (refine W.cond _ rfl (fun hb => ?_) (fun hb => ?_) <;> ((try simp only [hb, Bool.not_true, Bool.not_false]) <;> (try simp only [decide_eq_true_eq, decide_eq_false_iff_not, Bool.not_eq_true', Bool.not_eq_false', Int.not_lt, Int.not_le, List.length_map, not_true_eq_false] at hb) <;> (try (exfalso; omega))))))
    all_goals exact ⟨.inl rfl, [], [.d (.v (.slice none 0 0)), iV 1], rfl, rfl, ⟨rfl, rfl, trivial⟩, AVle.tup2 (AVle.nil 1) (AVle.refl _), rfl⟩
theorem A_spanOf_bad {M D : Int} {par : List (List Int)} {hv : List Bool} (hp : CodeIn par) (h : ¬ (validC M D par = true ∧ (hv.length : Int) = D + (par.length : Int))) : ACalls Tryd.prog 52 [cdA M D par, bools hv] [] (.tup [.d (.v (.pointer none)), iV 1]) [] := by
  refine acalls_of_bodyO Tryd.func52 rfl (Nat.le_of_ble_eq_true rfl) ?_
  have hb := A_ebasis_bad hp h
  (repeat' (first
  | (apply W.qd; (first
    | (apply (q_callC (hb)); exact rfl; exact rfl; kernel_rfl; kernel_rfl; kernel_rfl)|(apply q_mv; (first|exact vD|exact vO|exact vP|exact vA|exact vF|exact vR|exact vN|exact vY|exact vT|exact vX))|(apply q_as; (first|exact vD|exact vO|exact vP|exact vA|exact vF|exact vR|exact vN|exact vY|exact vT|exact vX))|(apply q_ld_boxF; exact rfl; exact rfl; exact rfl; exact rfl)|(apply q_neq; exact rfl; exact rfl)
    | (apply q_extract; exact rfl; exact rfl)))|(apply W.ed; (apply e_boxF; exact rfl; exact rfl; exact rfl; kernel_rfl; kernel_rfl))|(apply AWP.seq)|(apply ACont_normal)|(apply W.region; kernel_rfl)|(apply Walk.nil)|(apply AWP.ret)|(apply AWP.scope)|(apply AGoto_ret)|(apply ACont_ret)
  | (apply W.condT; exact rfl)))
  all_goals exact ⟨.inl rfl, [], [.d (.v (.pointer none)), iV 1], rfl, rfl, ⟨rfl, rfl, trivial⟩, AVle.of_eq rfl, rfl⟩
theorem A_ecomb_bad {M D u : Int} {par : List (List Int)} {hv : List Bool} (hp : CodeIn par) (h : ¬ (validC M D par = true ∧ (hv.length : Int) = D + (par.length : Int) ∧ 0 ≤ u ∧ u < hv.length)) : ACalls Tryd.prog 25 [cdA M D par, bools hv, iV u] [] (.tup [tmsA [], iV 1]) [] := by
  refine acalls_of_bodyO Tryd.func25 rfl (Nat.le_of_ble_eq_true rfl) ?_
  have hmh : (hv.map tD).length = hv.length := List.length_map _
  by_cases hg : validC M D par = true ∧ (hv.length : Int) = D + (par.length : Int)
  · obtain ⟨g1, g2⟩ := hg
    have hu : ¬ (0 ≤ u ∧ u < hv.length) := fun e => h ⟨g1, g2, e⟩
    obtain ⟨m, d, ps, rfl, rfl, rfl, hok⟩ := ok_valid g1
    have hpl : (toZ ps).length = ps.length := List.length_map _
    rw [hpl] at g2
    have hsp := A_spanOf hok (show hv.length = d + ps.length by omega)
    rw [cdN_A] at hsp
    (repeat' (first
  | (apply W.gOn; exact rfl; exact rfl)
  | (apply W.qd; (first
    | (apply q_mv; (first|exact vD|exact vO|exact vP|exact vA|exact vF|exact vR|exact vN|exact vY|exact vT|exact vX))|(apply q_as; (first|exact vD|exact vO|exact vP|exact vA|exact vF|exact vR|exact vN|exact vY|exact vT|exact vX))|(apply q_ld_boxF; exact rfl; exact rfl; exact rfl; exact rfl)|(apply q_lss; exact rfl; exact rfl)|(apply q_geq; exact rfl; exact rfl)|(apply q_neq; exact rfl; exact rfl)|(apply q_extract; exact rfl; exact rfl)|(apply q_len_sl; exact rfl; exact rfl)|(apply (q_pickT (u := .d _)); exact rfl; exact rfl)
    | (apply (q_pickF (u := .d _)); exact rfl; exact rfl)))
  | (apply W.ed; (first
    | (apply (e_callJ (js := []) (hsp)); exact rfl; exact rfl; exact rfl; exact rfl; exact rfl; kernel_rfl; kernel_rfl)
    | (apply e_boxF; exact rfl; exact rfl; exact rfl; kernel_rfl; kernel_rfl)))|(refine W.gOff _ _ rfl rfl (by intro h; cases h) ?_)|(apply AWP.seq)|(apply ACont_normal)|(apply W.region; kernel_rfl)|(apply Walk.nil)|(apply AWP.ret)|(apply ACont_ret)|(apply W.condT; exact rfl)|(refine W.gF _ _ rfl rfl (fun hb => ?_) (fun hb => ?_) <;> ((try simp only [hb, Bool.not_true, Bool.not_false]) <;> (try simp only [decide_eq_true_eq, decide_eq_false_iff_not, Bool.not_eq_true', Bool.not_eq_false', Int.not_lt, Int.not_le, List.length_map, not_true_eq_false] at hb) <;> (try (exfalso; omega))))
  | (refine W.cond _ rfl (fun hb => ?_) (fun hb => ?_) <;> ((try simp only [hb, Bool.not_true, Bool.not_false]) <;> (try simp only [decide_eq_true_eq, decide_eq_false_iff_not, Bool.not_eq_true', Bool.not_eq_false', Int.not_lt, Int.not_le, List.length_map, not_true_eq_false] at hb) <;> (try (exfalso; omega))))))
    all_goals exact ⟨.inl rfl, [], [.d (.v (.slice none 0 0)), iV 1], rfl, rfl, ⟨rfl, rfl, trivial⟩, AVle.tup2 (AVle.nil 2) (AVle.refl _), rfl⟩
  · have hsp := A_spanOf_bad hp hg
    (repeat' (first
  | (apply W.qd; (first
    | (apply (q_callC (hsp)); exact rfl; exact rfl; kernel_rfl; kernel_rfl; kernel_rfl)|(apply q_mv; (first|exact vD|exact vO|exact vP|exact vA|exact vF|exact vR|exact vN|exact vY|exact vT|exact vX))|(apply q_as; (first|exact vD|exact vO|exact vP|exact vA|exact vF|exact vR|exact vN|exact vY|exact vT|exact vX))|(apply q_ld_boxF; exact rfl; exact rfl; exact rfl; exact rfl)|(apply q_neq; exact rfl; exact rfl)|(apply q_extract; exact rfl; exact rfl)
    | (apply (q_pickT (u := .d _)); exact rfl; exact rfl)))|(apply W.ed; (apply e_boxF; exact rfl; exact rfl; exact rfl; kernel_rfl; kernel_rfl))|(refine W.gOff _ _ rfl rfl (by intro h; cases h) ?_)|(apply AWP.seq)|(apply ACont_normal)|(apply W.region; kernel_rfl)|(apply Walk.nil)|(apply AWP.ret)|(apply ACont_ret)
  | (apply W.condT; exact rfl)))
    all_goals exact ⟨.inl rfl, [], [.d (.v (.slice none 0 0)), iV 1], rfl, rfl, ⟨rfl, rfl, trivial⟩, AVle.tup2 (AVle.nil 2) (AVle.refl _), rfl⟩
theorem A_r8coef_bad {M D u : Int} {par : List (List Int)} {hv : List Bool} (hD : D ≤ 1000000) (hP : par.length ≤ 1000000) (h : ¬ (validC M D par = true ∧ (hv.length : Int) = D + (par.length : Int) ∧ 0 ≤ u ∧ u < hv.length)) : ACalls Tryd.prog 58 [cdA M D par, bools hv, iV u] [] (.tup [nats [], nats [], iV 1]) [] := by
  refine acalls_of_bodyO Tryd.func58 rfl (Nat.le_of_ble_eq_true rfl) ?_
  have hmh : (hv.map tD).length = hv.length := List.length_map _
  by_cases hg : validC M D par = true ∧ (hv.length : Int) = D + (par.length : Int)
  · obtain ⟨g1, g2⟩ := hg
    have hu : ¬ (0 ≤ u ∧ u < hv.length) := fun e => h ⟨g1, g2, e⟩
    obtain ⟨m, d, ps, rfl, rfl, rfl, hok⟩ := ok_valid g1
    have hpl : (toZ ps).length = ps.length := List.length_map _
    rw [hpl] at g2
    have hb := A_r8basis hok (show hv.length = d + ps.length by omega)
    rw [cdN_A] at hb
    (repeat' (first
  | (apply W.gOn; exact rfl; exact rfl)
  | (apply W.qd; (first
    | (apply (q_callC (hb)); exact rfl; exact rfl; kernel_rfl; kernel_rfl; kernel_rfl)|(apply q_mv; (first|exact vD|exact vO|exact vP|exact vA|exact vF|exact vR|exact vN|exact vY|exact vT|exact vX))|(apply q_as; (first|exact vD|exact vO|exact vP|exact vA|exact vF|exact vR|exact vN|exact vY|exact vT|exact vX))|(apply q_ld_boxF; exact rfl; exact rfl; exact rfl; exact rfl)|(apply q_lss; exact rfl; exact rfl)|(apply q_geq; exact rfl; exact rfl)|(apply q_neq; exact rfl; exact rfl)|(apply q_extract; exact rfl; exact rfl)|(apply q_len_sl; exact rfl; exact rfl)|(apply (q_pickT (u := .d _)); exact rfl; exact rfl)
    | (apply (q_pickF (u := .d _)); exact rfl; exact rfl)))|(apply W.ed; (apply e_boxF; exact rfl; exact rfl; exact rfl; kernel_rfl; kernel_rfl))|(refine W.gOff _ _ rfl rfl (by intro h; cases h) ?_)|(apply AWP.seq)|(apply ACont_normal)|(apply W.region; kernel_rfl)|(apply Walk.nil)|(apply AWP.ret)|(apply ACont_ret)|(apply W.condT; exact rfl)|(refine W.gF _ _ rfl rfl (fun hb => ?_) (fun hb => ?_) <;> ((try simp only [hb, Bool.not_true, Bool.not_false]) <;> (try simp only [decide_eq_true_eq, decide_eq_false_iff_not, Bool.not_eq_true', Bool.not_eq_false', Int.not_lt, Int.not_le, List.length_map, not_true_eq_false] at hb) <;> (try (exfalso; omega))))
  | (refine W.cond _ rfl (fun hb => ?_) (fun hb => ?_) <;> ((try simp only [hb, Bool.not_true, Bool.not_false]) <;> (try simp only [decide_eq_true_eq, decide_eq_false_iff_not, Bool.not_eq_true', Bool.not_eq_false', Int.not_lt, Int.not_le, List.length_map, not_true_eq_false] at hb) <;> (try (exfalso; omega))))))
    all_goals exact ⟨.inl rfl, [], [.d (.v (.slice none 0 0)), .d (.v (.slice none 0 0)), iV 1], rfl, rfl, ⟨rfl, rfl, rfl, trivial⟩, AVle.tup ⟨AVle.nil 1, AVle.nil 1, AVle.refl _, trivial⟩, rfl⟩
  · have hb := A_r8basis_bad hD hP hg
    (repeat' (first
  | (apply W.qd; (first
    | (apply (q_callC (hb)); exact rfl; exact rfl; kernel_rfl; kernel_rfl; kernel_rfl)|(apply q_mv; (first|exact vD|exact vO|exact vP|exact vA|exact vF|exact vR|exact vN|exact vY|exact vT|exact vX))|(apply q_as; (first|exact vD|exact vO|exact vP|exact vA|exact vF|exact vR|exact vN|exact vY|exact vT|exact vX))|(apply q_ld_boxF; exact rfl; exact rfl; exact rfl; exact rfl)|(apply q_neq; exact rfl; exact rfl)|(apply q_extract; exact rfl; exact rfl)
    | (apply (q_pickT (u := .d _)); exact rfl; exact rfl)))|(apply W.ed; (apply e_boxF; exact rfl; exact rfl; exact rfl; kernel_rfl; kernel_rfl))|(refine W.gOff _ _ rfl rfl (by intro h; cases h) ?_)|(apply AWP.seq)|(apply ACont_normal)|(apply W.region; kernel_rfl)|(apply Walk.nil)|(apply AWP.ret)|(apply ACont_ret)
  | (apply W.condT; exact rfl)))
    all_goals exact ⟨.inl rfl, [], [.d (.v (.slice none 0 0)), .d (.v (.slice none 0 0)), iV 1], rfl, rfl, ⟨rfl, rfl, rfl, trivial⟩, AVle.tup ⟨AVle.nil 1, AVle.nil 1, AVle.refl _, trivial⟩, rfl⟩
def coefA (B : List Nat) : Option (List Nat) → AV
  | some K => .tup [nats B, nats K, iV 0]
  | none => .tup [nats [], nats [], iV 11]
theorem A_r8coef {M D u : Nat} {ps : List (List Nat)} {hv : List Bool} (h : CodeOk M D ps) (hl : hv.length = D + ps.length) (hu : u < D + ps.length) : ACalls Tryd.prog 58 [cdN M D ps, bools hv, iV u] [] (coefA (basisN M D ps hv) (exprN M D (takeR D ps (basisN M D ps hv) (basisN M D ps hv).length) (rowN D ps u))) [] := by
  refine acalls_of_bodyO Tryd.func58 rfl (Nat.le_of_ble_eq_true rfl) ?_
  have hM := h.f
  have h1 := h.d
  have h2 := h.w
  have hb := A_r8basis h hl
  have hmh : (hv.map tD).length = hv.length := List.length_map _
  have hbl := bas_le h hl
  have hblt : ∀ q, q < (basisN M D ps hv).length → (basisN M D ps hv).getD q 0 < D + ps.length := fun q hq => hv_lt h hl (bas_pres h hl hq)
  have hrow := fun i (hi : i < D + ps.length) => A_r8row h hi
  have hr := hrow u hu
  have he := A_express (M := M) (D := D) (rows := takeR D ps (basisN M D ps hv) (basisN M D ps hv).length) (t := rowN D ps u) hM (by omega) (by omega) (by rw [takeR_length (Nat.le_refl _)]; omega) (fun r hr => by
    obtain ⟨u, _, rfl⟩ := List.mem_map.1 hr; exact rowN_length ..) (rowN_length ..) (takeR_lt h hl _ _) (rowN_lt h hl u)
  generalize basisN M D ps hv = B at *
  have htl := fun m (hm : m ≤ B.length) => takeR_length (D := D) (ps := ps) (B := B) hm
  have hts := fun m (hm : m < B.length) => Lib.hid (takeR_succ (D := D) (ps := ps) (B := B) hm)
  have ht0 : takeR D ps B 0 = [] := rfl
  have hmB : (B.map kD).length = B.length := List.length_map _
  (repeat' (first
  | (apply W.gOn; exact rfl; exact rfl)
  | (apply W.qd; (first
    | (apply (q_callC (hb)); exact rfl; exact rfl; kernel_rfl; kernel_rfl; kernel_rfl)|(apply q_mv; (first|exact vD|exact vO|exact vP|exact vA|exact vF|exact vR|exact vN|exact vY|exact vT|exact vX))|(apply q_as; (first|exact vD|exact vO|exact vP|exact vA|exact vF|exact vR|exact vN|exact vY|exact vT|exact vX))|(apply q_ld_boxF; exact rfl; exact rfl; exact rfl; exact rfl)|(apply q_lss; exact rfl; exact rfl)|(apply q_geq; exact rfl; exact rfl)|(apply q_neq; exact rfl; exact rfl)|(apply q_extract; exact rfl; exact rfl)|(apply q_len_sl; exact rfl; exact rfl)
    | (apply (q_pickF (u := .d _)); exact rfl; exact rfl)))|(apply W.ed; (apply e_boxF; exact rfl; exact rfl; exact rfl; kernel_rfl; kernel_rfl))|(apply AWP.seq)|(apply ACont_normal)|(apply (W.regionS 5); exact rfl; kernel_rfl)|(apply Walk.nil)|(apply AWP.skip)
  | (refine W.cond _ rfl (fun hb => ?_) (fun hb => ?_) <;> ((try simp only [hb, Bool.not_true, Bool.not_false]) <;> (try simp only [decide_eq_true_eq, decide_eq_false_iff_not, Bool.not_eq_true', Bool.not_eq_false', Int.not_lt, Int.not_le, List.length_map, not_true_eq_false] at hb) <;> (try (exfalso; omega))))))
  refine AWP.nilRow 11 1 29 rfl (by omega) ?_
  (repeat' (first
  | (apply W.qd; (apply q_as; (first|exact vD|exact vO|exact vP|exact vA|exact vF|exact vR|exact vN|exact vY|exact vT|exact vX)))|(apply ACont_normal)|(apply (W.regionS 6); exact rfl; kernel_rfl)|(apply Walk.nil)
  | (apply AWP.block)))
  refine AWP.loopW (α := Nat) (fun m => m ≤ B.length) (fun m => ⟨[(12, iV m), (9, nats B), (11, .osl 1 m 0 m), (2, iV u), (3, .opt 0 0)], [.box [.d .any, iV M, iV D, rowsN ps, .d .any], .row m 1 29 ((takeR D ps B m).map rnD)]⟩) (fun m => B.length - m) 0 (Nat.zero_le _) ⟨[0, 1], rfl, rfl, rfl, by (repeat (first | exact trivial | refine ⟨rfl, ?_⟩))⟩ fun m hm => ?_
  by_cases hmB2 : m < B.length
  · have hbm : B.getD m 0 = B[m] := by rw [List.getD_eq_getElem?_getD, List.getElem?_eq_getElem hmB2]; rfl
    have hts2 := hts m hmB2
    have hlt := hblt m hmB2
    rw [hbm] at hts2 hlt
    have hr2 := hrow (B[m]) hlt
    have hl2 := htl m hm
    clear hrow he hblt hts
    generalize takeR D ps B m = R at *
    generalize rowN D ps B[m] = rw0 at *
    (repeat' (first
  | (apply W.qd; (first
    | (apply (q_callC (hr2)); exact rfl; exact rfl; kernel_rfl; kernel_rfl; kernel_rfl)|(apply q_mv; (first|exact vD|exact vO|exact vP|exact vA|exact vF|exact vR|exact vN|exact vY|exact vT|exact vX))|(apply q_as; (first|exact vD|exact vO|exact vP|exact vA|exact vF|exact vR|exact vN|exact vY|exact vT|exact vX))|(apply q_ld_boxF; exact rfl; exact rfl; exact rfl; exact rfl)|(apply q_lss; exact rfl; exact rfl)|(apply q_add; exact rfl; exact rfl; omega)|(apply q_len_sl; exact rfl; exact rfl)|(apply q_ld_map; exact rfl; exact rfl; exact rfl; (first | omega | (focus (simp; done))))|(apply q_litF; exact rfl; exact rfl; exact rfl; exact rfl; exact rfl; kernel_rfl; kernel_rfl; exact rfl)
    | (apply q_ix_slF; exact rfl; exact rfl; exact rfl; exact rfl; (first | (with_reducible exact rfl) | exact natI_spec rfl | assumption | exact (Int.toNat_of_nonneg (by omega)).symm); (first | omega | (focus (simp only [List.length_map]; omega)) | (focus (simp; done)) | (focus (simp; omega))))))|(apply W.ed; ((apply (s_app1 (f := rnD) rw0); exact rfl; exact rfl; exact rfl; exact rfl; exact rfl; exact rfl; exact rfl; exact hl2.symm; omega)))|(apply AWP.seq)|(apply ACont_normal)|(apply W.region; kernel_rfl)|(apply W.regionD; exact rfl; kernel_rfl)|(apply Walk.nil)|(apply W.chk; kernel_rfl)|(apply AWP.block)|(apply AWP.skip)|(apply ABlock_normal)
  | (refine W.cond _ rfl (fun hb => ?_) (fun hb => ?_) <;> ((try simp only [hb, Bool.not_true, Bool.not_false]) <;> (try simp only [decide_eq_true_eq, decide_eq_false_iff_not, Bool.not_eq_true', Bool.not_eq_false', Int.not_lt, Int.not_le, List.length_map, not_true_eq_false] at hb) <;> (try (exfalso; omega))))))
    refine ⟨m + 1, by omega, by omega, [0, 1], rfl, rfl, ?_, iV_eq (by omega), rfl, rfl, rfl, rfl, trivial⟩
    rw [hts2.out]; rfl
  · have hmB3 : m = B.length := by omega
    subst hmB3
    have hl2 := htl B.length (Nat.le_refl _)
    clear hrow hblt hts ht0
    generalize takeR D ps B B.length = R at *
    refine AWP.wk ⟨[(12, iV B.length), (9, nats B), (11, rowsN R), (2, iV u), (3, .opt 0 0)], [.box [.d .any, iV M, iV D, rowsN ps, .d .any]]⟩ ⟨[0], rfl, rfl, rfl, rfl, rfl, (frz_rowJ rfl rfl (by rw [List.length_map]; exact hl2.symm)).symm, rfl, rfl, trivial⟩ ?_
    cases hE : exprN M D R (rowN D ps u) with
    | none =>
      rw [hE] at he
      unfold exprA at he
      dsimp only at he
      generalize rowN D ps u = rw0 at *
      (repeat' (first
  | (apply W.qd; (first
    | (apply (q_callC (hr)); exact rfl; exact rfl; kernel_rfl; kernel_rfl; kernel_rfl)|(apply (q_callC (he)); exact rfl; exact rfl; kernel_rfl; kernel_rfl; kernel_rfl)|(apply q_mv; (first|exact vD|exact vO|exact vP|exact vA|exact vF|exact vR|exact vN|exact vY|exact vT|exact vX))|(apply q_as; (first|exact vD|exact vO|exact vP|exact vA|exact vF|exact vR|exact vN|exact vY|exact vT|exact vX))|(apply q_fld_optF; exact rfl; exact rfl; exact rfl)|(apply q_ld_box; exact rfl; exact rfl; exact rfl; exact rfl)|(apply q_ld_boxF; exact rfl; exact rfl; exact rfl; exact rfl)|(apply q_lss; exact rfl; exact rfl)|(apply q_not; exact rfl)|(apply q_extract; exact rfl; exact rfl)
    | (apply q_len_sl; exact rfl; exact rfl)))|(apply AWP.seq)|(apply ACont_normal)|(apply W.region; kernel_rfl)|(apply W.regionD; exact rfl; kernel_rfl)|(apply Walk.nil)|(apply W.chk; kernel_rfl)|(apply AWP.exit)|(apply AWP.ret)|(apply ACont_exit)|(apply ACont_ret)|(apply ABlock_exit)|(apply W.condT; exact rfl)
  | (refine W.cond _ rfl (fun hb => ?_) (fun hb => ?_) <;> ((try simp only [hb, Bool.not_true, Bool.not_false]) <;> (try simp only [decide_eq_true_eq, decide_eq_false_iff_not, Bool.not_eq_true', Bool.not_eq_false', Int.not_lt, Int.not_le, List.length_map, not_true_eq_false] at hb) <;> (try (exfalso; omega))))))
      exact ⟨.inl rfl, [], [.d (.v (.slice none 0 0)), .d (.v (.slice none 0 0)), iV 11], rfl, rfl, ⟨rfl, rfl, rfl, trivial⟩, AVle.tup ⟨AVle.nil 1, AVle.nil 1, AVle.refl _, trivial⟩, rfl⟩
    | some K =>
      rw [hE] at he
      unfold exprA at he
      dsimp only at he
      generalize rowN D ps u = rw0 at *
      (repeat' (first
  | (apply W.qd; (first
    | (apply (q_callC (hr)); exact rfl; exact rfl; kernel_rfl; kernel_rfl; kernel_rfl)|(apply (q_callC (he)); exact rfl; exact rfl; kernel_rfl; kernel_rfl; kernel_rfl)|(apply q_mv; (first|exact vD|exact vO|exact vP|exact vA|exact vF|exact vR|exact vN|exact vY|exact vT|exact vX))|(apply q_as; (first|exact vD|exact vO|exact vP|exact vA|exact vF|exact vR|exact vN|exact vY|exact vT|exact vX))|(apply q_fld_optF; exact rfl; exact rfl; exact rfl)|(apply q_ld_box; exact rfl; exact rfl; exact rfl; exact rfl)|(apply q_ld_boxF; exact rfl; exact rfl; exact rfl; exact rfl)|(apply q_lss; exact rfl; exact rfl)|(apply q_not; exact rfl)|(apply q_extract; exact rfl; exact rfl)
    | (apply q_len_sl; exact rfl; exact rfl)))|(apply AWP.seq)|(apply ACont_normal)|(apply W.region; kernel_rfl)|(apply W.regionD; exact rfl; kernel_rfl)|(apply Walk.nil)|(apply W.chk; kernel_rfl)|(apply AWP.skip)|(apply AWP.exit)|(apply AWP.ret)|(apply ACont_exit)|(apply ABlock_exit)|(apply W.condF; exact rfl)
  | (refine W.cond _ rfl (fun hb => ?_) (fun hb => ?_) <;> ((try simp only [hb, Bool.not_true, Bool.not_false]) <;> (try simp only [decide_eq_true_eq, decide_eq_false_iff_not, Bool.not_eq_true', Bool.not_eq_false', Int.not_lt, Int.not_le, List.length_map, not_true_eq_false] at hb) <;> (try (exfalso; omega))))))
      exact ⟨.inl rfl, [], [nats B, nats K, iV 0], rfl, rfl, ⟨rfl, rfl, rfl, trivial⟩, AVle.of_eq rfl, rfl⟩
theorem A_r8comb_bad {M D u : Int} {par : List (List Int)} {hv : List Bool} (hD : D ≤ 1000000) (hP : par.length ≤ 1000000) (h : ¬ (validC M D par = true ∧ (hv.length : Int) = D + (par.length : Int) ∧ 0 ≤ u ∧ u < hv.length)) : ACalls Tryd.prog 32 [cdA M D par, bools hv, iV u] [] (.tup [tmsA [], iV 1]) [] := by
  refine acalls_of_bodyO Tryd.func32 rfl (Nat.le_of_ble_eq_true rfl) ?_
  have hc := A_r8coef_bad hD hP h
  (repeat' (first
  | (apply W.qd; (first
    | (apply (q_callC (hc)); exact rfl; exact rfl; kernel_rfl; kernel_rfl; kernel_rfl)|(apply q_mv; (first|exact vD|exact vO|exact vP|exact vA|exact vF|exact vR|exact vN|exact vY|exact vT|exact vX))|(apply q_as; (first|exact vD|exact vO|exact vP|exact vA|exact vF|exact vR|exact vN|exact vY|exact vT|exact vX))|(apply q_ld_boxF; exact rfl; exact rfl; exact rfl; exact rfl)|(apply q_neq; exact rfl; exact rfl)
    | (apply q_extract; exact rfl; exact rfl)))|(apply W.ed; (apply e_boxF; exact rfl; exact rfl; exact rfl; kernel_rfl; kernel_rfl))|(apply AWP.seq)|(apply ACont_normal)|(apply W.region; kernel_rfl)|(apply Walk.nil)|(apply AWP.ret)|(apply ACont_ret)
  | (apply W.condT; exact rfl)))
  all_goals exact ⟨.inl rfl, [], [.d (.v (.slice none 0 0)), iV 1], rfl, rfl, ⟨rfl, rfl, trivial⟩, AVle.tup2 (AVle.nil 2) (AVle.refl _), rfl⟩
theorem A_r8comb {M D u : Nat} {ps : List (List Nat)} {hv : List Bool} (h : CodeOk M D ps) (hl : hv.length = D + ps.length) (hu : u < D + ps.length) : ACalls Tryd.prog 32 [cdN M D ps, bools hv, iV u] [] (termsA (combN M D ps hv u)) [] := by
  refine acalls_of_bodyO Tryd.func32 rfl (Nat.le_of_ble_eq_true rfl) ?_
  have hc := A_r8coef h hl hu
  obtain ⟨e1, e2⟩ := expr_comb h hl hu
  have hbl := bas_le h hl
  have h2 := h.w
  cases hC : combN M D ps hv u with
  | none =>
    rw [e2 hC] at hc
    unfold coefA at hc
    dsimp only at hc
    unfold termsA
    (repeat' (first
  | (apply W.qd; (first
    | (apply (q_callC (hc)); exact rfl; exact rfl; kernel_rfl; kernel_rfl; kernel_rfl)|(apply q_mv; (first|exact vD|exact vO|exact vP|exact vA|exact vF|exact vR|exact vN|exact vY|exact vT|exact vX))|(apply q_as; (first|exact vD|exact vO|exact vP|exact vA|exact vF|exact vR|exact vN|exact vY|exact vT|exact vX))|(apply q_ld_boxF; exact rfl; exact rfl; exact rfl; exact rfl)|(apply q_neq; exact rfl; exact rfl)
    | (apply q_extract; exact rfl; exact rfl)))|(apply W.ed; (apply e_boxF; exact rfl; exact rfl; exact rfl; kernel_rfl; kernel_rfl))|(apply AWP.seq)|(apply ACont_normal)|(apply W.region; kernel_rfl)|(apply Walk.nil)|(apply AWP.ret)|(apply ACont_ret)
  | (apply W.condT; exact rfl)))
    all_goals exact ⟨.inl rfl, [], [.d (.v (.slice none 0 0)), iV 11], rfl, rfl, ⟨rfl, rfl, trivial⟩, AVle.tup2 (AVle.nil 2) (AVle.refl _), rfl⟩
  | some l =>
    obtain ⟨K, k1, k2, k3, k4⟩ := e1 l hC
    rw [k3] at hc
    unfold coefA at hc
    dsimp only at hc
    unfold termsA
    dsimp only
    rw [k4]
    clear k3 k4 e1 e2 hC
    generalize basisN M D ps hv = B at *
    have hmB : (B.map kD).length = B.length := List.length_map _
    have hmK : (K.map kD).length = K.length := List.length_map _
    have hs := fun i => Lib.hid (tmsAt_succ B K i)
    have hle := tmsAt_length B K
    have ht0 : tmsAt B K 0 = [] := rfl
    generalize tmsAt B K = TM at *
    (repeat' (first
  | (apply W.qd; (first
    | (apply (q_callC (hc)); exact rfl; exact rfl; kernel_rfl; kernel_rfl; kernel_rfl)|(apply q_mv; (first|exact vD|exact vO|exact vP|exact vA|exact vF|exact vR|exact vN|exact vY|exact vT|exact vX))|(apply q_as; (first|exact vD|exact vO|exact vP|exact vA|exact vF|exact vR|exact vN|exact vY|exact vT|exact vX))|(apply q_ld_boxF; exact rfl; exact rfl; exact rfl; exact rfl)|(apply q_neq; exact rfl; exact rfl)
    | (apply q_extract; exact rfl; exact rfl)))|(apply W.ed; (apply e_boxF; exact rfl; exact rfl; exact rfl; kernel_rfl; kernel_rfl))|(apply AWP.seq)|(apply ACont_normal)|(apply (W.regionS 5); exact rfl; kernel_rfl)|(apply Walk.nil)|(apply AWP.skip)
  | (apply W.condF; exact rfl)))
    refine AWP.nilRow 11 2 49 rfl (by omega) ?_
    (repeat' (first
  | (apply W.qd; (apply q_as; (first|exact vD|exact vO|exact vP|exact vA|exact vF|exact vR|exact vN|exact vY|exact vT|exact vX)))|(apply ACont_normal)|(apply (W.regionS 6); exact rfl; kernel_rfl)|(apply Walk.nil)
  | (apply AWP.block)))
    refine AWP.loopW (α := Nat) (fun i => i ≤ B.length) (fun i => ⟨[(12, iV i), (8, nats B), (9, nats K), (11, .osl 1 (TM i).length 0 (TM i).length), (3, .opt 0 0)], [.box [.d .any, iV M, iV D, rowsN ps, .d .any], .row (TM i).length 2 49 ((TM i).map tmD)]⟩) (fun i => B.length - i) 0 (Nat.zero_le _) ?wk0 fun i hi => ?_
    case wk0 =>
      rw [ht0]
      exact ⟨[0, 1], rfl, rfl, rfl, by (repeat (first | exact trivial | refine ⟨rfl, ?_⟩))⟩
    by_cases hiB : i < B.length
    · have hs2 := (hs i).out
      have hbm : B.getD i 0 = B[i] := by rw [List.getD_eq_getElem?_getD, List.getElem?_eq_getElem hiB]; rfl
      have hkm : K.getD i 0 = K[i]'(by omega) := by rw [List.getD_eq_getElem?_getD, List.getElem?_eq_getElem (show i < K.length by omega)]; rfl
      rw [hbm, hkm] at hs2
      have hle2 := hle i
      by_cases hz : K[i]'(by omega) = 0
      · rw [if_pos hz] at hs2
        replace hs2 := Lib.hid hs2
        clear hs hle
        generalize TM i = T at *
        (repeat' (first
  | (apply W.qd; (first
    | (apply q_mv; (first|exact vD|exact vO|exact vP|exact vA|exact vF|exact vR|exact vN|exact vY|exact vT|exact vX))|(apply q_as; (first|exact vD|exact vO|exact vP|exact vA|exact vF|exact vR|exact vN|exact vY|exact vT|exact vX))|(apply q_lss; exact rfl; exact rfl)|(apply q_neq; exact rfl; exact rfl)|(apply q_add; exact rfl; exact rfl; omega)|(apply q_len_sl; exact rfl; exact rfl)|(apply q_ld_map; exact rfl; exact rfl; exact rfl; (first | omega | (focus (simp; done))))
    | (apply q_ix_slF; exact rfl; exact rfl; exact rfl; exact rfl; (first | (with_reducible exact rfl) | exact natI_spec rfl | assumption | exact (Int.toNat_of_nonneg (by omega)).symm); (first | omega | (focus (simp only [List.length_map]; omega)) | (focus (simp; done)) | (focus (simp; omega))))))|(apply AWP.seq)|(apply ACont_normal)|(apply W.region; kernel_rfl)|(apply Walk.nil)|(apply AWP.block)|(apply AWP.skip)|(apply ABlock_normal)
  | (refine W.cond _ rfl (fun hb => ?_) (fun hb => ?_) <;> ((try simp only [hb, Bool.not_true, Bool.not_false]) <;> (try simp only [decide_eq_true_eq, decide_eq_false_iff_not, Bool.not_eq_true', Bool.not_eq_false', Int.not_lt, Int.not_le, List.length_map, not_true_eq_false] at hb) <;> (try (exfalso; omega))))))
        refine ⟨i + 1, by omega, by omega, ?_⟩
        rw [hs2.out]
        exact ⟨[0, 1], rfl, rfl, rfl, iV_eq (by omega), rfl, rfl, rfl, rfl, trivial⟩
      · rw [if_neg hz] at hs2
        replace hs2 := Lib.hid hs2
        clear hs hle
        generalize TM i = T at *
        (repeat' (first
  | (apply W.qd; (first
    | (apply q_mv; (first|exact vD|exact vO|exact vP|exact vA|exact vF|exact vR|exact vN|exact vY|exact vT|exact vX))|(apply q_as; (first|exact vD|exact vO|exact vP|exact vA|exact vF|exact vR|exact vN|exact vY|exact vT|exact vX))|(apply q_lss; exact rfl; exact rfl)|(apply q_neq; exact rfl; exact rfl)|(apply q_add; exact rfl; exact rfl; omega)|(apply q_len_sl; exact rfl; exact rfl)|(apply q_ld_map; exact rfl; exact rfl; exact rfl; (first | omega | (focus (simp; done))))|(apply q_buildF; exact rfl; exact rfl; kernel_rfl)|(apply q_litF; exact rfl; exact rfl; exact rfl; exact rfl; exact rfl; kernel_rfl; kernel_rfl; exact rfl)
    | (apply q_ix_slF; exact rfl; exact rfl; exact rfl; exact rfl; (first | (with_reducible exact rfl) | exact natI_spec rfl | assumption | exact (Int.toNat_of_nonneg (by omega)).symm); (first | omega | (focus (simp only [List.length_map]; omega)) | (focus (simp; done)) | (focus (simp; omega))))))|(apply W.ed; ((apply (e_app1F (f := tmD) (B[i], K[i]'(by omega))); exact rfl; exact rfl; exact rfl; exact rfl; exact rfl; exact rfl; exact rfl; exact rfl; omega)))|(apply AWP.seq)|(apply ACont_normal)|(apply W.region; kernel_rfl)|(apply W.regionD; exact rfl; kernel_rfl)|(apply Walk.nil)|(apply W.chk; kernel_rfl)|(apply AWP.block)|(apply AWP.skip)|(apply ABlock_normal)
  | (refine W.cond _ rfl (fun hb => ?_) (fun hb => ?_) <;> ((try simp only [hb, Bool.not_true, Bool.not_false]) <;> (try simp only [decide_eq_true_eq, decide_eq_false_iff_not, Bool.not_eq_true', Bool.not_eq_false', Int.not_lt, Int.not_le, List.length_map, not_true_eq_false] at hb) <;> (try (exfalso; omega))))))
        refine ⟨i + 1, by omega, by omega, ?_⟩
        rw [hs2.out, show (T ++ [(B[i], K[i]'(by omega))]).length = T.length + 1 by simp]
        exact ⟨[0, 1], rfl, rfl, rfl, iV_eq (by omega), rfl, rfl, congrArg (AV.osl 1 (T.length + 1) 0) (by simp), rfl, trivial⟩
    · have hiB3 : i = B.length := by omega
      subst hiB3
      clear hs hle
      generalize TM B.length = T at *
      (repeat' (first
  | (apply W.qd; (first
    | (apply q_mv; (first|exact vD|exact vO|exact vP|exact vA|exact vF|exact vR|exact vN|exact vY|exact vT|exact vX))|(apply q_as; (first|exact vD|exact vO|exact vP|exact vA|exact vF|exact vR|exact vN|exact vY|exact vT|exact vX))|(apply q_lss; exact rfl; exact rfl)
    | (apply q_len_sl; exact rfl; exact rfl)))|(apply AWP.seq)|(apply ACont_normal)|(apply W.region; kernel_rfl)|(apply Walk.nil)|(apply AWP.exit)|(apply AWP.ret)|(apply ACont_exit)|(apply ABlock_exit)
  | (refine W.cond _ rfl (fun hb => ?_) (fun hb => ?_) <;> ((try simp only [hb, Bool.not_true, Bool.not_false]) <;> (try simp only [decide_eq_true_eq, decide_eq_false_iff_not, Bool.not_eq_true', Bool.not_eq_false', Int.not_lt, Int.not_le, List.length_map, not_true_eq_false] at hb) <;> (try (exfalso; omega))))))
      exact ⟨.inl rfl, [], [.osl 1 T.length 0 T.length, iV 0], rfl, rfl, ⟨rfl, rfl, trivial⟩, AVle.tup2 (AVle.of_eq (frz_rowJ rfl rfl (by simp))) (AVle.of_eq rfl), rfl⟩
end Go.Proofs.YtjaipchlnnjaeaaDoor
end
section
/- The law ErasureDecodeMatchesSpec: the walk. -/
namespace Go.Proofs.YtjaipchlnnjaeaaDoor
open Go.RowKit
set_option maxHeartbeats 4000000
set_option maxRecDepth 100000
theorem mem_havU {us : List (List Nat)} {hv : List Bool} {n : Nat} {x : List Nat} : x ∈ havU us hv n ↔ ∃ i, i < n ∧ hv.getD i false = true ∧ x = us.getD i [] := by
  unfold havU
  rw [List.mem_map]
  constructor
  · rintro ⟨i, h1, rfl⟩
    obtain ⟨h2, h3⟩ := List.mem_filter.1 h1
    exact ⟨i, List.mem_range.1 h2, h3, rfl⟩
  · rintro ⟨i, h1, h2, rfl⟩
    exact ⟨i, List.mem_filter.2 ⟨List.mem_range.2 h1, h2⟩, rfl⟩
theorem uniB_snoc (M : Int) (a : List Nat) (l : List (List Nat)) (u : List Nat) : uniB M (a :: l ++ [u]) = (uniB M (a :: l) && uniQ M (a :: l) u) := by
  unfold uniB
  rw [List.all_append]
  have e : uniQ M (a :: l ++ [u]) = uniQ M (a :: l) := rfl
  rw [e]; simp
theorem uniB_one (M : Int) (u : List Nat) : uniB M ([] ++ [u]) = (decide (M = 8) || decide ((u.length : Int) % 2 = 0)) := by
  unfold uniB uniQ
  simp
theorem uniB_pre {M : Int} {us : List (List Nat)} {hv : List Bool} {i : Nat} (h : uniB M (havU us hv i) = false) : ∀ d, uniB M (havU us hv (i + d)) = false
  | 0 => h
  | d + 1 => by
    have ih := uniB_pre h d
    rw [show i + (d + 1) = i + d + 1 by omega, havU_succ]
    split
    · generalize havU us hv (i + d) = l at *
      cases l with
      | nil => exact absurd ih (by simp [uniB])
      | cons a l => rw [uniB_snoc, ih, Bool.false_and]
    · exact ih
def szU : List (List Nat) → Int
  | [] => -1
  | a :: _ => a.length
theorem fit_head {M D : Nat} {ps us : List (List Nat)} {hv : List Bool} (hM : FldM M) (hf : fitN M D ps us hv = true) : FitM M ((havU us hv us.length).headD []).length ∧ ∀ x ∈ havU us hv us.length, x.length = ((havU us hv us.length).headD []).length := by
  unfold fitN at hf
  simp only [Bool.and_eq_true] at hf
  have hu := hf.2
  unfold uniB at hu
  rw [List.all_eq_true] at hu
  refine ⟨fun h16 => ?_, fun x hx => ?_⟩
  · cases hl : havU us hv us.length with
    | nil => rfl
    | cons a l =>
      rw [hl] at hu
      have := hu a (by simp)
      unfold uniQ at this
      simp only [Bool.and_eq_true, Bool.or_eq_true, decide_eq_true_eq] at this
      show a.length % 2 = 0
      have := this.2
      omega
  · have := hu x hx
    unfold uniQ at this
    simp only [Bool.and_eq_true, Bool.or_eq_true, decide_eq_true_eq] at this
    have := this.1
    omega
theorem terms_fit {M D u : Nat} {ps us : List (List Nat)} {hv : List Bool} {l : List (Nat × Nat)} (h : CodeOk M D ps) (hl : hv.length = D + ps.length) (hul : us.length = D + ps.length) (hu : u < D + ps.length) (hub : ∀ x ∈ us, isB x) (hf : fitN M D ps us hv = true) (hc : combN M D ps hv u = some l) : TermsIn M ((havU us hv us.length).headD []).length us l := by
  obtain ⟨f1, f2⟩ := fit_head h.f hf
  have hk := comb_ok h hl hu hc
  have hbl := basis_len h hl
  have hw := h.w
  refine ⟨hk.pos h hu, by have := hk.le; omega, fun t ht => ?_⟩
  have hp := hk.pres t ht
  have h1 : t.1 < us.length := by have := hv_lt h hl hp; omega
  have hm : us.getD t.1 [] ∈ us := by rw [List.getD_eq_getElem?_getD, List.getElem?_eq_getElem h1]; exact List.getElem_mem h1
  exact ⟨h1, (hk.lt t ht).1, hub _ hm, f2 _ (mem_havU.2 ⟨t.1, h1, hp, rfl⟩)⟩
attribute [local irreducible] Quiet Eff OpOk AWPG ACont ABlock ACalls AGoto
theorem A_efit_bad {M D : Int} {par : List (List Int)} {us : List (List Nat)} {hv : List Bool} (hp : CodeIn par) (h : ¬ (validC M D par = true ∧ (us.length : Int) = D + (par.length : Int) ∧ (hv.length : Int) = D + (par.length : Int))) : ACalls Tryd.prog 59 [cdA M D par, strs us, bools hv] [] (bV false) [] := by
  refine acalls_of_bodyO Tryd.func59 rfl (Nat.le_of_ble_eq_true rfl) ?_
  have hw := A_ewidth (M := M) (D := D) hp
  have hmh : (hv.map tD).length = hv.length := List.length_map _
  have hmu : (us.map sD).length = us.length := List.length_map _
  cases hv0 : validC M D par with
  | false =>
    rw [hv0, if_neg (by decide)] at hw
    (repeat' (first
  | (apply W.qd; (first
    | (apply (q_callC (hw)); exact rfl; exact rfl; kernel_rfl; kernel_rfl; kernel_rfl)|(apply q_mv; (first|exact vD|exact vO|exact vP|exact vA|exact vF|exact vR|exact vN|exact vY|exact vT|exact vX))|(apply q_as; (first|exact vD|exact vO|exact vP|exact vA|exact vF|exact vR|exact vN|exact vY|exact vT|exact vX))|(apply q_ld_boxF; exact rfl; exact rfl; exact rfl; exact rfl)|(apply q_eql; exact rfl; exact rfl)
    | (apply (q_pickT (u := .d _)); exact rfl; exact rfl)))|(apply W.ed; (apply e_boxF; exact rfl; exact rfl; exact rfl; kernel_rfl; kernel_rfl))|(refine W.gOff _ _ rfl rfl (by intro h; cases h) ?_)|(apply AWP.seq)|(apply ACont_normal)|(apply W.region; kernel_rfl)|(apply Walk.nil)|(apply AWP.ret)|(apply ACont_ret)
  | (apply W.condT; exact rfl)))
    all_goals exact ⟨.inl rfl, [], [bV false], rfl, rfl, ⟨rfl, trivial⟩, AVle.of_eq rfl, rfl⟩
  | true =>
    rw [hv0, if_pos rfl] at hw
    have hne : ¬ ((us.length : Int) = D + (par.length : Int) ∧ (hv.length : Int) = D + (par.length : Int)) := fun e => h ⟨hv0, e⟩
    (repeat' (first
  | (apply W.gOn; exact rfl; exact rfl)
  | (apply W.qd; (first
    | (apply (q_callC (hw)); exact rfl; exact rfl; kernel_rfl; kernel_rfl; kernel_rfl)|(apply q_mv; (first|exact vD|exact vO|exact vP|exact vA|exact vF|exact vR|exact vN|exact vY|exact vT|exact vX))|(apply q_as; (first|exact vD|exact vO|exact vP|exact vA|exact vF|exact vR|exact vN|exact vY|exact vT|exact vX))|(apply q_ld_boxF; exact rfl; exact rfl; exact rfl; exact rfl)|(apply q_eql; exact rfl; exact rfl)|(apply q_neq; exact rfl; exact rfl)|(apply q_len_sl; exact rfl; exact rfl)|(apply (q_pickT (u := .d _)); exact rfl; exact rfl)
    | (apply (q_pickF (u := .d _)); exact rfl; exact rfl)))|(apply W.ed; (apply e_boxF; exact rfl; exact rfl; exact rfl; kernel_rfl; kernel_rfl))|(refine W.gOff _ _ rfl rfl (by intro h; cases h) ?_)|(apply AWP.seq)|(apply ACont_normal)|(apply W.region; kernel_rfl)|(apply Walk.nil)|(apply AWP.ret)|(apply ACont_ret)|(apply W.condT; exact rfl)|(refine W.gF _ _ rfl rfl (fun hb => ?_) (fun hb => ?_) <;> ((try simp only [hb, Bool.not_true, Bool.not_false]) <;> (try simp only [decide_eq_true_eq, decide_eq_false_iff_not, Bool.not_eq_true', Bool.not_eq_false', Int.not_lt, Int.not_le, List.length_map, not_true_eq_false] at hb) <;> (try (exfalso; omega))))
  | (refine W.cond _ rfl (fun hb => ?_) (fun hb => ?_) <;> ((try simp only [hb, Bool.not_true, Bool.not_false]) <;> (try simp only [decide_eq_true_eq, decide_eq_false_iff_not, Bool.not_eq_true', Bool.not_eq_false', Int.not_lt, Int.not_le, List.length_map, not_true_eq_false] at hb) <;> (try (exfalso; omega))))))
    all_goals exact ⟨.inl rfl, [], [bV false], rfl, rfl, ⟨rfl, trivial⟩, AVle.of_eq rfl, rfl⟩
theorem A_r8fit_bad {M D : Int} {par : List (List Int)} {us : List (List Nat)} {hv : List Bool} (hD : D ≤ 1000000) (hP : par.length ≤ 1000000) (h : ¬ (validC M D par = true ∧ (us.length : Int) = D + (par.length : Int) ∧ (hv.length : Int) = D + (par.length : Int))) : ACalls Tryd.prog 61 [cdA M D par, strs us, bools hv] [] (bV false) [] := by
  refine acalls_of_bodyO Tryd.func61 rfl (Nat.le_of_ble_eq_true rfl) ?_
  have hw := A_r8width (M := M) hD hP
  have hmh : (hv.map tD).length = hv.length := List.length_map _
  have hmu : (us.map sD).length = us.length := List.length_map _
  cases hv0 : validC M D par with
  | false =>
    rw [hv0, if_neg (by decide)] at hw
    (repeat' (first
  | (apply W.qd; (first
    | (apply (q_callC (hw)); exact rfl; exact rfl; kernel_rfl; kernel_rfl; kernel_rfl)|(apply q_mv; (first|exact vD|exact vO|exact vP|exact vA|exact vF|exact vR|exact vN|exact vY|exact vT|exact vX))|(apply q_as; (first|exact vD|exact vO|exact vP|exact vA|exact vF|exact vR|exact vN|exact vY|exact vT|exact vX))|(apply q_ld_boxF; exact rfl; exact rfl; exact rfl; exact rfl)|(apply q_eql; exact rfl; exact rfl)
    | (apply (q_pickT (u := .d _)); exact rfl; exact rfl)))|(apply W.ed; (apply e_boxF; exact rfl; exact rfl; exact rfl; kernel_rfl; kernel_rfl))|(refine W.gOff _ _ rfl rfl (by intro h; cases h) ?_)|(apply AWP.seq)|(apply ACont_normal)|(apply W.region; kernel_rfl)|(apply Walk.nil)|(apply AWP.ret)|(apply ACont_ret)
  | (apply W.condT; exact rfl)))
    all_goals exact ⟨.inl rfl, [], [bV false], rfl, rfl, ⟨rfl, trivial⟩, AVle.of_eq rfl, rfl⟩
  | true =>
    rw [hv0, if_pos rfl] at hw
    have hne : ¬ ((us.length : Int) = D + (par.length : Int) ∧ (hv.length : Int) = D + (par.length : Int)) := fun e => h ⟨hv0, e⟩
    (repeat' (first
  | (apply W.gOn; exact rfl; exact rfl)
  | (apply W.qd; (first
    | (apply (q_callC (hw)); exact rfl; exact rfl; kernel_rfl; kernel_rfl; kernel_rfl)|(apply q_mv; (first|exact vD|exact vO|exact vP|exact vA|exact vF|exact vR|exact vN|exact vY|exact vT|exact vX))|(apply q_as; (first|exact vD|exact vO|exact vP|exact vA|exact vF|exact vR|exact vN|exact vY|exact vT|exact vX))|(apply q_ld_boxF; exact rfl; exact rfl; exact rfl; exact rfl)|(apply q_eql; exact rfl; exact rfl)|(apply q_neq; exact rfl; exact rfl)|(apply q_len_sl; exact rfl; exact rfl)|(apply (q_pickT (u := .d _)); exact rfl; exact rfl)
    | (apply (q_pickF (u := .d _)); exact rfl; exact rfl)))|(apply W.ed; (apply e_boxF; exact rfl; exact rfl; exact rfl; kernel_rfl; kernel_rfl))|(refine W.gOff _ _ rfl rfl (by intro h; cases h) ?_)|(apply AWP.seq)|(apply ACont_normal)|(apply W.region; kernel_rfl)|(apply Walk.nil)|(apply AWP.ret)|(apply ACont_ret)|(apply W.condT; exact rfl)|(refine W.gF _ _ rfl rfl (fun hb => ?_) (fun hb => ?_) <;> ((try simp only [hb, Bool.not_true, Bool.not_false]) <;> (try simp only [decide_eq_true_eq, decide_eq_false_iff_not, Bool.not_eq_true', Bool.not_eq_false', Int.not_lt, Int.not_le, List.length_map, not_true_eq_false] at hb) <;> (try (exfalso; omega))))
  | (refine W.cond _ rfl (fun hb => ?_) (fun hb => ?_) <;> ((try simp only [hb, Bool.not_true, Bool.not_false]) <;> (try simp only [decide_eq_true_eq, decide_eq_false_iff_not, Bool.not_eq_true', Bool.not_eq_false', Int.not_lt, Int.not_le, List.length_map, not_true_eq_false] at hb) <;> (try (exfalso; omega))))))
    all_goals exact ⟨.inl rfl, [], [bV false], rfl, rfl, ⟨rfl, trivial⟩, AVle.of_eq rfl, rfl⟩
theorem A_r8fit {M D : Nat} {ps us : List (List Nat)} {hv : List Bool} (h : CodeOk M D ps) (hul : us.length = D + ps.length) (hl : hv.length = D + ps.length) (hu : ∀ u ∈ us, u.length ≤ 1000000) : ACalls Tryd.prog 61 [cdN M D ps, strs us, bools hv] [] (bV (fitN M D ps us hv)) [] := by
  refine acalls_of_bodyO Tryd.func61 rfl (Nat.le_of_ble_eq_true rfl) ?_
  have h1 := h.d
  have h2 := h.w
  have hM := h.f
  have hw := A_r8widthN h
  rw [← hl] at hw
  have hmh : (hv.map tD).length = hv.length := List.length_map _
  have hmu : (us.map sD).length = us.length := List.length_map _
  have hfe : fitN M D ps us hv = uniB M (havU us hv us.length) := by
    unfold fitN
    rw [decide_eq_true hul, decide_eq_true hl]; simp
  rw [hfe]
  have hsucc := havU_succ us hv
  have hpre := fun i => uniB_pre (M := (M : Int)) (us := us) (hv := hv) (i := i)
  have h0 : havU us hv 0 = [] := rfl
  generalize havU us hv = H at *
  have hM2 : (M : Int) = 8 ∨ (M : Int) = 16 := by unfold FldM at hM; omega
  (repeat' (first
  | (apply W.gOn; exact rfl; exact rfl)
  | (apply W.qd; (first
    | (apply (q_callC (hw)); exact rfl; exact rfl; kernel_rfl; kernel_rfl; kernel_rfl)|(apply q_mv; (first|exact vD|exact vO|exact vP|exact vA|exact vF|exact vR|exact vN|exact vY|exact vT|exact vX))|(apply q_as; (first|exact vD|exact vO|exact vP|exact vA|exact vF|exact vR|exact vN|exact vY|exact vT|exact vX))|(apply q_ld_boxF; exact rfl; exact rfl; exact rfl; exact rfl)|(apply q_eql; exact rfl; exact rfl)|(apply q_neq; exact rfl; exact rfl)|(apply q_len_sl; exact rfl; exact rfl)
    | (apply (q_pickF (u := .d _)); exact rfl; exact rfl)))|(apply W.ed; (apply e_boxF; exact rfl; exact rfl; exact rfl; kernel_rfl; kernel_rfl))|(apply AWP.seq)|(apply ACont_normal)|(apply (W.regionS 6); exact rfl; kernel_rfl)|(apply Walk.nil)|(apply AWP.block)|(apply AWP.skip)|(refine W.gF _ _ rfl rfl (fun hb => ?_) (fun hb => ?_) <;> ((try simp only [hb, Bool.not_true, Bool.not_false]) <;> (try simp only [decide_eq_true_eq, decide_eq_false_iff_not, Bool.not_eq_true', Bool.not_eq_false', Int.not_lt, Int.not_le, List.length_map, not_true_eq_false] at hb) <;> (try (exfalso; omega))))
  | (refine W.cond _ rfl (fun hb => ?_) (fun hb => ?_) <;> ((try simp only [hb, Bool.not_true, Bool.not_false]) <;> (try simp only [decide_eq_true_eq, decide_eq_false_iff_not, Bool.not_eq_true', Bool.not_eq_false', Int.not_lt, Int.not_le, List.length_map, not_true_eq_false] at hb) <;> (try (exfalso; omega))))))
  refine AWP.loopW (α := Nat) (fun i => i ≤ hv.length ∧ uniB M (H i) = true) (fun i => ⟨[(9, iV i), (8, iV (szU (H i))), (7, iV hv.length), (1, strs us), (2, bools hv), (3, .opt 0 0)], [.box [.d .any, iV M, iV D, rowsN ps, .d .any]]⟩) (fun i => hv.length - i) 0 ⟨Nat.zero_le _, by rw [h0]; rfl⟩ ?wk0 fun i hi => ?_
  case wk0 =>
    rw [h0]
    exact ⟨[0], rfl, rfl, rfl, by (repeat (first | exact trivial | refine ⟨rfl, ?_⟩))⟩
  by_cases hil : i < hv.length
  · have hs := hsucc i
    have eg : hv.getD i false = hv[i] := by rw [List.getD_eq_getElem?_getD, List.getElem?_eq_getElem hil]; rfl
    have eu : us.getD i [] = us[i]'(by omega) := by rw [List.getD_eq_getElem?_getD, List.getElem?_eq_getElem (show i < us.length by omega)]; rfl
    rw [eg, eu] at hs
    have hun := hu _ (List.getElem_mem (show i < us.length by omega))
    have hp := hpre (i + 1)
    have hi2 := hi.2
    clear hsucc hpre
    cases hb0 : hv[i] with
    | false =>
      rw [hb0, if_neg (by simp)] at hs
      (repeat' (first
  | (apply W.gOn; exact rfl; exact rfl)
  | (apply W.qd; (first
    | (apply q_mv; (first|exact vD|exact vO|exact vP|exact vA|exact vF|exact vR|exact vN|exact vY|exact vT|exact vX))|(apply q_as; (first|exact vD|exact vO|exact vP|exact vA|exact vF|exact vR|exact vN|exact vY|exact vT|exact vX))|(apply q_fld_optF; exact rfl; exact rfl; exact rfl)|(apply q_ld_box; exact rfl; exact rfl; exact rfl; exact rfl)|(apply q_lss; exact rfl; exact rfl)|(apply q_eql; exact rfl; exact rfl)|(apply q_neq; exact rfl; exact rfl)|(apply q_add; exact rfl; exact rfl; omega)|(apply q_rem; exact rfl; exact rfl; omega; omega)|(apply q_len_bs; exact rfl; exact rfl)|(apply q_ld_map; exact rfl; exact rfl; exact rfl; (first | omega | (focus (simp; done))))|(apply q_ix_slF; exact rfl; exact rfl; exact rfl; exact rfl; (first | (with_reducible exact rfl) | exact natI_spec rfl | assumption | exact (Int.toNat_of_nonneg (by omega)).symm); (first | omega | (focus (simp only [List.length_map]; omega)) | (focus (simp; done)) | (focus (simp; omega))))|(apply (q_pickT (u := .d _)); exact rfl; exact rfl)
    | (apply (q_pickF (u := .d _)); exact rfl; exact rfl)))|(refine W.gOff _ _ rfl rfl (by intro h; cases h) ?_)|(apply AWP.seq)|(apply ACont_normal)|(apply W.region; kernel_rfl)|(apply Walk.nil)|(apply AWP.block)|(apply AWP.skip)|(apply AWP.ret)|(apply ACont_ret)|(apply ABlock_normal)|(apply ABlock_ret)|(apply W.condT; exact rfl)|(apply W.condF; exact rfl)|(refine W.gT _ _ rfl rfl (fun hb => ?_) (fun hb => ?_) <;> ((try simp only [hb, Bool.not_true, Bool.not_false]) <;> (try simp only [decide_eq_true_eq, decide_eq_false_iff_not, Bool.not_eq_true', Bool.not_eq_false', Int.not_lt, Int.not_le, List.length_map, not_true_eq_false] at hb) <;> (try (exfalso; omega))))|(refine W.gF _ _ rfl rfl (fun hb => ?_) (fun hb => ?_) <;> ((try simp only [hb, Bool.not_true, Bool.not_false]) <;> (try simp only [decide_eq_true_eq, decide_eq_false_iff_not, Bool.not_eq_true', Bool.not_eq_false', Int.not_lt, Int.not_le, List.length_map, not_true_eq_false] at hb) <;> (try (exfalso; omega))))
  | (refine W.cond _ rfl (fun hb => ?_) (fun hb => ?_) <;> ((try simp only [hb, Bool.not_true, Bool.not_false]) <;> (try simp only [decide_eq_true_eq, decide_eq_false_iff_not, Bool.not_eq_true', Bool.not_eq_false', Int.not_lt, Int.not_le, List.length_map, not_true_eq_false] at hb) <;> (try (exfalso; omega))))))
      (all_goals (try (exfalso; exact absurd ((‹hv[i] = true› : hv[i] = true).symm.trans (‹hv[i] = false› : hv[i] = false)) (by decide))))
      all_goals refine ⟨i + 1, ⟨by omega, by rw [hs]; exact hi2⟩, by omega, ?_⟩
      all_goals rw [hs]
      all_goals exact ⟨[0], rfl, rfl, rfl, iV_eq (by omega), rfl, rfl, rfl, rfl, rfl, trivial⟩
    | true =>
      rw [hb0, if_pos rfl] at hs
      cases hHi : H i with
      | nil =>
        rw [hHi] at hs
        have hun1 := uniB_one (M : Int) (us[i]'(by omega))
        rw [← hs] at hun1
        have hsz : szU (H (i + 1)) = ((us[i]'(by omega)).length : Int) := by rw [hs]; rfl
        have hsn : szU [] = -1 := rfl
        cases hok : uniB M (H (i + 1)) with
        | true =>
          rw [hok] at hun1
          have hev := hun1.symm
          rw [Bool.or_eq_true, decide_eq_true_eq, decide_eq_true_eq] at hev
          rw [hsn]
          (repeat' (first
  | (apply W.gOn; exact rfl; exact rfl)
  | (apply W.qd; (first
    | (apply q_mv; (first|exact vD|exact vO|exact vP|exact vA|exact vF|exact vR|exact vN|exact vY|exact vT|exact vX))|(apply q_as; (first|exact vD|exact vO|exact vP|exact vA|exact vF|exact vR|exact vN|exact vY|exact vT|exact vX))|(apply q_fld_optF; exact rfl; exact rfl; exact rfl)|(apply q_ld_box; exact rfl; exact rfl; exact rfl; exact rfl)|(apply q_lss; exact rfl; exact rfl)|(apply q_eql; exact rfl; exact rfl)|(apply q_neq; exact rfl; exact rfl)|(apply q_add; exact rfl; exact rfl; omega)|(apply q_rem; exact rfl; exact rfl; omega; omega)|(apply q_len_bs; exact rfl; exact rfl)|(apply q_ld_map; exact rfl; exact rfl; exact rfl; (first | omega | (focus (simp; done))))|(apply q_ix_slF; exact rfl; exact rfl; exact rfl; exact rfl; (first | (with_reducible exact rfl) | exact natI_spec rfl | assumption | exact (Int.toNat_of_nonneg (by omega)).symm); (first | omega | (focus (simp only [List.length_map]; omega)) | (focus (simp; done)) | (focus (simp; omega))))|(apply (q_pickT (u := .d _)); exact rfl; exact rfl)
    | (apply (q_pickF (u := .d _)); exact rfl; exact rfl)))|(refine W.gOff _ _ rfl rfl (by intro h; cases h) ?_)|(apply AWP.seq)|(apply ACont_normal)|(apply W.region; kernel_rfl)|(apply Walk.nil)|(apply AWP.block)|(apply AWP.skip)|(apply AWP.ret)|(apply ACont_ret)|(apply ABlock_normal)|(apply ABlock_ret)|(apply W.condT; exact rfl)|(apply W.condF; exact rfl)|(refine W.gT _ _ rfl rfl (fun hb => ?_) (fun hb => ?_) <;> ((try simp only [hb, Bool.not_true, Bool.not_false]) <;> (try simp only [decide_eq_true_eq, decide_eq_false_iff_not, Bool.not_eq_true', Bool.not_eq_false', Int.not_lt, Int.not_le, List.length_map, not_true_eq_false] at hb) <;> (try (exfalso; omega))))|(refine W.gF _ _ rfl rfl (fun hb => ?_) (fun hb => ?_) <;> ((try simp only [hb, Bool.not_true, Bool.not_false]) <;> (try simp only [decide_eq_true_eq, decide_eq_false_iff_not, Bool.not_eq_true', Bool.not_eq_false', Int.not_lt, Int.not_le, List.length_map, not_true_eq_false] at hb) <;> (try (exfalso; omega))))
  | (refine W.cond _ rfl (fun hb => ?_) (fun hb => ?_) <;> ((try simp only [hb, Bool.not_true, Bool.not_false]) <;> (try simp only [decide_eq_true_eq, decide_eq_false_iff_not, Bool.not_eq_true', Bool.not_eq_false', Int.not_lt, Int.not_le, List.length_map, not_true_eq_false] at hb) <;> (try (exfalso; omega))))))
          (all_goals (try (exfalso; exact absurd ((‹hv[i] = true› : hv[i] = true).symm.trans (‹hv[i] = false› : hv[i] = false)) (by decide))))
          all_goals refine ⟨i + 1, ⟨by omega, hok⟩, by omega, ?_⟩
          all_goals rw [hsz]
          all_goals exact ⟨[0], rfl, rfl, rfl, iV_eq (by omega), rfl, rfl, rfl, rfl, rfl, trivial⟩
        | false =>
          rw [hok] at hun1
          have hev := hun1.symm
          rw [Bool.or_eq_false_iff, decide_eq_false_iff_not, decide_eq_false_iff_not] at hev
          have hfin := hp hok (us.length - (i + 1))
          rw [show i + 1 + (us.length - (i + 1)) = us.length by omega] at hfin
          rw [hfin, hsn]
          (repeat' (first
  | (apply W.gOn; exact rfl; exact rfl)
  | (apply W.qd; (first
    | (apply q_mv; (first|exact vD|exact vO|exact vP|exact vA|exact vF|exact vR|exact vN|exact vY|exact vT|exact vX))|(apply q_as; (first|exact vD|exact vO|exact vP|exact vA|exact vF|exact vR|exact vN|exact vY|exact vT|exact vX))|(apply q_fld_optF; exact rfl; exact rfl; exact rfl)|(apply q_ld_box; exact rfl; exact rfl; exact rfl; exact rfl)|(apply q_lss; exact rfl; exact rfl)|(apply q_eql; exact rfl; exact rfl)|(apply q_neq; exact rfl; exact rfl)|(apply q_add; exact rfl; exact rfl; omega)|(apply q_rem; exact rfl; exact rfl; omega; omega)|(apply q_len_bs; exact rfl; exact rfl)|(apply q_ld_map; exact rfl; exact rfl; exact rfl; (first | omega | (focus (simp; done))))|(apply q_ix_slF; exact rfl; exact rfl; exact rfl; exact rfl; (first | (with_reducible exact rfl) | exact natI_spec rfl | assumption | exact (Int.toNat_of_nonneg (by omega)).symm); (first | omega | (focus (simp only [List.length_map]; omega)) | (focus (simp; done)) | (focus (simp; omega))))|(apply (q_pickT (u := .d _)); exact rfl; exact rfl)
    | (apply (q_pickF (u := .d _)); exact rfl; exact rfl)))|(refine W.gOff _ _ rfl rfl (by intro h; cases h) ?_)|(apply AWP.seq)|(apply ACont_normal)|(apply W.region; kernel_rfl)|(apply Walk.nil)|(apply AWP.block)|(apply AWP.skip)|(apply AWP.ret)|(apply ACont_ret)|(apply ABlock_normal)|(apply ABlock_ret)|(apply W.condT; exact rfl)|(apply W.condF; exact rfl)|(refine W.gT _ _ rfl rfl (fun hb => ?_) (fun hb => ?_) <;> ((try simp only [hb, Bool.not_true, Bool.not_false]) <;> (try simp only [decide_eq_true_eq, decide_eq_false_iff_not, Bool.not_eq_true', Bool.not_eq_false', Int.not_lt, Int.not_le, List.length_map, not_true_eq_false] at hb) <;> (try (exfalso; omega))))|(refine W.gF _ _ rfl rfl (fun hb => ?_) (fun hb => ?_) <;> ((try simp only [hb, Bool.not_true, Bool.not_false]) <;> (try simp only [decide_eq_true_eq, decide_eq_false_iff_not, Bool.not_eq_true', Bool.not_eq_false', Int.not_lt, Int.not_le, List.length_map, not_true_eq_false] at hb) <;> (try (exfalso; omega))))
  | (refine W.cond _ rfl (fun hb => ?_) (fun hb => ?_) <;> ((try simp only [hb, Bool.not_true, Bool.not_false]) <;> (try simp only [decide_eq_true_eq, decide_eq_false_iff_not, Bool.not_eq_true', Bool.not_eq_false', Int.not_lt, Int.not_le, List.length_map, not_true_eq_false] at hb) <;> (try (exfalso; omega))))))
          (all_goals (try (exfalso; exact absurd ((‹hv[i] = true› : hv[i] = true).symm.trans (‹hv[i] = false› : hv[i] = false)) (by decide))))
          all_goals exact ⟨.inl rfl, [], [bV false], rfl, rfl, ⟨rfl, trivial⟩, AVle.of_eq rfl, rfl⟩
      | cons a r =>
        rw [hHi] at hs
        have hun1 := uniB_snoc (M : Int) a r (us[i]'(by omega))
        rw [hHi] at hi2
        rw [← hs, hi2, Bool.true_and] at hun1
        have hsz : szU (H (i + 1)) = (a.length : Int) := by rw [hs]; rfl
        have hsn : szU (a :: r) = (a.length : Int) := rfl
        unfold uniQ at hun1
        change uniB M (H (i + 1)) = (decide (((us[i]'(by omega)).length : Int) = (a.length : Int)) && _) at hun1
        cases hok : uniB M (H (i + 1)) with
        | true =>
          rw [hok] at hun1
          have hev := hun1.symm
          rw [Bool.and_eq_true, Bool.or_eq_true, decide_eq_true_eq, decide_eq_true_eq, decide_eq_true_eq] at hev
          rw [hsn]
          (repeat' (first
  | (apply W.gOn; exact rfl; exact rfl)
  | (apply W.qd; (first
    | (apply q_mv; (first|exact vD|exact vO|exact vP|exact vA|exact vF|exact vR|exact vN|exact vY|exact vT|exact vX))|(apply q_as; (first|exact vD|exact vO|exact vP|exact vA|exact vF|exact vR|exact vN|exact vY|exact vT|exact vX))|(apply q_fld_optF; exact rfl; exact rfl; exact rfl)|(apply q_ld_box; exact rfl; exact rfl; exact rfl; exact rfl)|(apply q_lss; exact rfl; exact rfl)|(apply q_eql; exact rfl; exact rfl)|(apply q_neq; exact rfl; exact rfl)|(apply q_add; exact rfl; exact rfl; omega)|(apply q_rem; exact rfl; exact rfl; omega; omega)|(apply q_len_bs; exact rfl; exact rfl)|(apply q_ld_map; exact rfl; exact rfl; exact rfl; (first | omega | (focus (simp; done))))|(apply q_ix_slF; exact rfl; exact rfl; exact rfl; exact rfl; (first | (with_reducible exact rfl) | exact natI_spec rfl | assumption | exact (Int.toNat_of_nonneg (by omega)).symm); (first | omega | (focus (simp only [List.length_map]; omega)) | (focus (simp; done)) | (focus (simp; omega))))|(apply (q_pickT (u := .d _)); exact rfl; exact rfl)
    | (apply (q_pickF (u := .d _)); exact rfl; exact rfl)))|(refine W.gOff _ _ rfl rfl (by intro h; cases h) ?_)|(apply AWP.seq)|(apply ACont_normal)|(apply W.region; kernel_rfl)|(apply Walk.nil)|(apply AWP.block)|(apply AWP.skip)|(apply ABlock_normal)|(apply W.condF; exact rfl)|(refine W.gT _ _ rfl rfl (fun hb => ?_) (fun hb => ?_) <;> ((try simp only [hb, Bool.not_true, Bool.not_false]) <;> (try simp only [decide_eq_true_eq, decide_eq_false_iff_not, Bool.not_eq_true', Bool.not_eq_false', Int.not_lt, Int.not_le, List.length_map, not_true_eq_false] at hb) <;> (try (exfalso; omega))))|(refine W.gF _ _ rfl rfl (fun hb => ?_) (fun hb => ?_) <;> ((try simp only [hb, Bool.not_true, Bool.not_false]) <;> (try simp only [decide_eq_true_eq, decide_eq_false_iff_not, Bool.not_eq_true', Bool.not_eq_false', Int.not_lt, Int.not_le, List.length_map, not_true_eq_false] at hb) <;> (try (exfalso; omega))))
  | (refine W.cond _ rfl (fun hb => ?_) (fun hb => ?_) <;> ((try simp only [hb, Bool.not_true, Bool.not_false]) <;> (try simp only [decide_eq_true_eq, decide_eq_false_iff_not, Bool.not_eq_true', Bool.not_eq_false', Int.not_lt, Int.not_le, List.length_map, not_true_eq_false] at hb) <;> (try (exfalso; omega))))))
          (all_goals (try (exfalso; exact absurd ((‹hv[i] = true› : hv[i] = true).symm.trans (‹hv[i] = false› : hv[i] = false)) (by decide))))
          all_goals refine ⟨i + 1, ⟨by omega, hok⟩, by omega, ?_⟩
          all_goals rw [hsz]
          all_goals exact ⟨[0], rfl, rfl, rfl, iV_eq (by omega), rfl, rfl, rfl, rfl, rfl, trivial⟩
        | false =>
          rw [hok] at hun1
          have hev := hun1.symm
          rw [Bool.and_eq_false_iff, Bool.or_eq_false_iff, decide_eq_false_iff_not, decide_eq_false_iff_not, decide_eq_false_iff_not] at hev
          have hfin := hp hok (us.length - (i + 1))
          rw [show i + 1 + (us.length - (i + 1)) = us.length by omega] at hfin
          rw [hfin, hsn]
          (repeat' (first
  | (apply W.gOn; exact rfl; exact rfl)
  | (apply W.qd; (first
    | (apply q_mv; (first|exact vD|exact vO|exact vP|exact vA|exact vF|exact vR|exact vN|exact vY|exact vT|exact vX))|(apply q_as; (first|exact vD|exact vO|exact vP|exact vA|exact vF|exact vR|exact vN|exact vY|exact vT|exact vX))|(apply q_fld_optF; exact rfl; exact rfl; exact rfl)|(apply q_ld_box; exact rfl; exact rfl; exact rfl; exact rfl)|(apply q_lss; exact rfl; exact rfl)|(apply q_eql; exact rfl; exact rfl)|(apply q_neq; exact rfl; exact rfl)|(apply q_add; exact rfl; exact rfl; omega)|(apply q_rem; exact rfl; exact rfl; omega; omega)|(apply q_len_bs; exact rfl; exact rfl)|(apply q_ld_map; exact rfl; exact rfl; exact rfl; (first | omega | (focus (simp; done))))|(apply q_ix_slF; exact rfl; exact rfl; exact rfl; exact rfl; (first | (with_reducible exact rfl) | exact natI_spec rfl | assumption | exact (Int.toNat_of_nonneg (by omega)).symm); (first | omega | (focus (simp only [List.length_map]; omega)) | (focus (simp; done)) | (focus (simp; omega))))|(apply (q_pickT (u := .d _)); exact rfl; exact rfl)
    | (apply (q_pickF (u := .d _)); exact rfl; exact rfl)))|(refine W.gOff _ _ rfl rfl (by intro h; cases h) ?_)|(apply AWP.seq)|(apply ACont_normal)|(apply W.region; kernel_rfl)|(apply Walk.nil)|(apply AWP.block)|(apply AWP.skip)|(apply AWP.ret)|(apply ACont_ret)|(apply ABlock_normal)|(apply ABlock_ret)|(apply W.condT; exact rfl)|(apply W.condF; exact rfl)|(refine W.gT _ _ rfl rfl (fun hb => ?_) (fun hb => ?_) <;> ((try simp only [hb, Bool.not_true, Bool.not_false]) <;> (try simp only [decide_eq_true_eq, decide_eq_false_iff_not, Bool.not_eq_true', Bool.not_eq_false', Int.not_lt, Int.not_le, List.length_map, not_true_eq_false] at hb) <;> (try (exfalso; omega))))|(refine W.gF _ _ rfl rfl (fun hb => ?_) (fun hb => ?_) <;> ((try simp only [hb, Bool.not_true, Bool.not_false]) <;> (try simp only [decide_eq_true_eq, decide_eq_false_iff_not, Bool.not_eq_true', Bool.not_eq_false', Int.not_lt, Int.not_le, List.length_map, not_true_eq_false] at hb) <;> (try (exfalso; omega))))
  | (refine W.cond _ rfl (fun hb => ?_) (fun hb => ?_) <;> ((try simp only [hb, Bool.not_true, Bool.not_false]) <;> (try simp only [decide_eq_true_eq, decide_eq_false_iff_not, Bool.not_eq_true', Bool.not_eq_false', Int.not_lt, Int.not_le, List.length_map, not_true_eq_false] at hb) <;> (try (exfalso; omega))))))
          (all_goals (try (exfalso; exact absurd ((‹hv[i] = true› : hv[i] = true).symm.trans (‹hv[i] = false› : hv[i] = false)) (by decide))))
          all_goals exact ⟨.inl rfl, [], [bV false], rfl, rfl, ⟨rfl, trivial⟩, AVle.of_eq rfl, rfl⟩
  · have hi2 := hi.2
    rw [show i = us.length by omega] at hi2
    rw [hi2]
    clear hsucc hpre
    (repeat' (first
  | (apply W.qd; (first
    | (apply q_mv; (first|exact vD|exact vO|exact vP|exact vA|exact vF|exact vR|exact vN|exact vY|exact vT|exact vX))|(apply q_as; (first|exact vD|exact vO|exact vP|exact vA|exact vF|exact vR|exact vN|exact vY|exact vT|exact vX))
    | (apply q_lss; exact rfl; exact rfl)))|(apply AWP.seq)|(apply ACont_normal)|(apply W.region; kernel_rfl)|(apply Walk.nil)|(apply AWP.exit)|(apply AWP.ret)|(apply ACont_exit)|(apply ABlock_exit)
  | (refine W.cond _ rfl (fun hb => ?_) (fun hb => ?_) <;> ((try simp only [hb, Bool.not_true, Bool.not_false]) <;> (try simp only [decide_eq_true_eq, decide_eq_false_iff_not, Bool.not_eq_true', Bool.not_eq_false', Int.not_lt, Int.not_le, List.length_map, not_true_eq_false] at hb) <;> (try (exfalso; omega))))))
    exact ⟨.inl rfl, [], [bV true], rfl, rfl, ⟨rfl, trivial⟩, AVle.of_eq rfl, rfl⟩
theorem A_erec1 {M D u : Int} {par : List (List Int)} {us : List (List Nat)} {hv : List Bool} (hf : ACalls Tryd.prog 59 [cdA M D par, strs us, bools hv] [] (bV false) []) : ACalls Tryd.prog 36 [cdA M D par, strs us, bools hv, iV u] [] (.tup [bS [], iV 1]) [] := by
  refine acalls_of_bodyO Tryd.func36 rfl (Nat.le_of_ble_eq_true rfl) ?_
  (repeat' (first
  | (apply W.qd; (first
    | (apply (q_callC (hf)); exact rfl; exact rfl; kernel_rfl; kernel_rfl; kernel_rfl)|(apply q_mv; (first|exact vD|exact vO|exact vP|exact vA|exact vF|exact vR|exact vN|exact vY|exact vT|exact vX))|(apply q_as; (first|exact vD|exact vO|exact vP|exact vA|exact vF|exact vR|exact vN|exact vY|exact vT|exact vX))|(apply q_ld_boxF; exact rfl; exact rfl; exact rfl; exact rfl)
    | (apply q_not; exact rfl)))|(apply W.ed; (apply e_boxF; exact rfl; exact rfl; exact rfl; kernel_rfl; kernel_rfl))|(apply AWP.seq)|(apply ACont_normal)|(apply W.region; kernel_rfl)|(apply Walk.nil)|(apply AWP.ret)|(apply ACont_ret)
  | (apply W.condT; exact rfl)))
  all_goals exact ⟨.inl rfl, [], [bS [], iV 1], rfl, rfl, ⟨rfl, rfl, trivial⟩, AVle.of_eq rfl, rfl⟩
theorem A_r8rec1 {M D u : Int} {par : List (List Int)} {us : List (List Nat)} {hv : List Bool} (hf : ACalls Tryd.prog 61 [cdA M D par, strs us, bools hv] [] (bV false) []) : ACalls Tryd.prog 37 [cdA M D par, strs us, bools hv, iV u] [] (.tup [bS [], iV 1]) [] := by
  refine acalls_of_bodyO Tryd.func37 rfl (Nat.le_of_ble_eq_true rfl) ?_
  (repeat' (first
  | (apply W.qd; (first
    | (apply (q_callC (hf)); exact rfl; exact rfl; kernel_rfl; kernel_rfl; kernel_rfl)|(apply q_mv; (first|exact vD|exact vO|exact vP|exact vA|exact vF|exact vR|exact vN|exact vY|exact vT|exact vX))|(apply q_as; (first|exact vD|exact vO|exact vP|exact vA|exact vF|exact vR|exact vN|exact vY|exact vT|exact vX))|(apply q_ld_boxF; exact rfl; exact rfl; exact rfl; exact rfl)
    | (apply q_not; exact rfl)))|(apply W.ed; (apply e_boxF; exact rfl; exact rfl; exact rfl; kernel_rfl; kernel_rfl))|(apply AWP.seq)|(apply ACont_normal)|(apply W.region; kernel_rfl)|(apply Walk.nil)|(apply AWP.ret)|(apply ACont_ret)
  | (apply W.condT; exact rfl)))
  all_goals exact ⟨.inl rfl, [], [bS [], iV 1], rfl, rfl, ⟨rfl, rfl, trivial⟩, AVle.of_eq rfl, rfl⟩
theorem A_edec1 {M D : Int} {par : List (List Int)} {us : List (List Nat)} {hv : List Bool} (hf : ACalls Tryd.prog 59 [cdA M D par, strs us, bools hv] [] (bV false) []) : ACalls Tryd.prog 38 [cdA M D par, strs us, bools hv] [] (.tup [strs [], iV 1]) [] := by
  refine acalls_of_bodyO Tryd.func38 rfl (Nat.le_of_ble_eq_true rfl) ?_
  (repeat' (first
  | (apply W.qd; (first
    | (apply (q_callC (hf)); exact rfl; exact rfl; kernel_rfl; kernel_rfl; kernel_rfl)|(apply q_mv; (first|exact vD|exact vO|exact vP|exact vA|exact vF|exact vR|exact vN|exact vY|exact vT|exact vX))|(apply q_as; (first|exact vD|exact vO|exact vP|exact vA|exact vF|exact vR|exact vN|exact vY|exact vT|exact vX))|(apply q_ld_boxF; exact rfl; exact rfl; exact rfl; exact rfl)
    | (apply q_not; exact rfl)))|(apply W.ed; (apply e_boxF; exact rfl; exact rfl; exact rfl; kernel_rfl; kernel_rfl))|(apply AWP.seq)|(apply ACont_normal)|(apply W.region; kernel_rfl)|(apply Walk.nil)|(apply AWP.ret)|(apply ACont_ret)
  | (apply W.condT; exact rfl)))
  all_goals exact EndsO.bad2 rfl rfl rfl rfl
theorem A_r8dec1 {M D : Int} {par : List (List Int)} {us : List (List Nat)} {hv : List Bool} (hf : ACalls Tryd.prog 61 [cdA M D par, strs us, bools hv] [] (bV false) []) : ACalls Tryd.prog 39 [cdA M D par, strs us, bools hv] [] (.tup [strs [], iV 1]) [] := by
  refine acalls_of_bodyO Tryd.func39 rfl (Nat.le_of_ble_eq_true rfl) ?_
  (repeat' (first
  | (apply W.qd; (first
    | (apply (q_callC (hf)); exact rfl; exact rfl; kernel_rfl; kernel_rfl; kernel_rfl)|(apply q_mv; (first|exact vD|exact vO|exact vP|exact vA|exact vF|exact vR|exact vN|exact vY|exact vT|exact vX))|(apply q_as; (first|exact vD|exact vO|exact vP|exact vA|exact vF|exact vR|exact vN|exact vY|exact vT|exact vX))|(apply q_ld_boxF; exact rfl; exact rfl; exact rfl; exact rfl)
    | (apply q_not; exact rfl)))|(apply W.ed; (apply e_boxF; exact rfl; exact rfl; exact rfl; kernel_rfl; kernel_rfl))|(apply AWP.seq)|(apply ACont_normal)|(apply W.region; kernel_rfl)|(apply Walk.nil)|(apply AWP.ret)|(apply ACont_ret)
  | (apply W.condT; exact rfl)))
  all_goals exact EndsO.bad2 rfl rfl rfl rfl
theorem A_erec2 {M D u e : Int} {par : List (List Int)} {us : List (List Nat)} {hv : List Bool} {l : List (Nat × Nat)} (hf : ACalls Tryd.prog 59 [cdA M D par, strs us, bools hv] [] (bV true) []) (hc : ACalls Tryd.prog 25 [cdA M D par, bools hv, iV u] [] (.tup [tmsA l, iV e]) []) (he : e ≠ 0) : ACalls Tryd.prog 36 [cdA M D par, strs us, bools hv, iV u] [] (.tup [bS [], iV e]) [] := by
  refine acalls_of_bodyO Tryd.func36 rfl (Nat.le_of_ble_eq_true rfl) ?_
  (repeat' (first
  | (apply W.qd; (first
    | (apply (q_callC (hf)); exact rfl; exact rfl; kernel_rfl; kernel_rfl; kernel_rfl)|(apply (q_callC (hc)); exact rfl; exact rfl; kernel_rfl; kernel_rfl; kernel_rfl)|(apply q_mv; (first|exact vD|exact vO|exact vP|exact vA|exact vF|exact vR|exact vN|exact vY|exact vT|exact vX))|(apply q_as; (first|exact vD|exact vO|exact vP|exact vA|exact vF|exact vR|exact vN|exact vY|exact vT|exact vX))|(apply q_ld_boxF; exact rfl; exact rfl; exact rfl; exact rfl)|(apply q_neq; exact rfl; exact rfl)|(apply q_not; exact rfl)
    | (apply q_extract; exact rfl; exact rfl)))|(apply W.ed; (apply e_boxF; exact rfl; exact rfl; exact rfl; kernel_rfl; kernel_rfl))|(apply AWP.seq)|(apply ACont_normal)|(apply W.region; kernel_rfl)|(apply Walk.nil)|(apply AWP.skip)|(apply AWP.ret)|(apply ACont_ret)|(apply W.condF; exact rfl)
  | (refine W.cond _ rfl (fun hb => ?_) (fun hb => ?_) <;> ((try simp only [hb, Bool.not_true, Bool.not_false]) <;> (try simp only [decide_eq_true_eq, decide_eq_false_iff_not, Bool.not_eq_true', Bool.not_eq_false', Int.not_lt, Int.not_le, List.length_map, not_true_eq_false] at hb) <;> (try (exfalso; omega))))))
  all_goals exact ⟨.inl rfl, [], [bS [], iV e], rfl, rfl, ⟨rfl, rfl, trivial⟩, AVle.of_eq rfl, rfl⟩
theorem A_r8rec2 {M D u e : Int} {par : List (List Int)} {us : List (List Nat)} {hv : List Bool} {l : List (Nat × Nat)} (hf : ACalls Tryd.prog 61 [cdA M D par, strs us, bools hv] [] (bV true) []) (hc : ACalls Tryd.prog 32 [cdA M D par, bools hv, iV u] [] (.tup [tmsA l, iV e]) []) (he : e ≠ 0) : ACalls Tryd.prog 37 [cdA M D par, strs us, bools hv, iV u] [] (.tup [bS [], iV e]) [] := by
  refine acalls_of_bodyO Tryd.func37 rfl (Nat.le_of_ble_eq_true rfl) ?_
  (repeat' (first
  | (apply W.qd; (first
    | (apply (q_callC (hf)); exact rfl; exact rfl; kernel_rfl; kernel_rfl; kernel_rfl)|(apply (q_callC (hc)); exact rfl; exact rfl; kernel_rfl; kernel_rfl; kernel_rfl)|(apply q_mv; (first|exact vD|exact vO|exact vP|exact vA|exact vF|exact vR|exact vN|exact vY|exact vT|exact vX))|(apply q_as; (first|exact vD|exact vO|exact vP|exact vA|exact vF|exact vR|exact vN|exact vY|exact vT|exact vX))|(apply q_ld_boxF; exact rfl; exact rfl; exact rfl; exact rfl)|(apply q_neq; exact rfl; exact rfl)|(apply q_not; exact rfl)
    | (apply q_extract; exact rfl; exact rfl)))|(apply W.ed; (apply e_boxF; exact rfl; exact rfl; exact rfl; kernel_rfl; kernel_rfl))|(apply AWP.seq)|(apply ACont_normal)|(apply W.region; kernel_rfl)|(apply Walk.nil)|(apply AWP.skip)|(apply AWP.ret)|(apply ACont_ret)|(apply W.condF; exact rfl)
  | (refine W.cond _ rfl (fun hb => ?_) (fun hb => ?_) <;> ((try simp only [hb, Bool.not_true, Bool.not_false]) <;> (try simp only [decide_eq_true_eq, decide_eq_false_iff_not, Bool.not_eq_true', Bool.not_eq_false', Int.not_lt, Int.not_le, List.length_map, not_true_eq_false] at hb) <;> (try (exfalso; omega))))))
  all_goals exact ⟨.inl rfl, [], [bS [], iV e], rfl, rfl, ⟨rfl, rfl, trivial⟩, AVle.of_eq rfl, rfl⟩
theorem A_r8rec3 {M D n u : Nat} {ps us : List (List Nat)} {hv : List Bool} {l : List (Nat × Nat)} (h : CodeOk M D ps) (hul : us.length ≤ 1000) (hf : ACalls Tryd.prog 61 [cdN M D ps, strs us, bools hv] [] (bV true) []) (hc : ACalls Tryd.prog 32 [cdN M D ps, bools hv, iV u] [] (.tup [tmsA l, iV 0]) []) (ht : TermsIn M n us l) (he : FitM M n) (hn : n ≤ 1000000) : ACalls Tryd.prog 37 [cdN M D ps, strs us, bools hv, iV u] [] (.tup [bS (sumN M n us l), iV 0]) [] := by
  refine acalls_of_bodyO Tryd.func37 rfl (Nat.le_of_ble_eq_true rfl) ?_
  have hmu : (us.map sD).length = us.length := List.length_map _
  have hml : (l.map tmD).length = l.length := List.length_map _
  have htp := ht.p
  have htl := ht.le
  have hmem := ht.t
  have hcb := A_rcombine (cs := l.map (·.2)) (us := l.map fun t => us.getD t.1 []) h.f he (by simp) (by rw [List.length_map]; exact htp) (fun c hc => by obtain ⟨t, h1, rfl⟩ := List.mem_map.1 hc; exact (hmem t h1).2.1) (fun x hx => by obtain ⟨t, h1, rfl⟩ := List.mem_map.1 hx; exact (hmem t h1).2.2) hn (by rw [List.length_map]; omega)
  have hsum : sumN M n us l = combM M n (l.map (·.2)) (l.map fun t => us.getD t.1 []) (List.replicate n 0) := rfl
  rw [← hsum] at hcb
  generalize sumN M n us l = S at *
  (repeat' (first
  | (apply W.qd; (first
    | (apply (q_callC (hf)); exact rfl; exact rfl; kernel_rfl; kernel_rfl; kernel_rfl)|(apply (q_callC (hc)); exact rfl; exact rfl; kernel_rfl; kernel_rfl; kernel_rfl)|(apply q_mv; (first|exact vD|exact vO|exact vP|exact vA|exact vF|exact vR|exact vN|exact vY|exact vT|exact vX))|(apply q_as; (first|exact vD|exact vO|exact vP|exact vA|exact vF|exact vR|exact vN|exact vY|exact vT|exact vX))|(apply q_ld_boxF; exact rfl; exact rfl; exact rfl; exact rfl)|(apply q_neq; exact rfl; exact rfl)|(apply q_not; exact rfl)
    | (apply q_extract; exact rfl; exact rfl)))|(apply W.ed; (apply e_boxF; exact rfl; exact rfl; exact rfl; kernel_rfl; kernel_rfl))|(apply AWP.seq)|(apply ACont_normal)|(apply (W.regionS 9); exact rfl; kernel_rfl)|(apply Walk.nil)|(apply AWP.skip)
  | (apply W.condF; exact rfl)))
  refine AWP.nilRow 13 1 3 rfl (by omega) ?_
  refine AWP.nilRow 14 1 9 rfl (by omega) ?_
  (repeat' (first
  | (apply W.qd; (apply q_as; (first|exact vD|exact vO|exact vP|exact vA|exact vF|exact vR|exact vN|exact vY|exact vT|exact vX)))|(apply ACont_normal)|(apply (W.regionS 10); exact rfl; kernel_rfl)|(apply Walk.nil)
  | (apply AWP.block)))
  refine AWP.loopW (α := Nat) (fun k => k ≤ l.length) (fun k => ⟨[(15, iV k), (11, tmsA l), (13, .osl 1 k 0 ((l.take k).map (·.2)).length), (14, .osl 2 k 0 ((l.take k).map fun t => us.getD t.1 []).length), (1, strs us), (4, .opt 0 0)], [.box [.d .any, iV M, iV D, rowsN ps, .d .any], .row k 1 3 (((l.take k).map (·.2)).map kD), .row k 1 9 (((l.take k).map fun t => us.getD t.1 []).map sD)]⟩) (fun k => l.length - k) 0 (Nat.zero_le _) ⟨[0, 1, 2], rfl, rfl, rfl, by (repeat (first | exact trivial | refine ⟨rfl, ?_⟩))⟩ fun k hk => ?_
  have hl1 : ((l.take k).map (·.2)).length ≤ 1024 := by simp; omega
  have hl2 : ((l.take k).map fun t => us.getD t.1 []).length ≤ 1024 := by simp; omega
  by_cases hkl : k < l.length
  · have hx := (hmem _ (List.getElem_mem hkl)).1
    have e1 : (l.take (k + 1)).map (·.2) = (l.take k).map (·.2) ++ [l[k].2] := by rw [List.take_succ_eq_append_getElem hkl, List.map_append]; rfl
    have e2 : ((l.take (k + 1)).map fun t => us.getD t.1 []) = ((l.take k).map fun t => us.getD t.1 []) ++ [us[l[k].1]] := by
      rw [List.take_succ_eq_append_getElem hkl, List.map_append]
      simp [List.getD_eq_getElem?_getD, hx]
    replace e1 := Lib.hid e1
    replace e2 := Lib.hid e2
    clear hcb hmem hsum
    generalize (l.take k).map (·.2) = A at *
    generalize ((l.take k).map fun t => us.getD t.1 []) = B at *
    (repeat' (first
  | (apply W.qd; (first
    | (apply q_mv; (first|exact vD|exact vO|exact vP|exact vA|exact vF|exact vR|exact vN|exact vY|exact vT|exact vX))|(apply q_as; (first|exact vD|exact vO|exact vP|exact vA|exact vF|exact vR|exact vN|exact vY|exact vT|exact vX))|(apply q_lss; exact rfl; exact rfl)|(apply q_add; exact rfl; exact rfl; omega)|(apply q_len_sl; exact rfl; exact rfl)|(apply q_ld_map; exact rfl; exact rfl; exact rfl; (first | omega | (focus (simp; done))))|(apply q_fld_fptF; exact rfl; exact rfl; exact rfl)|(apply q_litF; exact rfl; exact rfl; exact rfl; exact rfl; exact rfl; kernel_rfl; kernel_rfl; exact rfl)
    | (apply q_ix_slF; exact rfl; exact rfl; exact rfl; exact rfl; (first | (with_reducible exact rfl) | exact natI_spec rfl | assumption | exact (Int.toNat_of_nonneg (by omega)).symm); (first | omega | (focus (simp only [List.length_map]; omega)) | (focus (simp; done)) | (focus (simp; omega))))))|(apply W.ld; (apply l_app1; exact rfl; exact rfl; exact rfl; exact rfl; exact rfl; exact rfl; exact rfl; exact rfl; (first | omega | (focus (simp; omega)) | (focus (simp; done)))))|(apply AWP.seq)|(apply ACont_normal)|(apply W.region; kernel_rfl)|(apply Walk.nil)|(apply AWP.block)|(apply AWP.skip)|(apply ABlock_normal)
  | (refine W.cond _ rfl (fun hb => ?_) (fun hb => ?_) <;> ((try simp only [hb, Bool.not_true, Bool.not_false]) <;> (try simp only [decide_eq_true_eq, decide_eq_false_iff_not, Bool.not_eq_true', Bool.not_eq_false', Int.not_lt, Int.not_le, List.length_map, not_true_eq_false] at hb) <;> (try (exfalso; omega))))))
    refine ⟨k + 1, by omega, by omega, ?_⟩
    rw [e1.out, e2.out]
    exact ⟨[0, 1, 2], rfl, rfl, rfl, iV_eq (by omega), rfl, rfl, rfl, rfl, rfl, trivial⟩
  · have hkl' : k = l.length := by omega
    subst hkl'
    rw [List.take_length] at hl1 hl2 ⊢
    clear hmem hsum
    generalize l.map (·.2) = A at *
    generalize (l.map fun t => us.getD t.1 []) = B at *
    refine AWP.wk ⟨[(15, iV l.length), (11, tmsA l), (13, nats A), (14, strs B), (4, .opt 0 0)], [.box [.d .any, iV M, iV D, rowsN ps, .d .any]]⟩ ⟨[0], rfl, rfl, rfl, rfl, rfl, (frz_rowJ rfl rfl (by simp)).symm, (frz_rowJ rfl rfl (by simp)).symm, rfl, trivial⟩ ?_
    (repeat' (first
  | (apply W.qd; (first
    | (apply (q_callC (hcb)); exact rfl; exact rfl; kernel_rfl; kernel_rfl; kernel_rfl)|(apply q_mv; (first|exact vD|exact vO|exact vP|exact vA|exact vF|exact vR|exact vN|exact vY|exact vT|exact vX))|(apply q_as; (first|exact vD|exact vO|exact vP|exact vA|exact vF|exact vR|exact vN|exact vY|exact vT|exact vX))|(apply q_fld_optF; exact rfl; exact rfl; exact rfl)|(apply q_ld_box; exact rfl; exact rfl; exact rfl; exact rfl)|(apply q_lss; exact rfl; exact rfl)|(apply q_extract; exact rfl; exact rfl)
    | (apply q_len_sl; exact rfl; exact rfl)))|(apply AWP.seq)|(apply ACont_normal)|(apply W.region; kernel_rfl)|(apply Walk.nil)|(apply AWP.exit)|(apply AWP.ret)|(apply ACont_exit)|(apply ABlock_exit)
  | (refine W.cond _ rfl (fun hb => ?_) (fun hb => ?_) <;> ((try simp only [hb, Bool.not_true, Bool.not_false]) <;> (try simp only [decide_eq_true_eq, decide_eq_false_iff_not, Bool.not_eq_true', Bool.not_eq_false', Int.not_lt, Int.not_le, List.length_map, not_true_eq_false] at hb) <;> (try (exfalso; omega))))))
    exact ⟨.inl rfl, [], [bS S, iV 0], rfl, rfl, ⟨rfl, rfl, trivial⟩, AVle.of_eq rfl, rfl⟩
theorem A_r8decode {M D n q : Nat} {ps us : List (List Nat)} {hv : List Bool} {ls : Nat → List (Nat × Nat)} (h : CodeOk M D ps) (hul : us.length = D + ps.length) (hf : ACalls Tryd.prog 61 [cdN M D ps, strs us, bools hv] [] (bV true) []) (hq : q ≤ D + ps.length)
    (hc : ∀ i, i < q → ACalls Tryd.prog 37 [cdN M D ps, strs us, bools hv, iV i] [] (.tup [bS (sumN M n us (ls i)), iV 0]) []) (hc2 : q < D + ps.length → ACalls Tryd.prog 37 [cdN M D ps, strs us, bools hv, iV q] [] (.tup [bS [], iV 11]) []) : ACalls Tryd.prog 39 [cdN M D ps, strs us, bools hv] [] (decR M n us ls (D + ps.length) q) [] := by
  refine acalls_of_bodyO Tryd.func39 rfl (Nat.le_of_ble_eq_true rfl) ?_
  have h2 := h.w
  have hmu : (us.map sD).length = us.length := List.length_map _
  (repeat' (first
  | (apply W.qd; (first
    | (apply (q_callC (hf)); exact rfl; exact rfl; kernel_rfl; kernel_rfl; kernel_rfl)|(apply q_mv; (first|exact vD|exact vO|exact vP|exact vA|exact vF|exact vR|exact vN|exact vY|exact vT|exact vX))|(apply q_as; (first|exact vD|exact vO|exact vP|exact vA|exact vF|exact vR|exact vN|exact vY|exact vT|exact vX))|(apply q_ld_boxF; exact rfl; exact rfl; exact rfl; exact rfl)
    | (apply q_not; exact rfl)))|(apply W.ed; (apply e_boxF; exact rfl; exact rfl; exact rfl; kernel_rfl; kernel_rfl))|(apply AWP.seq)|(apply ACont_normal)|(apply (W.regionS 5); exact rfl; kernel_rfl)|(apply Walk.nil)|(apply AWP.skip)
  | (apply W.condF; exact rfl)))
  refine AWP.nilRow 9 1 9 rfl (by omega) ?_
  (repeat' (first
  | (apply W.qd; (apply q_as; (first|exact vD|exact vO|exact vP|exact vA|exact vF|exact vR|exact vN|exact vY|exact vT|exact vX)))|(apply ACont_normal)|(apply (W.regionS 6); exact rfl; kernel_rfl)|(apply Walk.nil)
  | (apply AWP.block)))
  refine AWP.loopW (α := Nat) (fun k => k ≤ q) (fun k => ⟨[(10, iV k), (9, .osl 1 k 0 ((List.range k).map fun i => sumN M n us (ls i)).length), (1, strs us), (2, bools hv), (3, .opt 0 0)], [.box [.d .any, iV M, iV D, rowsN ps, .d .any], .row k 1 9 (((List.range k).map fun i => sumN M n us (ls i)).map sD)]⟩) (fun k => q - k) 0 (Nat.zero_le _) ⟨[0, 1], rfl, rfl, rfl, by (repeat (first | exact trivial | refine ⟨rfl, ?_⟩))⟩ fun k hk => ?_
  have hl2 : ((List.range k).map (fun i => sumN M n us (ls i))).length ≤ 1024 := by simp; omega
  by_cases hkq : k < q
  · have hr := hc k hkq
    have hs : (List.range (k + 1)).map (fun i => sumN M n us (ls i)) = (List.range k).map (fun i => sumN M n us (ls i)) ++ [sumN M n us (ls k)] := by
      rw [List.range_succ, List.map_append]; rfl
    replace hs := Lib.hid hs
    clear hc hc2
    generalize sumN M n us (ls k) = R at *
    generalize (List.range k).map (fun i => sumN M n us (ls i)) = A at *
    (repeat' (first
  | (apply W.qd; (first
    | (apply (q_callC (hr)); exact rfl; exact rfl; kernel_rfl; kernel_rfl; kernel_rfl)|(apply q_mv; (first|exact vD|exact vO|exact vP|exact vA|exact vF|exact vR|exact vN|exact vY|exact vT|exact vX))|(apply q_as; (first|exact vD|exact vO|exact vP|exact vA|exact vF|exact vR|exact vN|exact vY|exact vT|exact vX))|(apply q_ld_boxF; exact rfl; exact rfl; exact rfl; exact rfl)|(apply q_lss; exact rfl; exact rfl)|(apply q_neq; exact rfl; exact rfl)|(apply q_add; exact rfl; exact rfl; omega)|(apply q_extract; exact rfl; exact rfl)|(apply q_len_sl; exact rfl; exact rfl)
    | (apply q_litF; exact rfl; exact rfl; exact rfl; exact rfl; exact rfl; kernel_rfl; kernel_rfl; exact rfl)))|(apply W.ld; (apply l_app1; exact rfl; exact rfl; exact rfl; exact rfl; exact rfl; exact rfl; exact rfl; exact rfl; (first | omega | (focus (simp; omega)) | (focus (simp; done)))))|(apply AWP.seq)|(apply ACont_normal)|(apply W.region; kernel_rfl)|(apply Walk.nil)|(apply AWP.block)|(apply AWP.skip)|(apply ABlock_normal)|(apply W.condF; exact rfl)
  | (refine W.cond _ rfl (fun hb => ?_) (fun hb => ?_) <;> ((try simp only [hb, Bool.not_true, Bool.not_false]) <;> (try simp only [decide_eq_true_eq, decide_eq_false_iff_not, Bool.not_eq_true', Bool.not_eq_false', Int.not_lt, Int.not_le, List.length_map, not_true_eq_false] at hb) <;> (try (exfalso; omega))))))
    refine ⟨k + 1, by omega, by omega, ?_⟩
    rw [hs.out]
    exact ⟨[0, 1], rfl, rfl, rfl, iV_eq (by omega), rfl, rfl, rfl, rfl, trivial⟩
  · have e : k = q := by omega
    subst e
    by_cases hkW : k < D + ps.length
    · have hr := hc2 hkW
      clear hc hc2
      have hd : decR M n us ls (D + ps.length) k = .tup [strs [], iV 11] := if_pos hkW
      rw [hd]
      generalize (List.range k).map (fun i => sumN M n us (ls i)) = A at *
      (repeat' (first
  | (apply W.qd; (first
    | (apply (q_callC (hr)); exact rfl; exact rfl; kernel_rfl; kernel_rfl; kernel_rfl)|(apply q_mv; (first|exact vD|exact vO|exact vP|exact vA|exact vF|exact vR|exact vN|exact vY|exact vT|exact vX))|(apply q_as; (first|exact vD|exact vO|exact vP|exact vA|exact vF|exact vR|exact vN|exact vY|exact vT|exact vX))|(apply q_ld_boxF; exact rfl; exact rfl; exact rfl; exact rfl)|(apply q_lss; exact rfl; exact rfl)|(apply q_neq; exact rfl; exact rfl)|(apply q_extract; exact rfl; exact rfl)
    | (apply q_len_sl; exact rfl; exact rfl)))|(apply AWP.seq)|(apply ACont_normal)|(apply W.region; kernel_rfl)|(apply Walk.nil)|(apply AWP.block)|(apply AWP.skip)|(apply AWP.ret)|(apply ACont_ret)|(apply ABlock_ret)|(apply W.condT; exact rfl)
  | (refine W.cond _ rfl (fun hb => ?_) (fun hb => ?_) <;> ((try simp only [hb, Bool.not_true, Bool.not_false]) <;> (try simp only [decide_eq_true_eq, decide_eq_false_iff_not, Bool.not_eq_true', Bool.not_eq_false', Int.not_lt, Int.not_le, List.length_map, not_true_eq_false] at hb) <;> (try (exfalso; omega))))))
      exact EndsO.bad2 rfl rfl rfl rfl
    · have e : D + ps.length = k := by omega
      have hd : decR M n us ls (D + ps.length) k = .tup [strs ((List.range k).map fun i => sumN M n us (ls i)), iV 0] := by rw [decR, if_neg (by omega), e]
      rw [hd]
      clear hc hc2
      generalize (List.range k).map (fun i => sumN M n us (ls i)) = A at *
      (repeat' (first
  | (apply W.qd; (first
    | (apply q_mv; (first|exact vD|exact vO|exact vP|exact vA|exact vF|exact vR|exact vN|exact vY|exact vT|exact vX))|(apply q_as; (first|exact vD|exact vO|exact vP|exact vA|exact vF|exact vR|exact vN|exact vY|exact vT|exact vX))|(apply q_lss; exact rfl; exact rfl)
    | (apply q_len_sl; exact rfl; exact rfl)))|(apply AWP.seq)|(apply ACont_normal)|(apply W.region; kernel_rfl)|(apply Walk.nil)|(apply AWP.exit)|(apply AWP.ret)|(apply ACont_exit)|(apply ABlock_exit)
  | (refine W.cond _ rfl (fun hb => ?_) (fun hb => ?_) <;> ((try simp only [hb, Bool.not_true, Bool.not_false]) <;> (try simp only [decide_eq_true_eq, decide_eq_false_iff_not, Bool.not_eq_true', Bool.not_eq_false', Int.not_lt, Int.not_le, List.length_map, not_true_eq_false] at hb) <;> (try (exfalso; omega))))))
      exact ⟨.inl rfl, [], [.osl 1 k 0 A.length, iV 0], rfl, rfl, ⟨rfl, rfl, trivial⟩, AVle.tup2 (AVle.of_eq (frz_rowJ rfl rfl (by simp))) (AVle.of_eq rfl), rfl⟩
theorem sum_isB {M n : Nat} {us : List (List Nat)} {l : List (Nat × Nat)} (hM : FldM M) (he : FitM M n) (ht : TermsIn M n us l) : isB (sumN M n us l) :=
  (combM_ok hM he _ _ _ (fun c hc => by obtain ⟨t, h1, rfl⟩ := List.mem_map.1 hc; exact (ht.t t h1).2.1) (fun x hx => by obtain ⟨t, h1, rfl⟩ := List.mem_map.1 hx; exact (ht.t t h1).2.2.2) (isB_zero n) (by simp)).1
theorem rec2 {M D u : Int} {par : List (List Int)} {us : List (List Nat)} {hv : List Bool} (hp : CodeIn par) (hD : D ≤ 1000000) (hP : par.length ≤ 1000000) (hus : ∀ x ∈ us, isB x ∧ x.length ≤ 64) :
    ∃ (s : List Nat) (e : Int) (X : List (List Nat)) (f : Int), isB s ∧ (∀ x ∈ X, isB x) ∧ X.length ≤ 1000 ∧ ACalls Tryd.prog 36 [cdA M D par, strs us, bools hv, iV u] [] (.tup [bS s, iV e]) [] ∧ ACalls Tryd.prog 37 [cdA M D par, strs us, bools hv, iV u] [] (.tup [bS s, iV e]) [] ∧ ACalls Tryd.prog 38 [cdA M D par, strs us, bools hv] [] (.tup [strs X, iV f]) [] ∧ ACalls Tryd.prog 39 [cdA M D par, strs us, bools hv] [] (.tup [strs X, iV f]) [] := by
  by_cases hg : validC M D par = true ∧ (us.length : Int) = D + (par.length : Int) ∧ (hv.length : Int) = D + (par.length : Int)
  · obtain ⟨g1, g2, g3⟩ := hg
    obtain ⟨m, d, ps, rfl, rfl, rfl, hok⟩ := ok_valid g1
    have hpl : (toZ ps).length = ps.length := List.length_map _
    have hM := hok.f
    have hwd := hok.w
    rw [hpl] at g2 g3
    have hul : us.length = d + ps.length := by omega
    have hl : hv.length = d + ps.length := by omega
    have f1 := A_fit (us := us) (hv := hv) hok (by omega) (by omega) (fun x hx => by have := (hus x hx).2; omega)
    have f2 := A_r8fit hok hul hl (fun x hx => by have := (hus x hx).2; omega)
    rw [← cdN_A]
    cases hf : fitN m d ps us hv with
    | false =>
      rw [hf, cdN_A] at f1 f2
      rw [cdN_A]
      exact ⟨[], 1, [], 1, isB_nil, fun x hx => by simp at hx, Nat.zero_le _, A_erec1 f1, A_r8rec1 f2, A_edec1 f1, A_r8dec1 f2⟩
    | true =>
      rw [hf] at f1 f2
      obtain ⟨h1, h2⟩ := fit_head hM hf
      have hn : ((havU us hv us.length).headD []).length ≤ 1000000 := by
        cases hH : havU us hv us.length with
        | nil => simp
        | cons a r =>
          obtain ⟨i, i1, i2, i3⟩ := mem_havU.1 (show a ∈ havU us hv us.length by rw [hH]; simp)
          rw [List.getD_eq_getElem?_getD, List.getElem?_eq_getElem i1] at i3
          have := (hus _ (List.getElem_mem i1)).2
          show a.length ≤ _
          rw [i3]
          exact Nat.le_trans this (by omega)
      have hti := fun i (hi : i < d + ps.length) l => terms_fit (u := i) (l := l) hok hl hul hi (fun x hx => (hus x hx).1) hf
      generalize ((havU us hv us.length).headD []).length = n at *
      have hcomb := fun i (hi : i < d + ps.length) => A_comb hok hl hi
      have hrcomb := fun i (hi : i < d + ps.length) => A_r8comb hok hl hi
      obtain ⟨q, q1, q2, q3, _⟩ := first_none (combN m d ps hv) (d + ps.length)
      have hdec1 := A_decode (n := n) (q := q) (ls := fun i => (combN m d ps hv i).getD []) hok hul hl (fun x hx => by have := (hus x hx).2; omega) hf h1 hn q1 (fun i hi => by
        obtain ⟨l, hl2⟩ := Option.isSome_iff_exists.1 (q2 i hi)
        rw [hl2]; exact ⟨rfl, hti i (by omega) l hl2⟩) q3
      have hdec2 := A_r8decode (n := n) (q := q) (ls := fun i => (combN m d ps hv i).getD []) hok hul f2 q1 (fun i hi => by
        obtain ⟨l, hl2⟩ := Option.isSome_iff_exists.1 (q2 i hi)
        have hc := hrcomb i (by omega)
        rw [hl2] at hc ⊢
        exact A_r8rec3 hok (by omega) f2 hc (hti i (by omega) l hl2) h1 hn) (fun hq => by
        have hc := hrcomb q hq
        rw [q3 hq] at hc
        rw [cdN_A] at hc f2 ⊢
        exact A_r8rec2 (l := []) f2 hc (by omega))
      have hX : ∃ (X : List (List Nat)) (f : Int), (∀ x ∈ X, isB x) ∧ X.length ≤ 1000 ∧ decR m n us (fun i => (combN m d ps hv i).getD []) (d + ps.length) q = .tup [strs X, iV f] := by
        by_cases hq : q < d + ps.length
        · exact ⟨[], 11, fun x hx => by simp at hx, Nat.zero_le _, if_pos hq⟩
        · refine ⟨_, 0, fun x hx => ?_, ?_, if_neg hq⟩
          · obtain ⟨i, hi, rfl⟩ := List.mem_map.1 hx
            have hi2 := List.mem_range.1 hi
            obtain ⟨l, hl2⟩ := Option.isSome_iff_exists.1 (q2 i (by omega))
            show isB (sumN m n us ((combN m d ps hv i).getD []))
            rw [hl2]
            exact sum_isB hM h1 (hti i hi2 l hl2)
          · rw [List.length_map, List.length_range]; omega
      obtain ⟨X, f, x1, x2, x3⟩ := hX
      rw [x3] at hdec1 hdec2
      by_cases hu : 0 ≤ u ∧ u < hv.length
      · obtain ⟨k, rfl⟩ := Int.eq_ofNat_of_zero_le hu.1
        have hk : k < d + ps.length := by omega
        have c1 := hcomb k hk
        have c2 := hrcomb k hk
        cases hc : combN m d ps hv k with
        | none =>
          rw [hc] at c1 c2
          have r1 := A_recover_lost (u := k) hok (by omega) hl (fun x hx => by have := (hus x hx).2; omega) hf hk hc
          refine ⟨[], 11, X, f, isB_nil, x1, x2, r1, ?_, hdec1, hdec2⟩
          rw [cdN_A] at c2 f2 ⊢
          exact A_r8rec2 (l := []) f2 c2 (by omega)
        | some l =>
          rw [hc] at c2
          have ht := hti k hk l hc
          exact ⟨_, 0, X, f, sum_isB hM h1 ht, x1, x2, A_recover_ok hok (by omega) hl (fun x hx => by have := (hus x hx).2; omega) hf hk hc ht h1 hn, A_r8rec3 hok (by omega) f2 c2 ht h1 hn, hdec1, hdec2⟩
      · have hb : ¬ (validC (m : Int) (d : Int) (toZ ps) = true ∧ (hv.length : Int) = (d : Int) + ((toZ ps).length : Int) ∧ 0 ≤ u ∧ u < hv.length) := fun e => hu e.2.2
        have c1 := A_ecomb_bad hp hb
        have c2 := A_r8comb_bad (by omega) (by rw [hpl]; omega) hb
        refine ⟨[], 1, X, f, isB_nil, x1, x2, ?_, ?_, hdec1, hdec2⟩
        · rw [cdN_A] at f1 ⊢
          exact A_erec2 f1 c1 (by omega)
        · rw [cdN_A] at f2 ⊢
          exact A_r8rec2 f2 c2 (by omega)
  · have f1 := A_efit_bad (us := us) (hv := hv) hp hg
    have f2 := A_r8fit_bad (us := us) (hv := hv) hD hP hg
    exact ⟨[], 1, [], 1, isB_nil, fun x hx => by simp at hx, Nat.zero_le _, A_erec1 f1, A_r8rec1 f2, A_edec1 f1, A_r8dec1 f2⟩
theorem A_decMatches {M D u : Int} {par : List (List Int)} {us : List (List Nat)} {hv : List Bool} (hpar : ∀ r ∈ par, ∀ x ∈ r, x < 9223372036854775808) (hus : ∀ u ∈ us, isB u) (_hu : -9223372036854775808 ≤ u ∧ u < 9223372036854775808) :
    ACalls Tryd.prog 9 [.agg [.d .any, iV M, iV D, rowsA par, .d .any, strs us, bools hv, iV u]] [] (bV true) [] := by
  refine acalls_of_body Tryd.func9 rfl (Nat.le_of_ble_eq_true rfl) ?_
  have hca : CodeIn par := ⟨hpar⟩
  have hsan := A_sanity
  have hsm := A_small (M := M) (D := D) (par := par)
  have hfew := A_few (us := us)
  have hmh : (hv.map tD).length = hv.length := List.length_map _
  cases hS : smallB D par <;> rw [hS] at hsm
  · (repeat' (first
  | (apply W.qd; (first
    | (apply (q_callC (hsan)); exact rfl; exact rfl; kernel_rfl; kernel_rfl; kernel_rfl)|(apply (q_callC (hsm)); exact rfl; exact rfl; kernel_rfl; kernel_rfl; kernel_rfl)|(apply q_mv; (first|exact vD|exact vO|exact vP|exact vA|exact vF|exact vR|exact vN|exact vY|exact vT|exact vX))|(apply q_as; (first|exact vD|exact vO|exact vP|exact vA|exact vF|exact vR|exact vN|exact vY|exact vT|exact vX))|(apply q_fld_optF; exact rfl; exact rfl; exact rfl)|(apply q_ld_boxF; exact rfl; exact rfl; exact rfl; exact rfl)|(apply q_not; exact rfl)
    | (apply (q_pickT (u := .d _)); exact rfl; exact rfl)))|(apply W.ed; (apply e_boxF; exact rfl; exact rfl; exact rfl; kernel_rfl; kernel_rfl))|(refine W.gOff _ _ rfl rfl (by intro h; cases h) ?_)|(apply AWP.seq)|(apply ACont_normal)|(apply W.region; kernel_rfl)|(apply Walk.nil)|(apply AWP.ret)|(apply ACont_ret)
  | (apply W.condT; exact rfl)))
    all_goals exact Ends.b rfl rfl
  · cases hF : fewB us <;> rw [hF] at hfew
    · (repeat' (first
  | (apply W.gOn; exact rfl; exact rfl)
  | (apply W.qd; (first
    | (apply (q_callC (hsan)); exact rfl; exact rfl; kernel_rfl; kernel_rfl; kernel_rfl)|(apply (q_callC (hsm)); exact rfl; exact rfl; kernel_rfl; kernel_rfl; kernel_rfl)|(apply (q_callC (hfew)); exact rfl; exact rfl; kernel_rfl; kernel_rfl; kernel_rfl)|(apply q_mv; (first|exact vD|exact vO|exact vP|exact vA|exact vF|exact vR|exact vN|exact vY|exact vT|exact vX))|(apply q_as; (first|exact vD|exact vO|exact vP|exact vA|exact vF|exact vR|exact vN|exact vY|exact vT|exact vX))|(apply q_fld_optF; exact rfl; exact rfl; exact rfl)|(apply q_ld_box; exact rfl; exact rfl; exact rfl; exact rfl)|(apply q_ld_boxF; exact rfl; exact rfl; exact rfl; exact rfl)|(apply q_not; exact rfl)|(apply (q_pickT (u := .d _)); exact rfl; exact rfl)
    | (apply (q_pickF (u := .d _)); exact rfl; exact rfl)))|(apply W.ed; (apply e_boxF; exact rfl; exact rfl; exact rfl; kernel_rfl; kernel_rfl))|(refine W.gOff _ _ rfl rfl (by intro h; cases h) ?_)|(apply AWP.seq)|(apply ACont_normal)|(apply W.region; kernel_rfl)|(apply Walk.nil)|(apply AWP.ret)|(apply ACont_ret)
  | (apply W.condT; exact rfl)))
      all_goals exact Ends.b rfl rfl
    · unfold smallB at hS
      unfold fewB at hF
      simp only [Bool.and_eq_true, decide_eq_true_eq, List.all_eq_true] at hS hF
      by_cases h24 : hv.length ≤ 24
      · obtain ⟨s, e, X, f, hs, hX, hXl, r1, r2, d1, d2⟩ := rec2 (M := M) (D := D) (u := u) (par := par) (us := us) (hv := hv) hca (by omega) (by omega) (fun x hx => ⟨hus x hx, hF.2 x hx⟩)
        have s2 := A_same_texts (a := X) (b := X) hX hX (by omega) (by omega)
        rw [decide_eq_true rfl] at s2
        (repeat' (first
  | (apply W.gOn; exact rfl; exact rfl)
  | (apply W.qd; (first
    | (apply (q_callC (hsan)); exact rfl; exact rfl; kernel_rfl; kernel_rfl; kernel_rfl)|(apply (q_callC (hsm)); exact rfl; exact rfl; kernel_rfl; kernel_rfl; kernel_rfl)|(apply (q_callC (hfew)); exact rfl; exact rfl; kernel_rfl; kernel_rfl; kernel_rfl)|(apply (q_callC (r1)); exact rfl; exact rfl; kernel_rfl; kernel_rfl; kernel_rfl)|(apply (q_callC (r2)); exact rfl; exact rfl; kernel_rfl; kernel_rfl; kernel_rfl)|(apply (q_callC (d1)); exact rfl; exact rfl; kernel_rfl; kernel_rfl; kernel_rfl)|(apply (q_callC (d2)); exact rfl; exact rfl; kernel_rfl; kernel_rfl; kernel_rfl)|(apply (q_callC (s2)); exact rfl; exact rfl; kernel_rfl; kernel_rfl; kernel_rfl)|(apply q_mv; (first|exact vD|exact vO|exact vP|exact vA|exact vF|exact vR|exact vN|exact vY|exact vT|exact vX))|(apply q_as; (first|exact vD|exact vO|exact vP|exact vA|exact vF|exact vR|exact vN|exact vY|exact vT|exact vX))|(apply q_fld_optF; exact rfl; exact rfl; exact rfl)|(apply q_ld_box; exact rfl; exact rfl; exact rfl; exact rfl)|(apply q_ld_boxF; exact rfl; exact rfl; exact rfl; exact rfl)|(apply q_gtr; exact rfl; exact rfl)|(apply q_eql; exact rfl; exact rfl)|(apply q_not; exact rfl)|(apply q_extract; exact rfl; exact rfl)|(apply q_len_sl; exact rfl; exact rfl)|(apply (q_pickT (u := .d _)); exact rfl; exact rfl)|(apply (q_pickF (u := .d _)); exact rfl; exact rfl)
    | (apply q_eqlS; exact rfl; exact rfl; (first | assumption | exact isB_nil | exact isB_xor (by assumption) (by assumption)); (first | assumption | exact isB_nil | exact isB_xor (by assumption) (by assumption)))))|(apply W.ed; (apply e_boxF; exact rfl; exact rfl; exact rfl; kernel_rfl; kernel_rfl))|(apply AWP.seq)|(apply ACont_normal)|(apply W.region; kernel_rfl)|(apply Walk.nil)|(apply AWP.skip)|(apply AWP.ret)|(refine W.gT _ _ rfl rfl (fun hb => ?_) (fun hb => ?_) <;> ((try simp only [hb, Bool.not_true, Bool.not_false]) <;> (try simp only [decide_eq_true_eq, decide_eq_false_iff_not, Bool.not_eq_true', Bool.not_eq_false', Int.not_lt, Int.not_le, List.length_map, not_true_eq_false] at hb) <;> (try (exfalso; omega))))
  | (refine W.cond _ rfl (fun hb => ?_) (fun hb => ?_) <;> ((try simp only [hb, Bool.not_true, Bool.not_false]) <;> (try simp only [decide_eq_true_eq, decide_eq_false_iff_not, Bool.not_eq_true', Bool.not_eq_false', Int.not_lt, Int.not_le, List.length_map, not_true_eq_false] at hb) <;> (try (exfalso; omega))))))
        all_goals exact Ends.b rfl (by first | rfl | (simp; done))
      · (repeat' (first
  | (apply W.gOn; exact rfl; exact rfl)
  | (apply W.qd; (first
    | (apply (q_callC (hsan)); exact rfl; exact rfl; kernel_rfl; kernel_rfl; kernel_rfl)|(apply (q_callC (hsm)); exact rfl; exact rfl; kernel_rfl; kernel_rfl; kernel_rfl)|(apply (q_callC (hfew)); exact rfl; exact rfl; kernel_rfl; kernel_rfl; kernel_rfl)|(apply q_mv; (first|exact vD|exact vO|exact vP|exact vA|exact vF|exact vR|exact vN|exact vY|exact vT|exact vX))|(apply q_as; (first|exact vD|exact vO|exact vP|exact vA|exact vF|exact vR|exact vN|exact vY|exact vT|exact vX))|(apply q_fld_optF; exact rfl; exact rfl; exact rfl)|(apply q_ld_box; exact rfl; exact rfl; exact rfl; exact rfl)|(apply q_ld_boxF; exact rfl; exact rfl; exact rfl; exact rfl)|(apply q_gtr; exact rfl; exact rfl)|(apply q_not; exact rfl)|(apply q_len_sl; exact rfl; exact rfl)
    | (apply (q_pickF (u := .d _)); exact rfl; exact rfl)))|(apply W.ed; (apply e_boxF; exact rfl; exact rfl; exact rfl; kernel_rfl; kernel_rfl))|(apply AWP.seq)|(apply ACont_normal)|(apply W.region; kernel_rfl)|(apply Walk.nil)|(apply AWP.ret)|(apply ACont_ret)
  | (refine W.cond _ rfl (fun hb => ?_) (fun hb => ?_) <;> ((try simp only [hb, Bool.not_true, Bool.not_false]) <;> (try simp only [decide_eq_true_eq, decide_eq_false_iff_not, Bool.not_eq_true', Bool.not_eq_false', Int.not_lt, Int.not_le, List.length_map, not_true_eq_false] at hb) <;> (try (exfalso; omega))))))
        all_goals exact Ends.b rfl rfl
end Go.Proofs.YtjaipchlnnjaeaaDoor
end
