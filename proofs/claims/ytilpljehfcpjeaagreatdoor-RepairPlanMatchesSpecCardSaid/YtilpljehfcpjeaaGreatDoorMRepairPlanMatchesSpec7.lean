import Derived.Test.YtilpljehfcpjeaaGreatDoorMRepairPlanMatchesSpec6
/- Joined texts: Rp15 Rp16. -/
set_option linter.unusedVariables false
set_option linter.unusedSimpArgs false
section
/- The reference of layer 10 over the machine of abstract values: better, Plan. -/
namespace Go.Proofs.YtilpljehfcpjeaaGreatDoor
open Go.RowKit
set_option maxHeartbeats 4000000
set_option maxRecDepth 100000
theorem lexL_drop (k : Nat) (a b : List Nat) (h : a.take k = b.take k) (h1 : k ≤ a.length) (h2 : k ≤ b.length) : lexL a b = lexL (a.drop k) (b.drop k) := by
  rw [← cmpL_lt, ← cmpL_lt, cmpL_drop k a b h h1 h2]
theorem bestN_snoc (l : List (List (Nat × Nat))) (x : List (Nat × Nat)) : bestN (l ++ [x]) = some (match bestN l with | none => x | some m => if ltT x m then x else m) := by
  cases l with
  | nil => rfl
  | cons a l =>
    show some (minT a (l ++ [x])) = _
    unfold minT
    rw [List.foldl_append]; rfl
theorem fullC_take {oth : List Bool} {l : List Nat} {u k : Nat} (h : k < l.length) : fullC oth (l.take (k + 1)) u = (fullC oth (l.take k) u && (l[k] == u || oth.getD l[k] false)) := by
  unfold fullC
  rw [List.take_succ_eq_append_getElem h, List.all_append]
  simp
def planB (u : Nat) : Option (List (Nat × Nat)) → AV
  | some l => .tup [.agg [iV u, tmsA l], iV 0]
  | none => .tup [.agg [iV 0, .d (.v (.slice none 0 0))], iV 11]
theorem planB_le (u : Nat) (l : Option (List (Nat × Nat))) : AVle (planB u l) (planA u l) := by
  cases l with
  | none => exact pl0_le 11
  | some l => exact AVle.refl _
attribute [local irreducible] Quiet Eff OpOk AWPG ACont ABlock ACalls AGoto
theorem A_better {a b : List (Nat × Nat)} (ha : a.length ≤ 1000000) (hb : b.length ≤ 1000000) : ACalls Tryz.prog 37 [tmsA a, tmsA b] [] (bV (ltT a b)) [] := by
  refine acalls_of_bodyO Tryz.func37 rfl (Nat.le_of_ble_eq_true rfl) ?_
  have hma : (a.map tmD).length = a.length := List.length_map _
  have hmb : (b.map tmD).length = b.length := List.length_map _
  by_cases hl : a.length = b.length
  · have hlt : ltT a b = lexL (a.map (·.1)) (b.map (·.1)) := by
      unfold ltT
      rw [decide_eq_false (by omega), decide_eq_true hl]; simp
    rw [hlt]
    (repeat' (first
  | (apply W.qd; (first
    | (apply q_mv; (first|exact vD|exact vO|exact vP|exact vA|exact vF|exact vR|exact vN|exact vY|exact vT|exact vX))|(apply q_as; (first|exact vD|exact vO|exact vP|exact vA|exact vF|exact vR|exact vN|exact vY|exact vT|exact vX))|(apply q_neq; exact rfl; exact rfl)
    | (apply q_len_sl; exact rfl; exact rfl)))|(apply AWP.seq)|(apply ACont_normal)|(apply (W.regionS 4); exact rfl; kernel_rfl)|(apply Walk.nil)|(apply AWP.block)|(apply AWP.skip)
  | (refine W.cond _ rfl (fun hb => ?_) (fun hb => ?_) <;> ((try simp only [hb, Bool.not_true, Bool.not_false]) <;> (try simp only [decide_eq_true_eq, decide_eq_false_iff_not, Bool.not_eq_true', Bool.not_eq_false', Int.not_lt, Int.not_le, List.length_map, not_true_eq_false] at hb) <;> (try (exfalso; omega))))))
    refine AWP.loopW (α := Nat) (fun k => k ≤ a.length ∧ (a.map (·.1)).take k = (b.map (·.1)).take k) (fun k => ⟨[(5, iV k), (0, tmsA a), (1, tmsA b)], []⟩) (fun k => a.length - k) 0 ⟨Nat.zero_le _, rfl⟩ ⟨[], rfl, rfl, rfl, by (repeat (first | exact trivial | refine ⟨rfl, ?_⟩))⟩ fun k hk => ?_
    have hd := lexL_drop k (a.map (·.1)) (b.map (·.1)) hk.2 (by rw [List.length_map]; omega) (by rw [List.length_map]; omega)
    by_cases hka : k < a.length
    · have hkb : k < b.length := by omega
      have ea : (a.map (·.1)).drop k = a[k].1 :: (a.map (·.1)).drop (k + 1) := by rw [List.drop_eq_getElem_cons (by simpa using hka)]; simp
      have eb : (b.map (·.1)).drop k = b[k].1 :: (b.map (·.1)).drop (k + 1) := by rw [List.drop_eq_getElem_cons (by simpa using hkb)]; simp
      rw [ea, eb, lexL] at hd
      by_cases he : a[k].1 = b[k].1
      · (repeat' (first
  | (apply W.qd; (first
    | (apply q_mv; (first|exact vD|exact vO|exact vP|exact vA|exact vF|exact vR|exact vN|exact vY|exact vT|exact vX))|(apply q_as; (first|exact vD|exact vO|exact vP|exact vA|exact vF|exact vR|exact vN|exact vY|exact vT|exact vX))|(apply q_lss; exact rfl; exact rfl)|(apply q_neq; exact rfl; exact rfl)|(apply q_add; exact rfl; exact rfl; omega)|(apply q_len_sl; exact rfl; exact rfl)|(apply q_ld_map; exact rfl; exact rfl; exact rfl; (first | omega | (focus (simp; done))))|(apply q_fld_fptF; exact rfl; exact rfl; exact rfl)
    | (apply q_ix_slF; exact rfl; exact rfl; exact rfl; exact rfl; (first | (with_reducible exact rfl) | exact natI_spec rfl | assumption | exact (Int.toNat_of_nonneg (by omega)).symm); (first | omega | (focus (simp only [List.length_map]; omega)) | (focus (simp; done)) | (focus (simp; omega))))))|(apply AWP.seq)|(apply ACont_normal)|(apply W.region; kernel_rfl)|(apply W.regionD; exact rfl; kernel_rfl)|(apply Walk.nil)|(apply W.chk; kernel_rfl)|(apply AWP.block)|(apply AWP.skip)|(apply ABlock_normal)
  | (refine W.cond _ rfl (fun hb => ?_) (fun hb => ?_) <;> ((try simp only [hb, Bool.not_true, Bool.not_false]) <;> (try simp only [decide_eq_true_eq, decide_eq_false_iff_not, Bool.not_eq_true', Bool.not_eq_false', Int.not_lt, Int.not_le, List.length_map, not_true_eq_false] at hb) <;> (try (exfalso; omega))))))
        refine ⟨k + 1, ⟨by omega, ?_⟩, by omega, [], rfl, rfl, rfl, iV_eq (by omega), rfl, rfl, trivial⟩
        rw [List.take_succ_eq_append_getElem (by simpa using hka), List.take_succ_eq_append_getElem (by simpa using hkb), hk.2]
        simp [he]
      · rw [decide_eq_false he, Bool.false_and, Bool.or_false] at hd
        rw [hd]
        (repeat' (first
  | (apply W.qd; (first
    | (apply q_mv; (first|exact vD|exact vO|exact vP|exact vA|exact vF|exact vR|exact vN|exact vY|exact vT|exact vX))|(apply q_as; (first|exact vD|exact vO|exact vP|exact vA|exact vF|exact vR|exact vN|exact vY|exact vT|exact vX))|(apply q_lss; exact rfl; exact rfl)|(apply q_neq; exact rfl; exact rfl)|(apply q_len_sl; exact rfl; exact rfl)|(apply q_ld_map; exact rfl; exact rfl; exact rfl; (first | omega | (focus (simp; done))))|(apply q_fld_fptF; exact rfl; exact rfl; exact rfl)
    | (apply q_ix_slF; exact rfl; exact rfl; exact rfl; exact rfl; (first | (with_reducible exact rfl) | exact natI_spec rfl | assumption | exact (Int.toNat_of_nonneg (by omega)).symm); (first | omega | (focus (simp only [List.length_map]; omega)) | (focus (simp; done)) | (focus (simp; omega))))))|(apply AWP.seq)|(apply ACont_normal)|(apply W.region; kernel_rfl)|(apply W.regionD; exact rfl; kernel_rfl)|(apply Walk.nil)|(apply W.chk; kernel_rfl)|(apply AWP.block)|(apply AWP.skip)|(apply AWP.ret)|(apply ACont_ret)|(apply ABlock_ret)
  | (refine W.cond _ rfl (fun hb => ?_) (fun hb => ?_) <;> ((try simp only [hb, Bool.not_true, Bool.not_false]) <;> (try simp only [decide_eq_true_eq, decide_eq_false_iff_not, Bool.not_eq_true', Bool.not_eq_false', Int.not_lt, Int.not_le, List.length_map, not_true_eq_false] at hb) <;> (try (exfalso; omega))))))
        exact ⟨.inl rfl, [], [bV (decide ((a[k].1 : Int) < (b[k].1 : Int)))], rfl, rfl, ⟨rfl, trivial⟩, AVle.of_eq (congrArg bV (by rw [decide_eq_decide]; omega)), rfl⟩
    · rw [List.drop_eq_nil_of_le (by rw [List.length_map]; omega), List.drop_eq_nil_of_le (by rw [List.length_map]; omega), lexL] at hd
      rw [hd]
      (repeat' (first
  | (apply W.qd; (first
    | (apply q_mv; (first|exact vD|exact vO|exact vP|exact vA|exact vF|exact vR|exact vN|exact vY|exact vT|exact vX))|(apply q_as; (first|exact vD|exact vO|exact vP|exact vA|exact vF|exact vR|exact vN|exact vY|exact vT|exact vX))|(apply q_lss; exact rfl; exact rfl)
    | (apply q_len_sl; exact rfl; exact rfl)))|(apply AWP.seq)|(apply ACont_normal)|(apply W.region; kernel_rfl)|(apply Walk.nil)|(apply AWP.exit)|(apply AWP.ret)|(apply ACont_exit)|(apply ABlock_exit)
  | (refine W.cond _ rfl (fun hb => ?_) (fun hb => ?_) <;> ((try simp only [hb, Bool.not_true, Bool.not_false]) <;> (try simp only [decide_eq_true_eq, decide_eq_false_iff_not, Bool.not_eq_true', Bool.not_eq_false', Int.not_lt, Int.not_le, List.length_map, not_true_eq_false] at hb) <;> (try (exfalso; omega))))))
      exact ⟨.inl rfl, [], [bV false], rfl, rfl, ⟨rfl, trivial⟩, AVle.of_eq rfl, rfl⟩
  · have hlt : ltT a b = decide (a.length < b.length) := by
      unfold ltT
      rw [decide_eq_false hl]; simp
    rw [hlt]
    (repeat' (first
  | (apply W.qd; (first
    | (apply q_mv; (first|exact vD|exact vO|exact vP|exact vA|exact vF|exact vR|exact vN|exact vY|exact vT|exact vX))|(apply q_as; (first|exact vD|exact vO|exact vP|exact vA|exact vF|exact vR|exact vN|exact vY|exact vT|exact vX))|(apply q_lss; exact rfl; exact rfl)|(apply q_neq; exact rfl; exact rfl)
    | (apply q_len_sl; exact rfl; exact rfl)))|(apply AWP.seq)|(apply ACont_normal)|(apply W.region; kernel_rfl)|(apply Walk.nil)|(apply AWP.ret)|(apply ACont_ret)
  | (refine W.cond _ rfl (fun hb => ?_) (fun hb => ?_) <;> ((try simp only [hb, Bool.not_true, Bool.not_false]) <;> (try simp only [decide_eq_true_eq, decide_eq_false_iff_not, Bool.not_eq_true', Bool.not_eq_false', Int.not_lt, Int.not_le, List.length_map, not_true_eq_false] at hb) <;> (try (exfalso; omega))))))
    all_goals exact ⟨.inl rfl, [], [bV (decide (((a.map tmD).length : Int) < ((b.map tmD).length : Int)))], rfl, rfl, ⟨rfl, trivial⟩, AVle.of_eq (congrArg bV (by rw [hma, hmb, decide_eq_decide]; omega)), rfl⟩
theorem A_r10plan_bad {M D u : Int} {par : List (List Int)} {hv : List Bool} (hD : D ≤ 1000000) (hP : par.length ≤ 1000000) (h : ¬ (validC M D par = true ∧ (hv.length : Int) = D + (par.length : Int) ∧ 0 ≤ u ∧ u < hv.length)) : ACalls Tryz.prog 9 [cdA M D par, bools hv, iV u] [] (.tup [pl0, iV 1]) [] := by
  refine ACalls.leR (r := .tup [.agg [iV 0, .d (.v (.slice none 0 0))], iV 1]) ?_ (pl0_le 1)
  refine acalls_of_body Tryz.func9 rfl (Nat.le_of_ble_eq_true rfl) ?_
  have hmh : (hv.map tD).length = hv.length := List.length_map _
  have hw := A_r8width (M := M) hD hP
  cases hv0 : validC M D par with
  | false =>
    rw [hv0, if_neg (by decide)] at hw
    (repeat' (first
  | (apply W.qd; (first
    | (apply (q_callC (hw)); exact rfl; exact rfl; kernel_rfl; kernel_rfl; kernel_rfl)|(apply q_mv; (first|exact vD|exact vO|exact vP|exact vA|exact vF|exact vR|exact vN|exact vY|exact vT|exact vX))|(apply q_as; (first|exact vD|exact vO|exact vP|exact vA|exact vF|exact vR|exact vN|exact vY|exact vT|exact vX))|(apply q_ld_boxF; exact rfl; exact rfl; exact rfl; exact rfl)|(apply q_eql; exact rfl; exact rfl)|(apply q_buildF; exact rfl; exact rfl; kernel_rfl)
    | (apply (q_pickT (u := .d _)); exact rfl; exact rfl)))
  | (apply W.ed; (first
    | (apply e_boxF; exact rfl; exact rfl; exact rfl; kernel_rfl; kernel_rfl)
    | (apply e_allocF; exact rfl; exact rfl; exact rfl; kernel_rfl)))|(apply W.ln; (apply l_st_box; exact rfl; exact rfl; exact rfl; exact rfl; exact rfl; exact rfl; kernel_rfl; kernel_rfl; kernel_rfl))|(refine W.gOff _ _ rfl rfl (by intro h; cases h) ?_)|(apply AWP.seq)|(apply ACont_normal)|(apply W.region; kernel_rfl)|(apply Walk.nil)|(apply AWP.ret)|(apply ACont_ret)
  | (apply W.condT; exact rfl)))
    all_goals exact Ends.cell2 rfl rfl rfl rfl rfl
  | true =>
    rw [hv0, if_pos rfl] at hw
    by_cases hl : (hv.length : Int) = D + (par.length : Int)
    · rw [← hl] at hw
      have hu : ¬ (0 ≤ u ∧ u < hv.length) := fun e => h ⟨hv0, hl, e⟩
      (repeat' (first
  | (apply W.gOn; exact rfl; exact rfl)
  | (apply W.qd; (first
    | (apply (q_callC (hw)); exact rfl; exact rfl; kernel_rfl; kernel_rfl; kernel_rfl)|(apply q_mv; (first|exact vD|exact vO|exact vP|exact vA|exact vF|exact vR|exact vN|exact vY|exact vT|exact vX))|(apply q_as; (first|exact vD|exact vO|exact vP|exact vA|exact vF|exact vR|exact vN|exact vY|exact vT|exact vX))|(apply q_ld_boxF; exact rfl; exact rfl; exact rfl; exact rfl)|(apply q_lss; exact rfl; exact rfl)|(apply q_geq; exact rfl; exact rfl)|(apply q_eql; exact rfl; exact rfl)|(apply q_neq; exact rfl; exact rfl)|(apply q_len_sl; exact rfl; exact rfl)|(apply q_buildF; exact rfl; exact rfl; kernel_rfl)|(apply (q_pickT (u := .d _)); exact rfl; exact rfl)
    | (apply (q_pickF (u := .d _)); exact rfl; exact rfl)))
  | (apply W.ed; (first
    | (apply e_boxF; exact rfl; exact rfl; exact rfl; kernel_rfl; kernel_rfl)
    | (apply e_allocF; exact rfl; exact rfl; exact rfl; kernel_rfl)))|(apply W.ln; (apply l_st_box; exact rfl; exact rfl; exact rfl; exact rfl; exact rfl; exact rfl; kernel_rfl; kernel_rfl; kernel_rfl))|(refine W.gOff _ _ rfl rfl (by intro h; cases h) ?_)|(apply AWP.seq)|(apply ACont_normal)|(apply W.region; kernel_rfl)|(apply Walk.nil)|(apply AWP.ret)|(apply ACont_ret)|(apply W.condT; exact rfl)|(refine W.gF _ _ rfl rfl (fun hb => ?_) (fun hb => ?_) <;> ((try simp only [hb, Bool.not_true, Bool.not_false]) <;> (try simp only [decide_eq_true_eq, decide_eq_false_iff_not, Bool.not_eq_true', Bool.not_eq_false', Int.not_lt, Int.not_le, List.length_map, not_true_eq_false] at hb) <;> (try (exfalso; omega))))
  | (refine W.cond _ rfl (fun hb => ?_) (fun hb => ?_) <;> ((try simp only [hb, Bool.not_true, Bool.not_false]) <;> (try simp only [decide_eq_true_eq, decide_eq_false_iff_not, Bool.not_eq_true', Bool.not_eq_false', Int.not_lt, Int.not_le, List.length_map, not_true_eq_false] at hb) <;> (try (exfalso; omega))))))
      all_goals exact Ends.cell2 rfl rfl rfl rfl rfl
    · (repeat' (first
  | (apply W.gOn; exact rfl; exact rfl)
  | (apply W.qd; (first
    | (apply (q_callC (hw)); exact rfl; exact rfl; kernel_rfl; kernel_rfl; kernel_rfl)|(apply q_mv; (first|exact vD|exact vO|exact vP|exact vA|exact vF|exact vR|exact vN|exact vY|exact vT|exact vX))|(apply q_as; (first|exact vD|exact vO|exact vP|exact vA|exact vF|exact vR|exact vN|exact vY|exact vT|exact vX))|(apply q_ld_boxF; exact rfl; exact rfl; exact rfl; exact rfl)|(apply q_eql; exact rfl; exact rfl)|(apply q_neq; exact rfl; exact rfl)|(apply q_len_sl; exact rfl; exact rfl)|(apply q_buildF; exact rfl; exact rfl; kernel_rfl)|(apply (q_pickT (u := .d _)); exact rfl; exact rfl)
    | (apply (q_pickF (u := .d _)); exact rfl; exact rfl)))
  | (apply W.ed; (first
    | (apply e_boxF; exact rfl; exact rfl; exact rfl; kernel_rfl; kernel_rfl)
    | (apply e_allocF; exact rfl; exact rfl; exact rfl; kernel_rfl)))|(apply W.ln; (apply l_st_box; exact rfl; exact rfl; exact rfl; exact rfl; exact rfl; exact rfl; kernel_rfl; kernel_rfl; kernel_rfl))|(refine W.gOff _ _ rfl rfl (by intro h; cases h) ?_)|(apply AWP.seq)|(apply ACont_normal)|(apply W.region; kernel_rfl)|(apply Walk.nil)|(apply AWP.ret)|(apply ACont_ret)|(apply W.condT; exact rfl)
  | (refine W.gF _ _ rfl rfl (fun hb => ?_) (fun hb => ?_) <;> ((try simp only [hb, Bool.not_true, Bool.not_false]) <;> (try simp only [decide_eq_true_eq, decide_eq_false_iff_not, Bool.not_eq_true', Bool.not_eq_false', Int.not_lt, Int.not_le, List.length_map, not_true_eq_false] at hb) <;> (try (exfalso; omega))))))
      all_goals exact Ends.cell2 rfl rfl rfl rfl rfl
theorem A_r10plan {M D u : Nat} {ps : List (List Nat)} {hv : List Bool} (h : CodeOk M D ps) (hl : hv.length = D + ps.length) (hu : u < D + ps.length) : ACalls Tryz.prog 9 [cdN M D ps, bools hv, iV u] [] (planA u (planN M D ps hv u)) [] := by
  have hl2 : (hv.set u false).length = D + ps.length := by rw [List.length_set]; exact hl
  have h1 := h.d
  have h2 := h.w
  have hw := A_r8widthN h
  have hcomb := A_r8comb h hl2 hu
  have hchk := A_r10checks (u := (u : Int)) h
  rw [chkZ_nat] at hchk
  have hIlt : ∀ i ∈ chkI D ps u ps.length, i < ps.length ∧ u ∈ checkN D i (ps.getD i []) := fun i hi => by
    obtain ⟨q1, q2⟩ := List.mem_filter.1 hi
    exact ⟨List.mem_range.1 q1, by simpa using q2⟩
  have hIl : (chkI D ps u ps.length).length ≤ ps.length := by rw [← chkZ_nat]; exact chkZ_length _ _ _ _
  have hterm := fun i hi => A_r10terms h (hIlt i hi).1 (hIlt i hi).2
  have hcb := fun i => checkN_length D i (ps.getD i [])
  have hmem : ∀ i ∈ chkI D ps u ps.length, ∀ k ∈ checkN D i (ps.getD i []), k < D + ps.length := fun i hi k hk => (coef_ok h (hIlt i hi).1 hk).1
  have hcs := fun k (hk : k < (chkI D ps u ps.length).length) => Lib.hid (candC_take M D ps (hv.set u false) u (chkI D ps u ps.length) k hk)
  have hP : planN M D ps hv u = bestN ((combN M D ps (hv.set u false) u).toList ++ candC M D ps (hv.set u false) u ((chkI D ps u ps.length).take (chkI D ps u ps.length).length)) := by rw [List.take_length]; rfl
  have hc0 : candC M D ps (hv.set u false) u ((chkI D ps u ps.length).take 0) = [] := rfl
  have hall : ∀ k, ∀ x ∈ (combN M D ps (hv.set u false) u).toList ++ candC M D ps (hv.set u false) u ((chkI D ps u ps.length).take k), x.length ≤ 1000 := fun k x hx => by
    rcases List.mem_append.1 hx with hx | hx
    · cases hc : combN M D ps (hv.set u false) u with
      | none => rw [hc] at hx; simp at hx
      | some y =>
        rw [hc] at hx
        obtain rfl : x = y := by simpa using hx
        have := (comb_ok h hl2 hu hc).le
        have := basis_len h hl2
        omega
    · unfold candC at hx
      obtain ⟨i, _, rfl⟩ := List.mem_map.1 hx
      have := cterms_le M D (ps.getD i []) (checkN D i (ps.getD i [])) u
      have := checkN_length D i (ps.getD i [])
      omega
  have hOT : ∀ k (hk : k < hv.length) (hk2 : k < (hv.set u false).length), (hv.set u false)[k]'hk2 = (hv[k] && !decide ((k : Int) = (u : Int))) := fun k hk hk2 => by
    by_cases e : u = k
    · subst e; rw [List.getElem_set_self]; simp
    · rw [List.getElem_set_ne e]
      have : decide ((k : Int) = (u : Int)) = false := decide_eq_false (by omega)
      rw [this]; simp
  generalize chkI D ps u ps.length = I at *
  generalize planN M D ps hv u = PL at *
  generalize hC : (fun k => candC M D ps (hv.set u false) u (I.take k)) = CC at *
  have hC' : ∀ k, candC M D ps (hv.set u false) u (I.take k) = CC k := fun k => congrFun hC k
  simp only [hC'] at hcs hP hc0 hall
  generalize combN M D ps (hv.set u false) u = CO at *
  generalize hCh : (fun i => checkN D i (ps.getD i [])) = CK at *
  have hCh' : ∀ i, checkN D i (ps.getD i []) = CK i := fun i => congrFun hCh i
  simp only [hCh'] at hterm hcb hmem hcs
  have hlo : (hv.set u false).length = D + ps.length := hl2
  have hmh : (hv.map tD).length = hv.length := List.length_map _
  have hbl : ∀ k m, bestN (CO.toList ++ CC k) = some m → m.length ≤ 1000 := fun k m hm => by
    cases hL : CO.toList ++ CC k with
    | nil => rw [hL] at hm; cases hm
    | cons a r =>
      rw [hL] at hm
      obtain rfl := Option.some.inj hm
      rcases (minT_spec r a).1 with e | e
      · rw [e]; exact hall k a (by rw [hL]; simp)
      · exact hall k _ (by rw [hL]; simp [e])
  refine ACalls.leR (r := planB u PL) ?_ (planB_le u PL)
  refine acalls_of_body Tryz.func9 rfl (Nat.le_of_ble_eq_true rfl) ?_
  (repeat' (first
  | (apply W.gOn; exact rfl; exact rfl)
  | (apply W.qd; (first
    | (apply (q_callC (hw)); exact rfl; exact rfl; kernel_rfl; kernel_rfl; kernel_rfl)|(apply q_mv; (first|exact vD|exact vO|exact vP|exact vA|exact vF|exact vR|exact vN|exact vY|exact vT|exact vX))|(apply q_as; (first|exact vD|exact vO|exact vP|exact vA|exact vF|exact vR|exact vN|exact vY|exact vT|exact vX))|(apply q_ld_boxF; exact rfl; exact rfl; exact rfl; exact rfl)|(apply q_lss; exact rfl; exact rfl)|(apply q_geq; exact rfl; exact rfl)|(apply q_eql; exact rfl; exact rfl)|(apply q_neq; exact rfl; exact rfl)|(apply q_len_sl; exact rfl; exact rfl)
    | (apply (q_pickF (u := .d _)); exact rfl; exact rfl)))
  | (apply W.ed; (first
    | (apply e_boxF; exact rfl; exact rfl; exact rfl; kernel_rfl; kernel_rfl)
    | (apply e_allocF; exact rfl; exact rfl; exact rfl; kernel_rfl)))|(apply AWP.seq)|(apply ACont_normal)|(apply (W.regionS 5); exact rfl; kernel_rfl)|(apply Walk.nil)|(apply AWP.skip)|(refine W.gF _ _ rfl rfl (fun hb => ?_) (fun hb => ?_) <;> ((try simp only [hb, Bool.not_true, Bool.not_false]) <;> (try simp only [decide_eq_true_eq, decide_eq_false_iff_not, Bool.not_eq_true', Bool.not_eq_false', Int.not_lt, Int.not_le, List.length_map, not_true_eq_false] at hb) <;> (try (exfalso; omega))))
  | (refine W.cond _ rfl (fun hb => ?_) (fun hb => ?_) <;> ((try simp only [hb, Bool.not_true, Bool.not_false]) <;> (try simp only [decide_eq_true_eq, decide_eq_false_iff_not, Bool.not_eq_true', Bool.not_eq_false', Int.not_lt, Int.not_le, List.length_map, not_true_eq_false] at hb) <;> (try (exfalso; omega))))))
  refine AWP.nilRow 9 1 4 rfl (by omega) ?_
  (repeat' (first
  | (apply W.qd; (apply q_as; (first|exact vD|exact vO|exact vP|exact vA|exact vF|exact vR|exact vN|exact vY|exact vT|exact vX)))|(apply ACont_normal)|(apply (W.regionS 6); exact rfl; kernel_rfl)|(apply Walk.nil)
  | (apply AWP.block)))
  refine AWP.loopW (α := Nat) (fun k => k ≤ D + ps.length) (fun k => ⟨[(10, iV k), (8, iV (D + ps.length : Nat)), (9, .osl 2 k 0 ((hv.set u false).take k).length), (1, bools hv), (2, iV u), (3, .opt 0 0), (6, .opt 1 0)], [.box [.d .any, iV M, iV D, rowsN ps, .d .any], .box [iV 0, .d (.v (.slice none 0 0))], .row k 1 4 (((hv.set u false).take k).map tD)]⟩) (fun k => D + ps.length - k) 0 (Nat.zero_le _) ⟨[0, 1, 2], rfl, rfl, rfl, by (repeat (first | exact trivial | refine ⟨rfl, ?_⟩))⟩ fun k hk => ?_
  have htk : ((hv.set u false).take k).length ≤ 1000 := by rw [List.length_take]; omega
  by_cases hkW : k < D + ps.length
  · have hs := List.take_succ_eq_append_getElem (show k < (hv.set u false).length by omega)
    rw [hOT k (by omega) (by omega)] at hs
    clear hcs hterm hall hbl hOT hchk hcomb
    generalize hT : (hv.set u false).take k = T at *
    (repeat' (first
  | (apply W.gOn; exact rfl; exact rfl)
  | (apply W.qd; (first
    | (apply q_mv; (first|exact vD|exact vO|exact vP|exact vA|exact vF|exact vR|exact vN|exact vY|exact vT|exact vX))|(apply q_as; (first|exact vD|exact vO|exact vP|exact vA|exact vF|exact vR|exact vN|exact vY|exact vT|exact vX))|(apply q_lss; exact rfl; exact rfl)|(apply q_neq; exact rfl; exact rfl)|(apply q_add; exact rfl; exact rfl; omega)|(apply q_ld_map; exact rfl; exact rfl; exact rfl; (first | omega | (focus (simp; done))))|(apply q_litF; exact rfl; exact rfl; exact rfl; exact rfl; exact rfl; kernel_rfl; kernel_rfl; exact rfl)|(apply q_ix_slF; exact rfl; exact rfl; exact rfl; exact rfl; (first | (with_reducible exact rfl) | exact natI_spec rfl | assumption | exact (Int.toNat_of_nonneg (by omega)).symm); (first | omega | (focus (simp only [List.length_map]; omega)) | (focus (simp; done)) | (focus (simp; omega))))|(apply (q_pickT (u := .d _)); exact rfl; exact rfl)
    | (apply (q_pickF (u := .d _)); exact rfl; exact rfl)))|(apply W.ld; (apply l_app1; exact rfl; exact rfl; exact rfl; exact rfl; exact rfl; exact rfl; exact rfl; exact rfl; (first | omega | (focus (simp; omega)) | (focus (simp; done)))))|(refine W.gOff _ _ rfl rfl (by intro h; cases h) ?_)|(apply AWP.seq)|(apply ACont_normal)|(apply W.region; kernel_rfl)|(apply Walk.nil)|(apply AWP.block)|(apply AWP.skip)|(apply ABlock_normal)|(refine W.gT _ _ rfl rfl (fun hb => ?_) (fun hb => ?_) <;> ((try simp only [hb, Bool.not_true, Bool.not_false]) <;> (try simp only [decide_eq_true_eq, decide_eq_false_iff_not, Bool.not_eq_true', Bool.not_eq_false', Int.not_lt, Int.not_le, List.length_map, not_true_eq_false] at hb) <;> (try (exfalso; omega))))
  | (refine W.cond _ rfl (fun hb => ?_) (fun hb => ?_) <;> ((try simp only [hb, Bool.not_true, Bool.not_false]) <;> (try simp only [decide_eq_true_eq, decide_eq_false_iff_not, Bool.not_eq_true', Bool.not_eq_false', Int.not_lt, Int.not_le, List.length_map, not_true_eq_false] at hb) <;> (try (exfalso; omega))))))
    · rw [hb, Bool.true_and] at hs
      refine ⟨k + 1, by omega, by omega, ?_⟩
      rw [hs]
      exact ⟨[0, 1, 2], rfl, rfl, rfl, iV_eq (by omega), rfl, congrArg (AV.osl 2 (k + 1) 0) (by simp), rfl, rfl, rfl, rfl, trivial⟩
    · rw [hb, Bool.false_and] at hs
      refine ⟨k + 1, by omega, by omega, ?_⟩
      rw [hs]
      exact ⟨[0, 1, 2], rfl, rfl, rfl, iV_eq (by omega), rfl, congrArg (AV.osl 2 (k + 1) 0) (by simp), rfl, rfl, rfl, rfl, trivial⟩
  have hkW' : k = D + ps.length := by omega
  subst hkW'
  have e9 : (hv.set u false).take (D + ps.length) = hv.set u false := List.take_of_length_le (by omega)
  refine AWP.wk ⟨[(10, iV (D + ps.length : Nat)), (8, iV (D + ps.length : Nat)), (9, bools (hv.set u false)), (2, iV u), (3, .opt 0 0), (6, .opt 1 0)], [.box [.d .any, iV M, iV D, rowsN ps, .d .any], .box [iV 0, .d (.v (.slice none 0 0))]]⟩ ⟨[0, 1], rfl, rfl, rfl, rfl, rfl, (congrArg (fun l => bools l) e9.symm).trans (frz_rowJ rfl rfl (by simp)).symm, rfl, rfl, rfl, trivial⟩ ?_
  clear hOT htk e9
  generalize hv.set u false = OT at *
  have hmO : (OT.map tD).length = OT.length := List.length_map _
  have hmi : ((I.map CK).map rnD).length = I.length := by simp
  have hmi2 : (I.map CK).length = I.length := by simp
  obtain ⟨t0, e0, hcomb2, he0, ht0⟩ : ∃ (t0 : List (Nat × Nat)) (e0 : Int), ACalls Tryz.prog 21 [cdN M D ps, bools OT, iV u] [] (.tup [tmsA t0, iV e0]) [] ∧ decide (e0 = 0) = CO.isSome ∧ t0 = CO.getD [] := by
    cases CO with
    | none => exact ⟨[], 11, hcomb, rfl, rfl⟩
    | some l => exact ⟨l, 0, hcomb, rfl, rfl⟩
  have hb0 : bestN (CO.toList ++ CC 0) = CO := by
    rw [hc0]
    cases CO with
    | none => rfl
    | some l => rfl
  clear hcomb
  (repeat' (first
  | (apply W.qd; (first
    | (apply (q_callC (hcomb2)); exact rfl; exact rfl; kernel_rfl; kernel_rfl; kernel_rfl)|(apply q_mv; (first|exact vD|exact vO|exact vP|exact vA|exact vF|exact vR|exact vN|exact vY|exact vT|exact vX))|(apply q_as; (first|exact vD|exact vO|exact vP|exact vA|exact vF|exact vR|exact vN|exact vY|exact vT|exact vX))|(apply q_ld_boxF; exact rfl; exact rfl; exact rfl; exact rfl)|(apply q_lss; exact rfl; exact rfl)
    | (apply q_extract; exact rfl; exact rfl)))|(apply AWP.seq)|(apply ACont_normal)|(apply (W.regionS 10); exact rfl; kernel_rfl)|(apply Walk.nil)|(apply AWP.exit)|(apply ACont_exit)|(apply ABlock_exit)
  | (refine W.cond _ rfl (fun hb => ?_) (fun hb => ?_) <;> ((try simp only [hb, Bool.not_true, Bool.not_false]) <;> (try simp only [decide_eq_true_eq, decide_eq_false_iff_not, Bool.not_eq_true', Bool.not_eq_false', Int.not_lt, Int.not_le, List.length_map, not_true_eq_false] at hb) <;> (try (exfalso; omega))))))
  (repeat' (first
  | (apply W.qd; (first
    | (apply (q_callC (hchk)); exact rfl; exact rfl; kernel_rfl; kernel_rfl; kernel_rfl)|(apply q_mv; (first|exact vD|exact vO|exact vP|exact vA|exact vF|exact vR|exact vN|exact vY|exact vT|exact vX))|(apply q_as; (first|exact vD|exact vO|exact vP|exact vA|exact vF|exact vR|exact vN|exact vY|exact vT|exact vX))|(apply q_ld_boxF; exact rfl; exact rfl; exact rfl; exact rfl)
    | (apply q_eql; exact rfl; exact rfl)))|(apply AWP.seq)|(apply ACont_normal)|(apply (W.regionS 12); exact rfl; kernel_rfl)
  | (apply Walk.nil)))
  refine AWP.wk ⟨[(14, rowsN (I.map CK)), (11, tmsA ((bestN (CO.toList ++ CC 0)).getD [])), (13, bV (bestN (CO.toList ++ CC 0)).isSome), (9, bools OT), (2, iV u), (3, .opt 0 0), (6, .opt 1 0)], [.box [.d .any, iV M, iV D, rowsN ps, .d .any], .box [iV 0, .d (.v (.slice none 0 0))]]⟩ ⟨[0, 1], rfl, rfl, rfl, rfl, by rw [hb0, ← ht0]; rfl, by rw [hb0, ← he0]; rfl, rfl, rfl, rfl, rfl, trivial⟩ ?_
  clear hb0 hcomb2 he0 ht0
  (repeat' (first
  | (apply W.qd; (apply q_as; (first|exact vD|exact vO|exact vP|exact vA|exact vF|exact vR|exact vN|exact vY|exact vT|exact vX)))|(apply ACont_normal)|(apply (W.regionS 13); exact rfl; kernel_rfl)|(apply Walk.nil)
  | (apply AWP.block)))
  refine AWP.loopW (α := Nat) (fun i => i ≤ I.length) (fun i => ⟨[(15, iV i), (14, rowsN (I.map CK)), (11, tmsA ((bestN (CO.toList ++ CC i)).getD [])), (13, bV (bestN (CO.toList ++ CC i)).isSome), (9, bools OT), (2, iV u), (3, .opt 0 0), (6, .opt 1 0)], [.box [.d .any, iV M, iV D, rowsN ps, .d .any], .box [iV 0, .d (.v (.slice none 0 0))]]⟩) (fun i => I.length - i) 0 (Nat.zero_le _) ⟨[0, 1], rfl, rfl, rfl, by (repeat (first | exact trivial | refine ⟨rfl, ?_⟩))⟩ fun i hi => ?_
  by_cases hiI : i < I.length
  · have hIi := List.getElem_mem hiI
    have eK : (I.map CK)[i]'(by simpa using hiI) = CK I[i] := List.getElem_map _
    have hs2 := hcs i hiI
    have ht1 := hterm I[i] hIi
    have hcbk := hcb I[i]
    have hmemi := hmem _ hIi
    have hbli := hbl i
    have htl := cterms_le M D (ps.getD I[i] []) (CK I[i]) u
    generalize ctermsN M D (ps.getD I[i] []) (CK I[i]) u = TT at *
    clear hcs hterm hcb hmem hbl hall hP
    have hsn := bestN_snoc (CO.toList ++ CC i) TT
    rw [List.append_assoc] at hsn
    rw [← eK] at ht1 hs2 hcbk hmemi htl
    have hmL : (((I.map CK)[i]'(by simpa using hiI)).map kD).length = ((I.map CK)[i]'(by simpa using hiI)).length := List.length_map _
    have hft := fun k (h : k < ((I.map CK)[i]'(by simpa using hiI)).length) => fullC_take (oth := OT) (u := u) h
    have hf0 : fullC OT (((I.map CK)[i]'(by simpa using hiI)).take 0) u = true := rfl
    (repeat' (first
  | (apply W.qd; (first
    | (apply q_mv; (first|exact vD|exact vO|exact vP|exact vA|exact vF|exact vR|exact vN|exact vY|exact vT|exact vX))|(apply q_as; (first|exact vD|exact vO|exact vP|exact vA|exact vF|exact vR|exact vN|exact vY|exact vT|exact vX))|(apply q_lss; exact rfl; exact rfl)
    | (apply q_len_sl; exact rfl; exact rfl)))|(apply AWP.seq)|(apply ACont_normal)|(apply (W.regionS 17); exact rfl; kernel_rfl)|(apply Walk.nil)|(apply AWP.block)|(apply AWP.skip)
  | (refine W.cond _ rfl (fun hb => ?_) (fun hb => ?_) <;> ((try simp only [hb, Bool.not_true, Bool.not_false]) <;> (try simp only [decide_eq_true_eq, decide_eq_false_iff_not, Bool.not_eq_true', Bool.not_eq_false', Int.not_lt, Int.not_le, List.length_map, not_true_eq_false] at hb) <;> (try (exfalso; omega))))))
    refine AWP.loopW (α := Nat) (fun k => k ≤ ((I.map CK)[i]'(by simpa using hiI)).length) (fun k => ⟨[(17, iV k), (16, bV (fullC OT (((I.map CK)[i]'(by simpa using hiI)).take k) u)), (15, iV i), (14, rowsN (I.map CK)), (11, tmsA ((bestN (CO.toList ++ CC i)).getD [])), (13, bV (bestN (CO.toList ++ CC i)).isSome), (9, bools OT), (2, iV u), (3, .opt 0 0), (6, .opt 1 0)], [.box [.d .any, iV M, iV D, rowsN ps, .d .any], .box [iV 0, .d (.v (.slice none 0 0))]]⟩) (fun k => ((I.map CK)[i]'(by simpa using hiI)).length - k) 0 (Nat.zero_le _) ⟨[0, 1], rfl, rfl, rfl, by (repeat (first | exact trivial | refine ⟨rfl, ?_⟩))⟩ fun k hk => ?_
    by_cases hkL : k < ((I.map CK)[i]'(by simpa using hiI)).length
    · have hf := hft k hkL
      have hx := hmemi _ (List.getElem_mem hkL)
      have eg : OT.getD (((I.map CK)[i]'(by simpa using hiI))[k]) false = OT[((I.map CK)[i]'(by simpa using hiI))[k]]'(by omega) := by rw [List.getD_eq_getElem?_getD, List.getElem?_eq_getElem (by omega)]; rfl
      rw [eg] at hf
      clear hft ht1 hs2 hsn hbli
      cases hfk : fullC OT (((I.map CK)[i]'(by simpa using hiI)).take k) u with
      | false =>
        rw [hfk, Bool.false_and] at hf
        (repeat' (first
  | (apply W.qd; (first
    | (apply q_mv; (first|exact vD|exact vO|exact vP|exact vA|exact vF|exact vR|exact vN|exact vY|exact vT|exact vX))|(apply q_as; (first|exact vD|exact vO|exact vP|exact vA|exact vF|exact vR|exact vN|exact vY|exact vT|exact vX))|(apply q_lss; exact rfl; exact rfl)|(apply q_add; exact rfl; exact rfl; omega)|(apply q_len_sl; exact rfl; exact rfl)|(apply q_ld_map; exact rfl; exact rfl; exact rfl; (first | omega | (focus (simp; done))))|(apply q_ix_slF; exact rfl; exact rfl; exact rfl; exact rfl; (first | (with_reducible exact rfl) | exact natI_spec rfl | assumption | exact (Int.toNat_of_nonneg (by omega)).symm); (first | omega | (focus (simp only [List.length_map]; omega)) | (focus (simp; done)) | (focus (simp; omega))))
    | (apply (q_pickF (u := .d _)); exact rfl; exact rfl)))|(refine W.gOff _ _ rfl rfl (by intro h; cases h) ?_)|(apply AWP.seq)|(apply ACont_normal)|(apply W.region; kernel_rfl)|(apply Walk.nil)|(apply AWP.block)|(apply AWP.skip)|(apply ABlock_normal)
  | (refine W.cond _ rfl (fun hb => ?_) (fun hb => ?_) <;> ((try simp only [hb, Bool.not_true, Bool.not_false]) <;> (try simp only [decide_eq_true_eq, decide_eq_false_iff_not, Bool.not_eq_true', Bool.not_eq_false', Int.not_lt, Int.not_le, List.length_map, not_true_eq_false] at hb) <;> (try (exfalso; omega))))))
        -- @2
        refine ⟨k + 1, by omega, by omega, ?_⟩
        rw [hf]
        exact ⟨[0, 1], rfl, rfl, rfl, iV_eq (by omega), rfl, rfl, rfl, rfl, rfl, rfl, rfl, rfl, rfl, trivial⟩
      | true =>
        rw [hfk, Bool.true_and] at hf
        cases hO : OT[((I.map CK)[i]'(by simpa using hiI))[k]]'(by omega) with
        | true =>
          rw [hO, Bool.or_true] at hf
          (repeat' (first
  | (apply W.gOn; exact rfl; exact rfl)
  | (apply W.qd; (first
    | (apply q_mv; (first|exact vD|exact vO|exact vP|exact vA|exact vF|exact vR|exact vN|exact vY|exact vT|exact vX))|(apply q_as; (first|exact vD|exact vO|exact vP|exact vA|exact vF|exact vR|exact vN|exact vY|exact vT|exact vX))|(apply q_lss; exact rfl; exact rfl)|(apply q_eql; exact rfl; exact rfl)|(apply q_add; exact rfl; exact rfl; omega)|(apply q_len_sl; exact rfl; exact rfl)|(apply q_ld_map; exact rfl; exact rfl; exact rfl; (first | omega | (focus (simp; done))))|(apply q_ix_slF; exact rfl; exact rfl; exact rfl; exact rfl; (first | (with_reducible exact rfl) | exact natI_spec rfl | assumption | exact (Int.toNat_of_nonneg (by omega)).symm); (first | omega | (focus (simp only [List.length_map]; omega)) | (focus (simp; done)) | (focus (simp; omega))))|(apply (q_pickT (u := .d _)); exact rfl; exact rfl)
    | (apply (q_pickF (u := .d _)); exact rfl; exact rfl)))|(refine W.gOff _ _ rfl rfl (by intro h; cases h) ?_)|(apply AWP.seq)|(apply ACont_normal)|(apply W.region; kernel_rfl)|(apply Walk.nil)|(apply AWP.block)|(apply AWP.skip)|(apply ABlock_normal)|(refine W.gF _ _ rfl rfl (fun hb => ?_) (fun hb => ?_) <;> ((try simp only [hb, Bool.not_true, Bool.not_false]) <;> (try simp only [decide_eq_true_eq, decide_eq_false_iff_not, Bool.not_eq_true', Bool.not_eq_false', Int.not_lt, Int.not_le, List.length_map, not_true_eq_false] at hb) <;> (try (exfalso; omega))))
  | (refine W.cond _ rfl (fun hb => ?_) (fun hb => ?_) <;> ((try simp only [hb, Bool.not_true, Bool.not_false]) <;> (try simp only [decide_eq_true_eq, decide_eq_false_iff_not, Bool.not_eq_true', Bool.not_eq_false', Int.not_lt, Int.not_le, List.length_map, not_true_eq_false] at hb) <;> (try (exfalso; omega))))))
          (all_goals (try (exfalso; exact absurd ((‹OT[((I.map CK)[i]'(by simpa using hiI))[k]] = true› : OT[((I.map CK)[i]'(by simpa using hiI))[k]] = true).symm.trans (‹OT[((I.map CK)[i]'(by simpa using hiI))[k]] = false› : OT[((I.map CK)[i]'(by simpa using hiI))[k]] = false)) (by decide))))
          all_goals refine ⟨k + 1, by omega, by omega, ?_⟩
          all_goals rw [hf]
          all_goals exact ⟨[0, 1], rfl, rfl, rfl, iV_eq (by omega), rfl, rfl, rfl, rfl, rfl, rfl, rfl, rfl, rfl, trivial⟩
        | false =>
          rw [hO, Bool.or_false] at hf
          (repeat' (first
  | (apply W.gOn; exact rfl; exact rfl)
  | (apply W.qd; (first
    | (apply q_mv; (first|exact vD|exact vO|exact vP|exact vA|exact vF|exact vR|exact vN|exact vY|exact vT|exact vX))|(apply q_as; (first|exact vD|exact vO|exact vP|exact vA|exact vF|exact vR|exact vN|exact vY|exact vT|exact vX))|(apply q_lss; exact rfl; exact rfl)|(apply q_eql; exact rfl; exact rfl)|(apply q_add; exact rfl; exact rfl; omega)|(apply q_len_sl; exact rfl; exact rfl)|(apply q_ld_map; exact rfl; exact rfl; exact rfl; (first | omega | (focus (simp; done))))|(apply q_ix_slF; exact rfl; exact rfl; exact rfl; exact rfl; (first | (with_reducible exact rfl) | exact natI_spec rfl | assumption | exact (Int.toNat_of_nonneg (by omega)).symm); (first | omega | (focus (simp only [List.length_map]; omega)) | (focus (simp; done)) | (focus (simp; omega))))|(apply (q_pickT (u := .d _)); exact rfl; exact rfl)
    | (apply (q_pickF (u := .d _)); exact rfl; exact rfl)))|(refine W.gOff _ _ rfl rfl (by intro h; cases h) ?_)|(apply AWP.seq)|(apply ACont_normal)|(apply W.region; kernel_rfl)|(apply Walk.nil)|(apply AWP.block)|(apply AWP.skip)|(apply ABlock_normal)|(refine W.gF _ _ rfl rfl (fun hb => ?_) (fun hb => ?_) <;> ((try simp only [hb, Bool.not_true, Bool.not_false]) <;> (try simp only [decide_eq_true_eq, decide_eq_false_iff_not, Bool.not_eq_true', Bool.not_eq_false', Int.not_lt, Int.not_le, List.length_map, not_true_eq_false] at hb) <;> (try (exfalso; omega))))
  | (refine W.cond _ rfl (fun hb => ?_) (fun hb => ?_) <;> ((try simp only [hb, Bool.not_true, Bool.not_false]) <;> (try simp only [decide_eq_true_eq, decide_eq_false_iff_not, Bool.not_eq_true', Bool.not_eq_false', Int.not_lt, Int.not_le, List.length_map, not_true_eq_false] at hb) <;> (try (exfalso; omega))))))
          (all_goals (try (exfalso; exact absurd ((‹OT[((I.map CK)[i]'(by simpa using hiI))[k]] = true› : OT[((I.map CK)[i]'(by simpa using hiI))[k]] = true).symm.trans (‹OT[((I.map CK)[i]'(by simpa using hiI))[k]] = false› : OT[((I.map CK)[i]'(by simpa using hiI))[k]] = false)) (by decide))))
          all_goals refine ⟨k + 1, by omega, by omega, ?_⟩
          all_goals rw [hf]
          all_goals exact ⟨[0, 1], rfl, rfl, rfl, iV_eq (by omega), congrArg bV (by rw [Bool.eq_iff_iff, decide_eq_true_eq, beq_iff_eq]; omega), rfl, rfl, rfl, rfl, rfl, rfl, rfl, rfl, trivial⟩
    · have hkL' : k = ((I.map CK)[i]'(by simpa using hiI)).length := by omega
      subst hkL'
      rw [List.take_length]
      clear hft hf0
      cases hfu : fullC OT ((I.map CK)[i]'(by simpa using hiI)) u <;> rw [hfu] at hs2
      · replace hs2 := Lib.hid (hs2.out.trans (if_neg (by decide)))
        (repeat' (first
  | (apply W.qd; (first
    | (apply q_mv; (first|exact vD|exact vO|exact vP|exact vA|exact vF|exact vR|exact vN|exact vY|exact vT|exact vX))|(apply q_as; (first|exact vD|exact vO|exact vP|exact vA|exact vF|exact vR|exact vN|exact vY|exact vT|exact vX))|(apply q_lss; exact rfl; exact rfl)|(apply q_not; exact rfl)|(apply q_add; exact rfl; exact rfl; omega)|(apply q_len_sl; exact rfl; exact rfl)|(apply q_ld_map; exact rfl; exact rfl; exact rfl; (first | omega | (focus (simp; done))))
    | (apply q_ix_slF; exact rfl; exact rfl; exact rfl; exact rfl; (first | (with_reducible exact rfl) | exact natI_spec rfl | assumption | exact (Int.toNat_of_nonneg (by omega)).symm); (first | omega | (focus (simp only [List.length_map]; omega)) | (focus (simp; done)) | (focus (simp; omega))))))|(apply AWP.seq)|(apply ACont_normal)|(apply W.region; kernel_rfl)|(apply Walk.nil)|(apply AWP.exit)|(apply ACont_exit)|(apply ABlock_exit)|(apply W.condT; exact rfl)
  | (refine W.cond _ rfl (fun hb => ?_) (fun hb => ?_) <;> ((try simp only [hb, Bool.not_true, Bool.not_false]) <;> (try simp only [decide_eq_true_eq, decide_eq_false_iff_not, Bool.not_eq_true', Bool.not_eq_false', Int.not_lt, Int.not_le, List.length_map, not_true_eq_false] at hb) <;> (try (exfalso; omega))))))
        refine ⟨i + 1, by omega, by omega, ?_⟩
        rw [hs2.out]
        exact ⟨[0, 1], rfl, rfl, rfl, iV_eq (by omega), rfl, rfl, rfl, rfl, rfl, rfl, rfl, trivial⟩
      · have hs3 := hs2.out.trans (if_pos rfl)
        rw [← hs3] at hsn
        replace hsn := Lib.hid hsn
        clear hs2 hs3
        cases hB : bestN (CO.toList ++ CC i) with
        | none =>
          rw [hB] at hsn
          (repeat' (first
  | (apply W.qd; (first
    | (apply (q_callC (ht1)); exact rfl; exact rfl; kernel_rfl; kernel_rfl; kernel_rfl)|(apply q_mv; (first|exact vD|exact vO|exact vP|exact vA|exact vF|exact vR|exact vN|exact vY|exact vT|exact vX))|(apply q_as; (first|exact vD|exact vO|exact vP|exact vA|exact vF|exact vR|exact vN|exact vY|exact vT|exact vX))|(apply q_ld_boxF; exact rfl; exact rfl; exact rfl; exact rfl)|(apply q_lss; exact rfl; exact rfl)|(apply q_not; exact rfl)|(apply q_add; exact rfl; exact rfl; omega)|(apply q_len_sl; exact rfl; exact rfl)|(apply q_ld_map; exact rfl; exact rfl; exact rfl; (first | omega | (focus (simp; done))))|(apply q_ix_slF; exact rfl; exact rfl; exact rfl; exact rfl; (first | (with_reducible exact rfl) | exact natI_spec rfl | assumption | exact (Int.toNat_of_nonneg (by omega)).symm); (first | omega | (focus (simp only [List.length_map]; omega)) | (focus (simp; done)) | (focus (simp; omega))))
    | (apply (q_pickT (u := .d _)); exact rfl; exact rfl)))|(refine W.gOff _ _ rfl rfl (by intro h; cases h) ?_)|(apply AWP.seq)|(apply ACont_normal)|(apply W.region; kernel_rfl)|(apply W.regionD; exact rfl; kernel_rfl)|(apply Walk.nil)|(apply W.chk; kernel_rfl)|(apply AWP.skip)|(apply AWP.exit)|(apply ACont_exit)|(apply ABlock_normal)|(apply ABlock_exit)|(apply W.condT; exact rfl)|(apply W.condF; exact rfl)
  | (refine W.cond _ rfl (fun hb => ?_) (fun hb => ?_) <;> ((try simp only [hb, Bool.not_true, Bool.not_false]) <;> (try simp only [decide_eq_true_eq, decide_eq_false_iff_not, Bool.not_eq_true', Bool.not_eq_false', Int.not_lt, Int.not_le, List.length_map, not_true_eq_false] at hb) <;> (try (exfalso; omega))))))
          refine ⟨i + 1, by omega, by omega, ?_⟩
          rw [hsn.out]
          exact ⟨[0, 1], rfl, rfl, rfl, iV_eq (by omega), rfl, rfl, rfl, rfl, rfl, rfl, rfl, trivial⟩
        | some m =>
          rw [hB] at hsn
          have hbm := hbli m hB
          have hbt := A_better (a := TT) (b := m) (by omega) (by omega)
          cases hlt : ltT TT m with
          | true =>
            have hsn2 := hsn.out
            dsimp only at hsn2
            rw [hlt] at hbt hsn2
            replace hsn2 := Lib.hid hsn2
            clear hsn
            (repeat' (first
  | (apply W.gOn; exact rfl; exact rfl)
  | (apply W.qd; (first
    | (apply (q_callC (ht1)); exact rfl; exact rfl; kernel_rfl; kernel_rfl; kernel_rfl)|(apply (q_callC (hbt)); exact rfl; exact rfl; kernel_rfl; kernel_rfl; kernel_rfl)|(apply q_mv; (first|exact vD|exact vO|exact vP|exact vA|exact vF|exact vR|exact vN|exact vY|exact vT|exact vX))|(apply q_as; (first|exact vD|exact vO|exact vP|exact vA|exact vF|exact vR|exact vN|exact vY|exact vT|exact vX))|(apply q_ld_boxF; exact rfl; exact rfl; exact rfl; exact rfl)|(apply q_lss; exact rfl; exact rfl)|(apply q_not; exact rfl)|(apply q_add; exact rfl; exact rfl; omega)|(apply q_len_sl; exact rfl; exact rfl)|(apply q_ld_map; exact rfl; exact rfl; exact rfl; (first | omega | (focus (simp; done))))|(apply q_ix_slF; exact rfl; exact rfl; exact rfl; exact rfl; (first | (with_reducible exact rfl) | exact natI_spec rfl | assumption | exact (Int.toNat_of_nonneg (by omega)).symm); (first | omega | (focus (simp only [List.length_map]; omega)) | (focus (simp; done)) | (focus (simp; omega))))
    | (apply (q_pickF (u := .d _)); exact rfl; exact rfl)))|(apply AWP.seq)|(apply ACont_normal)|(apply W.region; kernel_rfl)|(apply W.regionD; exact rfl; kernel_rfl)|(apply Walk.nil)|(apply W.chk; kernel_rfl)|(apply AWP.skip)|(apply AWP.exit)|(apply ACont_exit)|(apply ABlock_normal)|(apply ABlock_exit)|(apply W.condT; exact rfl)|(apply W.condF; exact rfl)
  | (refine W.cond _ rfl (fun hb => ?_) (fun hb => ?_) <;> ((try simp only [hb, Bool.not_true, Bool.not_false]) <;> (try simp only [decide_eq_true_eq, decide_eq_false_iff_not, Bool.not_eq_true', Bool.not_eq_false', Int.not_lt, Int.not_le, List.length_map, not_true_eq_false] at hb) <;> (try (exfalso; omega))))))
            refine ⟨i + 1, by omega, by omega, ?_⟩
            rw [hsn2.out]
            exact ⟨[0, 1], rfl, rfl, rfl, iV_eq (by omega), rfl, rfl, rfl, rfl, rfl, rfl, rfl, trivial⟩
          | false =>
            have hsn2 := hsn.out
            dsimp only at hsn2
            rw [hlt] at hbt hsn2
            replace hsn2 := Lib.hid hsn2
            clear hsn
            (repeat' (first
  | (apply W.gOn; exact rfl; exact rfl)
  | (apply W.qd; (first
    | (apply (q_callC (ht1)); exact rfl; exact rfl; kernel_rfl; kernel_rfl; kernel_rfl)|(apply (q_callC (hbt)); exact rfl; exact rfl; kernel_rfl; kernel_rfl; kernel_rfl)|(apply q_mv; (first|exact vD|exact vO|exact vP|exact vA|exact vF|exact vR|exact vN|exact vY|exact vT|exact vX))|(apply q_as; (first|exact vD|exact vO|exact vP|exact vA|exact vF|exact vR|exact vN|exact vY|exact vT|exact vX))|(apply q_ld_boxF; exact rfl; exact rfl; exact rfl; exact rfl)|(apply q_lss; exact rfl; exact rfl)|(apply q_not; exact rfl)|(apply q_add; exact rfl; exact rfl; omega)|(apply q_len_sl; exact rfl; exact rfl)|(apply q_ld_map; exact rfl; exact rfl; exact rfl; (first | omega | (focus (simp; done))))|(apply q_ix_slF; exact rfl; exact rfl; exact rfl; exact rfl; (first | (with_reducible exact rfl) | exact natI_spec rfl | assumption | exact (Int.toNat_of_nonneg (by omega)).symm); (first | omega | (focus (simp only [List.length_map]; omega)) | (focus (simp; done)) | (focus (simp; omega))))
    | (apply (q_pickF (u := .d _)); exact rfl; exact rfl)))|(apply AWP.seq)|(apply ACont_normal)|(apply W.region; kernel_rfl)|(apply W.regionD; exact rfl; kernel_rfl)|(apply Walk.nil)|(apply W.chk; kernel_rfl)|(apply AWP.skip)|(apply AWP.exit)|(apply ACont_exit)|(apply ABlock_normal)|(apply ABlock_exit)|(apply W.condF; exact rfl)
  | (refine W.cond _ rfl (fun hb => ?_) (fun hb => ?_) <;> ((try simp only [hb, Bool.not_true, Bool.not_false]) <;> (try simp only [decide_eq_true_eq, decide_eq_false_iff_not, Bool.not_eq_true', Bool.not_eq_false', Int.not_lt, Int.not_le, List.length_map, not_true_eq_false] at hb) <;> (try (exfalso; omega))))))
            refine ⟨i + 1, by omega, by omega, ?_⟩
            rw [hsn2.out]
            exact ⟨[0, 1], rfl, rfl, rfl, iV_eq (by omega), rfl, rfl, rfl, rfl, rfl, rfl, rfl, trivial⟩
  · have hiI' : i = I.length := by omega
    subst hiI'
    rw [hP]
    clear hcs hterm hcb hmem hbl hall hP
    cases hB : bestN (CO.toList ++ CC I.length) with
    | none =>
      (repeat' (first
  | (apply W.qd; (first
    | (apply q_mv; (first|exact vD|exact vO|exact vP|exact vA|exact vF|exact vR|exact vN|exact vY|exact vT|exact vX))|(apply q_as; (first|exact vD|exact vO|exact vP|exact vA|exact vF|exact vR|exact vN|exact vY|exact vT|exact vX))|(apply q_lss; exact rfl; exact rfl)|(apply q_not; exact rfl)|(apply q_len_sl; exact rfl; exact rfl)
    | (apply q_buildF; exact rfl; exact rfl; kernel_rfl)))|(apply W.ln; (apply l_st_box; exact rfl; exact rfl; exact rfl; exact rfl; exact rfl; exact rfl; kernel_rfl; kernel_rfl; kernel_rfl))|(apply AWP.seq)|(apply ACont_normal)|(apply W.region; kernel_rfl)|(apply Walk.nil)|(apply AWP.exit)|(apply AWP.ret)|(apply ACont_exit)|(apply ACont_ret)|(apply ABlock_exit)|(apply W.condT; exact rfl)
  | (refine W.cond _ rfl (fun hb => ?_) (fun hb => ?_) <;> ((try simp only [hb, Bool.not_true, Bool.not_false]) <;> (try simp only [decide_eq_true_eq, decide_eq_false_iff_not, Bool.not_eq_true', Bool.not_eq_false', Int.not_lt, Int.not_le, List.length_map, not_true_eq_false] at hb) <;> (try (exfalso; omega))))))
      exact Ends.cell2 rfl rfl rfl rfl rfl
    | some m =>
      (repeat' (first
  | (apply W.qd; (first
    | (apply q_mv; (first|exact vD|exact vO|exact vP|exact vA|exact vF|exact vR|exact vN|exact vY|exact vT|exact vX))|(apply q_as; (first|exact vD|exact vO|exact vP|exact vA|exact vF|exact vR|exact vN|exact vY|exact vT|exact vX))|(apply q_lss; exact rfl; exact rfl)|(apply q_not; exact rfl)|(apply q_len_sl; exact rfl; exact rfl)
    | (apply q_buildF; exact rfl; exact rfl; kernel_rfl)))|(apply W.ln; (apply l_st_box; exact rfl; exact rfl; exact rfl; exact rfl; exact rfl; exact rfl; kernel_rfl; kernel_rfl; kernel_rfl))|(apply AWP.seq)|(apply ACont_normal)|(apply W.region; kernel_rfl)|(apply Walk.nil)|(apply AWP.skip)|(apply AWP.exit)|(apply AWP.ret)|(apply ACont_exit)|(apply ABlock_exit)|(apply W.condF; exact rfl)
  | (refine W.cond _ rfl (fun hb => ?_) (fun hb => ?_) <;> ((try simp only [hb, Bool.not_true, Bool.not_false]) <;> (try simp only [decide_eq_true_eq, decide_eq_false_iff_not, Bool.not_eq_true', Bool.not_eq_false', Int.not_lt, Int.not_le, List.length_map, not_true_eq_false] at hb) <;> (try (exfalso; omega))))))
      exact Ends.cell2 rfl rfl rfl rfl rfl
end Go.Proofs.YtilpljehfcpjeaaGreatDoor
end
section
/- The laws RepairPlanMatchesSpec and RepairAllMatchesSpec: the walks. -/
namespace Go.Proofs.YtilpljehfcpjeaaGreatDoor
open Go.RowKit
set_option maxHeartbeats 4000000
set_option maxRecDepth 100000
attribute [local irreducible] Quiet Eff OpOk AWPG ACont ABlock ACalls AGoto
theorem plan2 {M D u : Int} {par : List (List Int)} {hv : List Bool} (hp : CodeIn par) (hD : D ≤ 1000000) (hP : par.length ≤ 1000000) : ∃ (w : Nat) (l : List (Nat × Nat)) (e : Int), l.length ≤ 1000 ∧ ACalls Tryz.prog 8 [cdA M D par, bools hv, iV u] [] (.tup [.agg [iV w, tmsA l], iV e]) [] ∧ ACalls Tryz.prog 9 [cdA M D par, bools hv, iV u] [] (.tup [.agg [iV w, tmsA l], iV e]) [] := by
  by_cases hg : validC M D par = true ∧ (hv.length : Int) = D + (par.length : Int) ∧ 0 ≤ u ∧ u < hv.length
  · obtain ⟨g2, g3, g4, g5⟩ := hg
    obtain ⟨m, d, ps, rfl, rfl, rfl, hok⟩ := ok_valid g2
    have hpl : (toZ ps).length = ps.length := List.length_map _
    rw [hpl] at g3
    have hl : hv.length = d + ps.length := by omega
    obtain ⟨k, rfl⟩ := Int.eq_ofNat_of_zero_le g4
    have hk : k < d + ps.length := by omega
    have h1 := A_plan hok hl hk
    have h2 := A_r10plan hok hl hk
    rw [cdN_A] at h1 h2
    have hwd := hok.w
    cases hc : planN m d ps hv k with
    | none => rw [hc] at h1 h2; exact ⟨0, [], 11, Nat.zero_le _, h1, h2⟩
    | some l =>
      have := (plan_le hok hl hk hc).1
      rw [hc] at h1 h2; exact ⟨k, l, 0, by omega, h1, h2⟩
  · exact ⟨0, [], 1, Nat.zero_le _, A_plan_bad hp hg, A_r10plan_bad hD hP hg⟩
theorem checks2 {M D u : Int} {par : List (List Int)} (hp : CodeIn par) (hD : D ≤ 1000000) (hP : par.length ≤ 1000000) : ∃ X : List (List Nat), X.length ≤ 1000 ∧ (∀ x ∈ X, x.length ≤ 1000) ∧ ACalls Tryz.prog 10 [cdA M D par, iV u] [] (rowsN X) [] ∧ ACalls Tryz.prog 11 [cdA M D par, iV u] [] (rowsN X) [] := by
  cases hv : validC M D par with
  | true =>
    obtain ⟨m, d, ps, rfl, rfl, rfl, hok⟩ := ok_valid hv
    have h1 := A_checks (u := u) hok
    have h2 := A_r10checks (u := u) hok
    rw [cdN_A] at h1 h2
    have hwd := hok.w
    refine ⟨_, ?_, fun x hx => ?_, h1, h2⟩
    · have := chkZ_length d ps u ps.length
      rw [List.length_map]; omega
    · obtain ⟨i, _, rfl⟩ := List.mem_map.1 hx
      have := checkN_length d i (ps.getD i [])
      omega
  | false => exact ⟨[], Nat.zero_le _, fun x hx => by simp at hx, A_checks_bad hp hv, A_r10checks_bad hD hP hv⟩
theorem A_rreads {w : Nat} {l : List (Nat × Nat)} (hl : l.length ≤ 100000) : ACalls Tryz.prog 15 [.agg [iV w, tmsA l]] [] (nats (l.map (·.1))) [] := by
  have := A_rreadsZ (u := (w : Int)) (l := l.map fun t => ((t.1 : Int), (t.2 : Int))) (by rw [List.length_map]; exact hl)
  rw [← tms_tmsZ, List.map_map] at this
  have e : nats (l.map (·.1)) = ints (l.map ((·.1) ∘ fun t : Nat × Nat => ((t.1 : Int), (t.2 : Int)))) := by rw [nats_ints, List.map_map]; rfl
  rw [e]
  exact this
theorem same_nats {a : List Nat} (ha : a.length ≤ 1000000) : ACalls Tryz.prog 12 [nats a, nats a] [] (bV true) [] := by
  have s := A_same_ints (a := a.map fun n : Nat => (n : Int)) (b := a.map fun n : Nat => (n : Int)) (by rw [List.length_map]; exact ha) (by rw [List.length_map]; exact ha)
  rw [← nats_ints, decide_eq_true rfl] at s
  exact s
theorem same_plan {w : Nat} {l : List (Nat × Nat)} (hl : l.length ≤ 1000000) : ACalls Tryz.prog 13 [.agg [iV w, tmsA l], .agg [iV w, tmsA l]] [] (bV true) [] := by
  have hsame := A_samePlan (u := (w : Int)) (v := (w : Int)) (a := l.map fun t => ((t.1 : Int), (t.2 : Int))) (b := l.map fun t => ((t.1 : Int), (t.2 : Int))) (by simp; omega) (by simp; omega)
  rw [← tms_tmsZ, decide_eq_true rfl, decide_eq_true rfl, Bool.true_and] at hsame
  exact hsame
theorem A_planMatches {M D u : Int} {par : List (List Int)} {hv : List Bool} (hpar : ∀ r ∈ par, ∀ x ∈ r, x < 9223372036854775808) (_hu : -9223372036854775808 ≤ u ∧ u < 9223372036854775808) :
    ACalls Tryz.prog 3 [cdA M D par, bools hv, iV u] [] (bV true) [] := by
  refine acalls_of_body Tryz.func3 rfl (Nat.le_of_ble_eq_true rfl) ?_
  have hca : CodeIn par := ⟨hpar⟩
  have hsan := A_sanity10
  have hsm := A_small (M := M) (D := D) (par := par)
  cases hS : smallB D par <;> rw [hS] at hsm
  · (repeat' (first
  | (apply W.qd; (first
    | (apply (q_callC (hsan)); exact rfl; exact rfl; kernel_rfl; kernel_rfl; kernel_rfl)|(apply (q_callC (hsm)); exact rfl; exact rfl; kernel_rfl; kernel_rfl; kernel_rfl)|(apply q_as; (first|exact vD|exact vO|exact vP|exact vA|exact vF|exact vR|exact vN|exact vY|exact vT|exact vX))|(apply q_ld_boxF; exact rfl; exact rfl; exact rfl; exact rfl)
    | (apply q_not; exact rfl)))|(apply W.ed; (apply e_boxF; exact rfl; exact rfl; exact rfl; kernel_rfl; kernel_rfl))|(apply AWP.seq)|(apply ACont_normal)|(apply W.region; kernel_rfl)|(apply Walk.nil)|(apply AWP.ret)|(apply ACont_ret)
  | (apply W.condT; exact rfl)))
    all_goals exact Ends.b rfl rfl
  · unfold smallB at hS
    simp only [Bool.and_eq_true, decide_eq_true_eq, List.all_eq_true] at hS
    obtain ⟨w, l, e, hl, p1, p2⟩ := plan2 (M := M) (D := D) (u := u) (hv := hv) hca (by omega) (by omega)
    obtain ⟨X, x1, x2, c1, c2⟩ := checks2 (M := M) (D := D) (u := u) hca (by omega) (by omega)
    have hmX : (X.map rnD).length = X.length := List.length_map _
    have hsp := same_plan (w := w) (l := l) (by omega)
    have r1 := A_reads (u := w) (l := l) (by omega)
    have r2 := A_rreads (w := w) (l := l) (by omega)
    have hsr := same_nats (a := l.map (·.1)) (by simp; omega)
    have hsx := fun k (h : k < X.length) => same_nats (a := X[k]) (by have := x2 _ (List.getElem_mem h); omega)
    (repeat' (first
  | (apply W.qd; (first
    | (apply (q_callC (hsm)); exact rfl; exact rfl; kernel_rfl; kernel_rfl; kernel_rfl)|(apply (q_callC (p1)); exact rfl; exact rfl; kernel_rfl; kernel_rfl; kernel_rfl)|(apply (q_callC (p2)); exact rfl; exact rfl; kernel_rfl; kernel_rfl; kernel_rfl)|(apply (q_callC (c1)); exact rfl; exact rfl; kernel_rfl; kernel_rfl; kernel_rfl)|(apply (q_callC (c2)); exact rfl; exact rfl; kernel_rfl; kernel_rfl; kernel_rfl)|(apply q_mv; (first|exact vD|exact vO|exact vP|exact vA|exact vF|exact vR|exact vN|exact vY|exact vT|exact vX))|(apply q_as; (first|exact vD|exact vO|exact vP|exact vA|exact vF|exact vR|exact vN|exact vY|exact vT|exact vX))|(apply q_ld_boxF; exact rfl; exact rfl; exact rfl; exact rfl)|(apply q_neq; exact rfl; exact rfl)|(apply q_not; exact rfl)|(apply q_extract; exact rfl; exact rfl)
    | (apply q_len_sl; exact rfl; exact rfl)))
  | (apply W.ed; (first
    | (apply e_boxF; exact rfl; exact rfl; exact rfl; kernel_rfl; kernel_rfl)
    | (apply e_allocF; exact rfl; exact rfl; exact rfl; kernel_rfl)))|(apply W.ln; (apply l_st_box; exact rfl; exact rfl; exact rfl; exact rfl; exact rfl; exact rfl; kernel_rfl; kernel_rfl; kernel_rfl))|(apply AWP.seq)|(apply ACont_normal)|(apply (W.regionS 8); exact rfl; kernel_rfl)|(apply (W.regionDS 8); exact rfl; exact rfl; kernel_rfl)|(apply Walk.nil)|(apply W.chk; kernel_rfl)|(apply AWP.skip)|(apply W.condF; exact rfl)
  | (refine W.cond _ rfl (fun hb => ?_) (fun hb => ?_) <;> ((try simp only [hb, Bool.not_true, Bool.not_false]) <;> (try simp only [decide_eq_true_eq, decide_eq_false_iff_not, Bool.not_eq_true', Bool.not_eq_false', Int.not_lt, Int.not_le, List.length_map, not_true_eq_false] at hb) <;> (try (exfalso; omega))))))
    (repeat' (first
  | (apply W.qd; (first
    | (apply q_mv; (first|exact vD|exact vO|exact vP|exact vA|exact vF|exact vR|exact vN|exact vY|exact vT|exact vX))
    | (apply q_len_sl; exact rfl; exact rfl)))|(apply ACont_normal)|(apply (W.regionS 9); exact rfl; kernel_rfl)|(apply Walk.nil)
  | (apply AWP.block)))
    refine AWP.loopW (α := Nat) (fun k => k ≤ X.length) (fun k => ⟨[(45, iV k), (44, iV X.length), (11, rowsN X), (12, rowsN X), (3, .opt 0 0), (7, .opt 1 0), (9, .opt 2 0), (8, iV e), (10, iV e)], [.box [.d .any, iV M, iV D, rowsA par, .d .any], .box [iV w, tmsA l], .box [iV w, tmsA l]]⟩) (fun k => X.length - k) 0 (Nat.zero_le _) ⟨[0, 1, 2], rfl, rfl, rfl, rfl, iV_eq (by rw [hmX]), rfl, rfl, rfl, rfl, rfl, rfl, rfl, trivial⟩ fun k hk => ?_
    by_cases hkX : k < X.length
    · have h3 := hsx k hkX
      (repeat' (first
  | (apply W.qd; (first
    | (apply (q_callC (h3)); exact rfl; exact rfl; kernel_rfl; kernel_rfl; kernel_rfl)|(apply q_mv; (first|exact vD|exact vO|exact vP|exact vA|exact vF|exact vR|exact vN|exact vY|exact vT|exact vX))|(apply q_as; (first|exact vD|exact vO|exact vP|exact vA|exact vF|exact vR|exact vN|exact vY|exact vT|exact vX))|(apply q_lss; exact rfl; exact rfl)|(apply q_not; exact rfl)|(apply q_add; exact rfl; exact rfl; omega)|(apply q_ld_map; exact rfl; exact rfl; exact rfl; (first | omega | (focus (simp; done))))
    | (apply q_ix_slF; exact rfl; exact rfl; exact rfl; exact rfl; (first | (with_reducible exact rfl) | exact natI_spec rfl | assumption | exact (Int.toNat_of_nonneg (by omega)).symm); (first | omega | (focus (simp only [List.length_map]; omega)) | (focus (simp; done)) | (focus (simp; omega))))))|(apply AWP.seq)|(apply ACont_normal)|(apply W.region; kernel_rfl)|(apply W.regionD; exact rfl; kernel_rfl)|(apply Walk.nil)|(apply W.chk; kernel_rfl)|(apply AWP.block)|(apply AWP.skip)|(apply ABlock_normal)|(apply W.condF; exact rfl)
  | (refine W.cond _ rfl (fun hb => ?_) (fun hb => ?_) <;> ((try simp only [hb, Bool.not_true, Bool.not_false]) <;> (try simp only [decide_eq_true_eq, decide_eq_false_iff_not, Bool.not_eq_true', Bool.not_eq_false', Int.not_lt, Int.not_le, List.length_map, not_true_eq_false] at hb) <;> (try (exfalso; omega))))))
      exact ⟨k + 1, by omega, by omega, [0, 1, 2], rfl, rfl, rfl, iV_eq (by omega), rfl, rfl, rfl, rfl, rfl, rfl, rfl, rfl, trivial⟩
    · (repeat' (first
  | (apply W.gOn; exact rfl; exact rfl)
  | (apply W.qd; (first
    | (apply (q_callC (hsan)); exact rfl; exact rfl; kernel_rfl; kernel_rfl; kernel_rfl)|(apply (q_callC (hsp)); exact rfl; exact rfl; kernel_rfl; kernel_rfl; kernel_rfl)|(apply (q_callC (r1)); exact rfl; exact rfl; kernel_rfl; kernel_rfl; kernel_rfl)|(apply (q_callC (r2)); exact rfl; exact rfl; kernel_rfl; kernel_rfl; kernel_rfl)|(apply (q_callC (hsr)); exact rfl; exact rfl; kernel_rfl; kernel_rfl; kernel_rfl)|(apply q_mv; (first|exact vD|exact vO|exact vP|exact vA|exact vF|exact vR|exact vN|exact vY|exact vT|exact vX))|(apply q_as; (first|exact vD|exact vO|exact vP|exact vA|exact vF|exact vR|exact vN|exact vY|exact vT|exact vX))|(apply q_ld_boxF; exact rfl; exact rfl; exact rfl; exact rfl)|(apply q_lss; exact rfl; exact rfl)|(apply q_eql; exact rfl; exact rfl)
    | (apply (q_pickT (u := .d _)); exact rfl; exact rfl)))|(apply AWP.seq)|(apply ACont_normal)|(apply W.region; kernel_rfl)|(apply W.regionD; exact rfl; kernel_rfl)|(apply Walk.nil)|(apply W.chk; kernel_rfl)|(apply AWP.exit)|(apply AWP.ret)|(apply ACont_exit)|(apply ABlock_exit)|(refine W.gT _ _ rfl rfl (fun hb => ?_) (fun hb => ?_) <;> ((try simp only [hb, Bool.not_true, Bool.not_false]) <;> (try simp only [decide_eq_true_eq, decide_eq_false_iff_not, Bool.not_eq_true', Bool.not_eq_false', Int.not_lt, Int.not_le, List.length_map, not_true_eq_false] at hb) <;> (try (exfalso; omega))))
  | (refine W.cond _ rfl (fun hb => ?_) (fun hb => ?_) <;> ((try simp only [hb, Bool.not_true, Bool.not_false]) <;> (try simp only [decide_eq_true_eq, decide_eq_false_iff_not, Bool.not_eq_true', Bool.not_eq_false', Int.not_lt, Int.not_le, List.length_map, not_true_eq_false] at hb) <;> (try (exfalso; omega))))))
      all_goals exact Ends.b rfl (by first | rfl | (simp; done))
end Go.Proofs.YtilpljehfcpjeaaGreatDoor
end
