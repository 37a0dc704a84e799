import Derived.Test.YtaclmbbiegklcaaGreatDoorMHealthMatchesSpec6
/- Joined texts: Rf36 He7. -/
set_option linter.unusedVariables false
set_option linter.unusedSimpArgs false
section
/- The specification of layer 36 over the machine of abstract values. -/
namespace Go.Proofs.YtaclmbbiegklcaaGreatDoor
open Go.RowKit
set_option maxHeartbeats 4000000
set_option maxRecDepth 100000
theorem haveN_snoc {l : List Int} {k : Nat} (h : k < l.length) : haveN (l.take (k + 1)) = haveN (l.take k) ++ [decide (l[k] = 1)] := by
  unfold haveN
  rw [List.take_succ_eq_append_getElem h, List.map_append]; rfl
theorem full_eq (nm : List Nat) (M D : Int) (par : List (List Int)) (dom : Int) (l : List Int) : fullN nm M D par dom l = (decide (chkC nm M D par dom = true ∧ (l.length : Int) = D + (par.length : Int)) && l.all fun x => decide (x = 1)) := by
  have e1 : (!(l.any fun x => decide (x ≠ 1))) = l.all fun x => decide (x = 1) := by
    rw [Bool.eq_iff_iff]; simp
  unfold fullN
  rw [e1, Bool.and_comm]
  cases ha : l.all fun x => decide (x = 1) with
  | false => simp
  | true =>
    rw [Bool.and_true, Bool.and_true, decide_eq_decide]
    have hall : ∀ x ∈ l, x = 1 := by simpa using ha
    constructor
    · intro h
      unfold leftC at h
      split at h
      · rename_i hc; rw [haveN_len] at hc; exact hc
      · omega
    · intro h
      unfold leftC
      rw [if_pos (by rw [haveN_len]; exact h)]
      obtain ⟨m, d, ps, rfl, rfl, rfl, hok⟩ := chk_code h.1
      have hpl : (toZ ps).length = ps.length := List.length_map _
      rw [decZ_nat]
      have hlw : (haveN l).length = d + ps.length := by rw [haveN_len]; have := h.2; omega
      have hd : decN m d ps (haveN l) = true := by
        unfold decN
        rw [decide_eq_true hlw, Bool.true_and, decide_eq_true_eq]
        refine full_of_data hok hlw fun i hi => ?_
        have hil : i < l.length := by rw [haveN_len] at hlw; omega
        unfold haveN
        rw [List.getD_eq_getElem?_getD, List.getElem?_map, List.getElem?_eq_getElem hil]
        exact decide_eq_true (hall _ (List.getElem_mem hil))
      unfold leftN
      rw [hd, if_pos rfl]
      omega
theorem ins_sort {X : List Hl} {x : Hl} {a : Nat} (ha : a ≤ (sortN (ltH cmpH) X).length) (h1 : ∀ j, a ≤ j → j < (sortN (ltH cmpH) X).length → ltH cmpH x ((sortN (ltH cmpH) X).getD j hl0) = true) (h2 : 0 < a → ltH cmpH x ((sortN (ltH cmpH) X).getD (a - 1) hl0) = false) : (sortN (ltH cmpH) X).take a ++ x :: (sortN (ltH cmpH) X).drop a = sortN (ltH cmpH) (X ++ [x]) := by
  obtain ⟨k1, k2⟩ := sortN_spec weakH X
  generalize sortN (ltH cmpH) X = O at *
  have hO : O.take a ++ O.drop a = O := List.take_append_drop a O
  have hB : ∀ b ∈ O.drop a, ltH cmpH x b = true := fun b hb => by
    obtain ⟨q, hq, rfl⟩ := List.getElem_of_mem hb
    rw [List.length_drop] at hq
    have := h1 (a + q) (by omega) (by omega)
    rw [List.getD_eq_getElem?_getD, List.getElem?_eq_getElem (by omega)] at this
    rw [List.getElem_drop]; exact this
  have hA : ∀ b ∈ O.take a, ltH cmpH x b = false := fun b hb => by
    obtain ⟨q, hq, rfl⟩ := List.getElem_of_mem hb
    rw [List.length_take] at hq
    have h3 := h2 (by omega)
    rw [List.getD_eq_getElem?_getD, List.getElem?_eq_getElem (by omega)] at h3
    rw [List.getElem_take]
    by_cases e : q = a - 1
    · subst e; exact h3
    · have := List.pairwise_iff_getElem.1 k1 q (a - 1) (by omega) (by omega) (by omega)
      exact weakH.le_trans (b := O[a - 1]'(by omega)) (by exact this) h3
  refine sortN_eq weakH (srt_insert weakH (by rw [hO]; exact k1) hA fun b hb => weakH.asymm (hB b hb)) ?_
  have s1 : Stb (ltH cmpH) (X ++ [x]) (O ++ [x]) := Stb.app k2 (Stb.refl _)
  refine s1.trans ?_
  have s2 : Stb (ltH cmpH) (O.drop a ++ [x]) ([x] ++ O.drop a) := Stb.swap weakH fun y hy u hu => by
    rw [List.mem_singleton.1 hy]; exact hB u hu
  have s3 := Stb.app (Stb.refl (lt := ltH cmpH) (O.take a)) s2
  rw [← List.append_assoc, hO] at s3
  exact s3
theorem worst_min {l : List Hl} {k : Nat} (h : k < l.length) : worstK l (k + 1) = min (worstK l (max k 1)) l[k].2.2.1 := by
  have eg : l.getD k hl0 = l[k] := by rw [List.getD_eq_getElem?_getD, List.getElem?_eq_getElem h]; rfl
  have e1 : ∀ n, worstK l (n + 1) = if n = 0 ∨ (l.getD n hl0).2.2.1 < worstK l n then (l.getD n hl0).2.2.1 else worstK l n := fun n => rfl
  rcases Nat.eq_zero_or_pos k with e | e
  · subst e
    rw [show max 0 1 = 0 + 1 from rfl, e1, if_pos (.inl rfl), eg]; omega
  · rw [show max k 1 = k by omega, e1, eg]
    split <;> omega
attribute [local irreducible] Quiet Eff OpOk AWPG ACont ABlock ACalls AGoto
theorem A_rhave {l : List Int} (hl : l.length ≤ 1000000) : ACalls Tryz.prog 24 [ints l] [] (bools (haveN l)) [] := by
  refine acalls_of_body Tryz.func24 rfl (Nat.le_of_ble_eq_true rfl) ?_
  have hm : (l.map iD).length = l.length := List.length_map _
  (repeat' (first
  | (apply W.qd; (apply q_as; (first|exact vD|exact vO|exact vP|exact vA|exact vF|exact vR|exact vN|exact vY|exact vT|exact vM|exact vL|exact vX)))|(apply AWP.seq)|(apply ACont_normal)|(apply (W.regionS 2); exact rfl; kernel_rfl)
  | (apply Walk.nil)))
  refine AWP.nilRow 3 1 4 rfl (by omega) ?_
  (repeat' (first
  | (apply W.qd; (apply q_as; (first|exact vD|exact vO|exact vP|exact vA|exact vF|exact vR|exact vN|exact vY|exact vT|exact vM|exact vL|exact vX)))|(apply ACont_normal)|(apply W.region; kernel_rfl)|(apply Walk.nil)
  | (apply AWP.block)))
  refine AWP.loopW (α := Nat) (fun k => k ≤ l.length) (fun k => ⟨[(4, iV k), (3, .osl 0 k 0 (haveN (l.take k)).length), (0, ints l)], [.row k 1 4 ((haveN (l.take k)).map tD)]⟩) (fun k => l.length - k) 0 (Nat.zero_le _) ⟨[0], rfl, rfl, rfl, by (repeat (first | exact trivial | refine ⟨rfl, ?_⟩))⟩ fun k hk => ?_
  by_cases hkl : k < l.length
  · have hs := Lib.hid (haveN_snoc hkl)
    have hln : (haveN (l.take k)).length = k := by rw [haveN_len, List.length_take]; omega
    generalize haveN (l.take k) = A at *
    (repeat' (first
  | (apply W.qd; (first
    | (apply q_mv; (first|exact vD|exact vO|exact vP|exact vA|exact vF|exact vR|exact vN|exact vY|exact vT|exact vM|exact vL|exact vX))|(apply q_as; (first|exact vD|exact vO|exact vP|exact vA|exact vF|exact vR|exact vN|exact vY|exact vT|exact vM|exact vL|exact vX))|(apply q_lss; exact rfl; exact rfl)|(apply q_eql; exact rfl; exact rfl)|(apply q_add; exact rfl; exact rfl; omega)|(apply q_len_sl; exact rfl; exact rfl)|(apply q_ld_map; (iterate 3 exact rfl); (first | omega | (focus (simp; done))))|(apply q_litF; (iterate 5 exact rfl); kernel_rfl; kernel_rfl; exact rfl)
    | (apply q_ix_slF; (iterate 4 exact rfl); (first | (with_reducible exact rfl) | exact natI_spec rfl | assumption | exact (Int.toNat_of_nonneg (by omega)).symm); (first | omega | (focus (simp only [List.length_map]; omega)) | (focus (simp; done)) | (focus (simp; omega))))))|(apply W.ld; (apply l_app1; (iterate 8 exact rfl); (first | omega | (focus (simp; omega)) | (focus (simp; done)))))|(apply AWP.seq)|(apply ACont_normal)|(apply W.region; kernel_rfl)|(apply Walk.nil)|(apply AWP.block)|(apply AWP.skip)|(apply ABlock_normal)
  | (refine W.cond _ rfl (fun hb => ?_) (fun hb => ?_) <;> ((try simp only [hb, zA, zB]) <;> (try simp only [zC, zD, zE, zF, zG, zH, zI, zJ] at hb) <;> (try (exfalso; omega))))))
    refine ⟨k + 1, by omega, by omega, ?_⟩
    rw [hs.out, show (A ++ [decide (l[k] = 1)]).length = A.length + 1 by simp]
    exact ⟨[0], rfl, rfl, rfl, iV_eq (by omega), congrArg (AV.osl 0 (k + 1) 0) (by simp), rfl, trivial⟩
  · have e : k = l.length := by omega
    subst e
    rw [List.take_length] at *
    (repeat' (first
  | (apply W.qd; (first
    | (apply q_mv; (first|exact vD|exact vO|exact vP|exact vA|exact vF|exact vR|exact vN|exact vY|exact vT|exact vM|exact vL|exact vX))|(apply q_as; (first|exact vD|exact vO|exact vP|exact vA|exact vF|exact vR|exact vN|exact vY|exact vT|exact vM|exact vL|exact vX))|(apply q_lss; exact rfl; exact rfl)
    | (apply q_len_sl; exact rfl; exact rfl)))|(apply AWP.seq)|(apply ACont_normal)|(apply W.region; kernel_rfl)|(apply Walk.nil)|(apply AWP.exit)|(apply AWP.ret)|(apply ACont_exit)|(apply ABlock_exit)
  | (refine W.cond _ rfl (fun hb => ?_) (fun hb => ?_) <;> ((try simp only [hb, zA, zB]) <;> (try simp only [zC, zD, zE, zF, zG, zH, zI, zJ] at hb) <;> (try (exfalso; omega))))))
    exact Ends.osl rfl rfl (by simp) rfl
theorem A_rleft {nm : List Nat} {M D dom : Int} {par : List (List Int)} {l : List Int} (h : FIn nm D par) (hl : l.length ≤ 1000000) : ACalls Tryz.prog 26 [cdF nm M D par dom, ints l] [] (iV (leftC nm M D par dom (haveN l))) [] := by
  refine acalls_of_body Tryz.func26 rfl (Nat.le_of_ble_eq_true rfl) ?_
  have h1 := A_rhave hl
  have h2 := A_left9 (M := M) (dom := dom) (hv := haveN l) h (by rw [haveN_len]; omega)
  (repeat' (first
  | (apply W.qd; (first
    | (apply (q_callC (h1)); exact rfl; exact rfl; kernel_rfl; kernel_rfl; kernel_rfl)|(apply (q_callC (h2)); exact rfl; exact rfl; kernel_rfl; kernel_rfl; kernel_rfl)|(apply q_mv; (first|exact vD|exact vO|exact vP|exact vA|exact vF|exact vR|exact vN|exact vY|exact vT|exact vM|exact vL|exact vX))|(apply q_as; (first|exact vD|exact vO|exact vP|exact vA|exact vF|exact vR|exact vN|exact vY|exact vT|exact vM|exact vL|exact vX))
    | (apply q_ld_boxF; (iterate 4 exact rfl))))|(apply W.ed; (apply e_boxF; (iterate 3 exact rfl); kernel_rfl; kernel_rfl))|(apply AWP.seq)|(apply ACont_normal)|(apply W.region; kernel_rfl)|(apply W.regionD; exact rfl; kernel_rfl)|(apply Walk.nil)|(apply W.chk; kernel_rfl)
  | (apply AWP.ret)))
  exact Ends.i rfl rfl
theorem A_rfull {nm : List Nat} {M D dom : Int} {par : List (List Int)} {l : List Int} (h : FIn nm D par) (hl : l.length ≤ 1000000) : ACalls Tryz.prog 28 [cdF nm M D par dom, ints l] [] (bV (fullN nm M D par dom l)) [] := by
  rw [full_eq]
  obtain ⟨e, hc, he⟩ := A_check7 (M := M) (dom := dom) h.n h.l h.d h.p
  have hd := h.d
  have hp := h.p
  have hmp : (par.map rD).length = par.length := List.length_map _
  have hm : (l.map iD).length = l.length := List.length_map _
  refine acalls_of_body Tryz.func28 rfl (Nat.le_of_ble_eq_true rfl) ?_
  by_cases hk : chkC nm M D par dom = true ∧ (l.length : Int) = D + (par.length : Int)
  case neg =>
    rw [decide_eq_false hk, Bool.false_and]
    have hno : ¬ (e = 0 ∧ (l.length : Int) = D + (par.length : Int)) := fun h => hk ⟨he.1 h.1, h.2⟩
    (repeat' (first
  | (apply W.gOn; exact rfl; exact rfl)
  | (apply W.qd; (first
    | (apply (q_callC (hc)); exact rfl; exact rfl; kernel_rfl; kernel_rfl; kernel_rfl)|(apply q_mv; (first|exact vD|exact vO|exact vP|exact vA|exact vF|exact vR|exact vN|exact vY|exact vT|exact vM|exact vL|exact vX))|(apply q_as; (first|exact vD|exact vO|exact vP|exact vA|exact vF|exact vR|exact vN|exact vY|exact vT|exact vM|exact vL|exact vX))|(apply q_fld_optF; (iterate 3 exact rfl))|(apply q_ld_box; (iterate 4 exact rfl))|(apply q_ld_boxF; (iterate 4 exact rfl))|(apply q_neq; exact rfl; exact rfl)|(apply q_add; exact rfl; exact rfl; omega)|(apply q_len_sl; exact rfl; exact rfl)|(apply (q_pickT (u := .d _)); exact rfl; exact rfl)
    | (apply (q_pickF (u := .d _)); exact rfl; exact rfl)))|(apply W.ed; (apply e_boxF; (iterate 3 exact rfl); kernel_rfl; kernel_rfl))|(refine W.gOff _ _ rfl rfl (by intro h; cases h) ?_)|(apply AWP.seq)|(apply ACont_normal)|(apply (W.regionS 4); exact rfl; kernel_rfl)|(apply Walk.nil)|(apply AWP.ret)|(apply ACont_ret)|(apply W.condT; exact rfl)|(refine W.gF _ _ rfl rfl (fun hb => ?_) (fun hb => ?_) <;> ((try simp only [hb, zA, zB]) <;> (try simp only [zC, zD, zE, zF, zG, zH, zI, zJ] at hb) <;> (try (exfalso; omega))))
  | (refine W.cond _ rfl (fun hb => ?_) (fun hb => ?_) <;> ((try simp only [hb, zA, zB]) <;> (try simp only [zC, zD, zE, zF, zG, zH, zI, zJ] at hb) <;> (try (exfalso; omega))))))
    all_goals first | exact Ends.b rfl rfl | (exfalso; omega)
  rw [decide_eq_true hk, Bool.true_and]
  obtain ⟨hk1, hk2⟩ := hk
  obtain rfl : e = 0 := he.2 hk1
  have hbad : ∀ k (hkl : k < l.length), l[k] ≠ 1 → (l.all fun x => decide (x = 1)) = false := fun k hkl hne => by
    rw [List.all_eq_false]
    exact ⟨l[k], List.getElem_mem hkl, by simpa using hne⟩
  have hgood : (∀ j, j < l.length → l.getD j 0 = 1) → (l.all fun x => decide (x = 1)) = true := fun hj => by
    rw [List.all_eq_true]
    intro x hx
    obtain ⟨q, hq, rfl⟩ := memI_getD hx
    exact decide_eq_true (hj q hq)
  generalize (l.all fun x => decide (x = 1)) = B at *
  (repeat' (first
  | (apply W.gOn; exact rfl; exact rfl)
  | (apply W.qd; (first
    | (apply (q_callC (hc)); exact rfl; exact rfl; kernel_rfl; kernel_rfl; kernel_rfl)|(apply q_mv; (first|exact vD|exact vO|exact vP|exact vA|exact vF|exact vR|exact vN|exact vY|exact vT|exact vM|exact vL|exact vX))|(apply q_as; (first|exact vD|exact vO|exact vP|exact vA|exact vF|exact vR|exact vN|exact vY|exact vT|exact vM|exact vL|exact vX))|(apply q_fld_optF; (iterate 3 exact rfl))|(apply q_ld_box; (iterate 4 exact rfl))|(apply q_ld_boxF; (iterate 4 exact rfl))|(apply q_neq; exact rfl; exact rfl)|(apply q_add; exact rfl; exact rfl; omega)|(apply q_len_sl; exact rfl; exact rfl)
    | (apply (q_pickF (u := .d _)); exact rfl; exact rfl)))|(apply W.ed; (apply e_boxF; (iterate 3 exact rfl); kernel_rfl; kernel_rfl))|(apply AWP.seq)|(apply ACont_normal)|(apply (W.regionS 5); exact rfl; kernel_rfl)|(apply Walk.nil)|(apply AWP.block)|(apply AWP.skip)
  | (refine W.cond _ rfl (fun hb => ?_) (fun hb => ?_) <;> ((try simp only [hb, zA, zB]) <;> (try simp only [zC, zD, zE, zF, zG, zH, zI, zJ] at hb) <;> (try (exfalso; omega))))))
  all_goals try (exfalso; omega)
  refine AWP.loopW (α := Nat) (fun k => k ≤ l.length ∧ ∀ j, j < k → l.getD j 0 = 1) (fun k => ⟨[(6, iV k), (1, ints l)], []⟩) (fun k => l.length - k) 0 ⟨Nat.zero_le _, fun j hj => by omega⟩ ⟨[], rfl, rfl, rfl, by (repeat (first | exact trivial | refine ⟨rfl, ?_⟩))⟩ fun k hk => ?_
  by_cases hkl : k < l.length
  · have eg : l.getD k 0 = l[k] := by rw [List.getD_eq_getElem?_getD, List.getElem?_eq_getElem hkl]; rfl
    have hbk := hbad k hkl
    have hnx : l[k] = 1 → ∀ j, j < k + 1 → l.getD j 0 = 1 := fun h1 j hj => by
      by_cases e : j = k
      · subst e; rw [eg]; exact h1
      · exact hk.2 j (by omega)
    clear hk
    (repeat' (first
  | (apply W.qd; (first
    | (apply q_mv; (first|exact vD|exact vO|exact vP|exact vA|exact vF|exact vR|exact vN|exact vY|exact vT|exact vM|exact vL|exact vX))|(apply q_as; (first|exact vD|exact vO|exact vP|exact vA|exact vF|exact vR|exact vN|exact vY|exact vT|exact vM|exact vL|exact vX))|(apply q_lss; exact rfl; exact rfl)|(apply q_neq; exact rfl; exact rfl)|(apply q_add; exact rfl; exact rfl; omega)|(apply q_len_sl; exact rfl; exact rfl)|(apply q_ld_map; (iterate 3 exact rfl); (first | omega | (focus (simp; done))))
    | (apply q_ix_slF; (iterate 4 exact rfl); (first | (with_reducible exact rfl) | exact natI_spec rfl | assumption | exact (Int.toNat_of_nonneg (by omega)).symm); (first | omega | (focus (simp only [List.length_map]; omega)) | (focus (simp; done)) | (focus (simp; omega))))))|(apply AWP.seq)|(apply ACont_normal)|(apply W.region; kernel_rfl)|(apply Walk.nil)|(apply AWP.block)|(apply AWP.skip)|(apply AWP.ret)|(apply ACont_ret)|(apply ABlock_normal)|(apply ABlock_ret)
  | (refine W.cond _ rfl (fun hb => ?_) (fun hb => ?_) <;> ((try simp only [hb, zA, zB]) <;> (try simp only [zC, zD, zE, zF, zG, zH, zI, zJ] at hb) <;> (try (exfalso; omega))))))
    all_goals first | exact Ends.b rfl (hbk (by omega)).symm | exact ⟨k + 1, ⟨by omega, hnx (by omega)⟩, by omega, [], rfl, rfl, rfl, iV_eq (by omega), rfl, trivial⟩
  · have e : B = true := hgood fun j hj => hk.2 j (by omega)
    subst e
    clear hk
    (repeat' (first
  | (apply W.qd; (first
    | (apply q_mv; (first|exact vD|exact vO|exact vP|exact vA|exact vF|exact vR|exact vN|exact vY|exact vT|exact vM|exact vL|exact vX))|(apply q_as; (first|exact vD|exact vO|exact vP|exact vA|exact vF|exact vR|exact vN|exact vY|exact vT|exact vM|exact vL|exact vX))|(apply q_lss; exact rfl; exact rfl)
    | (apply q_len_sl; exact rfl; exact rfl)))|(apply AWP.seq)|(apply ACont_normal)|(apply W.region; kernel_rfl)|(apply Walk.nil)|(apply AWP.exit)|(apply AWP.ret)|(apply ACont_exit)|(apply ABlock_exit)
  | (refine W.cond _ rfl (fun hb => ?_) (fun hb => ?_) <;> ((try simp only [hb, zA, zB]) <;> (try simp only [zC, zD, zE, zF, zG, zH, zI, zJ] at hb) <;> (try (exfalso; omega))))))
    exact Ends.b rfl rfl
theorem A_before (a b : Hl) : ACalls Tryz.prog 73 [.agg ((hlD a).map .d), .agg ((hlD b).map .d)] [] (bV (ltH cmpH a b)) [] := by
  have hi := ltH_iff a b
  unfold lostH at hi
  obtain ⟨a1, a2, a3, a4⟩ := a
  obtain ⟨b1, b2, b3, b4⟩ := b
  dsimp only at hi
  generalize ltH cmpH (a1, a2, a3, a4) (b1, b2, b3, b4) = B at *
  refine acalls_of_body Tryz.func73 rfl (Nat.le_of_ble_eq_true rfl) ?_
  have h1 : ∀ x : Bool, (x = true ↔ B = true) → x = B := fun x h => Bool.eq_iff_iff.2 h
  by_cases ha : a3 < 0 <;> by_cases hc : b3 < 0
  · rw [if_pos ha, if_pos hc] at hi
    (repeat' (first
  | (apply W.qd; (first
    | (apply q_as; (first|exact vD|exact vO|exact vP|exact vA|exact vF|exact vR|exact vN|exact vY|exact vT|exact vM|exact vL|exact vX))|(apply q_fld_optF; (iterate 3 exact rfl))|(apply q_ld_box; (iterate 4 exact rfl))|(apply q_lss; exact rfl; exact rfl)|(apply q_gtr; exact rfl; exact rfl)|(apply q_neq; exact rfl; exact rfl)
    | (apply q_neqB; (iterate 3 exact rfl))))|(apply W.ed; (apply e_boxF; (iterate 3 exact rfl); kernel_rfl; kernel_rfl))|(apply AWP.seq)|(apply ACont_normal)|(apply W.region; kernel_rfl)|(apply Walk.nil)|(apply AWP.skip)|(apply AWP.ret)|(apply ACont_ret)
  | (refine W.cond _ rfl (fun hb => ?_) (fun hb => ?_) <;> ((try simp only [hb, zA, zB]) <;> (try simp only [zC, zD, zE, zF, zG, zH, zI, zJ] at hb) <;> (try (exfalso; omega))))))
    all_goals refine Ends.b rfl (h1 _ ?_)
    all_goals rw [hi, decide_eq_true_eq]
    all_goals dsimp only
    all_goals first
      | (exfalso; simp [ha, hc] at *; done)
      | omega
  · rw [if_pos ha, if_neg hc] at hi
    (repeat' (first
  | (apply W.qd; (first
    | (apply q_as; (first|exact vD|exact vO|exact vP|exact vA|exact vF|exact vR|exact vN|exact vY|exact vT|exact vM|exact vL|exact vX))|(apply q_fld_optF; (iterate 3 exact rfl))|(apply q_ld_box; (iterate 4 exact rfl))|(apply q_lss; exact rfl; exact rfl)|(apply q_neq; exact rfl; exact rfl)
    | (apply q_neqB; (iterate 3 exact rfl))))|(apply W.ed; (apply e_boxF; (iterate 3 exact rfl); kernel_rfl; kernel_rfl))|(apply AWP.seq)|(apply ACont_normal)|(apply W.region; kernel_rfl)|(apply Walk.nil)|(apply AWP.skip)|(apply AWP.ret)|(apply ACont_ret)
  | (refine W.cond _ rfl (fun hb => ?_) (fun hb => ?_) <;> ((try simp only [hb, zA, zB]) <;> (try simp only [zC, zD, zE, zF, zG, zH, zI, zJ] at hb) <;> (try (exfalso; omega))))))
    all_goals refine Ends.b rfl (h1 _ ?_)
    all_goals rw [hi, decide_eq_true_eq]
    all_goals dsimp only
    all_goals first
      | (exfalso; simp [ha, hc] at *; done)
      | omega
  · rw [if_neg ha, if_pos hc] at hi
    (repeat' (first
  | (apply W.qd; (first
    | (apply q_as; (first|exact vD|exact vO|exact vP|exact vA|exact vF|exact vR|exact vN|exact vY|exact vT|exact vM|exact vL|exact vX))|(apply q_fld_optF; (iterate 3 exact rfl))|(apply q_ld_box; (iterate 4 exact rfl))|(apply q_lss; exact rfl; exact rfl)|(apply q_neq; exact rfl; exact rfl)
    | (apply q_neqB; (iterate 3 exact rfl))))|(apply W.ed; (apply e_boxF; (iterate 3 exact rfl); kernel_rfl; kernel_rfl))|(apply AWP.seq)|(apply ACont_normal)|(apply W.region; kernel_rfl)|(apply Walk.nil)|(apply AWP.skip)|(apply AWP.ret)|(apply ACont_ret)
  | (refine W.cond _ rfl (fun hb => ?_) (fun hb => ?_) <;> ((try simp only [hb, zA, zB]) <;> (try simp only [zC, zD, zE, zF, zG, zH, zI, zJ] at hb) <;> (try (exfalso; omega))))))
    all_goals refine Ends.b rfl (h1 _ ?_)
    all_goals rw [hi, decide_eq_true_eq]
    all_goals dsimp only
    all_goals first
      | (exfalso; simp [ha, hc] at *; done)
      | omega
  · rw [if_neg ha, if_neg hc] at hi
    (repeat' (first
  | (apply W.qd; (first
    | (apply q_as; (first|exact vD|exact vO|exact vP|exact vA|exact vF|exact vR|exact vN|exact vY|exact vT|exact vM|exact vL|exact vX))|(apply q_fld_optF; (iterate 3 exact rfl))|(apply q_ld_box; (iterate 4 exact rfl))|(apply q_lss; exact rfl; exact rfl)|(apply q_gtr; exact rfl; exact rfl)|(apply q_neq; exact rfl; exact rfl)
    | (apply q_neqB; (iterate 3 exact rfl))))|(apply W.ed; (apply e_boxF; (iterate 3 exact rfl); kernel_rfl; kernel_rfl))|(apply AWP.seq)|(apply ACont_normal)|(apply W.region; kernel_rfl)|(apply Walk.nil)|(apply AWP.skip)|(apply AWP.ret)|(apply ACont_ret)
  | (refine W.cond _ rfl (fun hb => ?_) (fun hb => ?_) <;> ((try simp only [hb, zA, zB]) <;> (try simp only [zC, zD, zE, zF, zG, zH, zI, zJ] at hb) <;> (try (exfalso; omega))))))
    all_goals refine Ends.b rfl (h1 _ ?_)
    all_goals rw [hi, decide_eq_true_eq]
    all_goals dsimp only
    all_goals first
      | (exfalso; simp [ha, hc] at *; done)
      | omega
theorem A_rworst {l : List Hl} (hl : l.length ≤ 1000000) : ACalls Tryz.prog 33 [hls l] [] (iV (worstN l)) [] := by
  refine acalls_of_body Tryz.func33 rfl (Nat.le_of_ble_eq_true rfl) ?_
  have hm : (l.map hlD).length = l.length := List.length_map _
  by_cases h0 : l.length = 0
  · have e : worstN l = 4 := by unfold worstN; rw [h0]; rfl
    rw [e]
    (repeat' (first
  | (apply W.qd; (first
    | (apply q_mv; (first|exact vD|exact vO|exact vP|exact vA|exact vF|exact vR|exact vN|exact vY|exact vT|exact vM|exact vL|exact vX))|(apply q_as; (first|exact vD|exact vO|exact vP|exact vA|exact vF|exact vR|exact vN|exact vY|exact vT|exact vM|exact vL|exact vX))|(apply q_eql; exact rfl; exact rfl)
    | (apply q_len_sl; exact rfl; exact rfl)))|(apply AWP.seq)|(apply ACont_normal)|(apply W.region; kernel_rfl)|(apply Walk.nil)|(apply AWP.ret)|(apply ACont_ret)
  | (refine W.cond _ rfl (fun hb => ?_) (fun hb => ?_) <;> ((try simp only [hb, zA, zB]) <;> (try simp only [zC, zD, zE, zF, zG, zH, zI, zJ] at hb) <;> (try (exfalso; omega))))))
    all_goals first | exact Ends.i rfl rfl | (exfalso; omega)
  · have w1 : worstK l (max 0 1) = l[0].2.2.1 := by
      show (if 0 = 0 ∨ (l.getD 0 hl0).2.2.1 < worstK l 0 then (l.getD 0 hl0).2.2.1 else worstK l 0) = _
      rw [if_pos (.inl rfl), List.getD_eq_getElem?_getD, List.getElem?_eq_getElem (by omega)]; rfl
    (repeat' (first
  | (apply W.qd; (first
    | (apply q_mv; (first|exact vD|exact vO|exact vP|exact vA|exact vF|exact vR|exact vN|exact vY|exact vT|exact vM|exact vL|exact vX))|(apply q_as; (first|exact vD|exact vO|exact vP|exact vA|exact vF|exact vR|exact vN|exact vY|exact vT|exact vM|exact vL|exact vX))|(apply q_eql; exact rfl; exact rfl)|(apply q_len_sl; exact rfl; exact rfl)|(apply q_ld_map; (iterate 3 exact rfl); (first | omega | (focus (simp; done))))|(apply q_fld_fptF; (iterate 3 exact rfl))
    | (apply q_ix_slF; (iterate 4 exact rfl); (first | (with_reducible exact rfl) | exact natI_spec rfl | assumption | exact (Int.toNat_of_nonneg (by omega)).symm); (first | omega | (focus (simp only [List.length_map]; omega)) | (focus (simp; done)) | (focus (simp; omega))))))|(apply AWP.seq)|(apply ACont_normal)|(apply (W.regionS 5); exact rfl; kernel_rfl)|(apply Walk.nil)|(apply AWP.block)|(apply AWP.skip)
  | (refine W.cond _ rfl (fun hb => ?_) (fun hb => ?_) <;> ((try simp only [hb, zA, zB]) <;> (try simp only [zC, zD, zE, zF, zG, zH, zI, zJ] at hb) <;> (try (exfalso; omega))))))
    all_goals try (exfalso; omega)
    refine AWP.loopW (α := Nat) (fun k => k ≤ l.length) (fun k => ⟨[(4, iV k), (3, iV (worstK l (max k 1))), (0, hls l)], []⟩) (fun k => l.length - k) 0 (Nat.zero_le _) ?wk0 fun k hk => ?_
    case wk0 => exact ⟨[], rfl, rfl, rfl, rfl, iV_eq w1, rfl, trivial⟩
    by_cases hkl : k < l.length
    · have hs := worst_min hkl
      rw [show worstK l (k + 1) = worstK l (max (k + 1) 1) by rw [show max (k + 1) 1 = k + 1 by omega]] at hs
      replace hs := Lib.hid hs
      generalize worstK l (max k 1) = A at *
      (repeat' (first
  | (apply W.qd; (first
    | (apply q_mv; (first|exact vD|exact vO|exact vP|exact vA|exact vF|exact vR|exact vN|exact vY|exact vT|exact vM|exact vL|exact vX))|(apply q_as; (first|exact vD|exact vO|exact vP|exact vA|exact vF|exact vR|exact vN|exact vY|exact vT|exact vM|exact vL|exact vX))|(apply q_lss; exact rfl; exact rfl)|(apply q_add; exact rfl; exact rfl; omega)|(apply q_len_sl; exact rfl; exact rfl)|(apply q_ld_map; (iterate 3 exact rfl); (first | omega | (focus (simp; done))))|(apply q_fld_fptF; (iterate 3 exact rfl))|(apply q_ix_slF; (iterate 4 exact rfl); (first | (with_reducible exact rfl) | exact natI_spec rfl | assumption | exact (Int.toNat_of_nonneg (by omega)).symm); (first | omega | (focus (simp only [List.length_map]; omega)) | (focus (simp; done)) | (focus (simp; omega))))
    | (apply q_min; exact rfl; exact rfl)))|(apply AWP.seq)|(apply ACont_normal)|(apply W.region; kernel_rfl)|(apply Walk.nil)|(apply AWP.block)|(apply AWP.skip)|(apply ABlock_normal)
  | (refine W.cond _ rfl (fun hb => ?_) (fun hb => ?_) <;> ((try simp only [hb, zA, zB]) <;> (try simp only [zC, zD, zE, zF, zG, zH, zI, zJ] at hb) <;> (try (exfalso; omega))))))
      all_goals refine ⟨k + 1, by omega, by omega, ?_⟩
      all_goals rw [hs.out]
      all_goals exact ⟨[], rfl, rfl, rfl, iV_eq (by omega), iV_eq (by omega), rfl, trivial⟩
    · have e : worstK l (max k 1) = worstN l := by unfold worstN; rw [show max k 1 = l.length by omega]
      rw [e] at *
      (repeat' (first
  | (apply W.qd; (first
    | (apply q_mv; (first|exact vD|exact vO|exact vP|exact vA|exact vF|exact vR|exact vN|exact vY|exact vT|exact vM|exact vL|exact vX))|(apply q_as; (first|exact vD|exact vO|exact vP|exact vA|exact vF|exact vR|exact vN|exact vY|exact vT|exact vM|exact vL|exact vX))|(apply q_lss; exact rfl; exact rfl)
    | (apply q_len_sl; exact rfl; exact rfl)))|(apply AWP.seq)|(apply ACont_normal)|(apply W.region; kernel_rfl)|(apply Walk.nil)|(apply AWP.exit)|(apply AWP.ret)|(apply ACont_exit)|(apply ABlock_exit)
  | (refine W.cond _ rfl (fun hb => ?_) (fun hb => ?_) <;> ((try simp only [hb, zA, zB]) <;> (try simp only [zC, zD, zE, zF, zG, zH, zI, zJ] at hb) <;> (try (exfalso; omega))))))
      exact Ends.i rfl rfl
theorem A_rorder {l : List Hl} (hl : l.length ≤ 1000000) : ACalls Tryz.prog 31 [hls l] [] (hls (orderN l)) [] := by
  refine acalls_of_body Tryz.func31 rfl (Nat.le_of_ble_eq_true rfl) ?_
  have hm : (l.map hlD).length = l.length := List.length_map _
  (repeat' (first
  | (apply W.qd; (apply q_as; (first|exact vD|exact vO|exact vP|exact vA|exact vF|exact vR|exact vN|exact vY|exact vT|exact vM|exact vL|exact vX)))|(apply AWP.seq)|(apply ACont_normal)|(apply (W.regionS 3); exact rfl; kernel_rfl)|(apply Walk.nil)
  | (apply AWP.block)))
  refine AWP.le 3 (hls []) rfl (AVle.nil 4) ?_
  refine AWP.loopW (α := Nat) (fun i => i ≤ l.length) (fun i => ⟨[(4, iV i), (3, hls (orderN (l.take i))), (0, hls l)], []⟩) (fun i => l.length - i) 0 (Nat.zero_le _) ⟨[], rfl, rfl, rfl, by (repeat (first | exact trivial | refine ⟨rfl, ?_⟩))⟩ fun i hi => ?_
  by_cases hil : i < l.length
  · have hlen : (orderN (l.take i)).length ≤ i := by
      show (sortN _ _).length ≤ _
      rw [sortN_len]
      exact Nat.le_trans (List.length_filter_le _ _) (by rw [List.length_take]; omega)
    by_cases hk : l[i].2.2.2 ≤ 0
    · have hs : orderN (l.take (i + 1)) = orderN (l.take i) := by
        unfold orderN
        rw [List.take_succ_eq_append_getElem hil, List.filter_append]
        have : [l[i]].filter keepH = [] := by
          have : keepH l[i] = false := decide_eq_false (by omega)
          simp [this]
        rw [this, List.append_nil]
      replace hs := Lib.hid hs
      generalize orderN (l.take i) = O at *
      (repeat' (first
  | (apply W.qd; (first
    | (apply q_mv; (first|exact vD|exact vO|exact vP|exact vA|exact vF|exact vR|exact vN|exact vY|exact vT|exact vM|exact vL|exact vX))|(apply q_as; (first|exact vD|exact vO|exact vP|exact vA|exact vF|exact vR|exact vN|exact vY|exact vT|exact vM|exact vL|exact vX))|(apply q_lss; exact rfl; exact rfl)|(apply q_leq; exact rfl; exact rfl)|(apply q_add; exact rfl; exact rfl; omega)|(apply q_len_sl; exact rfl; exact rfl)|(apply q_ld_map; (iterate 3 exact rfl); (first | omega | (focus (simp; done))))|(apply q_fld_fptF; (iterate 3 exact rfl))
    | (apply q_ix_slF; (iterate 4 exact rfl); (first | (with_reducible exact rfl) | exact natI_spec rfl | assumption | exact (Int.toNat_of_nonneg (by omega)).symm); (first | omega | (focus (simp only [List.length_map]; omega)) | (focus (simp; done)) | (focus (simp; omega))))))|(apply AWP.seq)|(apply ACont_normal)|(apply W.region; kernel_rfl)|(apply Walk.nil)|(apply AWP.block)|(apply AWP.skip)|(apply AWP.exit)|(apply ACont_exit)|(apply ABlock_exit)
  | (refine W.cond _ rfl (fun hb => ?_) (fun hb => ?_) <;> ((try simp only [hb, zA, zB]) <;> (try simp only [zC, zD, zE, zF, zG, zH, zI, zJ] at hb) <;> (try (exfalso; omega))))))
      all_goals first
        | (exfalso; omega)|(refine ⟨i + 1, by omega, by omega, ?_⟩; rw [hs.out]; exact ⟨[], rfl, rfl, rfl, iV_eq (by omega), rfl, rfl, trivial⟩)
    · have hs : ∀ a, a ≤ (orderN (l.take i)).length → (∀ j, a ≤ j → j < (orderN (l.take i)).length → ltH cmpH l[i] ((orderN (l.take i)).getD j hl0) = true) → (0 < a → ltH cmpH l[i] ((orderN (l.take i)).getD (a - 1) hl0) = false) → (orderN (l.take i)).take a ++ l[i] :: (orderN (l.take i)).drop a = orderN (l.take (i + 1)) := fun a h1 h2 h3 => by
        have h4 := ins_sort (X := (l.take i).filter keepH) h1 h2 h3
        have h5 : (l.take i).filter keepH ++ [l[i]] = (l.take (i + 1)).filter keepH := by
          rw [List.take_succ_eq_append_getElem hil, List.filter_append]
          have : keepH l[i] = true := decide_eq_true (by omega)
          simp [this]
        rw [h5] at h4
        exact h4
      have hmO : ((orderN (l.take i)).map hlD).length = (orderN (l.take i)).length := List.length_map _
      generalize orderN (l.take i) = O at *
      (repeat' (first
  | (apply W.qd; (first
    | (apply q_mv; (first|exact vD|exact vO|exact vP|exact vA|exact vF|exact vR|exact vN|exact vY|exact vT|exact vM|exact vL|exact vX))|(apply q_as; (first|exact vD|exact vO|exact vP|exact vA|exact vF|exact vR|exact vN|exact vY|exact vT|exact vM|exact vL|exact vX))|(apply q_lss; exact rfl; exact rfl)|(apply q_leq; exact rfl; exact rfl)|(apply q_len_sl; exact rfl; exact rfl)|(apply q_ld_map; (iterate 3 exact rfl); (first | omega | (focus (simp; done))))|(apply q_fld_fptF; (iterate 3 exact rfl))
    | (apply q_ix_slF; (iterate 4 exact rfl); (first | (with_reducible exact rfl) | exact natI_spec rfl | assumption | exact (Int.toNat_of_nonneg (by omega)).symm); (first | omega | (focus (simp only [List.length_map]; omega)) | (focus (simp; done)) | (focus (simp; omega))))))|(apply AWP.seq)|(apply ACont_normal)|(apply (W.regionS 7); exact rfl; kernel_rfl)|(apply Walk.nil)|(apply AWP.block)|(apply AWP.skip)
  | (refine W.cond _ rfl (fun hb => ?_) (fun hb => ?_) <;> ((try simp only [hb, zA, zB]) <;> (try simp only [zC, zD, zE, zF, zG, zH, zI, zJ] at hb) <;> (try (exfalso; omega))))))
      all_goals try (exfalso; omega)
      refine AWP.loopW (α := Nat) (fun a => a ≤ O.length ∧ ∀ j, a ≤ j → j < O.length → ltH cmpH l[i] (O.getD j hl0) = true) (fun a => ⟨[(5, iV a), (4, iV i), (3, hls O), (0, hls l)], []⟩) (fun a => a) O.length ⟨Nat.le_refl _, fun j h1 h2 => by omega⟩ ?wk1 fun a ha => ?_
      case wk1 => exact ⟨[], rfl, rfl, rfl, iV_eq (by rw [hmO]), rfl, rfl, rfl, trivial⟩
      obtain ⟨ha1, ha2⟩ := ha
      rcases Nat.eq_zero_or_pos a with ha0 | ha0
      · subst ha0
        have hf := Lib.hid (hs 0 ha1 ha2 (fun h => by omega))
        clear hs ha2
        (repeat' (first
  | (apply W.qd; (first
    | (apply q_mv; (first|exact vD|exact vO|exact vP|exact vA|exact vF|exact vR|exact vN|exact vY|exact vT|exact vM|exact vL|exact vX))|(apply q_as; (first|exact vD|exact vO|exact vP|exact vA|exact vF|exact vR|exact vN|exact vY|exact vT|exact vM|exact vL|exact vX))
    | (apply q_gtr; exact rfl; exact rfl)))|(apply AWP.seq)|(apply ACont_normal)|(apply (W.regionS 12); exact rfl; kernel_rfl)|(apply Walk.nil)|(apply AWP.exit)|(apply ACont_exit)|(apply ABlock_exit)
  | (apply W.condF; exact rfl)))
        all_goals try (exfalso; omega)
        refine AWP.nilRow 7 4 83 rfl (by omega) ?_
        (repeat' (first
  | (apply W.qd; (first
    | (apply q_mv; (first|exact vD|exact vO|exact vP|exact vA|exact vF|exact vR|exact vN|exact vY|exact vT|exact vM|exact vL|exact vX))|(apply q_as; (first|exact vD|exact vO|exact vP|exact vA|exact vF|exact vR|exact vN|exact vY|exact vT|exact vM|exact vL|exact vX))|(apply q_add; exact rfl; exact rfl; omega)|(apply q_ld_maps; (iterate 3 exact rfl); (first | omega | (focus (simp; done))))|(apply q_litF; (iterate 5 exact rfl); kernel_rfl; kernel_rfl; exact rfl)|(apply q_slc_map; exact rfl; exact rfl; (first | exact ⟨_, _, rfl, rfl⟩ | exact ⟨_, _, rfl, natI_spec rfl⟩ | exact ⟨_, _, rfl, (Int.toNat_of_nonneg (by omega)).symm⟩ | exact rfl); (first | exact ⟨_, _, rfl, rfl⟩ | exact ⟨_, _, rfl, natI_spec rfl⟩ | exact ⟨_, _, rfl, (Int.toNat_of_nonneg (by omega)).symm⟩ | exact rfl); (first | omega | (focus (simp only [List.length_map]; omega)) | (focus (simp; done)) | (focus (simp; omega))); (first | omega | (focus (simp only [List.length_map]; omega)) | (focus (simp; done)) | (focus (simp; omega))); exact Or.inl rfl)|(apply q_ix_slF; (iterate 4 exact rfl); (first | (with_reducible exact rfl) | exact natI_spec rfl | assumption | exact (Int.toNat_of_nonneg (by omega)).symm); (first | omega | (focus (simp only [List.length_map]; omega)) | (focus (simp; done)) | (focus (simp; omega))))
    | (apply q_app0; (iterate 4 exact rfl))))|(apply W.ed; ((apply e_appE; (iterate 8 exact rfl); (simp); (simp <;> omega))))|(apply AWP.seq)|(apply ACont_normal)|(apply W.region; kernel_rfl)|(apply Walk.nil)
  | (apply ABlock_normal)))
        refine ⟨i + 1, by omega, by omega, ?_⟩
        refine ⟨[], rfl, rfl, rfl, iV_eq (by omega), Eq.trans ?_ (frz_rowJ (i := 0) (ver := 2) rfl rfl ?_).symm, rfl, trivial⟩
        · refine (congrArg hls hf.out.symm).trans (congrArg (fun l => AV.d (.sl 4 l)) ?_)
          first | rfl | (simp; done) | (simp [hlD]; done) | (simp [hlD]; rw [List.take_of_length_le (by simp)])
        · first | rfl | (simp; done) | (simp; omega)
      obtain ⟨b, rfl⟩ : ∃ b, a = b + 1 := ⟨a - 1, by omega⟩
      have hix : ((b + 1 : Nat) : Int) - 1 = ((b : Nat) : Int) := by omega
      have eg : O.getD b hl0 = O[b] := by rw [List.getD_eq_getElem?_getD, List.getElem?_eq_getElem (by omega)]; rfl
      have hbf := A_before l[i] O[b]
      cases hq : ltH cmpH l[i] O[b] with
      | true =>
        rw [hq] at hbf
        have hnx : ∀ j, b ≤ j → j < O.length → ltH cmpH l[i] (O.getD j hl0) = true := fun j h1 h2 => by
          by_cases e : j = b
          · subst e; rw [eg]; exact hq
          · exact ha2 j (by omega) h2
        clear hs ha2
        (repeat' (first
  | (apply W.qd; (first
    | (apply (q_callC (hbf)); exact rfl; exact rfl; kernel_rfl; kernel_rfl; kernel_rfl)|(apply q_mv; (first|exact vD|exact vO|exact vP|exact vA|exact vF|exact vR|exact vN|exact vY|exact vT|exact vM|exact vL|exact vX))|(apply q_as; (first|exact vD|exact vO|exact vP|exact vA|exact vF|exact vR|exact vN|exact vY|exact vT|exact vM|exact vL|exact vX))|(apply q_gtr; exact rfl; exact rfl)|(apply q_not; exact rfl)|(apply q_sub; exact rfl; exact rfl; omega)|(apply q_ld_maps; (iterate 3 exact rfl); (first | omega | (focus (simp; done))))
    | (apply q_ix_slF; (iterate 4 exact rfl); (first | (with_reducible exact rfl) | exact natI_spec rfl | assumption | exact (Int.toNat_of_nonneg (by omega)).symm); (first | omega | (focus (simp only [List.length_map]; omega)) | (focus (simp; done)) | (focus (simp; omega))))))|(apply AWP.seq)|(apply ACont_normal)|(apply W.region; kernel_rfl)|(apply W.regionD; exact rfl; kernel_rfl)|(apply Walk.nil)|(apply W.chk; kernel_rfl)|(apply AWP.block)|(apply AWP.skip)|(apply ABlock_normal)|(apply W.condF; exact rfl)
  | (refine W.cond _ rfl (fun hb => ?_) (fun hb => ?_) <;> ((try simp only [hb, zA, zB]) <;> (try simp only [zC, zD, zE, zF, zG, zH, zI, zJ] at hb) <;> (try (exfalso; omega))))))
        all_goals first
          | (exfalso; omega)
          | exact ⟨b, ⟨by omega, hnx⟩, by omega, [], rfl, rfl, rfl, iV_eq (by omega), rfl, rfl, rfl, trivial⟩
      | false =>
        rw [hq] at hbf
        have hf := Lib.hid (hs (b + 1) ha1 ha2 (fun h => by rw [Nat.add_sub_cancel, eg]; exact hq))
        clear hs ha2
        (repeat' (first
  | (apply W.qd; (first
    | (apply (q_callC (hbf)); exact rfl; exact rfl; kernel_rfl; kernel_rfl; kernel_rfl)|(apply q_mv; (first|exact vD|exact vO|exact vP|exact vA|exact vF|exact vR|exact vN|exact vY|exact vT|exact vM|exact vL|exact vX))|(apply q_as; (first|exact vD|exact vO|exact vP|exact vA|exact vF|exact vR|exact vN|exact vY|exact vT|exact vM|exact vL|exact vX))|(apply q_gtr; exact rfl; exact rfl)|(apply q_not; exact rfl)|(apply q_sub; exact rfl; exact rfl; omega)|(apply q_ld_maps; (iterate 3 exact rfl); (first | omega | (focus (simp; done))))
    | (apply q_ix_slF; (iterate 4 exact rfl); (first | (with_reducible exact rfl) | exact natI_spec rfl | assumption | exact (Int.toNat_of_nonneg (by omega)).symm); (first | omega | (focus (simp only [List.length_map]; omega)) | (focus (simp; done)) | (focus (simp; omega))))))|(apply AWP.seq)|(apply ACont_normal)|(apply (W.regionS 12); exact rfl; kernel_rfl)|(apply (W.regionDS 12); exact rfl; exact rfl; kernel_rfl)|(apply Walk.nil)|(apply W.chk; kernel_rfl)|(apply AWP.block)|(apply AWP.skip)|(apply AWP.exit)|(apply ACont_exit)|(apply ABlock_exit)|(apply ABlock_exit'; exact rfl)|(apply W.condT; exact rfl)
  | (refine W.cond _ rfl (fun hb => ?_) (fun hb => ?_) <;> ((try simp only [hb, zA, zB]) <;> (try simp only [zC, zD, zE, zF, zG, zH, zI, zJ] at hb) <;> (try (exfalso; omega))))))
        all_goals try (exfalso; omega)
        refine AWP.nilRow 7 4 83 rfl (by omega) ?_
        (repeat' (first
  | (apply W.qd; (first
    | (apply q_mv; (first|exact vD|exact vO|exact vP|exact vA|exact vF|exact vR|exact vN|exact vY|exact vT|exact vM|exact vL|exact vX))|(apply q_as; (first|exact vD|exact vO|exact vP|exact vA|exact vF|exact vR|exact vN|exact vY|exact vT|exact vM|exact vL|exact vX))|(apply q_add; exact rfl; exact rfl; omega)|(apply q_ld_maps; (iterate 3 exact rfl); (first | omega | (focus (simp; done))))|(apply q_litF; (iterate 5 exact rfl); kernel_rfl; kernel_rfl; exact rfl)|(apply q_slc_map; exact rfl; exact rfl; (first | exact ⟨_, _, rfl, rfl⟩ | exact ⟨_, _, rfl, natI_spec rfl⟩ | exact ⟨_, _, rfl, (Int.toNat_of_nonneg (by omega)).symm⟩ | exact rfl); (first | exact ⟨_, _, rfl, rfl⟩ | exact ⟨_, _, rfl, natI_spec rfl⟩ | exact ⟨_, _, rfl, (Int.toNat_of_nonneg (by omega)).symm⟩ | exact rfl); (first | omega | (focus (simp only [List.length_map]; omega)) | (focus (simp; done)) | (focus (simp; omega))); (first | omega | (focus (simp only [List.length_map]; omega)) | (focus (simp; done)) | (focus (simp; omega))); exact Or.inl rfl)
    | (apply q_ix_slF; (iterate 4 exact rfl); (first | (with_reducible exact rfl) | exact natI_spec rfl | assumption | exact (Int.toNat_of_nonneg (by omega)).symm); (first | omega | (focus (simp only [List.length_map]; omega)) | (focus (simp; done)) | (focus (simp; omega))))))|(apply W.ed; ((apply e_appE; (iterate 8 exact rfl); (simp); (simp <;> omega))))|(apply AWP.seq)|(apply ACont_normal)|(apply W.region; kernel_rfl)|(apply Walk.nil)
  | (apply ABlock_normal)))
        refine ⟨i + 1, by omega, by omega, ?_⟩
        refine ⟨[], rfl, rfl, rfl, iV_eq (by omega), Eq.trans ?_ (frz_rowJ (i := 0) (ver := 3) rfl rfl ?_).symm, rfl, trivial⟩
        · refine (congrArg hls hf.out.symm).trans (congrArg (fun l => AV.d (.sl 4 l)) ?_)
          first | rfl | (simp; done) | (simp [hlD]; done) | (simp [hlD]; rw [List.take_of_length_le (by simp)])
        · first | rfl | (simp; done) | (simp; omega)
  · have e : i = l.length := by omega
    subst e
    rw [List.take_length] at *
    (repeat' (first
  | (apply W.qd; (first
    | (apply q_mv; (first|exact vD|exact vO|exact vP|exact vA|exact vF|exact vR|exact vN|exact vY|exact vT|exact vM|exact vL|exact vX))|(apply q_as; (first|exact vD|exact vO|exact vP|exact vA|exact vF|exact vR|exact vN|exact vY|exact vT|exact vM|exact vL|exact vX))|(apply q_lss; exact rfl; exact rfl)
    | (apply q_len_sl; exact rfl; exact rfl)))|(apply AWP.seq)|(apply ACont_normal)|(apply W.region; kernel_rfl)|(apply Walk.nil)|(apply AWP.exit)|(apply AWP.ret)|(apply ACont_exit)|(apply ABlock_exit)
  | (refine W.cond _ rfl (fun hb => ?_) (fun hb => ?_) <;> ((try simp only [hb, zA, zB]) <;> (try simp only [zC, zD, zE, zF, zG, zH, zI, zJ] at hb) <;> (try (exfalso; omega))))))
    exact Ends.sl rfl rfl
end Go.Proofs.YtaclmbbiegklcaaGreatDoor
end
section
/- Layer 36: the statement HealthMatchesSpec over the machine of abstract values. -/
namespace Go.Proofs.YtaclmbbiegklcaaGreatDoor
open Go.RowKit
set_option maxHeartbeats 4000000
set_option maxRecDepth 100000
attribute [local irreducible] Quiet Eff OpOk AWPG ACont ABlock ACalls AGoto
theorem A_healthMatches {nm : List Nat} {M D dom : Int} {par : List (List Int)} {st : List Int} {l : List Hl} (hn : isB nm) (hnl : nm.length < 9223372036854775808) : ACalls Tryz.prog 4 [cdF nm M D par dom, ints st, hls l] [] (bV true) [] := by
  refine acalls_of_body Tryz.func4 rfl (Nat.le_of_ble_eq_true rfl) ?_
  have hms : (st.map iD).length = st.length := List.length_map _
  have hml : (l.map hlD).length = l.length := List.length_map _
  have hsm := A_small36 (nm := nm) (M := M) (dom := dom) (D := D) (par := par)
  have hs := A_sanity36
  by_cases hg : smallH D par = true ∧ st.length ≤ 12 ∧ l.length ≤ 60
  case neg =>
    cases hq : smallH D par with
    | false =>
      rw [hq] at hsm
      (repeat' (first
  | (apply W.qd; (first
    | (apply (q_callC (hsm)); exact rfl; exact rfl; kernel_rfl; kernel_rfl; kernel_rfl)|(apply (q_callC (hs)); exact rfl; exact rfl; kernel_rfl; kernel_rfl; kernel_rfl)|(apply q_mv; (first|exact vD|exact vO|exact vP|exact vA|exact vF|exact vR|exact vN|exact vY|exact vT|exact vM|exact vL|exact vX))|(apply q_as; (first|exact vD|exact vO|exact vP|exact vA|exact vF|exact vR|exact vN|exact vY|exact vT|exact vM|exact vL|exact vX))|(apply q_ld_boxF; (iterate 4 exact rfl))|(apply q_not; exact rfl)
    | (apply (q_pickT (u := .d _)); exact rfl; exact rfl)))|(apply W.ed; (apply e_boxF; (iterate 3 exact rfl); kernel_rfl; kernel_rfl))|(refine W.gOff _ _ rfl rfl (by intro h; cases h) ?_)|(apply AWP.seq)|(apply ACont_normal)|(apply W.region; kernel_rfl)|(apply Walk.nil)|(apply AWP.ret)|(apply ACont_ret)
  | (apply W.condT; exact rfl)))
      all_goals exact Ends.b rfl rfl
    | true =>
      rw [hq] at hsm
      have : ¬ (st.length ≤ 12 ∧ l.length ≤ 60) := fun h => hg ⟨hq, h⟩
      (repeat' (first
  | (apply W.gOn; exact rfl; exact rfl)
  | (apply W.qd; (first
    | (apply (q_callC (hsm)); exact rfl; exact rfl; kernel_rfl; kernel_rfl; kernel_rfl)|(apply (q_callC (hs)); exact rfl; exact rfl; kernel_rfl; kernel_rfl; kernel_rfl)|(apply q_mv; (first|exact vD|exact vO|exact vP|exact vA|exact vF|exact vR|exact vN|exact vY|exact vT|exact vM|exact vL|exact vX))|(apply q_as; (first|exact vD|exact vO|exact vP|exact vA|exact vF|exact vR|exact vN|exact vY|exact vT|exact vM|exact vL|exact vX))|(apply q_ld_boxF; (iterate 4 exact rfl))|(apply q_gtr; exact rfl; exact rfl)|(apply q_not; exact rfl)|(apply q_len_sl; exact rfl; exact rfl)|(apply (q_pickT (u := .d _)); exact rfl; exact rfl)
    | (apply (q_pickF (u := .d _)); exact rfl; exact rfl)))|(apply W.ed; (apply e_boxF; (iterate 3 exact rfl); kernel_rfl; kernel_rfl))|(refine W.gOff _ _ rfl rfl (by intro h; cases h) ?_)|(apply AWP.seq)|(apply ACont_normal)|(apply (W.regionS 4); exact rfl; kernel_rfl)|(apply Walk.nil)|(apply AWP.ret)|(apply ACont_ret)|(apply W.condT; exact rfl)|(refine W.gF _ _ rfl rfl (fun hb => ?_) (fun hb => ?_) <;> ((try simp only [hb, zA, zB]) <;> (try simp only [zC, zD, zE, zF, zG, zH, zI, zJ] at hb) <;> (try (exfalso; omega))))
  | (refine W.cond _ rfl (fun hb => ?_) (fun hb => ?_) <;> ((try simp only [hb, zA, zB]) <;> (try simp only [zC, zD, zE, zF, zG, zH, zI, zJ] at hb) <;> (try (exfalso; omega))))))
      all_goals first | exact Ends.b rfl rfl | (exfalso; omega)
  obtain ⟨g1, g2, g3⟩ := hg
  rw [g1] at hsm
  unfold smallH at g1
  simp only [Bool.and_eq_true, decide_eq_true_eq] at g1
  obtain ⟨k4, k5, k6, k7⟩ := g1
  have hF : FIn nm D par := ⟨hn, hnl, by omega, by omega⟩
  have hh := A_have (l := st) (by omega)
  have hrh := A_rhave (l := st) (by omega)
  have hA := A_hleft (M := M) (dom := dom) (l := st) hF (by omega)
  have hrA := A_rleft (M := M) (dom := dom) (l := st) hF (by omega)
  have hFu := A_full (M := M) (dom := dom) (l := st) hF (by omega)
  have hrF := A_rfull (M := M) (dom := dom) (l := st) hF (by omega)
  have hO := A_order (l := l) (by omega)
  have hrO := A_rorder (l := l) (by omega)
  have hW := A_worst (l := l) (by omega)
  have hrW := A_rworst (l := l) (by omega)
  have hol : (orderN l).length ≤ 60 := by
    show (sortN _ _).length ≤ _
    rw [sortN_len]
    exact Nat.le_trans (List.length_filter_le _ _) g3
  have hli := A_list36 (a := orderN l) (b := orderN l) (by omega) (by omega)
  rw [decide_eq_true rfl] at hli
  generalize leftC nm M D par dom (haveN st) = a at *
  generalize fullN nm M D par dom st = fu at *
  generalize orderN l = O at *
  generalize worstN l = wo at *
  have hhl : ((haveN st).map tD).length = st.length := by rw [List.length_map, haveN_len]
  have hhl2 := haveN_len st
  generalize haveN st = H at *
  (repeat' (first
  | (apply W.gOn; exact rfl; exact rfl)
  | (apply W.qd; (first
    | (apply (q_callC (hsm)); exact rfl; exact rfl; kernel_rfl; kernel_rfl; kernel_rfl)|(apply (q_callC (hh)); exact rfl; exact rfl; kernel_rfl; kernel_rfl; kernel_rfl)|(apply (q_callC (hrh)); exact rfl; exact rfl; kernel_rfl; kernel_rfl; kernel_rfl)|(apply q_mv; (first|exact vD|exact vO|exact vP|exact vA|exact vF|exact vR|exact vN|exact vY|exact vT|exact vM|exact vL|exact vX))|(apply q_as; (first|exact vD|exact vO|exact vP|exact vA|exact vF|exact vR|exact vN|exact vY|exact vT|exact vM|exact vL|exact vX))|(apply q_ld_boxF; (iterate 4 exact rfl))|(apply q_gtr; exact rfl; exact rfl)|(apply q_neq; exact rfl; exact rfl)|(apply q_not; exact rfl)|(apply q_len_sl; exact rfl; exact rfl)
    | (apply (q_pickF (u := .d _)); exact rfl; exact rfl)))|(apply W.ed; (apply e_boxF; (iterate 3 exact rfl); kernel_rfl; kernel_rfl))|(apply AWP.seq)|(apply ACont_normal)|(apply (W.regionS 9); exact rfl; kernel_rfl)|(apply Walk.nil)|(apply AWP.block)|(apply AWP.skip)|(refine W.gF _ _ rfl rfl (fun hb => ?_) (fun hb => ?_) <;> ((try simp only [hb, zA, zB]) <;> (try simp only [zC, zD, zE, zF, zG, zH, zI, zJ] at hb) <;> (try (exfalso; omega))))
  | (refine W.cond _ rfl (fun hb => ?_) (fun hb => ?_) <;> ((try simp only [hb, zA, zB]) <;> (try simp only [zC, zD, zE, zF, zG, zH, zI, zJ] at hb) <;> (try (exfalso; omega))))))
  all_goals try (exfalso; omega)
  refine AWP.loopW (α := Nat) (fun k => k ≤ H.length) (fun k => ⟨[(10, iV k), (8, bools H), (9, bools H), (1, ints st), (2, hls l), (3, .opt 0 0)], [.box [bS nm, iV M, iV D, rowsA par, iV dom]]⟩) (fun k => H.length - k) 0 (Nat.zero_le _) ⟨[0], rfl, rfl, rfl, by (repeat (first | exact trivial | refine ⟨rfl, ?_⟩))⟩ fun k hk => ?_
  by_cases hkl : k < H.length
  · (repeat' (first
  | (apply W.qd; (first
    | (apply q_mv; (first|exact vD|exact vO|exact vP|exact vA|exact vF|exact vR|exact vN|exact vY|exact vT|exact vM|exact vL|exact vX))|(apply q_as; (first|exact vD|exact vO|exact vP|exact vA|exact vF|exact vR|exact vN|exact vY|exact vT|exact vM|exact vL|exact vX))|(apply q_lss; exact rfl; exact rfl)|(apply q_add; exact rfl; exact rfl; omega)|(apply q_len_sl; exact rfl; exact rfl)|(apply q_ld_map; (iterate 3 exact rfl); (first | omega | (focus (simp; done))))|(apply q_ix_slF; (iterate 4 exact rfl); (first | (with_reducible exact rfl) | exact natI_spec rfl | assumption | exact (Int.toNat_of_nonneg (by omega)).symm); (first | omega | (focus (simp only [List.length_map]; omega)) | (focus (simp; done)) | (focus (simp; omega))))
    | (apply q_neqB; (iterate 3 exact rfl))))|(apply AWP.seq)|(apply ACont_normal)|(apply W.region; kernel_rfl)|(apply W.regionD; exact rfl; kernel_rfl)|(apply Walk.nil)|(apply W.chk; kernel_rfl)|(apply AWP.block)|(apply AWP.skip)|(apply AWP.ret)|(apply ACont_ret)|(apply ABlock_normal)|(apply ABlock_ret)
  | (refine W.cond _ rfl (fun hb => ?_) (fun hb => ?_) <;> ((try simp only [hb, zA, zB]) <;> (try simp only [zC, zD, zE, zF, zG, zH, zI, zJ] at hb) <;> (try (exfalso; omega))))))
    all_goals first
      | exact ⟨k + 1, by omega, by omega, [0], rfl, rfl, rfl, iV_eq (by omega), rfl, rfl, rfl, rfl, rfl, trivial⟩
      | (exfalso; simp at hb; done)
  · (repeat' (first
  | (apply W.gOn; exact rfl; exact rfl)
  | (apply W.qd; (first
    | (apply (q_callC (hs)); exact rfl; exact rfl; kernel_rfl; kernel_rfl; kernel_rfl)|(apply (q_callC (hA)); exact rfl; exact rfl; kernel_rfl; kernel_rfl; kernel_rfl)|(apply (q_callC (hrA)); exact rfl; exact rfl; kernel_rfl; kernel_rfl; kernel_rfl)|(apply (q_callC (hFu)); exact rfl; exact rfl; kernel_rfl; kernel_rfl; kernel_rfl)|(apply (q_callC (hrF)); exact rfl; exact rfl; kernel_rfl; kernel_rfl; kernel_rfl)|(apply (q_callC (hO)); exact rfl; exact rfl; kernel_rfl; kernel_rfl; kernel_rfl)|(apply (q_callC (hrO)); exact rfl; exact rfl; kernel_rfl; kernel_rfl; kernel_rfl)|(apply (q_callC (hW)); exact rfl; exact rfl; kernel_rfl; kernel_rfl; kernel_rfl)|(apply (q_callC (hrW)); exact rfl; exact rfl; kernel_rfl; kernel_rfl; kernel_rfl)|(apply (q_callC (hli)); exact rfl; exact rfl; kernel_rfl; kernel_rfl; kernel_rfl)|(apply q_mv; (first|exact vD|exact vO|exact vP|exact vA|exact vF|exact vR|exact vN|exact vY|exact vT|exact vM|exact vL|exact vX))|(apply q_as; (first|exact vD|exact vO|exact vP|exact vA|exact vF|exact vR|exact vN|exact vY|exact vT|exact vM|exact vL|exact vX))|(apply q_ld_boxF; (iterate 4 exact rfl))|(apply q_lss; exact rfl; exact rfl)|(apply q_eql; exact rfl; exact rfl)|(apply q_len_sl; exact rfl; exact rfl)|(apply (q_pickT (u := .d _)); exact rfl; exact rfl)|(apply (q_pickF (u := .d _)); exact rfl; exact rfl)
    | (apply q_eqlB; (iterate 3 exact rfl))))|(refine W.gOff _ _ rfl rfl (by intro h; cases h) ?_)|(apply AWP.seq)|(apply ACont_normal)|(apply W.region; kernel_rfl)|(apply W.regionD; exact rfl; kernel_rfl)|(apply Walk.nil)|(apply W.chk; kernel_rfl)|(apply AWP.exit)|(apply AWP.ret)|(apply ACont_exit)|(apply ABlock_exit)|(refine W.gT _ _ rfl rfl (fun hb => ?_) (fun hb => ?_) <;> ((try simp only [hb, zA, zB]) <;> (try simp only [zC, zD, zE, zF, zG, zH, zI, zJ] at hb) <;> (try (exfalso; omega))))
  | (refine W.cond _ rfl (fun hb => ?_) (fun hb => ?_) <;> ((try simp only [hb, zA, zB]) <;> (try simp only [zC, zD, zE, zF, zG, zH, zI, zJ] at hb) <;> (try (exfalso; omega))))))
    all_goals first
      | exact Ends.b rfl rfl
      | (exfalso; simp at hb; done)
      | exact Ends.b rfl (by simp)
end Go.Proofs.YtaclmbbiegklcaaGreatDoor
end
