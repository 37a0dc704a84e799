import Derived.Test.YtilpljehfcpjeaaDoorMRepairApplyMatchesSpec5
/- Joined texts: Rp4 Rp5 Rp6 Rp7 Rp8 Rp9 Rp10 Rp11 Rp13. -/
section
/- Package repair over the machine of abstract values: terms, Plan, Reads. -/
namespace Go.Proofs.YtilpljehfcpjeaaDoor
open Go.RowKit
set_option linter.unusedVariables false
set_option linter.unusedSimpArgs false
set_option maxHeartbeats 4000000
set_option maxRecDepth 100000

theorem cterms_take (M D : Nat) (row L : List Nat) (u k : Nat) (h : k < L.length) : ctermsN M D row (L.take (k + 1)) u = if L[k] = u then ctermsN M D row (L.take k) u else ctermsN M D row (L.take k) u ++ [(L[k], mu M (coefN row D L[k]) (invN M (coefN row D u)))] := by
  unfold ctermsN
  rw [List.take_succ_eq_append_getElem h, List.filter_append, List.map_append]
  by_cases e : L[k] = u
  · have e2 : (L[k] != u) = false := by simpa using e
    rw [if_pos e]; simp only [List.filter_cons, e2, Bool.false_eq_true, if_false, List.filter_nil, List.map_nil, List.append_nil]
  · have e2 : (L[k] != u) = true := by simpa using e
    rw [if_neg e]; simp only [List.filter_cons, e2, if_true, List.filter_nil, List.map_cons, List.map_nil]
theorem cterms_le (M D : Nat) (row L : List Nat) (u : Nat) : (ctermsN M D row L u).length ≤ L.length := by
  unfold ctermsN; rw [List.length_map]; exact List.length_filter_le _ _
/-- The candidates among the first k checks of a list. -/
def candC (M D : Nat) (ps : List (List Nat)) (oth : List Bool) (u : Nat) (I : List Nat) : List (List (Nat × Nat)) := (I.filter fun i => fullC oth (checkN D i (ps.getD i [])) u).map fun i => ctermsN M D (ps.getD i []) (checkN D i (ps.getD i [])) u
theorem candC_take (M D : Nat) (ps : List (List Nat)) (oth : List Bool) (u : Nat) (I : List Nat) (k : Nat) (h : k < I.length) : candC M D ps oth u (I.take (k + 1)) = if fullC oth (checkN D I[k] (ps.getD I[k] [])) u = true then candC M D ps oth u (I.take k) ++ [ctermsN M D (ps.getD I[k] []) (checkN D I[k] (ps.getD I[k] [])) u] else candC M D ps oth u (I.take k) := by
  unfold candC
  rw [List.take_succ_eq_append_getElem h, List.filter_append, List.map_append]
  by_cases e : fullC oth (checkN D I[k] (ps.getD I[k] [])) u = true
  · rw [if_pos e]; simp only [List.filter_cons, e, if_true, List.filter_nil, List.map_cons, List.map_nil]
  · have e2 := Bool.eq_false_iff.2 e
    rw [if_neg e]; simp only [List.filter_cons, e2, Bool.false_eq_true, if_false, List.filter_nil, List.map_nil, List.append_nil]
theorem candC_le (M D : Nat) (ps : List (List Nat)) (oth : List Bool) (u : Nat) (I : List Nat) : (candC M D ps oth u I).length ≤ I.length := by
  unfold candC; rw [List.length_map]; exact List.length_filter_le _ _
/-- Is a unit, not u, missing? -/
def misZ (oth : List Bool) (u : Nat) (x : Int) : Bool := !decide (x = (u : Int)) && !(oth.getD x.toNat false)
theorem misZ_full (oth : List Bool) (u : Nat) (l : List Nat) : (l.map fun n : Nat => (n : Int)).any (misZ oth u) = !fullC oth l u := by
  unfold fullC misZ
  rw [List.any_map, List.all_eq_not_any_not, Bool.not_not]
  congr 1
  funext x
  show (!decide ((x : Int) = (u : Int)) && !(oth.getD (x : Int).toNat false)) = !(x == u || oth.getD x false)
  rw [Int.toNat_natCast, Bool.not_or]
  congr 2
  rw [Bool.eq_iff_iff]
  simp
  omega
attribute [local irreducible] Quiet Eff OpOk AWPG ACont ABlock ACalls AGoto

theorem A_rterms {M D i u : Nat} {ps : List (List Nat)} (h : CodeOk M D ps) (hi : i < ps.length) (hu : u ∈ checkN D i (ps.getD i [])) : ACalls Tryd.prog 33 [cdN M D ps, nats (checkN D i (ps.getD i [])), iV u] [] (tmsA (ctermsN M D (ps.getD i []) (checkN D i (ps.getD i [])) u)) [] := by
  refine acalls_of_body Tryd.func33 rfl (Nat.le_of_ble_eq_true rfl) ?_
  have h1 := h.d
  have h2 := h.w
  have hM := h.f
  have hck := fun k (hk : k ∈ checkN D i (ps.getD i [])) => coef_ok h hi hk
  have hr := (h.row _ (List.getElem_mem hi)).1
  have e : ps.getD i [] = ps[i] := by rw [List.getD_eq_getElem?_getD, List.getElem?_eq_getElem hi]; rfl
  have hLl : (checkN D i (ps.getD i [])).length = (dataC D (ps.getD i []) D).length + 1 := by simp [checkN]
  have hLv : ∀ h : (dataC D (ps.getD i []) D).length < (checkN D i (ps.getD i [])).length, (checkN D i (ps.getD i []))[(dataC D (ps.getD i []) D).length] = D + i := fun h => by simp [checkN]
  have hLc := checkN_length D i (ps.getD i [])
  rw [e] at hck hLl hLv hLc hu ⊢
  generalize (dataC D ps[i] D).length = n at *
  have hs := fun k (hk : k < (checkN D i ps[i]).length) => Lib.hid (cterms_take M D ps[i] (checkN D i ps[i]) u k hk)
  have hle := fun k => cterms_le M D ps[i] ((checkN D i ps[i]).take k) u
  have h00 : ctermsN M D ps[i] ((checkN D i ps[i]).take 0) u = [] := rfl
  have hfull : ctermsN M D ps[i] ((checkN D i ps[i]).take (checkN D i ps[i]).length) u = ctermsN M D ps[i] (checkN D i ps[i]) u := by rw [List.take_length]
  generalize checkN D i ps[i] = L at *
  have hml : (L.map kD).length = L.length := List.length_map _
  have hi1 : (((L.map kD).length : Int) - 1) = ((n : Nat) : Int) := by omega
  have hv := hLv (by omega)
  have hi2 : ((L[n]'(by omega) : Nat) : Int) - (D : Int) = ((i : Nat) : Int) := by omega
  have hcl := A_clone (l := ps[i]) (by omega) (by omega)
  have hcoef := fun k (hk : k < 1000) => A_coef (M := M) (ps := ps) (row := ps[i]) hk hr (show D ≤ 32 by omega)
  have hlr : (ps[i]).length = D := hr
  generalize hC : (fun k => ctermsN M D ps[i] (L.take k) u) = CT
  have hC' : ∀ k, ctermsN M D ps[i] (L.take k) u = CT k := fun k => congrFun hC k
  simp only [hC'] at hs hle h00 hfull
  rw [← hfull]
  (repeat' (first
  | (apply W.qd; (apply q_as; (first
    | exact Eq.refl (AV.d _)
    | exact Eq.refl (AV.osl _ _ _ _)
    | exact Eq.refl (AV.opt _ _)
    | exact Eq.refl (AV.agg _)
    | exact Eq.refl (AV.fpt _ _ _ _)
    | exact Eq.refl (AV.rpt _ _ _ _)
    | exact Eq.refl (AV.fn _ _)
    | exact Eq.refl (AV.yl _)
    | exact Eq.refl (AV.tup _)
    | exact Eq.refl AV.top)))
  | (apply W.ed; (apply e_boxF; exact rfl; exact rfl; exact rfl; kernel_rfl; kernel_rfl))
  | (apply AWP.seq)
  | (apply ACont_normal)
  | (apply (W.regionS 1); exact rfl; kernel_rfl)
  | (apply Walk.nil)))
  refine AWP.hole rfl (AWP.hole rfl ?_)
  (repeat' (first
  | (apply W.qd; (first
    | (apply q_mv; (first
    | exact Eq.refl (AV.d _)
    | exact Eq.refl (AV.osl _ _ _ _)
    | exact Eq.refl (AV.opt _ _)
    | exact Eq.refl (AV.agg _)
    | exact Eq.refl (AV.fpt _ _ _ _)
    | exact Eq.refl (AV.rpt _ _ _ _)
    | exact Eq.refl (AV.fn _ _)
    | exact Eq.refl (AV.yl _)
    | exact Eq.refl (AV.tup _)
    | exact Eq.refl AV.top))
    | (apply q_as; (first
    | exact Eq.refl (AV.d _)
    | exact Eq.refl (AV.osl _ _ _ _)
    | exact Eq.refl (AV.opt _ _)
    | exact Eq.refl (AV.agg _)
    | exact Eq.refl (AV.fpt _ _ _ _)
    | exact Eq.refl (AV.rpt _ _ _ _)
    | exact Eq.refl (AV.fn _ _)
    | exact Eq.refl (AV.yl _)
    | exact Eq.refl (AV.tup _)
    | exact Eq.refl AV.top))
    | (apply q_fld_optF; exact rfl; exact rfl; exact rfl)
    | (apply q_ld_box; exact rfl; exact rfl; exact rfl; exact rfl)
    | (apply q_sub; exact rfl; exact rfl; omega)
    | (apply q_len_sl; exact rfl; exact rfl)
    | (apply q_ld_map; exact rfl; exact rfl; exact rfl; (first | omega | (focus (simp; done))))
    | (apply q_makeFunc)
    | (apply q_litF; exact rfl; exact rfl; exact rfl; exact rfl; exact rfl; kernel_rfl; kernel_rfl; exact rfl)
    | (apply q_ix_slF; exact rfl; exact rfl; exact rfl; exact rfl; (first | (with_reducible exact rfl) | exact natI_spec rfl | assumption | exact (Int.toNat_of_nonneg (by omega)).symm); (first | omega | (focus (simp only [List.length_map]; omega)) | (focus (simp; done)) | (focus (simp; omega))))))
  | (apply W.ld; (first
    | (apply (l_call (hcl)); exact rfl; exact rfl; exact rfl; exact rfl; kernel_rfl; kernel_rfl)
    | (apply (l_app1 (f := kD) 1); exact rfl; exact rfl; exact rfl; exact rfl; exact rfl; exact rfl; exact rfl; exact rfl; omega)
    | (apply l_alloc; exact rfl; exact rfl; exact rfl; kernel_rfl; kernel_rfl)))
  | (apply W.ln; (apply l_st_box; exact rfl; exact rfl; exact rfl; exact rfl; exact rfl; exact rfl; kernel_rfl; kernel_rfl; kernel_rfl))
  | (apply AWP.seq)
  | (apply ACont_normal)
  | (apply W.region; kernel_rfl)
  | (apply W.regionD; exact rfl; kernel_rfl)
  | (apply Walk.nil)
  | (apply W.chk; kernel_rfl)
  | (apply AWP.block)))
  refine AWP.nilRow 9 2 47 rfl (by omega) ?_
  refine AWP.loopW (α := Nat) (fun k => k ≤ L.length) (fun k => ⟨[(33, iV k), (32, iV L.length), (31, nats L), (2, iV u), (8, .fn 61 [.opt 2 0, .opt 0 0]), (3, .opt 0 0), (9, .osl 3 (CT k).length 0 (CT k).length)], [.box [.d .any, iV M, iV D, rowsN ps, .d .any], .row 2 1 3 ((ps[i] ++ [1]).map kD), .box [.osl 1 2 0 (D + 1)], .row (CT k).length 2 47 ((CT k).map tmD)]⟩) (fun k => L.length - k) 0 (by omega) ?wk0 fun k hk => ?_
  case wk0 =>
    rw [h00]
    refine ⟨[0, 1, 2, 3], rfl, rfl, ?_, rfl, iV_eq (by simp), rfl, rfl, rfl, rfl, rfl, trivial⟩
    have e9 : (ps[i] ++ [1]).length = D + 1 := by simp [hr]
    show _ = _
    rw [← e9]
    rfl
  have hlc := hle k
  have hlk : (L.take k).length ≤ 33 := by rw [List.length_take]; omega
  by_cases hkl : k < L.length
  · have hs2 := hs k hkl
    have hk1 := hck L[k] (List.getElem_mem hkl)
    have hu1 := hck u hu
    have c1 := hcoef L[k] (by omega)
    have c2 := hcoef u (by omega)
    have c3 := A_div hM hk1.2.1 hu1.2.1 hu1.2.2
    generalize coefN ps[i] D L[k] = a at *
    generalize coefN ps[i] D u = b at *
    by_cases hku : L[k] = u
    · replace hs2 := Lib.hid (hs2.out.trans (if_pos hku))
      (repeat' (first
  | (apply W.qd; (first
    | (apply q_mv; (first
    | exact Eq.refl (AV.d _)
    | exact Eq.refl (AV.osl _ _ _ _)
    | exact Eq.refl (AV.opt _ _)
    | exact Eq.refl (AV.agg _)
    | exact Eq.refl (AV.fpt _ _ _ _)
    | exact Eq.refl (AV.rpt _ _ _ _)
    | exact Eq.refl (AV.fn _ _)
    | exact Eq.refl (AV.yl _)
    | exact Eq.refl (AV.tup _)
    | exact Eq.refl AV.top))
    | (apply q_as; (first
    | exact Eq.refl (AV.d _)
    | exact Eq.refl (AV.osl _ _ _ _)
    | exact Eq.refl (AV.opt _ _)
    | exact Eq.refl (AV.agg _)
    | exact Eq.refl (AV.fpt _ _ _ _)
    | exact Eq.refl (AV.rpt _ _ _ _)
    | exact Eq.refl (AV.fn _ _)
    | exact Eq.refl (AV.yl _)
    | exact Eq.refl (AV.tup _)
    | exact Eq.refl AV.top))
    | (apply q_lss; exact rfl; exact rfl)
    | (apply q_neq; exact rfl; exact rfl)
    | (apply q_add; exact rfl; exact rfl; omega)
    | (apply q_ld_map; exact rfl; exact rfl; exact rfl; (first | omega | (focus (simp; done))))
    | (apply q_ix_slF; exact rfl; exact rfl; exact rfl; exact rfl; (first | (with_reducible exact rfl) | exact natI_spec rfl | assumption | exact (Int.toNat_of_nonneg (by omega)).symm); (first | omega | (focus (simp only [List.length_map]; omega)) | (focus (simp; done)) | (focus (simp; omega))))))
  | (apply AWP.seq)
  | (apply ACont_normal)
  | (apply W.region; kernel_rfl)
  | (apply Walk.nil)
  | (apply AWP.block)
  | (apply AWP.skip)
  | (apply ABlock_normal)
  | (refine W.cond _ rfl (fun hb => ?_) (fun hb => ?_) <;> ((try simp only [hb, Bool.not_true, Bool.not_false]) <;> (try simp only [decide_eq_true_eq, decide_eq_false_iff_not, Bool.not_eq_true', Bool.not_eq_false', Int.not_lt, Int.not_le, List.length_map, not_true_eq_false] at hb) <;> (try (exfalso; omega))))))
      refine ⟨k + 1, by omega, by omega, ?_⟩
      rw [hs2.out]
      exact ⟨[0, 1, 2, 3], rfl, rfl, rfl, iV_eq (by omega), rfl, rfl, rfl, rfl, rfl, rfl, trivial⟩
    · replace hs2 := Lib.hid (hs2.out.trans (if_neg hku))
      (repeat' (first
  | (apply W.qd; (first
    | (apply (q_callR (js := [0, 2, 1]) (c1)); exact rfl; exact rfl; exact rfl; exact fun _ => rfl; exact fun _ => rfl; kernel_rfl; kernel_rfl)
    | (apply (q_callR (js := [0, 2, 1]) (c2)); exact rfl; exact rfl; exact rfl; exact fun _ => rfl; exact fun _ => rfl; kernel_rfl; kernel_rfl)
    | (apply (q_callC (c3)); exact rfl; exact rfl; kernel_rfl; kernel_rfl; kernel_rfl)
    | (apply q_mv; (first
    | exact Eq.refl (AV.d _)
    | exact Eq.refl (AV.osl _ _ _ _)
    | exact Eq.refl (AV.opt _ _)
    | exact Eq.refl (AV.agg _)
    | exact Eq.refl (AV.fpt _ _ _ _)
    | exact Eq.refl (AV.rpt _ _ _ _)
    | exact Eq.refl (AV.fn _ _)
    | exact Eq.refl (AV.yl _)
    | exact Eq.refl (AV.tup _)
    | exact Eq.refl AV.top))
    | (apply q_as; (first
    | exact Eq.refl (AV.d _)
    | exact Eq.refl (AV.osl _ _ _ _)
    | exact Eq.refl (AV.opt _ _)
    | exact Eq.refl (AV.agg _)
    | exact Eq.refl (AV.fpt _ _ _ _)
    | exact Eq.refl (AV.rpt _ _ _ _)
    | exact Eq.refl (AV.fn _ _)
    | exact Eq.refl (AV.yl _)
    | exact Eq.refl (AV.tup _)
    | exact Eq.refl AV.top))
    | (apply q_fld_optF; exact rfl; exact rfl; exact rfl)
    | (apply q_ld_box; exact rfl; exact rfl; exact rfl; exact rfl)
    | (apply q_lss; exact rfl; exact rfl)
    | (apply q_neq; exact rfl; exact rfl)
    | (apply q_add; exact rfl; exact rfl; omega)
    | (apply q_extract; exact rfl; exact rfl)
    | (apply q_ld_map; exact rfl; exact rfl; exact rfl; (first | omega | (focus (simp; done))))
    | (apply q_buildF; exact rfl; exact rfl; kernel_rfl)
    | (apply q_litF; exact rfl; exact rfl; exact rfl; exact rfl; exact rfl; kernel_rfl; kernel_rfl; exact rfl)
    | (apply q_ix_slF; exact rfl; exact rfl; exact rfl; exact rfl; (first | (with_reducible exact rfl) | exact natI_spec rfl | assumption | exact (Int.toNat_of_nonneg (by omega)).symm); (first | omega | (focus (simp only [List.length_map]; omega)) | (focus (simp; done)) | (focus (simp; omega))))))
  | (apply W.ld; (apply (l_app1 (f := tmD) (L[k], mu M a (invN M b))); exact rfl; exact rfl; exact rfl; exact rfl; exact rfl; exact rfl; exact rfl; exact rfl; omega))
  | (apply AWP.seq)
  | (apply ACont_normal)
  | (apply W.region; kernel_rfl)
  | (apply W.regionD; exact rfl; kernel_rfl)
  | (apply Walk.nil)
  | (apply W.chk; kernel_rfl)
  | (apply AWP.block)
  | (apply AWP.skip)
  | (apply ABlock_normal)
  | (refine W.cond _ rfl (fun hb => ?_) (fun hb => ?_) <;> ((try simp only [hb, Bool.not_true, Bool.not_false]) <;> (try simp only [decide_eq_true_eq, decide_eq_false_iff_not, Bool.not_eq_true', Bool.not_eq_false', Int.not_lt, Int.not_le, List.length_map, not_true_eq_false] at hb) <;> (try (exfalso; omega))))))
      refine ⟨k + 1, by omega, by omega, ?_⟩
      rw [hs2.out, show (CT k ++ [(L[k], mu M a (invN M b))]).length = (CT k).length + 1 by simp]
      exact ⟨[0, 1, 2, 3], rfl, rfl, rfl, iV_eq (by omega), rfl, rfl, rfl, rfl, rfl, congrArg (AV.osl 3 ((CT k).length + 1) 0) (by simp), trivial⟩
  · have e4 : k = L.length := by omega
    subst e4
    generalize CT L.length = A at *
    (repeat' (first
  | (apply W.qd; (first
    | (apply q_mv; (first
    | exact Eq.refl (AV.d _)
    | exact Eq.refl (AV.osl _ _ _ _)
    | exact Eq.refl (AV.opt _ _)
    | exact Eq.refl (AV.agg _)
    | exact Eq.refl (AV.fpt _ _ _ _)
    | exact Eq.refl (AV.rpt _ _ _ _)
    | exact Eq.refl (AV.fn _ _)
    | exact Eq.refl (AV.yl _)
    | exact Eq.refl (AV.tup _)
    | exact Eq.refl AV.top))
    | (apply q_as; (first
    | exact Eq.refl (AV.d _)
    | exact Eq.refl (AV.osl _ _ _ _)
    | exact Eq.refl (AV.opt _ _)
    | exact Eq.refl (AV.agg _)
    | exact Eq.refl (AV.fpt _ _ _ _)
    | exact Eq.refl (AV.rpt _ _ _ _)
    | exact Eq.refl (AV.fn _ _)
    | exact Eq.refl (AV.yl _)
    | exact Eq.refl (AV.tup _)
    | exact Eq.refl AV.top))
    | (apply q_lss; exact rfl; exact rfl)))
  | (apply AWP.seq)
  | (apply ACont_normal)
  | (apply W.region; kernel_rfl)
  | (apply Walk.nil)
  | (apply AWP.exit)
  | (apply AWP.ret)
  | (apply ACont_exit)
  | (apply ABlock_exit)
  | (refine W.cond _ rfl (fun hb => ?_) (fun hb => ?_) <;> ((try simp only [hb, Bool.not_true, Bool.not_false]) <;> (try simp only [decide_eq_true_eq, decide_eq_false_iff_not, Bool.not_eq_true', Bool.not_eq_false', Int.not_lt, Int.not_le, List.length_map, not_true_eq_false] at hb) <;> (try (exfalso; omega))))))
    exact Ends.osl rfl rfl (by simp) rfl
theorem A_fits {M D : Int} {par : List (List Int)} {hv : List Bool} (hp : CodeIn par) : ACalls Tryd.prog 29 [cdA M D par, bools hv] [] (bV (validC M D par && decide ((hv.length : Int) = D + (par.length : Int)))) [] := by
  refine acalls_of_bodyO Tryd.func29 rfl (Nat.le_of_ble_eq_true rfl) ?_
  have h0 := A_evalid (M := M) (D := D) hp
  have h1 := A_ewidth (M := M) (D := D) hp
  have hmh : (hv.map tD).length = hv.length := List.length_map _
  cases hv2 : validC M D par
  · rw [hv2] at h0
    (repeat' (first
  | (apply W.qd; (first
    | (apply (q_callC (h0)); exact rfl; exact rfl; kernel_rfl; kernel_rfl; kernel_rfl)
    | (apply q_mv; (first
    | exact Eq.refl (AV.d _)
    | exact Eq.refl (AV.osl _ _ _ _)
    | exact Eq.refl (AV.opt _ _)
    | exact Eq.refl (AV.agg _)
    | exact Eq.refl (AV.fpt _ _ _ _)
    | exact Eq.refl (AV.rpt _ _ _ _)
    | exact Eq.refl (AV.fn _ _)
    | exact Eq.refl (AV.yl _)
    | exact Eq.refl (AV.tup _)
    | exact Eq.refl AV.top))
    | (apply q_as; (first
    | exact Eq.refl (AV.d _)
    | exact Eq.refl (AV.osl _ _ _ _)
    | exact Eq.refl (AV.opt _ _)
    | exact Eq.refl (AV.agg _)
    | exact Eq.refl (AV.fpt _ _ _ _)
    | exact Eq.refl (AV.rpt _ _ _ _)
    | exact Eq.refl (AV.fn _ _)
    | exact Eq.refl (AV.yl _)
    | exact Eq.refl (AV.tup _)
    | exact Eq.refl AV.top))
    | (apply q_ld_boxF; exact rfl; exact rfl; exact rfl; exact rfl)
    | (apply (q_pickF (u := .d _)); exact rfl; exact rfl)))
  | (apply W.ed; (apply e_boxF; exact rfl; exact rfl; exact rfl; kernel_rfl; kernel_rfl))
  | (refine W.gOff _ _ rfl rfl (by intro h; cases h) ?_)
  | (apply AWP.seq)
  | (apply ACont_normal)
  | (apply W.region; kernel_rfl)
  | (apply Walk.nil)
  | (apply AWP.ret)))
    all_goals exact ⟨.inl rfl, [], [bV false], rfl, rfl, ⟨rfl, trivial⟩, AVle.of_eq rfl, rfl⟩
  · rw [hv2] at h0
    rw [hv2, if_pos rfl] at h1
    (repeat' (first
  | (apply W.gOn; exact rfl; exact rfl)
  | (apply W.qd; (first
    | (apply (q_callC (h0)); exact rfl; exact rfl; kernel_rfl; kernel_rfl; kernel_rfl)
    | (apply (q_callC (h1)); exact rfl; exact rfl; kernel_rfl; kernel_rfl; kernel_rfl)
    | (apply q_mv; (first
    | exact Eq.refl (AV.d _)
    | exact Eq.refl (AV.osl _ _ _ _)
    | exact Eq.refl (AV.opt _ _)
    | exact Eq.refl (AV.agg _)
    | exact Eq.refl (AV.fpt _ _ _ _)
    | exact Eq.refl (AV.rpt _ _ _ _)
    | exact Eq.refl (AV.fn _ _)
    | exact Eq.refl (AV.yl _)
    | exact Eq.refl (AV.tup _)
    | exact Eq.refl AV.top))
    | (apply q_as; (first
    | exact Eq.refl (AV.d _)
    | exact Eq.refl (AV.osl _ _ _ _)
    | exact Eq.refl (AV.opt _ _)
    | exact Eq.refl (AV.agg _)
    | exact Eq.refl (AV.fpt _ _ _ _)
    | exact Eq.refl (AV.rpt _ _ _ _)
    | exact Eq.refl (AV.fn _ _)
    | exact Eq.refl (AV.yl _)
    | exact Eq.refl (AV.tup _)
    | exact Eq.refl AV.top))
    | (apply q_ld_boxF; exact rfl; exact rfl; exact rfl; exact rfl)
    | (apply q_eql; exact rfl; exact rfl)
    | (apply q_len_sl; exact rfl; exact rfl)
    | (apply (q_pickT (u := .d _)); exact rfl; exact rfl)))
  | (apply W.ed; (apply e_boxF; exact rfl; exact rfl; exact rfl; kernel_rfl; kernel_rfl))
  | (apply AWP.seq)
  | (apply ACont_normal)
  | (apply W.region; kernel_rfl)
  | (apply Walk.nil)
  | (apply AWP.ret)))
    all_goals exact ⟨.inl rfl, [], [bV _], rfl, rfl, ⟨rfl, trivial⟩, AVle.of_eq (congrArg bV (by rw [hmh]; rfl)), rfl⟩
theorem A_missing {u k : Nat} {oth : List Bool} (hk : k < oth.length) : ACalls Tryd.prog 32 [iV k, .opt 0 0, .opt 1 0] [.box [iV u], .box [bools oth]] (bV (misZ oth u k)) [.box [iV u], .box [bools oth]] := by
  refine acalls_of_bodyO Tryd.func32 rfl (Nat.le_of_ble_eq_true rfl) ?_
  unfold misZ
  have e : oth.getD (k : Int).toNat false = oth[k] := by rw [Int.toNat_natCast, List.getD_eq_getElem?_getD, List.getElem?_eq_getElem hk]; rfl
  rw [e]
  by_cases hku : k = u
  · rw [decide_eq_true (show (k : Int) = u by omega)]
    (repeat' (first
  | (apply W.qd; (first
    | (apply q_mv; (first
    | exact Eq.refl (AV.d _)
    | exact Eq.refl (AV.osl _ _ _ _)
    | exact Eq.refl (AV.opt _ _)
    | exact Eq.refl (AV.agg _)
    | exact Eq.refl (AV.fpt _ _ _ _)
    | exact Eq.refl (AV.rpt _ _ _ _)
    | exact Eq.refl (AV.fn _ _)
    | exact Eq.refl (AV.yl _)
    | exact Eq.refl (AV.tup _)
    | exact Eq.refl AV.top))
    | (apply q_as; (first
    | exact Eq.refl (AV.d _)
    | exact Eq.refl (AV.osl _ _ _ _)
    | exact Eq.refl (AV.opt _ _)
    | exact Eq.refl (AV.agg _)
    | exact Eq.refl (AV.fpt _ _ _ _)
    | exact Eq.refl (AV.rpt _ _ _ _)
    | exact Eq.refl (AV.fn _ _)
    | exact Eq.refl (AV.yl _)
    | exact Eq.refl (AV.tup _)
    | exact Eq.refl AV.top))
    | (apply q_ld_box; exact rfl; exact rfl; exact rfl; exact rfl)
    | (apply q_neq; exact rfl; exact rfl)
    | (apply (q_pickF (u := .d _)); exact rfl; exact rfl)))
  | (refine W.gOff _ _ rfl rfl (by intro h; cases h) ?_)
  | (apply AWP.seq)
  | (apply ACont_normal)
  | (apply W.region; kernel_rfl)
  | (apply Walk.nil)
  | (apply AWP.ret)
  | (refine W.gT _ _ rfl rfl (fun hb => ?_) (fun hb => ?_) <;> ((try simp only [hb, Bool.not_true, Bool.not_false]) <;> (try simp only [decide_eq_true_eq, decide_eq_false_iff_not, Bool.not_eq_true', Bool.not_eq_false', Int.not_lt, Int.not_le, List.length_map, not_true_eq_false] at hb) <;> (try (exfalso; omega))))))
    all_goals exact ⟨.inl rfl, [0, 1], [bV false], rfl, rfl, ⟨rfl, trivial⟩, AVle.of_eq rfl, rfl⟩
  · rw [decide_eq_false (show ¬ (k : Int) = u by omega)]
    (repeat' (first
  | (apply W.gOn; exact rfl; exact rfl)
  | (apply W.qd; (first
    | (apply q_mv; (first
    | exact Eq.refl (AV.d _)
    | exact Eq.refl (AV.osl _ _ _ _)
    | exact Eq.refl (AV.opt _ _)
    | exact Eq.refl (AV.agg _)
    | exact Eq.refl (AV.fpt _ _ _ _)
    | exact Eq.refl (AV.rpt _ _ _ _)
    | exact Eq.refl (AV.fn _ _)
    | exact Eq.refl (AV.yl _)
    | exact Eq.refl (AV.tup _)
    | exact Eq.refl AV.top))
    | (apply q_as; (first
    | exact Eq.refl (AV.d _)
    | exact Eq.refl (AV.osl _ _ _ _)
    | exact Eq.refl (AV.opt _ _)
    | exact Eq.refl (AV.agg _)
    | exact Eq.refl (AV.fpt _ _ _ _)
    | exact Eq.refl (AV.rpt _ _ _ _)
    | exact Eq.refl (AV.fn _ _)
    | exact Eq.refl (AV.yl _)
    | exact Eq.refl (AV.tup _)
    | exact Eq.refl AV.top))
    | (apply q_ld_box; exact rfl; exact rfl; exact rfl; exact rfl)
    | (apply q_neq; exact rfl; exact rfl)
    | (apply q_not; exact rfl)
    | (apply q_ld_map; exact rfl; exact rfl; exact rfl; (first | omega | (focus (simp; done))))
    | (apply q_ix_slF; exact rfl; exact rfl; exact rfl; exact rfl; (first | (with_reducible exact rfl) | exact natI_spec rfl | assumption | exact (Int.toNat_of_nonneg (by omega)).symm); (first | omega | (focus (simp only [List.length_map]; omega)) | (focus (simp; done)) | (focus (simp; omega))))
    | (apply (q_pickT (u := .d _)); exact rfl; exact rfl)))
  | (apply AWP.seq)
  | (apply ACont_normal)
  | (apply W.region; kernel_rfl)
  | (apply Walk.nil)
  | (apply AWP.ret)
  | (refine W.gT _ _ rfl rfl (fun hb => ?_) (fun hb => ?_) <;> ((try simp only [hb, Bool.not_true, Bool.not_false]) <;> (try simp only [decide_eq_true_eq, decide_eq_false_iff_not, Bool.not_eq_true', Bool.not_eq_false', Int.not_lt, Int.not_le, List.length_map, not_true_eq_false] at hb) <;> (try (exfalso; omega))))))
    all_goals exact ⟨.inl rfl, [0, 1], [bV (!oth[k])], rfl, rfl, ⟨rfl, trivial⟩, AVle.of_eq rfl, rfl⟩
/-- The plan that is none. -/
abbrev pl0 : AV := .agg [iV 0, tmsA []]
theorem pl0_le (e : Int) : AVle (.tup [.agg [iV 0, .d (.v (.slice none 0 0))], iV e]) (.tup [pl0, iV e]) :=
  AVle.tup ⟨AVle.agg ⟨AVle.refl _, AVle.nil 2, trivial⟩, AVle.refl _, trivial⟩
def planA (u : Nat) : Option (List (Nat × Nat)) → AV
  | some l => .tup [.agg [iV u, tmsA l], iV 0]
  | none => .tup [pl0, iV 11]
theorem A_plan_bad {M D u : Int} {par : List (List Int)} {hv : List Bool} (hp : CodeIn par) (h : ¬ (validC M D par = true ∧ (hv.length : Int) = D + (par.length : Int) ∧ 0 ≤ u ∧ u < hv.length)) : ACalls Tryd.prog 16 [cdA M D par, bools hv, iV u] [] (.tup [pl0, iV 1]) [] := by
  refine ACalls.leR (r := .tup [.agg [iV 0, .d (.v (.slice none 0 0))], iV 1]) ?_ (pl0_le 1)
  refine acalls_of_body Tryd.func16 rfl (Nat.le_of_ble_eq_true rfl) ?_
  have hmh : (hv.map tD).length = hv.length := List.length_map _
  have h0 := A_fits (M := M) (D := D) (hv := hv) hp
  by_cases hf : validC M D par = true ∧ (hv.length : Int) = D + (par.length : Int)
  · rw [hf.1, decide_eq_true hf.2] at h0
    have hb2 : ¬ (0 ≤ u ∧ u < hv.length) := fun e => h ⟨hf.1, hf.2, e⟩
    (repeat' (first
  | (apply W.gOn; exact rfl; exact rfl)
  | (apply W.qd; (first
    | (apply (q_callC (h0)); exact rfl; exact rfl; kernel_rfl; kernel_rfl; kernel_rfl)
    | (apply q_mv; (first
    | exact Eq.refl (AV.d _)
    | exact Eq.refl (AV.osl _ _ _ _)
    | exact Eq.refl (AV.opt _ _)
    | exact Eq.refl (AV.agg _)
    | exact Eq.refl (AV.fpt _ _ _ _)
    | exact Eq.refl (AV.rpt _ _ _ _)
    | exact Eq.refl (AV.fn _ _)
    | exact Eq.refl (AV.yl _)
    | exact Eq.refl (AV.tup _)
    | exact Eq.refl AV.top))
    | (apply q_as; (first
    | exact Eq.refl (AV.d _)
    | exact Eq.refl (AV.osl _ _ _ _)
    | exact Eq.refl (AV.opt _ _)
    | exact Eq.refl (AV.agg _)
    | exact Eq.refl (AV.fpt _ _ _ _)
    | exact Eq.refl (AV.rpt _ _ _ _)
    | exact Eq.refl (AV.fn _ _)
    | exact Eq.refl (AV.yl _)
    | exact Eq.refl (AV.tup _)
    | exact Eq.refl AV.top))
    | (apply q_ld_box; exact rfl; exact rfl; exact rfl; exact rfl)
    | (apply q_ld_boxF; exact rfl; exact rfl; exact rfl; exact rfl)
    | (apply q_lss; exact rfl; exact rfl)
    | (apply q_geq; exact rfl; exact rfl)
    | (apply q_not; exact rfl)
    | (apply q_len_sl; exact rfl; exact rfl)
    | (apply q_buildF; exact rfl; exact rfl; kernel_rfl)
    | (apply (q_pickT (u := .d _)); exact rfl; exact rfl)
    | (apply (q_pickF (u := .d _)); exact rfl; exact rfl)))
  | (apply W.ed; (first
    | (apply e_boxF; exact rfl; exact rfl; exact rfl; kernel_rfl; kernel_rfl)
    | (apply e_allocF; exact rfl; exact rfl; exact rfl; kernel_rfl)))
  | (apply W.ln; (apply l_st_box; exact rfl; exact rfl; exact rfl; exact rfl; exact rfl; exact rfl; kernel_rfl; kernel_rfl; kernel_rfl))
  | (refine W.gOff _ _ rfl rfl (by intro h; cases h) ?_)
  | (apply AWP.seq)
  | (apply ACont_normal)
  | (apply W.region; kernel_rfl)
  | (apply Walk.nil)
  | (apply AWP.ret)
  | (apply ACont_ret)
  | (apply W.condT; exact rfl)
  | (refine W.gF _ _ rfl rfl (fun hb => ?_) (fun hb => ?_) <;> ((try simp only [hb, Bool.not_true, Bool.not_false]) <;> (try simp only [decide_eq_true_eq, decide_eq_false_iff_not, Bool.not_eq_true', Bool.not_eq_false', Int.not_lt, Int.not_le, List.length_map, not_true_eq_false] at hb) <;> (try (exfalso; omega))))
  | (refine W.cond _ rfl (fun hb => ?_) (fun hb => ?_) <;> ((try simp only [hb, Bool.not_true, Bool.not_false]) <;> (try simp only [decide_eq_true_eq, decide_eq_false_iff_not, Bool.not_eq_true', Bool.not_eq_false', Int.not_lt, Int.not_le, List.length_map, not_true_eq_false] at hb) <;> (try (exfalso; omega))))))
    all_goals exact Ends.cell2 rfl rfl rfl rfl rfl
  · have e : (validC M D par && decide ((hv.length : Int) = D + (par.length : Int))) = false := by
      rw [Bool.eq_false_iff]
      intro e
      rw [Bool.and_eq_true, decide_eq_true_eq] at e
      exact hf e
    rw [e] at h0
    (repeat' (first
  | (apply W.qd; (first
    | (apply (q_callC (h0)); exact rfl; exact rfl; kernel_rfl; kernel_rfl; kernel_rfl)
    | (apply q_mv; (first
    | exact Eq.refl (AV.d _)
    | exact Eq.refl (AV.osl _ _ _ _)
    | exact Eq.refl (AV.opt _ _)
    | exact Eq.refl (AV.agg _)
    | exact Eq.refl (AV.fpt _ _ _ _)
    | exact Eq.refl (AV.rpt _ _ _ _)
    | exact Eq.refl (AV.fn _ _)
    | exact Eq.refl (AV.yl _)
    | exact Eq.refl (AV.tup _)
    | exact Eq.refl AV.top))
    | (apply q_as; (first
    | exact Eq.refl (AV.d _)
    | exact Eq.refl (AV.osl _ _ _ _)
    | exact Eq.refl (AV.opt _ _)
    | exact Eq.refl (AV.agg _)
    | exact Eq.refl (AV.fpt _ _ _ _)
    | exact Eq.refl (AV.rpt _ _ _ _)
    | exact Eq.refl (AV.fn _ _)
    | exact Eq.refl (AV.yl _)
    | exact Eq.refl (AV.tup _)
    | exact Eq.refl AV.top))
    | (apply q_ld_boxF; exact rfl; exact rfl; exact rfl; exact rfl)
    | (apply q_not; exact rfl)
    | (apply q_buildF; exact rfl; exact rfl; kernel_rfl)
    | (apply (q_pickT (u := .d _)); exact rfl; exact rfl)))
  | (apply W.ed; (first
    | (apply e_boxF; exact rfl; exact rfl; exact rfl; kernel_rfl; kernel_rfl)
    | (apply e_allocF; exact rfl; exact rfl; exact rfl; kernel_rfl)))
  | (apply W.ln; (apply l_st_box; exact rfl; exact rfl; exact rfl; exact rfl; exact rfl; exact rfl; kernel_rfl; kernel_rfl; kernel_rfl))
  | (refine W.gOff _ _ rfl rfl (by intro h; cases h) ?_)
  | (apply AWP.seq)
  | (apply ACont_normal)
  | (apply W.region; kernel_rfl)
  | (apply Walk.nil)
  | (apply AWP.ret)
  | (apply ACont_ret)
  | (apply W.condT; exact rfl)))
    all_goals exact Ends.cell2 rfl rfl rfl rfl rfl
end Go.Proofs.YtilpljehfcpjeaaDoor
end

section
/- Package repair over the machine of abstract values: All (it ranges over a function), Reads. -/
namespace Go.Proofs.YtilpljehfcpjeaaDoor
open Go.RowKit
set_option linter.unusedVariables false
set_option linter.unusedSimpArgs false
set_option maxHeartbeats 4000000
set_option maxRecDepth 100000
/-- A plan among plans. -/
def plD (p : Nat × List (Nat × Nat)) : List Dat := [.v (.int .i64 p.1), .sl 2 (p.2.map tmD)]
abbrev plsA (l : List (Nat × List (Nat × Nat))) : AV := .d (.sl 2 (l.map plD))
/-- The plans of the missing units among the first k. -/
def plansTo (M D : Nat) (ps : List (List Nat)) (hv : List Bool) (k : Nat) : List (Nat × List (Nat × Nat)) := ((List.range k).filter fun j => !(hv.getD j false)).map fun j => (j, (planN M D ps hv j).getD [])
theorem plansTo_succ (M D : Nat) (ps : List (List Nat)) (hv : List Bool) (k : Nat) : plansTo M D ps hv (k + 1) = if hv.getD k false = true then plansTo M D ps hv k else plansTo M D ps hv k ++ [(k, (planN M D ps hv k).getD [])] := by
  unfold plansTo
  rw [List.range_succ, List.filter_append, List.map_append]
  cases hb : hv.getD k false with
  | true => rw [if_pos rfl, show [k].filter (fun j => !(hv.getD j false)) = [] by simp only [List.filter_cons, hb]; rfl]; simp
  | false => rw [if_neg (by simp), show [k].filter (fun j => !(hv.getD j false)) = [k] by simp only [List.filter_cons, hb]; rfl]; rfl
theorem plansTo_le (M D : Nat) (ps : List (List Nat)) (hv : List Bool) (k : Nat) : (plansTo M D ps hv k).length ≤ k := by
  unfold plansTo
  rw [List.length_map]
  exact Nat.le_trans (List.length_filter_le _ _) (by simp)
attribute [local irreducible] Quiet Eff OpOk AWPG ACont ABlock ACalls AGoto

/-- Terms of any numbers. -/
def tzD (t : Int × Int) : List Dat := [.v (.int .i64 t.1), .v (.int .i64 t.2)]
abbrev tmsZ (l : List (Int × Int)) : AV := .d (.sl 2 (l.map tzD))
theorem tms_tmsZ (l : List (Nat × Nat)) : tmsA l = tmsZ (l.map fun t => ((t.1 : Int), (t.2 : Int))) := by
  unfold tmsA tmsZ
  rw [List.map_map]
  rfl
theorem A_readsZ {u : Int} {l : List (Int × Int)} (hl : l.length ≤ 100000) : ACalls Tryd.prog 13 [.agg [iV u, tmsZ l]] [] (ints (l.map (·.1))) [] := by
  refine acalls_of_body Tryd.func13 rfl (Nat.le_of_ble_eq_true rfl) ?_
  have hml : (l.map tzD).length = l.length := List.length_map _
  (repeat' (first
  | (apply W.qd; (apply q_as; (first
    | exact Eq.refl (AV.d _)
    | exact Eq.refl (AV.osl _ _ _ _)
    | exact Eq.refl (AV.opt _ _)
    | exact Eq.refl (AV.agg _)
    | exact Eq.refl (AV.fpt _ _ _ _)
    | exact Eq.refl (AV.rpt _ _ _ _)
    | exact Eq.refl (AV.fn _ _)
    | exact Eq.refl (AV.yl _)
    | exact Eq.refl (AV.tup _)
    | exact Eq.refl AV.top)))
  | (apply W.ed; (apply e_boxF; exact rfl; exact rfl; exact rfl; kernel_rfl; kernel_rfl))
  | (apply AWP.seq)
  | (apply ACont_normal)
  | (apply (W.regionS 2); exact rfl; kernel_rfl)
  | (apply Walk.nil)))
  refine AWP.nilRow 3 1 3 rfl (by omega) ?_
  (repeat' (first
  | (apply W.qd; (first
    | (apply q_mv; (first
    | exact Eq.refl (AV.d _)
    | exact Eq.refl (AV.osl _ _ _ _)
    | exact Eq.refl (AV.opt _ _)
    | exact Eq.refl (AV.agg _)
    | exact Eq.refl (AV.fpt _ _ _ _)
    | exact Eq.refl (AV.rpt _ _ _ _)
    | exact Eq.refl (AV.fn _ _)
    | exact Eq.refl (AV.yl _)
    | exact Eq.refl (AV.tup _)
    | exact Eq.refl AV.top))
    | (apply q_fld_optF; exact rfl; exact rfl; exact rfl)
    | (apply q_ld_box; exact rfl; exact rfl; exact rfl; exact rfl)
    | (apply q_len_sl; exact rfl; exact rfl)))
  | (apply ACont_normal)
  | (apply (W.regionS 1); exact rfl; kernel_rfl)
  | (apply Walk.nil)
  | (apply AWP.block)))
  refine AWP.loopW (α := Nat) (fun k => k ≤ l.length) (fun k => ⟨[(9, iV k), (8, iV l.length), (7, tmsZ l), (3, .osl 1 ((l.take k).map (·.1)).length 0 ((l.take k).map (·.1)).length)], [.box [iV u, tmsZ l], .row ((l.take k).map (·.1)).length 1 3 (((l.take k).map (·.1)).map iD)]⟩) (fun k => l.length - k) 0 (by omega) ⟨[0, 1], rfl, rfl, rfl, iV_eq (by simp), iV_eq (by rw [hml]), rfl, rfl, trivial⟩ fun k hk => ?_
  have hlk : ((l.take k).map (·.1)).length ≤ 100000 := by rw [List.length_map, List.length_take]; omega
  by_cases hkl : k < l.length
  · have e1 : (l.take (k + 1)).map (·.1) = (l.take k).map (·.1) ++ [l[k].1] := by rw [List.take_succ_eq_append_getElem hkl, List.map_append]; rfl
    generalize hA : (l.take k).map (·.1) = A at *
    (repeat' (first
  | (apply W.qd; (first
    | (apply q_mv; (first
    | exact Eq.refl (AV.d _)
    | exact Eq.refl (AV.osl _ _ _ _)
    | exact Eq.refl (AV.opt _ _)
    | exact Eq.refl (AV.agg _)
    | exact Eq.refl (AV.fpt _ _ _ _)
    | exact Eq.refl (AV.rpt _ _ _ _)
    | exact Eq.refl (AV.fn _ _)
    | exact Eq.refl (AV.yl _)
    | exact Eq.refl (AV.tup _)
    | exact Eq.refl AV.top))
    | (apply q_as; (first
    | exact Eq.refl (AV.d _)
    | exact Eq.refl (AV.osl _ _ _ _)
    | exact Eq.refl (AV.opt _ _)
    | exact Eq.refl (AV.agg _)
    | exact Eq.refl (AV.fpt _ _ _ _)
    | exact Eq.refl (AV.rpt _ _ _ _)
    | exact Eq.refl (AV.fn _ _)
    | exact Eq.refl (AV.yl _)
    | exact Eq.refl (AV.tup _)
    | exact Eq.refl AV.top))
    | (apply q_fld_optF; exact rfl; exact rfl; exact rfl)
    | (apply q_ld_box; exact rfl; exact rfl; exact rfl; exact rfl)
    | (apply q_lss; exact rfl; exact rfl)
    | (apply q_add; exact rfl; exact rfl; omega)
    | (apply q_ld_maps; exact rfl; exact rfl; exact rfl; (first | omega | (focus (simp; done))))
    | (apply q_litF; exact rfl; exact rfl; exact rfl; exact rfl; exact rfl; kernel_rfl; kernel_rfl; exact rfl)
    | (apply q_ix_slF; exact rfl; exact rfl; exact rfl; exact rfl; (first | (with_reducible exact rfl) | exact natI_spec rfl | assumption | exact (Int.toNat_of_nonneg (by omega)).symm); (first | omega | (focus (simp only [List.length_map]; omega)) | (focus (simp; done)) | (focus (simp; omega))))))
  | (apply W.ld; (apply l_app1; exact rfl; exact rfl; exact rfl; exact rfl; exact rfl; exact rfl; exact rfl; exact rfl; (first | omega | (focus (simp; omega)) | (focus (simp; done)))))
  | (apply W.ed; (apply e_allocF; exact rfl; exact rfl; exact rfl; kernel_rfl))
  | (apply W.ln; (apply l_st_box; exact rfl; exact rfl; exact rfl; exact rfl; exact rfl; exact rfl; kernel_rfl; kernel_rfl; kernel_rfl))
  | (apply AWP.seq)
  | (apply ACont_normal)
  | (apply W.region; kernel_rfl)
  | (apply Walk.nil)
  | (apply AWP.block)
  | (apply AWP.skip)
  | (apply ABlock_normal)
  | (refine W.cond _ rfl (fun hb => ?_) (fun hb => ?_) <;> ((try simp only [hb, Bool.not_true, Bool.not_false]) <;> (try simp only [decide_eq_true_eq, decide_eq_false_iff_not, Bool.not_eq_true', Bool.not_eq_false', Int.not_lt, Int.not_le, List.length_map, not_true_eq_false] at hb) <;> (try (exfalso; omega))))))
    refine ⟨k + 1, by omega, by omega, ?_⟩
    rw [e1, show (A ++ [l[k].1]).length = A.length + 1 by simp]
    exact ⟨[0, 1], rfl, rfl, rfl, iV_eq (by omega), rfl, rfl, congrArg (AV.osl 1 (A.length + 1) 0) (by simp), trivial⟩
  · have e : k = l.length := by omega
    subst e
    rw [List.take_length]
    generalize l.map (·.1) = A at *
    (repeat' (first
  | (apply W.qd; (first
    | (apply q_mv; (first
    | exact Eq.refl (AV.d _)
    | exact Eq.refl (AV.osl _ _ _ _)
    | exact Eq.refl (AV.opt _ _)
    | exact Eq.refl (AV.agg _)
    | exact Eq.refl (AV.fpt _ _ _ _)
    | exact Eq.refl (AV.rpt _ _ _ _)
    | exact Eq.refl (AV.fn _ _)
    | exact Eq.refl (AV.yl _)
    | exact Eq.refl (AV.tup _)
    | exact Eq.refl AV.top))
    | (apply q_as; (first
    | exact Eq.refl (AV.d _)
    | exact Eq.refl (AV.osl _ _ _ _)
    | exact Eq.refl (AV.opt _ _)
    | exact Eq.refl (AV.agg _)
    | exact Eq.refl (AV.fpt _ _ _ _)
    | exact Eq.refl (AV.rpt _ _ _ _)
    | exact Eq.refl (AV.fn _ _)
    | exact Eq.refl (AV.yl _)
    | exact Eq.refl (AV.tup _)
    | exact Eq.refl AV.top))
    | (apply q_lss; exact rfl; exact rfl)))
  | (apply AWP.seq)
  | (apply ACont_normal)
  | (apply W.region; kernel_rfl)
  | (apply Walk.nil)
  | (apply AWP.exit)
  | (apply AWP.ret)
  | (apply ACont_exit)
  | (apply ABlock_exit)
  | (refine W.cond _ rfl (fun hb => ?_) (fun hb => ?_) <;> ((try simp only [hb, Bool.not_true, Bool.not_false]) <;> (try simp only [decide_eq_true_eq, decide_eq_false_iff_not, Bool.not_eq_true', Bool.not_eq_false', Int.not_lt, Int.not_le, List.length_map, not_true_eq_false] at hb) <;> (try (exfalso; omega))))))
    exact Ends.osl rfl rfl (by simp) rfl
theorem A_reads {u : Nat} {l : List (Nat × Nat)} (hl : l.length ≤ 100000) : ACalls Tryd.prog 13 [.agg [iV u, tmsA l]] [] (nats (l.map (·.1))) [] := by
  have := A_readsZ (u := (u : Int)) (l := l.map fun t => ((t.1 : Int), (t.2 : Int))) (by rw [List.length_map]; exact hl)
  rw [← tms_tmsZ, List.map_map] at this
  have e : nats (l.map (·.1)) = ints (l.map ((·.1) ∘ fun t : Nat × Nat => ((t.1 : Int), (t.2 : Int)))) := by rw [nats_ints, List.map_map]; rfl
  rw [e]
  exact this
end Go.Proofs.YtilpljehfcpjeaaDoor
end

section
/- Package repair over the machine of abstract values: Apply. -/
namespace Go.Proofs.YtilpljehfcpjeaaDoor
open Go.RowKit
set_option linter.unusedVariables false
set_option linter.unusedSimpArgs false
set_option maxHeartbeats 4000000
set_option maxRecDepth 100000
/-- A unit that is none. -/
def outZ (n : Nat) (k : Int) : Bool := decide (k < 0) || decide ((n : Int) ≤ k)
/-- The units that terms read. -/
def readZ (us : List (List Nat)) (l : List (Int × Int)) : List (List Nat) := l.map fun t => us.getD t.1.toNat []
attribute [local irreducible] Quiet Eff OpOk AWPG ACont ABlock ACalls AGoto
theorem A_outside {us : List (List Nat)} {k : Int} (hu : us.length ≤ 1000000) : ACalls Tryd.prog 21 [iV k, .opt 0 0] [.box [strs us]] (bV (outZ us.length k)) [.box [strs us]] := by
  refine acalls_of_bodyO Tryd.func21 rfl (Nat.le_of_ble_eq_true rfl) ?_
  have hmu : (us.map sD).length = us.length := List.length_map _
  unfold outZ
  by_cases h0 : k < 0
  · rw [decide_eq_true h0, Bool.true_or]
    (repeat' (first
  | (apply W.qd; (first
    | (apply q_mv; (first
    | exact Eq.refl (AV.d _)
    | exact Eq.refl (AV.osl _ _ _ _)
    | exact Eq.refl (AV.opt _ _)
    | exact Eq.refl (AV.agg _)
    | exact Eq.refl (AV.fpt _ _ _ _)
    | exact Eq.refl (AV.rpt _ _ _ _)
    | exact Eq.refl (AV.fn _ _)
    | exact Eq.refl (AV.yl _)
    | exact Eq.refl (AV.tup _)
    | exact Eq.refl AV.top))
    | (apply q_as; (first
    | exact Eq.refl (AV.d _)
    | exact Eq.refl (AV.osl _ _ _ _)
    | exact Eq.refl (AV.opt _ _)
    | exact Eq.refl (AV.agg _)
    | exact Eq.refl (AV.fpt _ _ _ _)
    | exact Eq.refl (AV.rpt _ _ _ _)
    | exact Eq.refl (AV.fn _ _)
    | exact Eq.refl (AV.yl _)
    | exact Eq.refl (AV.tup _)
    | exact Eq.refl AV.top))
    | (apply q_lss; exact rfl; exact rfl)
    | (apply (q_pickT (u := .d _)); exact rfl; exact rfl)))
  | (refine W.gOff _ _ rfl rfl (by intro h; cases h) ?_)
  | (apply AWP.seq)
  | (apply ACont_normal)
  | (apply W.region; kernel_rfl)
  | (apply Walk.nil)
  | (apply AWP.ret)
  | (refine W.gF _ _ rfl rfl (fun hb => ?_) (fun hb => ?_) <;> ((try simp only [hb, Bool.not_true, Bool.not_false]) <;> (try simp only [decide_eq_true_eq, decide_eq_false_iff_not, Bool.not_eq_true', Bool.not_eq_false', Int.not_lt, Int.not_le, List.length_map, not_true_eq_false] at hb) <;> (try (exfalso; omega))))))
    all_goals exact ⟨.inl rfl, [0], [bV true], rfl, rfl, ⟨rfl, trivial⟩, AVle.of_eq rfl, rfl⟩
  · rw [decide_eq_false h0, Bool.false_or]
    (repeat' (first
  | (apply W.gOn; exact rfl; exact rfl)
  | (apply W.qd; (first
    | (apply q_mv; (first
    | exact Eq.refl (AV.d _)
    | exact Eq.refl (AV.osl _ _ _ _)
    | exact Eq.refl (AV.opt _ _)
    | exact Eq.refl (AV.agg _)
    | exact Eq.refl (AV.fpt _ _ _ _)
    | exact Eq.refl (AV.rpt _ _ _ _)
    | exact Eq.refl (AV.fn _ _)
    | exact Eq.refl (AV.yl _)
    | exact Eq.refl (AV.tup _)
    | exact Eq.refl AV.top))
    | (apply q_as; (first
    | exact Eq.refl (AV.d _)
    | exact Eq.refl (AV.osl _ _ _ _)
    | exact Eq.refl (AV.opt _ _)
    | exact Eq.refl (AV.agg _)
    | exact Eq.refl (AV.fpt _ _ _ _)
    | exact Eq.refl (AV.rpt _ _ _ _)
    | exact Eq.refl (AV.fn _ _)
    | exact Eq.refl (AV.yl _)
    | exact Eq.refl (AV.tup _)
    | exact Eq.refl AV.top))
    | (apply q_ld_box; exact rfl; exact rfl; exact rfl; exact rfl)
    | (apply q_lss; exact rfl; exact rfl)
    | (apply q_geq; exact rfl; exact rfl)
    | (apply q_len_sl; exact rfl; exact rfl)
    | (apply (q_pickF (u := .d _)); exact rfl; exact rfl)))
  | (apply AWP.seq)
  | (apply ACont_normal)
  | (apply W.region; kernel_rfl)
  | (apply Walk.nil)
  | (apply AWP.ret)
  | (refine W.gF _ _ rfl rfl (fun hb => ?_) (fun hb => ?_) <;> ((try simp only [hb, Bool.not_true, Bool.not_false]) <;> (try simp only [decide_eq_true_eq, decide_eq_false_iff_not, Bool.not_eq_true', Bool.not_eq_false', Int.not_lt, Int.not_le, List.length_map, not_true_eq_false] at hb) <;> (try (exfalso; omega))))))
    all_goals exact ⟨.inl rfl, [0], [bV (decide ((us.length : Int) ≤ k))], rfl, rfl, ⟨by simp only [hmu]; rfl, trivial⟩, AVle.of_eq rfl, rfl⟩
theorem A_applyOk {M D u e : Int} {par : List (List Int)} {us : List (List Nat)} {l : List (Int × Int)} {s : List Nat} (hp : CodeIn par) (hV : validC M D par = true) (hw : (us.length : Int) = D + (par.length : Int)) (hus : us.length ≤ 1000) (hu : outZ us.length u = false) (hl : ∀ t ∈ l, outZ us.length t.1 = false) (hll : l.length ≤ 1000)
    (hc : ACalls Tryd.prog 25 [iV M, ints (l.map (·.2)), strs (readZ us l)] [] (.tup [bS s, iV e]) []) :
    ACalls Tryd.prog 10 [cdA M D par, .agg [iV u, tmsZ l], strs us] [] (.tup [bS s, iV e]) [] := by
  refine acalls_of_body Tryd.func10 rfl (Nat.le_of_ble_eq_true rfl) ?_
  have hmu : (us.map sD).length = us.length := List.length_map _
  have hml : (l.map tzD).length = l.length := List.length_map _
  have hv := A_evalid (M := M) (D := D) hp
  have hwd := A_ewidth (M := M) (D := D) hp
  rw [hV] at hv hwd
  rw [if_pos rfl, ← hw] at hwd
  have ho := A_outside (us := us) (k := u) (by omega)
  rw [hu] at ho
  have hrd := A_readsZ (u := u) (l := l) (by omega)
  have hcf := A_contains_int (O := [.box [strs us]]) (g := 21) (caps := [.opt 0 0]) (outZ us.length) (l.map (·.1)) (by rw [List.length_map]; omega) (by kernel_rfl) (fun x _ => A_outside (by omega))
  have hno : (l.map (·.1)).any (outZ us.length) = false := by
    rw [List.any_eq_false]
    intro x hx
    obtain ⟨t, ht, rfl⟩ := List.mem_map.1 hx
    rw [hl t ht]; simp
  rw [hno] at hcf
  have hlt : ∀ k (hk : k < l.length), ∃ q : Nat, l[k].1 = (q : Int) ∧ q < us.length := fun k hk => by
    have h1 := hl l[k] (List.getElem_mem _)
    unfold outZ at h1
    rw [Bool.or_eq_false_iff, decide_eq_false_iff_not, decide_eq_false_iff_not] at h1
    exact ⟨l[k].1.toNat, by omega, by omega⟩
  (repeat' (first
  | (apply W.gOn; exact rfl; exact rfl)
  | (apply W.qd; (first
    | (apply (q_callR (js := [2]) (ho)); exact rfl; exact rfl; exact rfl; exact fun _ => rfl; exact fun _ => rfl; kernel_rfl; kernel_rfl)
    | (apply (q_callC (hv)); exact rfl; exact rfl; kernel_rfl; kernel_rfl; kernel_rfl)
    | (apply (q_callC (hwd)); exact rfl; exact rfl; kernel_rfl; kernel_rfl; kernel_rfl)
    | (apply (q_callC (hrd)); exact rfl; exact rfl; kernel_rfl; kernel_rfl; kernel_rfl)
    | (apply (q_callR (js := [2]) (hcf)); exact rfl; exact rfl; exact rfl; exact fun _ => rfl; exact fun _ => rfl; kernel_rfl; kernel_rfl)
    | (apply q_mv; (first
    | exact Eq.refl (AV.d _)
    | exact Eq.refl (AV.osl _ _ _ _)
    | exact Eq.refl (AV.opt _ _)
    | exact Eq.refl (AV.agg _)
    | exact Eq.refl (AV.fpt _ _ _ _)
    | exact Eq.refl (AV.rpt _ _ _ _)
    | exact Eq.refl (AV.fn _ _)
    | exact Eq.refl (AV.yl _)
    | exact Eq.refl (AV.tup _)
    | exact Eq.refl AV.top))
    | (apply q_as; (first
    | exact Eq.refl (AV.d _)
    | exact Eq.refl (AV.osl _ _ _ _)
    | exact Eq.refl (AV.opt _ _)
    | exact Eq.refl (AV.agg _)
    | exact Eq.refl (AV.fpt _ _ _ _)
    | exact Eq.refl (AV.rpt _ _ _ _)
    | exact Eq.refl (AV.fn _ _)
    | exact Eq.refl (AV.yl _)
    | exact Eq.refl (AV.tup _)
    | exact Eq.refl AV.top))
    | (apply q_fld_optF; exact rfl; exact rfl; exact rfl)
    | (apply q_ld_box; exact rfl; exact rfl; exact rfl; exact rfl)
    | (apply q_ld_boxF; exact rfl; exact rfl; exact rfl; exact rfl)
    | (apply q_neq; exact rfl; exact rfl)
    | (apply q_not; exact rfl)
    | (apply q_len_sl; exact rfl; exact rfl)
    | (apply q_makeFunc)
    | (apply (q_pickF (u := .d _)); exact rfl; exact rfl)))
  | (apply W.ed; (apply e_boxF; exact rfl; exact rfl; exact rfl; kernel_rfl; kernel_rfl))
  | (apply AWP.seq)
  | (apply ACont_normal)
  | (apply W.region; kernel_rfl)
  | (apply W.regionD; exact rfl; kernel_rfl)
  | (apply Walk.nil)
  | (apply W.chk; kernel_rfl)
  | (apply AWP.block)
  | (apply AWP.skip)
  | (apply W.condF; exact rfl)
  | (refine W.gF _ _ rfl rfl (fun hb => ?_) (fun hb => ?_) <;> ((try simp only [hb, Bool.not_true, Bool.not_false]) <;> (try simp only [decide_eq_true_eq, decide_eq_false_iff_not, Bool.not_eq_true', Bool.not_eq_false', Int.not_lt, Int.not_le, List.length_map, not_true_eq_false] at hb) <;> (try (exfalso; omega))))))
  refine AWP.nilRow 9 1 3 rfl (by omega) ?_
  refine AWP.nilRow 10 1 9 rfl (by omega) ?_
  refine AWP.loopW (α := Nat) (fun k => k ≤ l.length) (fun k => ⟨[(39, iV k), (38, iV l.length), (37, tmsZ l), (9, .osl 3 k 0 ((l.take k).map (·.2)).length), (10, .osl 4 k 0 (readZ us (l.take k)).length), (3, .opt 0 0), (4, .opt 1 0), (5, .opt 2 0)], [.box [.d .any, iV M, iV D, .d (.sl 1 (par.map rD)), .d .any], .box [iV u, tmsZ l], .box [strs us], .row k 1 3 (((l.take k).map (·.2)).map iD), .row k 1 9 ((readZ us (l.take k)).map sD)]⟩) (fun k => l.length - k) 0 (by omega) ⟨[0, 1, 2, 3, 4], rfl, rfl, rfl, iV_eq (by simp), iV_eq (by rw [hml]), rfl, rfl, rfl, rfl, rfl, rfl, trivial⟩ fun k hk => ?_
  by_cases hkl : k < l.length
  · obtain ⟨q, hq, hqu⟩ := hlt k hkl
    have h1 : (l.take (k + 1)).map (·.2) = (l.take k).map (·.2) ++ [l[k].2] := by
      rw [List.take_succ_eq_append_getElem hkl, List.map_append]; rfl
    have h2 : readZ us (l.take (k + 1)) = readZ us (l.take k) ++ [us[q]] := by
      unfold readZ
      rw [List.take_succ_eq_append_getElem hkl, List.map_append]
      simp [List.getD_eq_getElem?_getD, hq, hqu]
    have hl1 : ((l.take k).map (·.2)).length ≤ 1024 := by simp; omega
    have hl2 : (readZ us (l.take k)).length ≤ 1024 := by unfold readZ; simp; omega
    replace h1 := Lib.hid h1
    replace h2 := Lib.hid h2
    generalize (l.take k).map (·.2) = A at *
    generalize readZ us (l.take k) = B at *
    (repeat' (first
  | (apply W.qd; (first
    | (apply q_mv; (first
    | exact Eq.refl (AV.d _)
    | exact Eq.refl (AV.osl _ _ _ _)
    | exact Eq.refl (AV.opt _ _)
    | exact Eq.refl (AV.agg _)
    | exact Eq.refl (AV.fpt _ _ _ _)
    | exact Eq.refl (AV.rpt _ _ _ _)
    | exact Eq.refl (AV.fn _ _)
    | exact Eq.refl (AV.yl _)
    | exact Eq.refl (AV.tup _)
    | exact Eq.refl AV.top))
    | (apply q_as; (first
    | exact Eq.refl (AV.d _)
    | exact Eq.refl (AV.osl _ _ _ _)
    | exact Eq.refl (AV.opt _ _)
    | exact Eq.refl (AV.agg _)
    | exact Eq.refl (AV.fpt _ _ _ _)
    | exact Eq.refl (AV.rpt _ _ _ _)
    | exact Eq.refl (AV.fn _ _)
    | exact Eq.refl (AV.yl _)
    | exact Eq.refl (AV.tup _)
    | exact Eq.refl AV.top))
    | (apply q_fld_optF; exact rfl; exact rfl; exact rfl)
    | (apply q_ld_box; exact rfl; exact rfl; exact rfl; exact rfl)
    | (apply q_lss; exact rfl; exact rfl)
    | (apply q_add; exact rfl; exact rfl; omega)
    | (apply q_ld_map; exact rfl; exact rfl; exact rfl; (first | omega | (focus (simp; done))))
    | (apply q_ld_maps; exact rfl; exact rfl; exact rfl; (first | omega | (focus (simp; done))))
    | (apply q_litF; exact rfl; exact rfl; exact rfl; exact rfl; exact rfl; kernel_rfl; kernel_rfl; exact rfl)
    | (apply q_ix_slF; exact rfl; exact rfl; exact rfl; exact rfl; (first | (with_reducible exact rfl) | exact natI_spec rfl | assumption | exact (Int.toNat_of_nonneg (by omega)).symm); (first | omega | (focus (simp only [List.length_map]; omega)) | (focus (simp; done)) | (focus (simp; omega))))))
  | (apply W.ld; (apply l_app1; exact rfl; exact rfl; exact rfl; exact rfl; exact rfl; exact rfl; exact rfl; exact rfl; (first | omega | (focus (simp; omega)) | (focus (simp; done)))))
  | (apply W.ed; (apply e_allocF; exact rfl; exact rfl; exact rfl; kernel_rfl))
  | (apply W.ln; (apply l_st_box; exact rfl; exact rfl; exact rfl; exact rfl; exact rfl; exact rfl; kernel_rfl; kernel_rfl; kernel_rfl))
  | (apply AWP.seq)
  | (apply ACont_normal)
  | (apply W.region; kernel_rfl)
  | (apply W.regionD; exact rfl; kernel_rfl)
  | (apply Walk.nil)
  | (apply W.chk; kernel_rfl)
  | (apply AWP.block)
  | (apply AWP.skip)
  | (apply ABlock_normal)
  | (refine W.cond _ rfl (fun hb => ?_) (fun hb => ?_) <;> ((try simp only [hb, Bool.not_true, Bool.not_false]) <;> (try simp only [decide_eq_true_eq, decide_eq_false_iff_not, Bool.not_eq_true', Bool.not_eq_false', Int.not_lt, Int.not_le, List.length_map, not_true_eq_false] at hb) <;> (try (exfalso; omega))))))
    refine ⟨k + 1, by omega, by omega, ?_⟩
    rw [h1.out, h2.out]
    exact ⟨[0, 1, 2, 3, 4], rfl, rfl, rfl, iV_eq (by omega), rfl, rfl, rfl, rfl, rfl, rfl, rfl, trivial⟩
  · have e : k = l.length := by omega
    subst e
    rw [List.take_length]
    have hl1 : (l.map (·.2)).length ≤ 1024 := by simp; omega
    generalize l.map (·.2) = A at *
    generalize readZ us l = B at *
    refine AWP.wk ⟨[(39, iV l.length), (38, iV l.length), (9, ints A), (10, strs B), (3, .opt 0 0)], [.box [.d .any, iV M, iV D, .d (.sl 1 (par.map rD)), .d .any]]⟩ ⟨[0], rfl, rfl, rfl, rfl, rfl, (frz_rowJ rfl rfl (by simp)).symm, (frz_rowJ rfl rfl (by simp)).symm, rfl, trivial⟩ ?_
    (repeat' (first
  | (apply W.qd; (first
    | (apply (q_callC (hc)); exact rfl; exact rfl; kernel_rfl; kernel_rfl; kernel_rfl)
    | (apply q_mv; (first
    | exact Eq.refl (AV.d _)
    | exact Eq.refl (AV.osl _ _ _ _)
    | exact Eq.refl (AV.opt _ _)
    | exact Eq.refl (AV.agg _)
    | exact Eq.refl (AV.fpt _ _ _ _)
    | exact Eq.refl (AV.rpt _ _ _ _)
    | exact Eq.refl (AV.fn _ _)
    | exact Eq.refl (AV.yl _)
    | exact Eq.refl (AV.tup _)
    | exact Eq.refl AV.top))
    | (apply q_as; (first
    | exact Eq.refl (AV.d _)
    | exact Eq.refl (AV.osl _ _ _ _)
    | exact Eq.refl (AV.opt _ _)
    | exact Eq.refl (AV.agg _)
    | exact Eq.refl (AV.fpt _ _ _ _)
    | exact Eq.refl (AV.rpt _ _ _ _)
    | exact Eq.refl (AV.fn _ _)
    | exact Eq.refl (AV.yl _)
    | exact Eq.refl (AV.tup _)
    | exact Eq.refl AV.top))
    | (apply q_fld_optF; exact rfl; exact rfl; exact rfl)
    | (apply q_ld_box; exact rfl; exact rfl; exact rfl; exact rfl)
    | (apply q_lss; exact rfl; exact rfl)
    | (apply q_extract; exact rfl; exact rfl)))
  | (apply AWP.seq)
  | (apply ACont_normal)
  | (apply W.region; kernel_rfl)
  | (apply Walk.nil)
  | (apply AWP.exit)
  | (apply AWP.ret)
  | (apply ACont_exit)
  | (apply ABlock_exit)
  | (refine W.cond _ rfl (fun hb => ?_) (fun hb => ?_) <;> ((try simp only [hb, Bool.not_true, Bool.not_false]) <;> (try simp only [decide_eq_true_eq, decide_eq_false_iff_not, Bool.not_eq_true', Bool.not_eq_false', Int.not_lt, Int.not_le, List.length_map, not_true_eq_false] at hb) <;> (try (exfalso; omega))))))
    exact Ends.two rfl rfl rfl
end Go.Proofs.YtilpljehfcpjeaaDoor
end

section
/- The reference of layer 10: Same. -/
namespace Go.Proofs.YtilpljehfcpjeaaDoor
open Go.RowKit
set_option linter.unusedVariables false
set_option linter.unusedSimpArgs false
set_option maxHeartbeats 4000000
set_option maxRecDepth 100000
theorem fi_term : fldsInt Tryd.prog 47 = some [0, 1] := by kernel_rfl
theorem term_eq (x1 x2 y1 y2 : Int) : eqOffs #[.int .i64 x1, .int .i64 x2] #[.int .i64 y1, .int .i64 y2] [0, 1] = some (decide ((x1, x2) = (y1, y2))) := by
  simp [eqOffs]
attribute [local irreducible] Quiet Eff OpOk AWPG ACont ABlock ACalls AGoto
theorem A_same_terms {a b : List (Int × Int)} (ha : a.length ≤ 1000000) (hb : b.length ≤ 1000000) : ACalls Tryd.prog 40 [tmsZ a, tmsZ b] [] (bV (decide (a = b))) [] := by
  refine acalls_of_bodyO Tryd.func40 rfl (Nat.le_of_ble_eq_true rfl) ?_
  have hma : (a.map tzD).length = a.length := List.length_map _
  have hmb : (b.map tzD).length = b.length := List.length_map _
  by_cases hl : a.length = b.length
  · (repeat' (first
  | (apply W.qd; (first
    | (apply q_mv; (first
    | exact Eq.refl (AV.d _)
    | exact Eq.refl (AV.osl _ _ _ _)
    | exact Eq.refl (AV.opt _ _)
    | exact Eq.refl (AV.agg _)
    | exact Eq.refl (AV.fpt _ _ _ _)
    | exact Eq.refl (AV.rpt _ _ _ _)
    | exact Eq.refl (AV.fn _ _)
    | exact Eq.refl (AV.yl _)
    | exact Eq.refl (AV.tup _)
    | exact Eq.refl AV.top))
    | (apply q_as; (first
    | exact Eq.refl (AV.d _)
    | exact Eq.refl (AV.osl _ _ _ _)
    | exact Eq.refl (AV.opt _ _)
    | exact Eq.refl (AV.agg _)
    | exact Eq.refl (AV.fpt _ _ _ _)
    | exact Eq.refl (AV.rpt _ _ _ _)
    | exact Eq.refl (AV.fn _ _)
    | exact Eq.refl (AV.yl _)
    | exact Eq.refl (AV.tup _)
    | exact Eq.refl AV.top))
    | (apply q_neq; exact rfl; exact rfl)
    | (apply q_len_sl; exact rfl; exact rfl)))
  | (apply AWP.seq)
  | (apply ACont_normal)
  | (apply W.region; kernel_rfl)
  | (apply Walk.nil)
  | (apply AWP.block)
  | (apply AWP.skip)
  | (refine W.cond _ rfl (fun hb => ?_) (fun hb => ?_) <;> ((try simp only [hb, Bool.not_true, Bool.not_false]) <;> (try simp only [decide_eq_true_eq, decide_eq_false_iff_not, Bool.not_eq_true', Bool.not_eq_false', Int.not_lt, Int.not_le, List.length_map, not_true_eq_false] at hb) <;> (try (exfalso; omega))))))
    refine AWP.loopW (α := Nat) (fun k => k ≤ a.length ∧ a.take k = b.take k) (fun k => ⟨[(5, iV k), (0, tmsZ a), (1, tmsZ b)], []⟩) (fun k => a.length - k) 0 ⟨by omega, by simp⟩ ⟨[], rfl, rfl, rfl, by (repeat (first | exact trivial | refine ⟨rfl, ?_⟩))⟩ fun k hk => ?_
    by_cases hka : k < a.length
    · by_cases he : a[k] = b[k]'(by omega)
      · have he2 : decide ((a[k].1, a[k].2) = ((b[k]'(by omega)).1, (b[k]'(by omega)).2)) = true := decide_eq_true he
        (repeat' (first
  | (apply W.qd; (first
    | ((apply q_nesI fi_term; exact rfl; exact rfl; exact rfl; exact rfl; exact (term_eq _ _ _ _).trans (congrArg some he2)))
    | (apply q_mv; (first
    | exact Eq.refl (AV.d _)
    | exact Eq.refl (AV.osl _ _ _ _)
    | exact Eq.refl (AV.opt _ _)
    | exact Eq.refl (AV.agg _)
    | exact Eq.refl (AV.fpt _ _ _ _)
    | exact Eq.refl (AV.rpt _ _ _ _)
    | exact Eq.refl (AV.fn _ _)
    | exact Eq.refl (AV.yl _)
    | exact Eq.refl (AV.tup _)
    | exact Eq.refl AV.top))
    | (apply q_as; (first
    | exact Eq.refl (AV.d _)
    | exact Eq.refl (AV.osl _ _ _ _)
    | exact Eq.refl (AV.opt _ _)
    | exact Eq.refl (AV.agg _)
    | exact Eq.refl (AV.fpt _ _ _ _)
    | exact Eq.refl (AV.rpt _ _ _ _)
    | exact Eq.refl (AV.fn _ _)
    | exact Eq.refl (AV.yl _)
    | exact Eq.refl (AV.tup _)
    | exact Eq.refl AV.top))
    | (apply q_lss; exact rfl; exact rfl)
    | (apply q_add; exact rfl; exact rfl; omega)
    | (apply q_len_sl; exact rfl; exact rfl)
    | (apply q_ld_maps; exact rfl; exact rfl; exact rfl; (first | omega | (focus (simp; done))))
    | (apply q_ix_slF; exact rfl; exact rfl; exact rfl; exact rfl; (first | (with_reducible exact rfl) | exact natI_spec rfl | assumption | exact (Int.toNat_of_nonneg (by omega)).symm); (first | omega | (focus (simp only [List.length_map]; omega)) | (focus (simp; done)) | (focus (simp; omega))))))
  | (apply AWP.seq)
  | (apply ACont_normal)
  | (apply W.region; kernel_rfl)
  | (apply W.regionD; exact rfl; kernel_rfl)
  | (apply Walk.nil)
  | (apply W.chk; kernel_rfl)
  | (apply AWP.block)
  | (apply AWP.skip)
  | (apply ABlock_normal)
  | (apply W.condF; exact rfl)
  | (refine W.cond _ rfl (fun hb => ?_) (fun hb => ?_) <;> ((try simp only [hb, Bool.not_true, Bool.not_false]) <;> (try simp only [decide_eq_true_eq, decide_eq_false_iff_not, Bool.not_eq_true', Bool.not_eq_false', Int.not_lt, Int.not_le, List.length_map, not_true_eq_false] at hb) <;> (try (exfalso; omega))))))
        exact ⟨k + 1, ⟨by omega, by rw [List.take_succ_eq_append_getElem hka, List.take_succ_eq_append_getElem (show k < b.length by omega), hk.2, he]⟩, by omega, [], rfl, rfl, rfl, iV_eq (by omega), rfl, rfl, trivial⟩
      · have he2 : decide ((a[k].1, a[k].2) = ((b[k]'(by omega)).1, (b[k]'(by omega)).2)) = false := decide_eq_false he
        have hne : a ≠ b := fun e => he (by subst e; rfl)
        rw [decide_eq_false hne]
        (repeat' (first
  | (apply W.qd; (first
    | ((apply q_nesI fi_term; exact rfl; exact rfl; exact rfl; exact rfl; exact (term_eq _ _ _ _).trans (congrArg some he2)))
    | (apply q_mv; (first
    | exact Eq.refl (AV.d _)
    | exact Eq.refl (AV.osl _ _ _ _)
    | exact Eq.refl (AV.opt _ _)
    | exact Eq.refl (AV.agg _)
    | exact Eq.refl (AV.fpt _ _ _ _)
    | exact Eq.refl (AV.rpt _ _ _ _)
    | exact Eq.refl (AV.fn _ _)
    | exact Eq.refl (AV.yl _)
    | exact Eq.refl (AV.tup _)
    | exact Eq.refl AV.top))
    | (apply q_as; (first
    | exact Eq.refl (AV.d _)
    | exact Eq.refl (AV.osl _ _ _ _)
    | exact Eq.refl (AV.opt _ _)
    | exact Eq.refl (AV.agg _)
    | exact Eq.refl (AV.fpt _ _ _ _)
    | exact Eq.refl (AV.rpt _ _ _ _)
    | exact Eq.refl (AV.fn _ _)
    | exact Eq.refl (AV.yl _)
    | exact Eq.refl (AV.tup _)
    | exact Eq.refl AV.top))
    | (apply q_lss; exact rfl; exact rfl)
    | (apply q_len_sl; exact rfl; exact rfl)
    | (apply q_ld_maps; exact rfl; exact rfl; exact rfl; (first | omega | (focus (simp; done))))
    | (apply q_ix_slF; exact rfl; exact rfl; exact rfl; exact rfl; (first | (with_reducible exact rfl) | exact natI_spec rfl | assumption | exact (Int.toNat_of_nonneg (by omega)).symm); (first | omega | (focus (simp only [List.length_map]; omega)) | (focus (simp; done)) | (focus (simp; omega))))))
  | (apply AWP.seq)
  | (apply ACont_normal)
  | (apply W.region; kernel_rfl)
  | (apply W.regionD; exact rfl; kernel_rfl)
  | (apply Walk.nil)
  | (apply W.chk; kernel_rfl)
  | (apply AWP.block)
  | (apply AWP.skip)
  | (apply AWP.ret)
  | (apply ACont_ret)
  | (apply ABlock_ret)
  | (apply W.condT; exact rfl)
  | (refine W.cond _ rfl (fun hb => ?_) (fun hb => ?_) <;> ((try simp only [hb, Bool.not_true, Bool.not_false]) <;> (try simp only [decide_eq_true_eq, decide_eq_false_iff_not, Bool.not_eq_true', Bool.not_eq_false', Int.not_lt, Int.not_le, List.length_map, not_true_eq_false] at hb) <;> (try (exfalso; omega))))))
        exact ⟨.inl rfl, [], [bV false], rfl, rfl, ⟨rfl, trivial⟩, AVle.of_eq rfl, rfl⟩
    · have he : a = b := by
        have := hk.2
        rwa [List.take_of_length_le (by omega), List.take_of_length_le (by omega)] at this
      rw [decide_eq_true he]
      (repeat' (first
  | (apply W.qd; (first
    | (apply q_mv; (first
    | exact Eq.refl (AV.d _)
    | exact Eq.refl (AV.osl _ _ _ _)
    | exact Eq.refl (AV.opt _ _)
    | exact Eq.refl (AV.agg _)
    | exact Eq.refl (AV.fpt _ _ _ _)
    | exact Eq.refl (AV.rpt _ _ _ _)
    | exact Eq.refl (AV.fn _ _)
    | exact Eq.refl (AV.yl _)
    | exact Eq.refl (AV.tup _)
    | exact Eq.refl AV.top))
    | (apply q_as; (first
    | exact Eq.refl (AV.d _)
    | exact Eq.refl (AV.osl _ _ _ _)
    | exact Eq.refl (AV.opt _ _)
    | exact Eq.refl (AV.agg _)
    | exact Eq.refl (AV.fpt _ _ _ _)
    | exact Eq.refl (AV.rpt _ _ _ _)
    | exact Eq.refl (AV.fn _ _)
    | exact Eq.refl (AV.yl _)
    | exact Eq.refl (AV.tup _)
    | exact Eq.refl AV.top))
    | (apply q_lss; exact rfl; exact rfl)
    | (apply q_len_sl; exact rfl; exact rfl)))
  | (apply AWP.seq)
  | (apply ACont_normal)
  | (apply W.region; kernel_rfl)
  | (apply Walk.nil)
  | (apply AWP.exit)
  | (apply AWP.ret)
  | (apply ACont_exit)
  | (apply ABlock_exit)
  | (refine W.cond _ rfl (fun hb => ?_) (fun hb => ?_) <;> ((try simp only [hb, Bool.not_true, Bool.not_false]) <;> (try simp only [decide_eq_true_eq, decide_eq_false_iff_not, Bool.not_eq_true', Bool.not_eq_false', Int.not_lt, Int.not_le, List.length_map, not_true_eq_false] at hb) <;> (try (exfalso; omega))))))
      exact ⟨.inl rfl, [], [bV true], rfl, rfl, ⟨rfl, trivial⟩, AVle.of_eq rfl, rfl⟩
  · have hne : a ≠ b := fun e => hl (by rw [e])
    rw [decide_eq_false hne]
    (repeat' (first
  | (apply W.qd; (first
    | (apply q_mv; (first
    | exact Eq.refl (AV.d _)
    | exact Eq.refl (AV.osl _ _ _ _)
    | exact Eq.refl (AV.opt _ _)
    | exact Eq.refl (AV.agg _)
    | exact Eq.refl (AV.fpt _ _ _ _)
    | exact Eq.refl (AV.rpt _ _ _ _)
    | exact Eq.refl (AV.fn _ _)
    | exact Eq.refl (AV.yl _)
    | exact Eq.refl (AV.tup _)
    | exact Eq.refl AV.top))
    | (apply q_as; (first
    | exact Eq.refl (AV.d _)
    | exact Eq.refl (AV.osl _ _ _ _)
    | exact Eq.refl (AV.opt _ _)
    | exact Eq.refl (AV.agg _)
    | exact Eq.refl (AV.fpt _ _ _ _)
    | exact Eq.refl (AV.rpt _ _ _ _)
    | exact Eq.refl (AV.fn _ _)
    | exact Eq.refl (AV.yl _)
    | exact Eq.refl (AV.tup _)
    | exact Eq.refl AV.top))
    | (apply q_neq; exact rfl; exact rfl)
    | (apply q_len_sl; exact rfl; exact rfl)))
  | (apply AWP.seq)
  | (apply ACont_normal)
  | (apply W.region; kernel_rfl)
  | (apply Walk.nil)
  | (apply AWP.ret)
  | (apply ACont_ret)
  | (refine W.cond _ rfl (fun hb => ?_) (fun hb => ?_) <;> ((try simp only [hb, Bool.not_true, Bool.not_false]) <;> (try simp only [decide_eq_true_eq, decide_eq_false_iff_not, Bool.not_eq_true', Bool.not_eq_false', Int.not_lt, Int.not_le, List.length_map, not_true_eq_false] at hb) <;> (try (exfalso; omega))))))
    exact ⟨.inl rfl, [], [bV false], rfl, rfl, ⟨rfl, trivial⟩, AVle.of_eq rfl, rfl⟩
theorem A_samePlan {u v : Int} {a b : List (Int × Int)} (ha : a.length ≤ 1000000) (hb : b.length ≤ 1000000) : ACalls Tryd.prog 17 [.agg [iV u, tmsZ a], .agg [iV v, tmsZ b]] [] (bV (decide (u = v) && decide (a = b))) [] := by
  refine acalls_of_body Tryd.func17 rfl (Nat.le_of_ble_eq_true rfl) ?_
  have h := A_same_terms (a := a) (b := b) ha hb
  by_cases he : u = v
  · rw [decide_eq_true he, Bool.true_and]
    (repeat' (first
  | (apply W.gOn; exact rfl; exact rfl)
  | (apply W.qd; (first
    | (apply (q_callC (h)); exact rfl; exact rfl; kernel_rfl; kernel_rfl; kernel_rfl)
    | (apply q_mv; (first
    | exact Eq.refl (AV.d _)
    | exact Eq.refl (AV.osl _ _ _ _)
    | exact Eq.refl (AV.opt _ _)
    | exact Eq.refl (AV.agg _)
    | exact Eq.refl (AV.fpt _ _ _ _)
    | exact Eq.refl (AV.rpt _ _ _ _)
    | exact Eq.refl (AV.fn _ _)
    | exact Eq.refl (AV.yl _)
    | exact Eq.refl (AV.tup _)
    | exact Eq.refl AV.top))
    | (apply q_as; (first
    | exact Eq.refl (AV.d _)
    | exact Eq.refl (AV.osl _ _ _ _)
    | exact Eq.refl (AV.opt _ _)
    | exact Eq.refl (AV.agg _)
    | exact Eq.refl (AV.fpt _ _ _ _)
    | exact Eq.refl (AV.rpt _ _ _ _)
    | exact Eq.refl (AV.fn _ _)
    | exact Eq.refl (AV.yl _)
    | exact Eq.refl (AV.tup _)
    | exact Eq.refl AV.top))
    | (apply q_fld_optF; exact rfl; exact rfl; exact rfl)
    | (apply q_ld_box; exact rfl; exact rfl; exact rfl; exact rfl)
    | (apply q_eql; exact rfl; exact rfl)
    | (apply (q_pickT (u := .d _)); exact rfl; exact rfl)))
  | (apply W.ed; (apply e_boxF; exact rfl; exact rfl; exact rfl; kernel_rfl; kernel_rfl))
  | (apply AWP.seq)
  | (apply ACont_normal)
  | (apply W.region; kernel_rfl)
  | (apply Walk.nil)
  | (apply AWP.ret)
  | (refine W.gT _ _ rfl rfl (fun hb => ?_) (fun hb => ?_) <;> ((try simp only [hb, Bool.not_true, Bool.not_false]) <;> (try simp only [decide_eq_true_eq, decide_eq_false_iff_not, Bool.not_eq_true', Bool.not_eq_false', Int.not_lt, Int.not_le, List.length_map, not_true_eq_false] at hb) <;> (try (exfalso; omega))))))
    all_goals exact Ends.b rfl rfl
  · rw [decide_eq_false he, Bool.false_and]
    (repeat' (first
  | (apply W.qd; (first
    | (apply q_mv; (first
    | exact Eq.refl (AV.d _)
    | exact Eq.refl (AV.osl _ _ _ _)
    | exact Eq.refl (AV.opt _ _)
    | exact Eq.refl (AV.agg _)
    | exact Eq.refl (AV.fpt _ _ _ _)
    | exact Eq.refl (AV.rpt _ _ _ _)
    | exact Eq.refl (AV.fn _ _)
    | exact Eq.refl (AV.yl _)
    | exact Eq.refl (AV.tup _)
    | exact Eq.refl AV.top))
    | (apply q_as; (first
    | exact Eq.refl (AV.d _)
    | exact Eq.refl (AV.osl _ _ _ _)
    | exact Eq.refl (AV.opt _ _)
    | exact Eq.refl (AV.agg _)
    | exact Eq.refl (AV.fpt _ _ _ _)
    | exact Eq.refl (AV.rpt _ _ _ _)
    | exact Eq.refl (AV.fn _ _)
    | exact Eq.refl (AV.yl _)
    | exact Eq.refl (AV.tup _)
    | exact Eq.refl AV.top))
    | (apply q_fld_optF; exact rfl; exact rfl; exact rfl)
    | (apply q_ld_box; exact rfl; exact rfl; exact rfl; exact rfl)
    | (apply q_eql; exact rfl; exact rfl)
    | (apply (q_pickF (u := .d _)); exact rfl; exact rfl)))
  | (apply W.ed; (apply e_boxF; exact rfl; exact rfl; exact rfl; kernel_rfl; kernel_rfl))
  | (refine W.gOff _ _ rfl rfl (by intro h; cases h) ?_)
  | (apply AWP.seq)
  | (apply ACont_normal)
  | (apply W.region; kernel_rfl)
  | (apply Walk.nil)
  | (apply AWP.ret)
  | (refine W.gT _ _ rfl rfl (fun hb => ?_) (fun hb => ?_) <;> ((try simp only [hb, Bool.not_true, Bool.not_false]) <;> (try simp only [decide_eq_true_eq, decide_eq_false_iff_not, Bool.not_eq_true', Bool.not_eq_false', Int.not_lt, Int.not_le, List.length_map, not_true_eq_false] at hb) <;> (try (exfalso; omega))))))
    all_goals exact Ends.b rfl rfl
end Go.Proofs.YtilpljehfcpjeaaDoor
end

section
/- The example of layer 10. -/
namespace Go.Proofs.YtilpljehfcpjeaaDoor
open Go.RowKit
set_option linter.unusedVariables false
set_option linter.unusedSimpArgs false
set_option maxHeartbeats 4000000
set_option maxRecDepth 100000
def lrcP : List (List Nat) := [[1, 1, 0, 0], [0, 0, 1, 1], [1, 2, 4, 8]]
theorem lrc_ok : CodeOk 8 4 lrcP := by
  constructor
  all_goals first | exact .inl rfl | decide | skip
  all_goals decide
theorem lrc_p1 : planN 8 4 lrcP [true, true, false, true, true, true, true] 2 = some [(3, 1), (5, 1)] := by kernel_rfl
theorem lrc_p2 : (planN 8 4 lrcP [true, true, false, false, true, true, true] 2).map (fun l => l.map (·.1)) = some [0, 1, 5, 6] := by kernel_rfl
theorem lrc_p3 : planN 8 4 lrcP [true, true, false, false, true, false, true] 2 = none := by kernel_rfl
end Go.Proofs.YtilpljehfcpjeaaDoor
end

section
/- Package repair over the machine of abstract values: Plan and All on a list that is the caller's own. Printed by gen_rp9.py. -/
namespace Go.Proofs.YtilpljehfcpjeaaDoor
open Go.RowKit
set_option linter.unusedVariables false
set_option linter.unusedSimpArgs false
set_option maxHeartbeats 4000000
set_option maxRecDepth 100000
theorem q_eqnilO {P : Program} {m : Nat} {env : List (Nat × AV)} {own : List Ent} {dst : Option Tmp} {ty : TypeId} {pos : String} {af : Array Edge} {gd : Option (Nat × Bool)} {t t' e : TypeId} {x y : Operand} {i ver n sz : Nat} {l : List (List Dat)} (hx : lookO env x = .osl i ver 0 n) (hi : own[i]? = some (.row ver sz e l)) (hy : lookO env y = .d (.v (.slice none 0 0))) (ht : isSl P t = true) (hl : 0 < n) :
    Quiet P m ⟨dst, .binOp .eql t x y t', ty, pos, af, gd⟩ env own [i] (bV false) :=
  Quiet.val fun F own' κ a w hs _ hsame _ => by
    have h1 := hs x (by simp [Op.operands]); rw [hx, AV.sat] at h1
    have h2 := hs y (by simp [Op.operands]); rw [hy, sat_v] at h2
    obtain ⟨_, A, c, h3, hnc, _, h4⟩ := h1.2 sz e l (by rw [hsame i (by simp)]; exact hi)
    rcases h4 (.inl hl) with ⟨g, _, rfl, _⟩ | ⟨_, _, rfl⟩
    · obtain ⟨e, he⟩ := isSl_spec ht
      refine ⟨.bool false, exec_v ?_, sat_v.2 rfl⟩
      rw [h2, h3]
      have he2 := run_eqnil (P := P) he 9999 ⟨g, 0 * sz, none⟩ n c w
      have h5 : (eqGuard .eql t x y (.slice (some ⟨g, 0 * sz, none⟩) n c) (.slice none 0 0)).run P w = .ok () w := by simp [eqGuard]
      have h6 : (binOp .eql t (.slice (some ⟨g, 0 * sz, none⟩) n c) (.slice none 0 0)).run P w = .ok (.bool false) w := by
        simp only [binOp, Sem.run_bind, Op.equal]
        rw [show Op.maxDepth = 9999 + 1 from rfl, he2]
        rfl
      simp only [Sem.run_bind, h5, Result.andThen_ok, h6]
    · omega
attribute [local irreducible] Quiet Eff OpOk AWPG ACont ABlock ACalls AGoto
theorem A_cloneBO {v : Nat} {l : List Bool} (h0 : 0 < l.length) (hl : l.length ≤ 1000000) : ACalls Tryd.prog 30 [.osl 0 v 0 l.length] [.row v 1 4 (l.map tD)] (.osl 1 1 0 l.length) [.row v 1 4 (l.map tD), .row 1 1 4 (l.map tD)] := by
  refine acalls_of_bodyO Tryd.func30 rfl (Nat.le_of_ble_eq_true rfl) ?_
  have hm : (l.map tD).length = l.length := List.length_map _
  (repeat' (first
  | (apply W.ed; (apply e_lit0F; exact rfl; exact rfl; exact rfl; exact rfl; exact rfl))
  | (apply W.qd; (first
    | ((apply q_eqnilO; exact rfl; exact rfl; exact rfl; exact rfl; omega))
    | (apply q_mv; (first
    | exact Eq.refl (AV.d _)
    | exact Eq.refl (AV.osl _ _ _ _)
    | exact Eq.refl (AV.opt _ _)
    | exact Eq.refl (AV.agg _)
    | exact Eq.refl (AV.fpt _ _ _ _)
    | exact Eq.refl (AV.rpt _ _ _ _)
    | exact Eq.refl (AV.fn _ _)
    | exact Eq.refl (AV.yl _)
    | exact Eq.refl (AV.tup _)
    | exact Eq.refl AV.top))
    | (apply q_as; (first
    | exact Eq.refl (AV.d _)
    | exact Eq.refl (AV.osl _ _ _ _)
    | exact Eq.refl (AV.opt _ _)
    | exact Eq.refl (AV.agg _)
    | exact Eq.refl (AV.fpt _ _ _ _)
    | exact Eq.refl (AV.rpt _ _ _ _)
    | exact Eq.refl (AV.fn _ _)
    | exact Eq.refl (AV.yl _)
    | exact Eq.refl (AV.tup _)
    | exact Eq.refl AV.top))))
  | (apply AWP.seq)
  | (apply ACont_normal)
  | (apply W.region; kernel_rfl)
  | (apply Walk.nil)
  | (apply AWP.skip)
  | (apply W.condF; exact rfl)))
  refine W.ed (e_appR (q := l.length) rfl rfl rfl rfl rfl rfl rfl rfl rfl hm.symm (by simp) (by omega) (by simp; omega)) ?_
  (repeat' (first
  | (apply W.qd; (apply q_as; (first
    | exact Eq.refl (AV.d _)
    | exact Eq.refl (AV.osl _ _ _ _)
    | exact Eq.refl (AV.opt _ _)
    | exact Eq.refl (AV.agg _)
    | exact Eq.refl (AV.fpt _ _ _ _)
    | exact Eq.refl (AV.rpt _ _ _ _)
    | exact Eq.refl (AV.fn _ _)
    | exact Eq.refl (AV.yl _)
    | exact Eq.refl (AV.tup _)
    | exact Eq.refl AV.top)))
  | (apply ACont_normal)
  | (apply Walk.nil)
  | (apply AWP.ret)))
  exact ⟨.inl rfl, [0, 1], [.osl 1 1 0 l.length], rfl, rfl, ⟨rfl, trivial⟩, AVle.of_eq rfl, rfl⟩
theorem A_fitsO {v : Nat} {M D : Int} {par : List (List Int)} {hv : List Bool} (hp : CodeIn par) : ACalls Tryd.prog 29 [cdA M D par, .osl 0 v 0 hv.length] [.row v 1 4 (hv.map tD)] (bV (validC M D par && decide ((hv.length : Int) = D + (par.length : Int)))) [.row v 1 4 (hv.map tD)] := by
  refine acalls_of_bodyO Tryd.func29 rfl (Nat.le_of_ble_eq_true rfl) ?_
  have h0 := A_evalid (M := M) (D := D) hp
  have h1 := A_ewidth (M := M) (D := D) hp
  have hmh : (hv.map tD).length = hv.length := List.length_map _
  cases hv2 : validC M D par
  · rw [hv2] at h0
    (repeat' (first
  | (apply W.qd; (first
    | (apply (q_callC (h0)); exact rfl; exact rfl; kernel_rfl; kernel_rfl; kernel_rfl)
    | (apply q_mv; (first
    | exact Eq.refl (AV.d _)
    | exact Eq.refl (AV.osl _ _ _ _)
    | exact Eq.refl (AV.opt _ _)
    | exact Eq.refl (AV.agg _)
    | exact Eq.refl (AV.fpt _ _ _ _)
    | exact Eq.refl (AV.rpt _ _ _ _)
    | exact Eq.refl (AV.fn _ _)
    | exact Eq.refl (AV.yl _)
    | exact Eq.refl (AV.tup _)
    | exact Eq.refl AV.top))
    | (apply q_as; (first
    | exact Eq.refl (AV.d _)
    | exact Eq.refl (AV.osl _ _ _ _)
    | exact Eq.refl (AV.opt _ _)
    | exact Eq.refl (AV.agg _)
    | exact Eq.refl (AV.fpt _ _ _ _)
    | exact Eq.refl (AV.rpt _ _ _ _)
    | exact Eq.refl (AV.fn _ _)
    | exact Eq.refl (AV.yl _)
    | exact Eq.refl (AV.tup _)
    | exact Eq.refl AV.top))
    | (apply q_ld_boxF; exact rfl; exact rfl; exact rfl; exact rfl)
    | (apply (q_pickF (u := .d _)); exact rfl; exact rfl)))
  | (apply W.ed; (apply e_boxF; exact rfl; exact rfl; exact rfl; kernel_rfl; kernel_rfl))
  | (refine W.gOff _ _ rfl rfl (by intro h; cases h) ?_)
  | (apply AWP.seq)
  | (apply ACont_normal)
  | (apply W.region; kernel_rfl)
  | (apply Walk.nil)
  | (apply AWP.ret)))
    all_goals exact ⟨.inl rfl, [0], [bV false], rfl, rfl, ⟨rfl, trivial⟩, AVle.of_eq rfl, rfl⟩
  · rw [hv2] at h0
    rw [hv2, if_pos rfl] at h1
    (repeat' (first
  | (apply W.gOn; exact rfl; exact rfl)
  | (apply W.qd; (first
    | (apply (q_callC (h0)); exact rfl; exact rfl; kernel_rfl; kernel_rfl; kernel_rfl)
    | (apply (q_callC (h1)); exact rfl; exact rfl; kernel_rfl; kernel_rfl; kernel_rfl)
    | (apply q_mv; (first
    | exact Eq.refl (AV.d _)
    | exact Eq.refl (AV.osl _ _ _ _)
    | exact Eq.refl (AV.opt _ _)
    | exact Eq.refl (AV.agg _)
    | exact Eq.refl (AV.fpt _ _ _ _)
    | exact Eq.refl (AV.rpt _ _ _ _)
    | exact Eq.refl (AV.fn _ _)
    | exact Eq.refl (AV.yl _)
    | exact Eq.refl (AV.tup _)
    | exact Eq.refl AV.top))
    | (apply q_as; (first
    | exact Eq.refl (AV.d _)
    | exact Eq.refl (AV.osl _ _ _ _)
    | exact Eq.refl (AV.opt _ _)
    | exact Eq.refl (AV.agg _)
    | exact Eq.refl (AV.fpt _ _ _ _)
    | exact Eq.refl (AV.rpt _ _ _ _)
    | exact Eq.refl (AV.fn _ _)
    | exact Eq.refl (AV.yl _)
    | exact Eq.refl (AV.tup _)
    | exact Eq.refl AV.top))
    | (apply q_ld_boxF; exact rfl; exact rfl; exact rfl; exact rfl)
    | (apply q_eql; exact rfl; exact rfl)
    | (apply q_len_osl; exact rfl; exact rfl; exact rfl)
    | (apply (q_pickT (u := .d _)); exact rfl; exact rfl)))
  | (apply W.ed; (apply e_boxF; exact rfl; exact rfl; exact rfl; kernel_rfl; kernel_rfl))
  | (apply AWP.seq)
  | (apply ACont_normal)
  | (apply W.region; kernel_rfl)
  | (apply Walk.nil)
  | (apply AWP.ret)))
    all_goals exact ⟨.inl rfl, [0], [bV _], rfl, rfl, ⟨rfl, trivial⟩, AVle.of_eq (congrArg bV (by first | rfl | (rw [hmh]; rfl))), rfl⟩
theorem A_planO {M D u v : Nat} {ps : List (List Nat)} {hv : List Bool} (h : CodeOk M D ps) (hl : hv.length = D + ps.length) (hu : u < D + ps.length) : ACalls Tryd.prog 16 [cdN M D ps, .osl 0 v 0 hv.length, iV u] [.row v 1 4 (hv.map tD)] (planA u (planN M D ps hv u)) [.row v 1 4 (hv.map tD)] := by
  have hl2 : (hv.set u false).length = D + ps.length := by rw [List.length_set]; exact hl
  have h1 := h.d
  have h2 := h.w
  have hfit := A_fitsO (v := v) (M := M) (D := D) (hv := hv) (code_in h)
  have hpl : (toZ ps).length = ps.length := List.length_map _
  rw [valid_ok h, hpl, decide_eq_true (show (hv.length : Int) = D + (ps.length : Int) by omega), ← cdN_A] at hfit
  have hcl := A_cloneBO (v := v) (l := hv) (by omega) (by omega)
  have hcomb := A_comb h hl2 hu
  have hchk := A_checks (u := (u : Int)) h
  rw [chkZ_nat] at hchk
  have hIlt : ∀ i ∈ chkI D ps u ps.length, i < ps.length ∧ u ∈ checkN D i (ps.getD i []) := fun i hi => by
    obtain ⟨q1, q2⟩ := List.mem_filter.1 hi
    exact ⟨List.mem_range.1 q1, by simpa using q2⟩
  have hIl : (chkI D ps u ps.length).length ≤ ps.length := by rw [← chkZ_nat]; exact chkZ_length _ _ _ _
  have hterm := fun i hi => A_rterms h (hIlt i hi).1 (hIlt i hi).2
  have hcb := fun i => checkN_length D i (ps.getD i [])
  have hmem : ∀ i ∈ chkI D ps u ps.length, ∀ k ∈ checkN D i (ps.getD i []), k < D + ps.length := fun i hi k hk => (coef_ok h (hIlt i hi).1 hk).1
  have hcs := fun k (hk : k < (chkI D ps u ps.length).length) => Lib.hid (candC_take M D ps (hv.set u false) u (chkI D ps u ps.length) k hk)
  have hcl3 := fun k => candC_le M D ps (hv.set u false) u ((chkI D ps u ps.length).take k)
  have hP : planN M D ps hv u = bestN ((combN M D ps (hv.set u false) u).toList ++ candC M D ps (hv.set u false) u ((chkI D ps u ps.length).take (chkI D ps u ps.length).length)) := by rw [List.take_length]; rfl
  have hc0 : candC M D ps (hv.set u false) u ((chkI D ps u ps.length).take 0) = [] := rfl
  have hall : ∀ x ∈ (combN M D ps (hv.set u false) u).toList ++ candC M D ps (hv.set u false) u ((chkI D ps u ps.length).take (chkI D ps u ps.length).length), x.length ≤ 1000 := fun x hx => by
    rcases List.mem_append.1 hx with hx | hx
    · cases hc : combN M D ps (hv.set u false) u with
      | none => rw [hc] at hx; simp at hx
      | some y =>
        rw [hc] at hx
        obtain rfl : x = y := by simpa using hx
        have := (comb_ok h hl2 hu hc).le
        have := basis_len h hl2
        omega
    · unfold candC at hx
      obtain ⟨i, _, rfl⟩ := List.mem_map.1 hx
      have := cterms_le M D (ps.getD i []) (checkN D i (ps.getD i [])) u
      have := checkN_length D i (ps.getD i [])
      omega
  have hcombl : ∀ y, combN M D ps (hv.set u false) u = some y → y.length ≤ 1000 := fun y hc => hall y (by rw [hc]; simp)
  generalize chkI D ps u ps.length = I at *
  generalize planN M D ps hv u = PL at *
  generalize hC : (fun k => candC M D ps (hv.set u false) u (I.take k)) = CC at *
  have hC' : ∀ k, candC M D ps (hv.set u false) u (I.take k) = CC k := fun k => congrFun hC k
  simp only [hC'] at hcs hcl3 hP hc0 hall
  generalize combN M D ps (hv.set u false) u = CO at *
  generalize hCh : (fun i => checkN D i (ps.getD i [])) = CK at *
  have hCh' : ∀ i, checkN D i (ps.getD i []) = CK i := fun i => congrFun hCh i
  simp only [hCh'] at hterm hcb hmem hcs
  have hmis := fun k (hk : k < (hv.set u false).length) => A_missing (u := u) hk
  have hlo : (hv.set u false).length = D + ps.length := hl2
  have hmh : (hv.map tD).length = hv.length := List.length_map _
  refine acalls_of_bodyO Tryd.func16 rfl (Nat.le_of_ble_eq_true rfl) ?_
  (repeat' (first
  | (apply W.gOn; exact rfl; exact rfl)
  | (apply W.qd; (first
    | (apply (q_callR (js := [0]) (hfit)); exact rfl; exact rfl; exact rfl; exact fun _ => rfl; exact fun _ => rfl; kernel_rfl; kernel_rfl)
    | (apply q_mv; (first
    | exact Eq.refl (AV.d _)
    | exact Eq.refl (AV.osl _ _ _ _)
    | exact Eq.refl (AV.opt _ _)
    | exact Eq.refl (AV.agg _)
    | exact Eq.refl (AV.fpt _ _ _ _)
    | exact Eq.refl (AV.rpt _ _ _ _)
    | exact Eq.refl (AV.fn _ _)
    | exact Eq.refl (AV.yl _)
    | exact Eq.refl (AV.tup _)
    | exact Eq.refl AV.top))
    | (apply q_as; (first
    | exact Eq.refl (AV.d _)
    | exact Eq.refl (AV.osl _ _ _ _)
    | exact Eq.refl (AV.opt _ _)
    | exact Eq.refl (AV.agg _)
    | exact Eq.refl (AV.fpt _ _ _ _)
    | exact Eq.refl (AV.rpt _ _ _ _)
    | exact Eq.refl (AV.fn _ _)
    | exact Eq.refl (AV.yl _)
    | exact Eq.refl (AV.tup _)
    | exact Eq.refl AV.top))
    | (apply q_ld_box; exact rfl; exact rfl; exact rfl; exact rfl)
    | (apply q_ld_boxF; exact rfl; exact rfl; exact rfl; exact rfl)
    | (apply q_lss; exact rfl; exact rfl)
    | (apply q_geq; exact rfl; exact rfl)
    | (apply q_not; exact rfl)
    | (apply q_len_osl; exact rfl; exact rfl; exact rfl)
    | (apply (q_pickF (u := .d _)); exact rfl; exact rfl)
    | (apply q_ix_osl0; exact rfl; exact rfl; exact rfl; exact rfl; (first | (with_reducible exact rfl) | exact natI_spec rfl | assumption | exact (Int.toNat_of_nonneg (by omega)).symm); (first | omega | (focus (simp only [List.length_map]; omega)) | (focus (simp; done)) | (focus (simp; omega))))))
  | (apply W.ed; (first
    | (apply (e_callJ (js := [0]) (hcl)); exact rfl; exact rfl; exact rfl; exact rfl; exact rfl; kernel_rfl; kernel_rfl)
    | (apply e_boxF; exact rfl; exact rfl; exact rfl; kernel_rfl; kernel_rfl)
    | (apply e_allocF; exact rfl; exact rfl; exact rfl; kernel_rfl)))
  | (apply W.ln; (first
    | (apply l_st_box; exact rfl; exact rfl; exact rfl; exact rfl; exact rfl; exact rfl; kernel_rfl; kernel_rfl; kernel_rfl)
    | (apply l_st_rpt; exact rfl; exact rfl; exact rfl; exact rfl; exact rfl; exact rfl; exact rfl; exact fun _ => rfl; (first | omega | (focus (simp only [List.length_map]; omega)) | (focus (simp; omega))))))
  | (apply AWP.seq)
  | (apply ACont_normal)
  | (apply (W.regionS 5); exact rfl; kernel_rfl)
  | (apply Walk.nil)
  | (apply AWP.skip)
  | (refine W.cond _ rfl (fun hb => ?_) (fun hb => ?_) <;> ((try simp only [hb, Bool.not_true, Bool.not_false]) <;> (try simp only [decide_eq_true_eq, decide_eq_false_iff_not, Bool.not_eq_true', Bool.not_eq_false', Int.not_lt, Int.not_le, List.length_map, not_true_eq_false] at hb) <;> (try (exfalso; omega))))))
  refine AWP.wk ⟨[(3, .opt 1 0), (5, .opt 2 0), (6, .opt 3 0), (7, iV 0), (8, .opt 4 0)], [.row v 1 4 (hv.map tD), .box [.d .any, iV M, iV D, rowsN ps, .d .any], .box [iV u], .box [iV 0, .d (.v (.slice none 0 0))], .box [bools (hv.set u false)]]⟩ ⟨[0, 1, 2, 3, 5], rfl, rfl, ?wkPl, rfl, rfl, rfl, rfl, rfl, trivial⟩ ?_
  case wkPl =>
    have z := frz_rowJ (own := [.row v 1 4 (hv.map tD), .box [.d .any, iV M, iV D, rowsN ps, .d .any], .box [iV u], .box [iV 0, .d (.v (.slice none 0 0))], .row 1 1 4 ((hv.set u false).map tD), .box [.osl 4 1 0 hv.length]]) (js := [0, 1, 2, 3, 5]) (i := 4) (ver := 1) (n := hv.length) rfl rfl (by simp)
    exact congrArg (fun z => [Ent.row v 1 4 (hv.map tD), .box [.d .any, iV M, iV D, rowsN ps, .d .any], .box [iV u], .box [iV 0, .d (.v (.slice none 0 0))], .box [z]]) z.symm
  generalize hv.set u false = OT at *
  (repeat' (first
  | (apply W.qd; (apply q_as; (first
    | exact Eq.refl (AV.d _)
    | exact Eq.refl (AV.osl _ _ _ _)
    | exact Eq.refl (AV.opt _ _)
    | exact Eq.refl (AV.agg _)
    | exact Eq.refl (AV.fpt _ _ _ _)
    | exact Eq.refl (AV.rpt _ _ _ _)
    | exact Eq.refl (AV.fn _ _)
    | exact Eq.refl (AV.yl _)
    | exact Eq.refl (AV.tup _)
    | exact Eq.refl AV.top)))
  | (apply AWP.seq)
  | (apply ACont_normal)
  | (apply (W.regionS 6); exact rfl; kernel_rfl)
  | (apply Walk.nil)))
  refine AWP.nilRow 9 1 25 rfl (by omega) ?_
  have hmi : ((I.map CK).map rnD).length = I.length := by simp
  have hmi2 : (I.map CK).length = I.length := by simp
  have e1 : ∀ (n : Nat), AV.osl 5 n 0 n = AV.osl 5 n 0 n := fun _ => rfl
  cases CO with
  | none => ?_
  | some t0 => ?_
  all_goals unfold termsA at hcomb
  all_goals dsimp only at hcomb
  all_goals (repeat' (first
  | (apply W.qd; (first
    | (apply (q_callC (hcomb)); exact rfl; exact rfl; kernel_rfl; kernel_rfl; kernel_rfl)
    | (apply q_mv; (first
    | exact Eq.refl (AV.d _)
    | exact Eq.refl (AV.osl _ _ _ _)
    | exact Eq.refl (AV.opt _ _)
    | exact Eq.refl (AV.agg _)
    | exact Eq.refl (AV.fpt _ _ _ _)
    | exact Eq.refl (AV.rpt _ _ _ _)
    | exact Eq.refl (AV.fn _ _)
    | exact Eq.refl (AV.yl _)
    | exact Eq.refl (AV.tup _)
    | exact Eq.refl AV.top))
    | (apply q_as; (first
    | exact Eq.refl (AV.d _)
    | exact Eq.refl (AV.osl _ _ _ _)
    | exact Eq.refl (AV.opt _ _)
    | exact Eq.refl (AV.agg _)
    | exact Eq.refl (AV.fpt _ _ _ _)
    | exact Eq.refl (AV.rpt _ _ _ _)
    | exact Eq.refl (AV.fn _ _)
    | exact Eq.refl (AV.yl _)
    | exact Eq.refl (AV.tup _)
    | exact Eq.refl AV.top))
    | (apply q_ld_box; exact rfl; exact rfl; exact rfl; exact rfl)
    | (apply q_ld_boxF; exact rfl; exact rfl; exact rfl; exact rfl)
    | (apply q_eql; exact rfl; exact rfl)
    | (apply q_extract; exact rfl; exact rfl)
    | (apply q_makeFunc)
    | (apply q_litF; exact rfl; exact rfl; exact rfl; exact rfl; exact rfl; kernel_rfl; kernel_rfl; exact rfl)))
  | (apply W.ed; (apply e_appF; exact rfl; exact rfl; exact rfl; exact rfl; exact rfl; exact rfl; exact rfl; exact rfl; (first | rfl | simp); (first | exact Nat.zero_lt_one | (focus (simp; done)) | omega); (first | (focus (simp; done)) | (focus (simp; omega)) | omega)))
  | (apply AWP.seq)
  | (apply ACont_normal)
  | (apply (W.regionS 10); exact rfl; kernel_rfl)
  | (apply Walk.nil)
  | (apply AWP.skip)
  | (apply W.condT; exact rfl)
  | (apply W.condF; exact rfl)))
  rotate_left
  · refine AWP.wk ⟨[(9, .osl 5 [t0].length 0 [t0].length), (12, .fn 32 [.opt 2 0, .opt 4 0]), (3, .opt 1 0), (5, .opt 2 0), (6, .opt 3 0), (7, iV 0)], [.row v 1 4 (hv.map tD), .box [.d .any, iV M, iV D, rowsN ps, .d .any], .box [iV u], .box [iV 0, .d (.v (.slice none 0 0))], .box [bools OT], .row [t0].length 1 25 ([t0].map tlD)]⟩ ⟨[0, 1, 2, 3, 4, 5], rfl, rfl, rfl, rfl, rfl, rfl, rfl, rfl, rfl, trivial⟩ ?_
    have hB1 : [t0].length ≤ 1 := Nat.le_refl _
    rw [show (some t0).toList = [t0] from rfl] at hP hall
    generalize [t0] = B at *
    (repeat' (first
  | (apply W.qd; (first
    | (apply (q_callC (hchk)); exact rfl; exact rfl; kernel_rfl; kernel_rfl; kernel_rfl)
    | (apply q_mv; (first
    | exact Eq.refl (AV.d _)
    | exact Eq.refl (AV.osl _ _ _ _)
    | exact Eq.refl (AV.opt _ _)
    | exact Eq.refl (AV.agg _)
    | exact Eq.refl (AV.fpt _ _ _ _)
    | exact Eq.refl (AV.rpt _ _ _ _)
    | exact Eq.refl (AV.fn _ _)
    | exact Eq.refl (AV.yl _)
    | exact Eq.refl (AV.tup _)
    | exact Eq.refl AV.top))
    | (apply q_ld_box; exact rfl; exact rfl; exact rfl; exact rfl)
    | (apply q_ld_boxF; exact rfl; exact rfl; exact rfl; exact rfl)
    | (apply q_len_sl; exact rfl; exact rfl)))
  | (apply ACont_normal)
  | (apply W.region; kernel_rfl)
  | (apply Walk.nil)
  | (apply AWP.block)))
    refine AWP.loopW (α := Nat) (fun k => k ≤ I.length) (fun k => ⟨[(55, iV k), (54, iV I.length), (53, rowsN (I.map CK)), (9, .osl 5 (B ++ CC k).length 0 (B ++ CC k).length), (12, .fn 32 [.opt 2 0, .opt 4 0]), (3, .opt 1 0), (5, .opt 2 0), (6, .opt 3 0), (7, iV 0)], [.row v 1 4 (hv.map tD), .box [.d .any, iV M, iV D, rowsN ps, .d .any], .box [iV u], .box [iV 0, .d (.v (.slice none 0 0))], .box [bools OT], .row (B ++ CC k).length 1 25 ((B ++ CC k).map tlD)]⟩) (fun k => I.length - k) 0 (by omega) ?wkA fun k hk => ?_
    case wkA =>
      rw [hc0, List.append_nil]
      exact ⟨[0, 1, 2, 3, 4, 5], rfl, rfl, rfl, rfl, iV_eq (by simp), rfl, rfl, rfl, rfl, rfl, rfl, rfl, trivial⟩
    have hlL : (B ++ CC k).length ≤ 100 := by
      have := hcl3 k
      rw [List.length_append]
      rw [List.length_take] at this
      omega
    by_cases hkI : k < I.length
    · have hIk := List.getElem_mem hkI
      have eK : (I.map CK)[k]'(by simpa using hkI) = CK I[k] := List.getElem_map _
      have hs2 := hcs k hkI
      have ht1 := hterm I[k] hIk
      have hcbk := hcb I[k]
      have hcf := A_contains_int (O := [.box [iV u], .box [bools OT]]) (g := 32) (caps := [.opt 0 0, .opt 1 0]) (misZ OT u) ((CK I[k]).map fun n : Nat => (n : Int)) (by rw [List.length_map]; omega) (by kernel_rfl) (fun x hx => by
        obtain ⟨y, hy, rfl⟩ := List.mem_map.1 hx
        exact hmis y (by rw [hlo]; exact hmem _ hIk y hy))
      rw [misZ_full, ← nats_ints] at hcf
      have htl := cterms_le M D (ps.getD I[k] []) (CK I[k]) u
      generalize ctermsN M D (ps.getD I[k] []) (CK I[k]) u = TT at *
      rw [← eK] at ht1 hcf
      rw [← eK] at hs2
      cases hfu : fullC OT ((I.map CK)[k]'(by simpa using hkI)) u <;> rw [hfu] at hcf hs2
      · replace hs2 := Lib.hid (hs2.out.trans (if_neg (by decide)))
        (repeat' (first
  | (apply W.qd; (first
    | (apply q_mv; (first
    | exact Eq.refl (AV.d _)
    | exact Eq.refl (AV.osl _ _ _ _)
    | exact Eq.refl (AV.opt _ _)
    | exact Eq.refl (AV.agg _)
    | exact Eq.refl (AV.fpt _ _ _ _)
    | exact Eq.refl (AV.rpt _ _ _ _)
    | exact Eq.refl (AV.fn _ _)
    | exact Eq.refl (AV.yl _)
    | exact Eq.refl (AV.tup _)
    | exact Eq.refl AV.top))
    | (apply q_as; (first
    | exact Eq.refl (AV.d _)
    | exact Eq.refl (AV.osl _ _ _ _)
    | exact Eq.refl (AV.opt _ _)
    | exact Eq.refl (AV.agg _)
    | exact Eq.refl (AV.fpt _ _ _ _)
    | exact Eq.refl (AV.rpt _ _ _ _)
    | exact Eq.refl (AV.fn _ _)
    | exact Eq.refl (AV.yl _)
    | exact Eq.refl (AV.tup _)
    | exact Eq.refl AV.top))
    | (apply q_lss; exact rfl; exact rfl)
    | (apply q_not; exact rfl)
    | (apply q_add; exact rfl; exact rfl; omega)
    | (apply q_ld_map; exact rfl; exact rfl; exact rfl; (first | omega | (focus (simp; done))))
    | (apply q_ix_slF; exact rfl; exact rfl; exact rfl; exact rfl; (first | (with_reducible exact rfl) | exact natI_spec rfl | assumption | exact (Int.toNat_of_nonneg (by omega)).symm); (first | omega | (focus (simp only [List.length_map]; omega)) | (focus (simp; done)) | (focus (simp; omega))))))
  | (apply W.ed; (apply (e_callJ (js := [2, 4]) (hcf)); exact rfl; exact rfl; exact rfl; exact rfl; exact rfl; kernel_rfl; kernel_rfl))
  | (apply AWP.seq)
  | (apply ACont_normal)
  | (apply W.region; kernel_rfl)
  | (apply Walk.nil)
  | (apply AWP.block)
  | (apply AWP.skip)
  | (apply ABlock_normal)
  | (apply W.condF; exact rfl)
  | (refine W.cond _ rfl (fun hb => ?_) (fun hb => ?_) <;> ((try simp only [hb, Bool.not_true, Bool.not_false]) <;> (try simp only [decide_eq_true_eq, decide_eq_false_iff_not, Bool.not_eq_true', Bool.not_eq_false', Int.not_lt, Int.not_le, List.length_map, not_true_eq_false] at hb) <;> (try (exfalso; omega))))))
        refine ⟨k + 1, by omega, by omega, ?_⟩
        rw [hs2.out]
        exact ⟨[0, 1, 2, 3, 4, 5], rfl, rfl, rfl, iV_eq (by omega), rfl, rfl, rfl, rfl, rfl, rfl, rfl, rfl, trivial⟩
      · replace hs2 := Lib.hid (hs2.out.trans (if_pos rfl))
        (repeat' (first
  | (apply W.qd; (first
    | (apply (q_callC (ht1)); exact rfl; exact rfl; kernel_rfl; kernel_rfl; kernel_rfl)
    | (apply q_mv; (first
    | exact Eq.refl (AV.d _)
    | exact Eq.refl (AV.osl _ _ _ _)
    | exact Eq.refl (AV.opt _ _)
    | exact Eq.refl (AV.agg _)
    | exact Eq.refl (AV.fpt _ _ _ _)
    | exact Eq.refl (AV.rpt _ _ _ _)
    | exact Eq.refl (AV.fn _ _)
    | exact Eq.refl (AV.yl _)
    | exact Eq.refl (AV.tup _)
    | exact Eq.refl AV.top))
    | (apply q_as; (first
    | exact Eq.refl (AV.d _)
    | exact Eq.refl (AV.osl _ _ _ _)
    | exact Eq.refl (AV.opt _ _)
    | exact Eq.refl (AV.agg _)
    | exact Eq.refl (AV.fpt _ _ _ _)
    | exact Eq.refl (AV.rpt _ _ _ _)
    | exact Eq.refl (AV.fn _ _)
    | exact Eq.refl (AV.yl _)
    | exact Eq.refl (AV.tup _)
    | exact Eq.refl AV.top))
    | (apply q_ld_box; exact rfl; exact rfl; exact rfl; exact rfl)
    | (apply q_ld_boxF; exact rfl; exact rfl; exact rfl; exact rfl)
    | (apply q_lss; exact rfl; exact rfl)
    | (apply q_not; exact rfl)
    | (apply q_add; exact rfl; exact rfl; omega)
    | (apply q_ld_map; exact rfl; exact rfl; exact rfl; (first | omega | (focus (simp; done))))
    | (apply q_litF; exact rfl; exact rfl; exact rfl; exact rfl; exact rfl; kernel_rfl; kernel_rfl; exact rfl)
    | (apply q_ix_slF; exact rfl; exact rfl; exact rfl; exact rfl; (first | (with_reducible exact rfl) | exact natI_spec rfl | assumption | exact (Int.toNat_of_nonneg (by omega)).symm); (first | omega | (focus (simp only [List.length_map]; omega)) | (focus (simp; done)) | (focus (simp; omega))))))
  | (apply W.ld; (apply l_app1; exact rfl; exact rfl; exact rfl; exact rfl; exact rfl; exact rfl; exact rfl; exact rfl; (first | omega | (focus (simp; omega)) | (focus (simp; done)))))
  | (apply W.ed; (apply (e_callJ (js := [2, 4]) (hcf)); exact rfl; exact rfl; exact rfl; exact rfl; exact rfl; kernel_rfl; kernel_rfl))
  | (apply AWP.seq)
  | (apply ACont_normal)
  | (apply W.region; kernel_rfl)
  | (apply Walk.nil)
  | (apply AWP.block)
  | (apply AWP.skip)
  | (apply ABlock_normal)
  | (apply W.condT; exact rfl)
  | (refine W.cond _ rfl (fun hb => ?_) (fun hb => ?_) <;> ((try simp only [hb, Bool.not_true, Bool.not_false]) <;> (try simp only [decide_eq_true_eq, decide_eq_false_iff_not, Bool.not_eq_true', Bool.not_eq_false', Int.not_lt, Int.not_le, List.length_map, not_true_eq_false] at hb) <;> (try (exfalso; omega))))))
        refine ⟨k + 1, by omega, by omega, ?_⟩
        rw [hs2.out, ← List.append_assoc, show ((B ++ CC k) ++ [TT]).length = (B ++ CC k).length + 1 by simp; omega]
        exact ⟨[0, 1, 2, 3, 4, 5], rfl, rfl, rfl, iV_eq (by omega), rfl, rfl, congrArg (AV.osl 5 ((B ++ CC k).length + 1) 0) (by simp), rfl, rfl, rfl, rfl, rfl, trivial⟩
    · have e3 : k = I.length := by omega
      subst e3
      rw [hP]
      generalize B ++ CC I.length = L at *
      refine AWP.wk ⟨[(55, iV I.length), (54, iV I.length), (9, tlsA L), (3, .opt 1 0), (5, .opt 2 0), (6, .opt 3 0), (7, iV 0)], [.row v 1 4 (hv.map tD), .box [.d .any, iV M, iV D, rowsN ps, .d .any], .box [iV u], .box [iV 0, .d (.v (.slice none 0 0))], .box [bools OT]]⟩ ⟨[0, 1, 2, 3, 4], rfl, rfl, rfl, rfl, rfl, (frz_rowJ rfl rfl (by simp)).symm, rfl, rfl, rfl, rfl, trivial⟩ ?_
      have hmL : (L.map tlD).length = L.length := List.length_map _
      by_cases hL0 : L = []
      · subst hL0
        (repeat' (first
  | (apply W.qd; (first
    | (apply q_mv; (first
    | exact Eq.refl (AV.d _)
    | exact Eq.refl (AV.osl _ _ _ _)
    | exact Eq.refl (AV.opt _ _)
    | exact Eq.refl (AV.agg _)
    | exact Eq.refl (AV.fpt _ _ _ _)
    | exact Eq.refl (AV.rpt _ _ _ _)
    | exact Eq.refl (AV.fn _ _)
    | exact Eq.refl (AV.yl _)
    | exact Eq.refl (AV.tup _)
    | exact Eq.refl AV.top))
    | (apply q_as; (first
    | exact Eq.refl (AV.d _)
    | exact Eq.refl (AV.osl _ _ _ _)
    | exact Eq.refl (AV.opt _ _)
    | exact Eq.refl (AV.agg _)
    | exact Eq.refl (AV.fpt _ _ _ _)
    | exact Eq.refl (AV.rpt _ _ _ _)
    | exact Eq.refl (AV.fn _ _)
    | exact Eq.refl (AV.yl _)
    | exact Eq.refl (AV.tup _)
    | exact Eq.refl AV.top))
    | (apply q_lss; exact rfl; exact rfl)
    | (apply q_eql; exact rfl; exact rfl)
    | (apply q_len_sl; exact rfl; exact rfl)
    | (apply q_buildF; exact rfl; exact rfl; kernel_rfl)))
  | (apply W.ln; (apply l_st_box; exact rfl; exact rfl; exact rfl; exact rfl; exact rfl; exact rfl; kernel_rfl; kernel_rfl; kernel_rfl))
  | (apply AWP.seq)
  | (apply ACont_normal)
  | (apply W.region; kernel_rfl)
  | (apply Walk.nil)
  | (apply AWP.exit)
  | (apply AWP.ret)
  | (apply ACont_exit)
  | (apply ACont_ret)
  | (apply ABlock_exit)
  | (apply W.condT; exact rfl)
  | (refine W.cond _ rfl (fun hb => ?_) (fun hb => ?_) <;> ((try simp only [hb, Bool.not_true, Bool.not_false]) <;> (try simp only [decide_eq_true_eq, decide_eq_false_iff_not, Bool.not_eq_true', Bool.not_eq_false', Int.not_lt, Int.not_le, List.length_map, not_true_eq_false] at hb) <;> (try (exfalso; omega))))))
        exact ⟨.inl rfl, [0], [.agg [iV 0, .d (.v (.slice none 0 0))], iV 11], rfl, rfl, ⟨⟨3, [iV 0, .d (.v (.slice none 0 0))], true, rfl, rfl, rfl, rfl⟩, rfl, trivial⟩, pl0_le 11, rfl⟩
      · have hLp : 0 < L.length := List.length_pos_iff.2 hL0
        have hmin := A_minFunc L hLp (by omega) (fun t ht => by have := hall t ht; omega)
        have hbs : bestN L = some ((bestN L).getD []) := by
          cases L with
          | nil => exact absurd rfl hL0
          | cons a l => rfl
        rw [hbs]
        generalize (bestN L).getD [] = RR at *
        (repeat' (first
  | (apply W.qd; (first
    | (apply q_mv; (first
    | exact Eq.refl (AV.d _)
    | exact Eq.refl (AV.osl _ _ _ _)
    | exact Eq.refl (AV.opt _ _)
    | exact Eq.refl (AV.agg _)
    | exact Eq.refl (AV.fpt _ _ _ _)
    | exact Eq.refl (AV.rpt _ _ _ _)
    | exact Eq.refl (AV.fn _ _)
    | exact Eq.refl (AV.yl _)
    | exact Eq.refl (AV.tup _)
    | exact Eq.refl AV.top))
    | (apply q_as; (first
    | exact Eq.refl (AV.d _)
    | exact Eq.refl (AV.osl _ _ _ _)
    | exact Eq.refl (AV.opt _ _)
    | exact Eq.refl (AV.agg _)
    | exact Eq.refl (AV.fpt _ _ _ _)
    | exact Eq.refl (AV.rpt _ _ _ _)
    | exact Eq.refl (AV.fn _ _)
    | exact Eq.refl (AV.yl _)
    | exact Eq.refl (AV.tup _)
    | exact Eq.refl AV.top))
    | (apply q_ld_box; exact rfl; exact rfl; exact rfl; exact rfl)
    | (apply q_lss; exact rfl; exact rfl)
    | (apply q_eql; exact rfl; exact rfl)
    | (apply q_len_sl; exact rfl; exact rfl)
    | (apply q_buildF; exact rfl; exact rfl; kernel_rfl)
    | (apply q_makeFunc)))
  | (apply W.ed; (first
    | (apply (e_callJ (js := [5]) (hmin)); exact rfl; exact rfl; exact rfl; exact rfl; exact rfl; kernel_rfl; kernel_rfl)
    | (apply e_allocF; exact rfl; exact rfl; exact rfl; kernel_rfl)))
  | (apply W.ln; (apply l_st_box; exact rfl; exact rfl; exact rfl; exact rfl; exact rfl; exact rfl; kernel_rfl; kernel_rfl; kernel_rfl))
  | (apply AWP.seq)
  | (apply ACont_normal)
  | (apply W.region; kernel_rfl)
  | (apply Walk.nil)
  | (apply AWP.skip)
  | (apply AWP.exit)
  | (apply AWP.ret)
  | (apply ACont_exit)
  | (apply ABlock_exit)
  | (refine W.cond _ rfl (fun hb => ?_) (fun hb => ?_) <;> ((try simp only [hb, Bool.not_true, Bool.not_false]) <;> (try simp only [decide_eq_true_eq, decide_eq_false_iff_not, Bool.not_eq_true', Bool.not_eq_false', Int.not_lt, Int.not_le, List.length_map, not_true_eq_false] at hb) <;> (try (exfalso; omega))))))
        exact ⟨.inl rfl, [0], [.agg [iV u, tmsA RR], iV 0], rfl, rfl, ⟨⟨3, [iV u, tmsA RR], true, rfl, rfl, rfl, rfl⟩, rfl, trivial⟩, AVle.of_eq rfl, rfl⟩
  · refine AWP.wk ⟨[(9, .osl 5 ([] : List (List (Nat × Nat))).length 0 ([] : List (List (Nat × Nat))).length), (12, .fn 32 [.opt 2 0, .opt 4 0]), (3, .opt 1 0), (5, .opt 2 0), (6, .opt 3 0), (7, iV 0)], [.row v 1 4 (hv.map tD), .box [.d .any, iV M, iV D, rowsN ps, .d .any], .box [iV u], .box [iV 0, .d (.v (.slice none 0 0))], .box [bools OT], .row ([] : List (List (Nat × Nat))).length 1 25 (([] : List (List (Nat × Nat))).map tlD)]⟩ ⟨[0, 1, 2, 3, 4, 5], rfl, rfl, rfl, rfl, rfl, rfl, rfl, rfl, rfl, trivial⟩ ?_
    have hB1 : ([] : List (List (Nat × Nat))).length ≤ 1 := Nat.zero_le _
    rw [show (none : Option (List (Nat × Nat))).toList = [] from rfl] at hP hall
    generalize ([] : List (List (Nat × Nat))) = B at hP hall hB1 ⊢
    (repeat' (first
  | (apply W.qd; (first
    | (apply (q_callC (hchk)); exact rfl; exact rfl; kernel_rfl; kernel_rfl; kernel_rfl)
    | (apply q_mv; (first
    | exact Eq.refl (AV.d _)
    | exact Eq.refl (AV.osl _ _ _ _)
    | exact Eq.refl (AV.opt _ _)
    | exact Eq.refl (AV.agg _)
    | exact Eq.refl (AV.fpt _ _ _ _)
    | exact Eq.refl (AV.rpt _ _ _ _)
    | exact Eq.refl (AV.fn _ _)
    | exact Eq.refl (AV.yl _)
    | exact Eq.refl (AV.tup _)
    | exact Eq.refl AV.top))
    | (apply q_ld_box; exact rfl; exact rfl; exact rfl; exact rfl)
    | (apply q_ld_boxF; exact rfl; exact rfl; exact rfl; exact rfl)
    | (apply q_len_sl; exact rfl; exact rfl)))
  | (apply ACont_normal)
  | (apply W.region; kernel_rfl)
  | (apply Walk.nil)
  | (apply AWP.block)))
    refine AWP.loopW (α := Nat) (fun k => k ≤ I.length) (fun k => ⟨[(55, iV k), (54, iV I.length), (53, rowsN (I.map CK)), (9, .osl 5 (B ++ CC k).length 0 (B ++ CC k).length), (12, .fn 32 [.opt 2 0, .opt 4 0]), (3, .opt 1 0), (5, .opt 2 0), (6, .opt 3 0), (7, iV 0)], [.row v 1 4 (hv.map tD), .box [.d .any, iV M, iV D, rowsN ps, .d .any], .box [iV u], .box [iV 0, .d (.v (.slice none 0 0))], .box [bools OT], .row (B ++ CC k).length 1 25 ((B ++ CC k).map tlD)]⟩) (fun k => I.length - k) 0 (by omega) ?wkA fun k hk => ?_
    case wkA =>
      rw [hc0, List.append_nil]
      exact ⟨[0, 1, 2, 3, 4, 5], rfl, rfl, rfl, rfl, iV_eq (by simp), rfl, rfl, rfl, rfl, rfl, rfl, rfl, trivial⟩
    have hlL : (B ++ CC k).length ≤ 100 := by
      have := hcl3 k
      rw [List.length_append]
      rw [List.length_take] at this
      omega
    by_cases hkI : k < I.length
    · have hIk := List.getElem_mem hkI
      have eK : (I.map CK)[k]'(by simpa using hkI) = CK I[k] := List.getElem_map _
      have hs2 := hcs k hkI
      have ht1 := hterm I[k] hIk
      have hcbk := hcb I[k]
      have hcf := A_contains_int (O := [.box [iV u], .box [bools OT]]) (g := 32) (caps := [.opt 0 0, .opt 1 0]) (misZ OT u) ((CK I[k]).map fun n : Nat => (n : Int)) (by rw [List.length_map]; omega) (by kernel_rfl) (fun x hx => by
        obtain ⟨y, hy, rfl⟩ := List.mem_map.1 hx
        exact hmis y (by rw [hlo]; exact hmem _ hIk y hy))
      rw [misZ_full, ← nats_ints] at hcf
      have htl := cterms_le M D (ps.getD I[k] []) (CK I[k]) u
      generalize ctermsN M D (ps.getD I[k] []) (CK I[k]) u = TT at *
      rw [← eK] at ht1 hcf
      rw [← eK] at hs2
      cases hfu : fullC OT ((I.map CK)[k]'(by simpa using hkI)) u <;> rw [hfu] at hcf hs2
      · replace hs2 := Lib.hid (hs2.out.trans (if_neg (by decide)))
        (repeat' (first
  | (apply W.qd; (first
    | (apply q_mv; (first
    | exact Eq.refl (AV.d _)
    | exact Eq.refl (AV.osl _ _ _ _)
    | exact Eq.refl (AV.opt _ _)
    | exact Eq.refl (AV.agg _)
    | exact Eq.refl (AV.fpt _ _ _ _)
    | exact Eq.refl (AV.rpt _ _ _ _)
    | exact Eq.refl (AV.fn _ _)
    | exact Eq.refl (AV.yl _)
    | exact Eq.refl (AV.tup _)
    | exact Eq.refl AV.top))
    | (apply q_as; (first
    | exact Eq.refl (AV.d _)
    | exact Eq.refl (AV.osl _ _ _ _)
    | exact Eq.refl (AV.opt _ _)
    | exact Eq.refl (AV.agg _)
    | exact Eq.refl (AV.fpt _ _ _ _)
    | exact Eq.refl (AV.rpt _ _ _ _)
    | exact Eq.refl (AV.fn _ _)
    | exact Eq.refl (AV.yl _)
    | exact Eq.refl (AV.tup _)
    | exact Eq.refl AV.top))
    | (apply q_lss; exact rfl; exact rfl)
    | (apply q_not; exact rfl)
    | (apply q_add; exact rfl; exact rfl; omega)
    | (apply q_ld_map; exact rfl; exact rfl; exact rfl; (first | omega | (focus (simp; done))))
    | (apply q_ix_slF; exact rfl; exact rfl; exact rfl; exact rfl; (first | (with_reducible exact rfl) | exact natI_spec rfl | assumption | exact (Int.toNat_of_nonneg (by omega)).symm); (first | omega | (focus (simp only [List.length_map]; omega)) | (focus (simp; done)) | (focus (simp; omega))))))
  | (apply W.ed; (apply (e_callJ (js := [2, 4]) (hcf)); exact rfl; exact rfl; exact rfl; exact rfl; exact rfl; kernel_rfl; kernel_rfl))
  | (apply AWP.seq)
  | (apply ACont_normal)
  | (apply W.region; kernel_rfl)
  | (apply Walk.nil)
  | (apply AWP.block)
  | (apply AWP.skip)
  | (apply ABlock_normal)
  | (apply W.condF; exact rfl)
  | (refine W.cond _ rfl (fun hb => ?_) (fun hb => ?_) <;> ((try simp only [hb, Bool.not_true, Bool.not_false]) <;> (try simp only [decide_eq_true_eq, decide_eq_false_iff_not, Bool.not_eq_true', Bool.not_eq_false', Int.not_lt, Int.not_le, List.length_map, not_true_eq_false] at hb) <;> (try (exfalso; omega))))))
        refine ⟨k + 1, by omega, by omega, ?_⟩
        rw [hs2.out]
        exact ⟨[0, 1, 2, 3, 4, 5], rfl, rfl, rfl, iV_eq (by omega), rfl, rfl, rfl, rfl, rfl, rfl, rfl, rfl, trivial⟩
      · replace hs2 := Lib.hid (hs2.out.trans (if_pos rfl))
        (repeat' (first
  | (apply W.qd; (first
    | (apply (q_callC (ht1)); exact rfl; exact rfl; kernel_rfl; kernel_rfl; kernel_rfl)
    | (apply q_mv; (first
    | exact Eq.refl (AV.d _)
    | exact Eq.refl (AV.osl _ _ _ _)
    | exact Eq.refl (AV.opt _ _)
    | exact Eq.refl (AV.agg _)
    | exact Eq.refl (AV.fpt _ _ _ _)
    | exact Eq.refl (AV.rpt _ _ _ _)
    | exact Eq.refl (AV.fn _ _)
    | exact Eq.refl (AV.yl _)
    | exact Eq.refl (AV.tup _)
    | exact Eq.refl AV.top))
    | (apply q_as; (first
    | exact Eq.refl (AV.d _)
    | exact Eq.refl (AV.osl _ _ _ _)
    | exact Eq.refl (AV.opt _ _)
    | exact Eq.refl (AV.agg _)
    | exact Eq.refl (AV.fpt _ _ _ _)
    | exact Eq.refl (AV.rpt _ _ _ _)
    | exact Eq.refl (AV.fn _ _)
    | exact Eq.refl (AV.yl _)
    | exact Eq.refl (AV.tup _)
    | exact Eq.refl AV.top))
    | (apply q_ld_box; exact rfl; exact rfl; exact rfl; exact rfl)
    | (apply q_ld_boxF; exact rfl; exact rfl; exact rfl; exact rfl)
    | (apply q_lss; exact rfl; exact rfl)
    | (apply q_not; exact rfl)
    | (apply q_add; exact rfl; exact rfl; omega)
    | (apply q_ld_map; exact rfl; exact rfl; exact rfl; (first | omega | (focus (simp; done))))
    | (apply q_litF; exact rfl; exact rfl; exact rfl; exact rfl; exact rfl; kernel_rfl; kernel_rfl; exact rfl)
    | (apply q_ix_slF; exact rfl; exact rfl; exact rfl; exact rfl; (first | (with_reducible exact rfl) | exact natI_spec rfl | assumption | exact (Int.toNat_of_nonneg (by omega)).symm); (first | omega | (focus (simp only [List.length_map]; omega)) | (focus (simp; done)) | (focus (simp; omega))))))
  | (apply W.ld; (apply l_app1; exact rfl; exact rfl; exact rfl; exact rfl; exact rfl; exact rfl; exact rfl; exact rfl; (first | omega | (focus (simp; omega)) | (focus (simp; done)))))
  | (apply W.ed; (apply (e_callJ (js := [2, 4]) (hcf)); exact rfl; exact rfl; exact rfl; exact rfl; exact rfl; kernel_rfl; kernel_rfl))
  | (apply AWP.seq)
  | (apply ACont_normal)
  | (apply W.region; kernel_rfl)
  | (apply Walk.nil)
  | (apply AWP.block)
  | (apply AWP.skip)
  | (apply ABlock_normal)
  | (apply W.condT; exact rfl)
  | (refine W.cond _ rfl (fun hb => ?_) (fun hb => ?_) <;> ((try simp only [hb, Bool.not_true, Bool.not_false]) <;> (try simp only [decide_eq_true_eq, decide_eq_false_iff_not, Bool.not_eq_true', Bool.not_eq_false', Int.not_lt, Int.not_le, List.length_map, not_true_eq_false] at hb) <;> (try (exfalso; omega))))))
        refine ⟨k + 1, by omega, by omega, ?_⟩
        rw [hs2.out, ← List.append_assoc, show ((B ++ CC k) ++ [TT]).length = (B ++ CC k).length + 1 by simp; omega]
        exact ⟨[0, 1, 2, 3, 4, 5], rfl, rfl, rfl, iV_eq (by omega), rfl, rfl, congrArg (AV.osl 5 ((B ++ CC k).length + 1) 0) (by simp), rfl, rfl, rfl, rfl, rfl, trivial⟩
    · have e3 : k = I.length := by omega
      subst e3
      rw [hP]
      generalize B ++ CC I.length = L at *
      refine AWP.wk ⟨[(55, iV I.length), (54, iV I.length), (9, tlsA L), (3, .opt 1 0), (5, .opt 2 0), (6, .opt 3 0), (7, iV 0)], [.row v 1 4 (hv.map tD), .box [.d .any, iV M, iV D, rowsN ps, .d .any], .box [iV u], .box [iV 0, .d (.v (.slice none 0 0))], .box [bools OT]]⟩ ⟨[0, 1, 2, 3, 4], rfl, rfl, rfl, rfl, rfl, (frz_rowJ rfl rfl (by simp)).symm, rfl, rfl, rfl, rfl, trivial⟩ ?_
      have hmL : (L.map tlD).length = L.length := List.length_map _
      by_cases hL0 : L = []
      · subst hL0
        (repeat' (first
  | (apply W.qd; (first
    | (apply q_mv; (first
    | exact Eq.refl (AV.d _)
    | exact Eq.refl (AV.osl _ _ _ _)
    | exact Eq.refl (AV.opt _ _)
    | exact Eq.refl (AV.agg _)
    | exact Eq.refl (AV.fpt _ _ _ _)
    | exact Eq.refl (AV.rpt _ _ _ _)
    | exact Eq.refl (AV.fn _ _)
    | exact Eq.refl (AV.yl _)
    | exact Eq.refl (AV.tup _)
    | exact Eq.refl AV.top))
    | (apply q_as; (first
    | exact Eq.refl (AV.d _)
    | exact Eq.refl (AV.osl _ _ _ _)
    | exact Eq.refl (AV.opt _ _)
    | exact Eq.refl (AV.agg _)
    | exact Eq.refl (AV.fpt _ _ _ _)
    | exact Eq.refl (AV.rpt _ _ _ _)
    | exact Eq.refl (AV.fn _ _)
    | exact Eq.refl (AV.yl _)
    | exact Eq.refl (AV.tup _)
    | exact Eq.refl AV.top))
    | (apply q_lss; exact rfl; exact rfl)
    | (apply q_eql; exact rfl; exact rfl)
    | (apply q_len_sl; exact rfl; exact rfl)
    | (apply q_buildF; exact rfl; exact rfl; kernel_rfl)))
  | (apply W.ln; (apply l_st_box; exact rfl; exact rfl; exact rfl; exact rfl; exact rfl; exact rfl; kernel_rfl; kernel_rfl; kernel_rfl))
  | (apply AWP.seq)
  | (apply ACont_normal)
  | (apply W.region; kernel_rfl)
  | (apply Walk.nil)
  | (apply AWP.exit)
  | (apply AWP.ret)
  | (apply ACont_exit)
  | (apply ACont_ret)
  | (apply ABlock_exit)
  | (apply W.condT; exact rfl)
  | (refine W.cond _ rfl (fun hb => ?_) (fun hb => ?_) <;> ((try simp only [hb, Bool.not_true, Bool.not_false]) <;> (try simp only [decide_eq_true_eq, decide_eq_false_iff_not, Bool.not_eq_true', Bool.not_eq_false', Int.not_lt, Int.not_le, List.length_map, not_true_eq_false] at hb) <;> (try (exfalso; omega))))))
        exact ⟨.inl rfl, [0], [.agg [iV 0, .d (.v (.slice none 0 0))], iV 11], rfl, rfl, ⟨⟨3, [iV 0, .d (.v (.slice none 0 0))], true, rfl, rfl, rfl, rfl⟩, rfl, trivial⟩, pl0_le 11, rfl⟩
      · have hLp : 0 < L.length := List.length_pos_iff.2 hL0
        have hmin := A_minFunc L hLp (by omega) (fun t ht => by have := hall t ht; omega)
        have hbs : bestN L = some ((bestN L).getD []) := by
          cases L with
          | nil => exact absurd rfl hL0
          | cons a l => rfl
        rw [hbs]
        generalize (bestN L).getD [] = RR at *
        (repeat' (first
  | (apply W.qd; (first
    | (apply q_mv; (first
    | exact Eq.refl (AV.d _)
    | exact Eq.refl (AV.osl _ _ _ _)
    | exact Eq.refl (AV.opt _ _)
    | exact Eq.refl (AV.agg _)
    | exact Eq.refl (AV.fpt _ _ _ _)
    | exact Eq.refl (AV.rpt _ _ _ _)
    | exact Eq.refl (AV.fn _ _)
    | exact Eq.refl (AV.yl _)
    | exact Eq.refl (AV.tup _)
    | exact Eq.refl AV.top))
    | (apply q_as; (first
    | exact Eq.refl (AV.d _)
    | exact Eq.refl (AV.osl _ _ _ _)
    | exact Eq.refl (AV.opt _ _)
    | exact Eq.refl (AV.agg _)
    | exact Eq.refl (AV.fpt _ _ _ _)
    | exact Eq.refl (AV.rpt _ _ _ _)
    | exact Eq.refl (AV.fn _ _)
    | exact Eq.refl (AV.yl _)
    | exact Eq.refl (AV.tup _)
    | exact Eq.refl AV.top))
    | (apply q_ld_box; exact rfl; exact rfl; exact rfl; exact rfl)
    | (apply q_lss; exact rfl; exact rfl)
    | (apply q_eql; exact rfl; exact rfl)
    | (apply q_len_sl; exact rfl; exact rfl)
    | (apply q_buildF; exact rfl; exact rfl; kernel_rfl)
    | (apply q_makeFunc)))
  | (apply W.ed; (first
    | (apply (e_callJ (js := [5]) (hmin)); exact rfl; exact rfl; exact rfl; exact rfl; exact rfl; kernel_rfl; kernel_rfl)
    | (apply e_allocF; exact rfl; exact rfl; exact rfl; kernel_rfl)))
  | (apply W.ln; (apply l_st_box; exact rfl; exact rfl; exact rfl; exact rfl; exact rfl; exact rfl; kernel_rfl; kernel_rfl; kernel_rfl))
  | (apply AWP.seq)
  | (apply ACont_normal)
  | (apply W.region; kernel_rfl)
  | (apply Walk.nil)
  | (apply AWP.skip)
  | (apply AWP.exit)
  | (apply AWP.ret)
  | (apply ACont_exit)
  | (apply ABlock_exit)
  | (refine W.cond _ rfl (fun hb => ?_) (fun hb => ?_) <;> ((try simp only [hb, Bool.not_true, Bool.not_false]) <;> (try simp only [decide_eq_true_eq, decide_eq_false_iff_not, Bool.not_eq_true', Bool.not_eq_false', Int.not_lt, Int.not_le, List.length_map, not_true_eq_false] at hb) <;> (try (exfalso; omega))))))
        exact ⟨.inl rfl, [0], [.agg [iV u, tmsA RR], iV 0], rfl, rfl, ⟨⟨3, [iV u, tmsA RR], true, rfl, rfl, rfl, rfl⟩, rfl, trivial⟩, AVle.of_eq rfl, rfl⟩
end Go.Proofs.YtilpljehfcpjeaaDoor
end

section
/- Package repair over the machine of abstract values: All on a list that is the caller's own. Printed by gen_rp10.py. -/
namespace Go.Proofs.YtilpljehfcpjeaaDoor
open Go.RowKit
set_option linter.unusedVariables false
set_option linter.unusedSimpArgs false
set_option maxHeartbeats 4000000
set_option maxRecDepth 100000
attribute [local irreducible] Quiet Eff OpOk AWPG ACont ABlock ACalls AGoto
/-- The iterator of the missing units: a call of yield for each, none of which stops it. -/
theorem A_missIterO {v : Nat} {hv : List Bool} {E0 E1 E2 E3 L : Ent} {e4 e5 : Nat → Ent} (hl : hv.length ≤ 1000000)
    (h1 : ∀ k, k < hv.length → hv.getD k false = true → e4 (k + 1) = e4 k ∧ e5 (k + 1) = e5 k)
    (h2 : ∀ k, k < hv.length → hv.getD k false = false → YAt Tryd.prog 8 [.row v 1 4 (hv.map tD), E0, E1, E2, E3, e4 k, e5 k, .box [.osl 0 v 0 hv.length], L] [iV (k : Nat)] true [.row v 1 4 (hv.map tD), E0, E1, E2, E3, e4 (k + 1), e5 (k + 1), .box [.osl 0 v 0 hv.length], L]) :
    ACalls Tryd.prog 65 [.yl 8, .opt 7 0] [.row v 1 4 (hv.map tD), E0, E1, E2, E3, e4 0, e5 0, .box [.osl 0 v 0 hv.length], L] (.tup []) [.row v 1 4 (hv.map tD), E0, E1, E2, E3, e4 hv.length, e5 hv.length, .box [.osl 0 v 0 hv.length], L] := by
  refine acalls_of_bodyS Tryd.func65 rfl (Nat.le_of_ble_eq_true rfl) ?_
  have hmh : (hv.map tD).length = hv.length := List.length_map _
  (repeat' (first
  | (apply W.qd; (first
    | (apply q_mv; (first
    | exact Eq.refl (AV.d _)
    | exact Eq.refl (AV.osl _ _ _ _)
    | exact Eq.refl (AV.opt _ _)
    | exact Eq.refl (AV.agg _)
    | exact Eq.refl (AV.fpt _ _ _ _)
    | exact Eq.refl (AV.rpt _ _ _ _)
    | exact Eq.refl (AV.fn _ _)
    | exact Eq.refl (AV.yl _)
    | exact Eq.refl (AV.tup _)
    | exact Eq.refl AV.top))
    | (apply q_ld_box; exact rfl; exact rfl; exact rfl; exact rfl)
    | (apply q_len_osl; exact rfl; exact rfl; exact rfl)))
  | (apply AWP.seq)
  | (apply ACont_normal)
  | (apply (W.regionS 5); exact rfl; kernel_rfl)
  | (apply Walk.nil)
  | (apply AWP.block)))
  refine AWP.loopE (α := Nat) (fun k => k ≤ hv.length) (fun k => ⟨[(7, iV (k : Nat)), (6, iV hv.length), (5, .osl 0 v 0 hv.length), (0, .yl 8), (1, .opt 7 0)], [.row v 1 4 (hv.map tD), E0, E1, E2, E3, e4 k, e5 k, .box [.osl 0 v 0 hv.length], L]⟩) (fun k => hv.length - k) 0 (by omega) ⟨rfl, rfl, rfl, rfl, rfl, rfl, trivial⟩ fun k hk => ?_
  by_cases hkl : k < hv.length
  · have eg : hv.getD k false = hv[k] := by rw [List.getD_eq_getElem?_getD, List.getElem?_eq_getElem hkl]; rfl
    have q1 := h1 k hkl
    have q2 := h2 k hkl
    rw [eg] at q1 q2
    (repeat' (first
  | (apply W.gOn; exact rfl; exact rfl)
  | (apply W.qd; (first
    | (apply q_mv; (first
    | exact Eq.refl (AV.d _)
    | exact Eq.refl (AV.osl _ _ _ _)
    | exact Eq.refl (AV.opt _ _)
    | exact Eq.refl (AV.agg _)
    | exact Eq.refl (AV.fpt _ _ _ _)
    | exact Eq.refl (AV.rpt _ _ _ _)
    | exact Eq.refl (AV.fn _ _)
    | exact Eq.refl (AV.yl _)
    | exact Eq.refl (AV.tup _)
    | exact Eq.refl AV.top))
    | (apply q_as; (first
    | exact Eq.refl (AV.d _)
    | exact Eq.refl (AV.osl _ _ _ _)
    | exact Eq.refl (AV.opt _ _)
    | exact Eq.refl (AV.agg _)
    | exact Eq.refl (AV.fpt _ _ _ _)
    | exact Eq.refl (AV.rpt _ _ _ _)
    | exact Eq.refl (AV.fn _ _)
    | exact Eq.refl (AV.yl _)
    | exact Eq.refl (AV.tup _)
    | exact Eq.refl AV.top))
    | (apply q_lss; exact rfl; exact rfl)
    | (apply q_not; exact rfl)
    | (apply q_add; exact rfl; exact rfl; omega)
    | (apply (q_pickT (u := .d _)); exact rfl; exact rfl)
    | (apply (q_pickF (u := .d _)); exact rfl; exact rfl)
    | (apply q_ix_osl0; exact rfl; exact rfl; exact rfl; exact rfl; (first | (with_reducible exact rfl) | exact natI_spec rfl | assumption | exact (Int.toNat_of_nonneg (by omega)).symm); (first | omega | (focus (simp only [List.length_map]; omega)) | (focus (simp; done)) | (focus (simp; omega))))
    | (apply q_ld_rptm; exact rfl; exact rfl; exact rfl; exact rfl; (first | omega | (focus (simp only [List.length_map]; omega)) | (focus (simp; done)) | (focus (simp; omega))))))
  | (apply W.ed; ((exact e_yield (q2 hb) rfl rfl)))
  | (refine W.gOff _ _ rfl rfl (by intro h; cases h) ?_)
  | (apply AWP.seq)
  | (apply ACont_normal)
  | (apply W.region; kernel_rfl)
  | (apply Walk.nil)
  | (apply AWP.block)
  | (apply AWP.skip)
  | (apply ABlock_normal)
  | (apply W.condF; exact rfl)
  | (refine W.gT _ _ rfl rfl (fun hb => ?_) (fun hb => ?_) <;> ((try simp only [hb, Bool.not_true, Bool.not_false]) <;> (try simp only [decide_eq_true_eq, decide_eq_false_iff_not, Bool.not_eq_true', Bool.not_eq_false', Int.not_lt, Int.not_le, List.length_map, not_true_eq_false] at hb) <;> (try (exfalso; omega))))
  | (refine W.cond _ rfl (fun hb => ?_) (fun hb => ?_) <;> ((try simp only [hb, Bool.not_true, Bool.not_false]) <;> (try simp only [decide_eq_true_eq, decide_eq_false_iff_not, Bool.not_eq_true', Bool.not_eq_false', Int.not_lt, Int.not_le, List.length_map, not_true_eq_false] at hb) <;> (try (exfalso; omega))))))
    · exact ⟨k + 1, by omega, by omega, rfl, iV_eq (by omega), rfl, rfl, rfl, rfl, trivial⟩
    · refine ⟨k + 1, by omega, by omega, ?_⟩
      rw [(q1 hb).1, (q1 hb).2]
      exact ⟨rfl, iV_eq (by omega), rfl, rfl, rfl, rfl, trivial⟩
  · have : k = hv.length := by omega
    subst this
    (repeat' (first
  | (apply W.qd; (apply q_lss; exact rfl; exact rfl))
  | (apply AWP.seq)
  | (apply ACont_normal)
  | (apply W.region; kernel_rfl)
  | (apply Walk.nil)
  | (apply AWP.exit)
  | (apply ACont_exit)
  | (apply ABlock_exit)
  | (refine W.cond _ rfl (fun hb => ?_) (fun hb => ?_) <;> ((try simp only [hb, Bool.not_true, Bool.not_false]) <;> (try simp only [decide_eq_true_eq, decide_eq_false_iff_not, Bool.not_eq_true', Bool.not_eq_false', Int.not_lt, Int.not_le, List.length_map, not_true_eq_false] at hb) <;> (try (exfalso; omega))))))
    exact ⟨.inr rfl, [], trivial, AVle.of_eq rfl, rfl⟩
theorem A_missing0O {v : Nat} {hv : List Bool} : ACalls Tryd.prog 43 [.osl 0 v 0 hv.length] [.row v 1 4 (hv.map tD)] (.fn 65 [.opt 1 0]) [.row v 1 4 (hv.map tD), .box [.osl 0 v 0 hv.length]] := by
  refine acalls_of_bodyO Tryd.func43 rfl (Nat.le_of_ble_eq_true rfl) ?_
  (repeat' (first
  | (apply W.qd; (first
    | (apply q_as; (first
    | exact Eq.refl (AV.d _)
    | exact Eq.refl (AV.osl _ _ _ _)
    | exact Eq.refl (AV.opt _ _)
    | exact Eq.refl (AV.agg _)
    | exact Eq.refl (AV.fpt _ _ _ _)
    | exact Eq.refl (AV.rpt _ _ _ _)
    | exact Eq.refl (AV.fn _ _)
    | exact Eq.refl (AV.yl _)
    | exact Eq.refl (AV.tup _)
    | exact Eq.refl AV.top))
    | (apply q_makeFunc)))
  | (apply W.ed; (apply e_boxF; exact rfl; exact rfl; exact rfl; kernel_rfl; kernel_rfl))
  | (apply AWP.seq)
  | (apply ACont_normal)
  | (apply W.region; kernel_rfl)
  | (apply Walk.nil)
  | (apply AWP.ret)))
  exact ⟨.inl rfl, [0, 1], [.fn 65 [.opt 1 0]], rfl, rfl, ⟨rfl, trivial⟩, AVle.of_eq rfl, rfl⟩
/-- All, where every missing unit has a plan. -/
theorem A_allO {M D v : Nat} {ps : List (List Nat)} {hv : List Bool} (h : CodeOk M D ps) (hl : hv.length = D + ps.length) (hall : ∀ k, k < hv.length → hv.getD k false = false → (planN M D ps hv k).isSome = true) :
    ACalls Tryd.prog 20 [cdN M D ps, .osl 0 v 0 hv.length] [.row v 1 4 (hv.map tD)] (.tup [plsA (plansTo M D ps hv hv.length), iV 0]) [.row v 1 4 (hv.map tD)] := by
  have h1 := h.d
  have h2 := h.w
  have hfit := A_fitsO (v := v) (M := M) (D := D) (hv := hv) (code_in h)
  have hpl : (toZ ps).length = ps.length := List.length_map _
  rw [valid_ok h, hpl, decide_eq_true (show (hv.length : Int) = D + (ps.length : Int) by omega), ← cdN_A] at hfit
  have hmis := A_missing0O (v := v) (hv := hv)
  have hplan := fun k (hk : k < D + ps.length) => A_planO (v := v) (u := k) h hl hk
  have hs := fun k => Lib.hid (plansTo_succ M D ps hv k)
  have hle := plansTo_le M D ps hv
  have hP0 : plansTo M D ps hv 0 = [] := rfl
  generalize hPN : planN M D ps hv = PN at *
  generalize plansTo M D ps hv = PL at *
  refine acalls_of_bodyO Tryd.func20 rfl (Nat.le_of_ble_eq_true rfl) ?_
  (repeat' (first
  | (apply W.qd; (first
    | (apply (q_callR (js := [0]) (hfit)); exact rfl; exact rfl; exact rfl; exact fun _ => rfl; exact fun _ => rfl; kernel_rfl; kernel_rfl)
    | (apply q_ld_box; exact rfl; exact rfl; exact rfl; exact rfl)
    | (apply q_ld_boxF; exact rfl; exact rfl; exact rfl; exact rfl)
    | (apply q_not; exact rfl)))
  | (apply W.ed; (first
    | (apply e_boxF; exact rfl; exact rfl; exact rfl; kernel_rfl; kernel_rfl)
    | (apply e_allocF; exact rfl; exact rfl; exact rfl; kernel_rfl)))
  | (apply AWP.seq)
  | (apply ACont_normal)
  | (apply (W.regionS 4); exact rfl; kernel_rfl)
  | (apply Walk.nil)
  | (apply AWP.skip)
  | (apply W.condF; exact rfl)))
  refine AWP.nilBox (l' := [.osl 6 0 0 0]) 5 0 2 27 rfl rfl (by omega) rfl rfl rfl rfl ?_
  (repeat' (first
  | (apply W.qd; (apply q_ld_box; exact rfl; exact rfl; exact rfl; exact rfl))
  | (apply W.ed; (apply (e_callJ (js := [0]) (hmis)); exact rfl; exact rfl; exact rfl; exact rfl; exact rfl; kernel_rfl; kernel_rfl))
  | (apply ACont_normal)
  | (apply W.region; kernel_rfl)
  | (apply Walk.nil)
  | (apply AWP.block)))
  refine AWP.wk ⟨[(15, .fn 65 [.opt 7 0]), (2, .opt 1 0), (3, .opt 2 0), (4, .opt 3 0), (5, .opt 4 0), (6, .opt 5 0)], [.row v 1 4 (hv.map tD), .box [.d .any, iV M, iV D, rowsN ps, .d .any], .box [.osl 0 v 0 hv.length], .box [.d (.v (.slice none 0 0))], .box [iV 0], .box [.osl 6 (PL 0).length 0 (PL 0).length], .row (PL 0).length 2 27 ((PL 0).map plD), .box [.osl 0 v 0 hv.length]]⟩ (by rw [hP0]; exact ⟨[0, 1, 2, 3, 4, 5, 6, 7], rfl, rfl, rfl, by (repeat (first | exact trivial | refine ⟨rfl, ?_⟩))⟩) ?_
  refine AWP.range (s2 := ⟨[(4, .opt 3 0), (5, .opt 4 0), (6, .opt 5 0)], [.row v 1 4 (hv.map tD), .box [.d .any, iV M, iV D, rowsN ps, .d .any], .box [.osl 0 v 0 hv.length], .box [.d (.v (.slice none 0 0))], .box [iV 0], .box [.osl 6 (PL hv.length).length 0 (PL hv.length).length], .row (PL hv.length).length 2 27 ((PL hv.length).map plD)]⟩) rfl (by kernel_rfl) (A_missIterO (e4 := fun k => .box [.osl 6 (PL k).length 0 (PL k).length]) (e5 := fun k => .row (PL k).length 2 27 ((PL k).map plD)) (by omega) (fun k hk hb => ?_) (fun k hk hb => ?_)) rfl (by decide) ⟨[0, 1, 2, 3, 4, 5, 6], rfl, rfl, rfl, by (repeat (first | exact trivial | refine ⟨rfl, ?_⟩))⟩ ?_
  · have e := (hs k).out
    rw [if_pos hb] at e
    rw [e]
    exact ⟨rfl, rfl⟩
  · have hk2 := hplan k (by omega)
    obtain ⟨l, hl2⟩ := Option.isSome_iff_exists.1 (hall k hk hb)
    have hs2 : PL (k + 1) = PL k ++ [(k, l)] := by rw [(hs k).out, if_neg (by rw [hb]; simp), hl2]; rfl
    have hle2 := hle k
    rw [hl2] at hk2
    have e9 : (PL k ++ [(k, l)]).length = (PL k).length + 1 := by simp
    refine YAt.ok (own1 := [.row v 1 4 (hv.map tD), .box [.d .any, iV M, iV D, rowsN ps, .d .any], .box [.osl 0 v 0 hv.length], .box [.d (.v (.slice none 0 0))], .box [iV 0], .box [.osl 6 ((PL k).length + 1) 0 (PL k ++ [(k, l)]).length], .row ((PL k).length + 1) 2 27 ((PL k ++ [(k, l)]).map plD), .box [.osl 0 v 0 hv.length], .lp .busy none #[16] _ _ _]) (s2 := ⟨[(7, iV k), (2, .opt 1 0), (3, .opt 2 0), (4, .opt 3 0), (5, .opt 4 0), (6, .opt 5 0)], _⟩) rfl rfl rfl rfl (fun g => ?_) rfl (fun g => ?_) rfl (by rw [hs2, e9]; rfl)
    · refine AWP.toW ?_
      (repeat' (first
  | (apply W.qd; (apply q_as; (first
    | exact Eq.refl (AV.d _)
    | exact Eq.refl (AV.osl _ _ _ _)
    | exact Eq.refl (AV.opt _ _)
    | exact Eq.refl (AV.agg _)
    | exact Eq.refl (AV.fpt _ _ _ _)
    | exact Eq.refl (AV.rpt _ _ _ _)
    | exact Eq.refl (AV.fn _ _)
    | exact Eq.refl (AV.yl _)
    | exact Eq.refl (AV.tup _)
    | exact Eq.refl AV.top)))
  | (apply W.region; kernel_rfl)
  | (apply Walk.nil)))
      exact ⟨rfl, ⟨[0, 1, 2, 3, 4, 5, 6, 7, 8], rfl, rfl, rfl, by (repeat (first | exact trivial | refine ⟨rfl, ?_⟩))⟩⟩
    · refine AWP.toO ?_
      generalize PL k = A at *
      unfold planA at hk2
      dsimp only at hk2
      (repeat' (first
  | (apply W.qd; (first
    | (apply q_mv; (first
    | exact Eq.refl (AV.d _)
    | exact Eq.refl (AV.osl _ _ _ _)
    | exact Eq.refl (AV.opt _ _)
    | exact Eq.refl (AV.agg _)
    | exact Eq.refl (AV.fpt _ _ _ _)
    | exact Eq.refl (AV.rpt _ _ _ _)
    | exact Eq.refl (AV.fn _ _)
    | exact Eq.refl (AV.yl _)
    | exact Eq.refl (AV.tup _)
    | exact Eq.refl AV.top))
    | (apply q_as; (first
    | exact Eq.refl (AV.d _)
    | exact Eq.refl (AV.osl _ _ _ _)
    | exact Eq.refl (AV.opt _ _)
    | exact Eq.refl (AV.agg _)
    | exact Eq.refl (AV.fpt _ _ _ _)
    | exact Eq.refl (AV.rpt _ _ _ _)
    | exact Eq.refl (AV.fn _ _)
    | exact Eq.refl (AV.yl _)
    | exact Eq.refl (AV.tup _)
    | exact Eq.refl AV.top))
    | (apply q_ld_box; exact rfl; exact rfl; exact rfl; exact rfl)
    | (apply q_ld_boxF; exact rfl; exact rfl; exact rfl; exact rfl)
    | (apply q_neq; exact rfl; exact rfl)
    | (apply q_extract; exact rfl; exact rfl)
    | (apply q_litF; exact rfl; exact rfl; exact rfl; exact rfl; exact rfl; kernel_rfl; kernel_rfl; exact rfl)))
  | (apply W.ed; (first
    | (apply (e_callJ (js := [0]) (hk2)); exact rfl; exact rfl; exact rfl; exact rfl; exact rfl; kernel_rfl; kernel_rfl)
    | ((apply (e_app1F (f := plD) (k, l)); exact rfl; exact rfl; exact rfl; exact rfl; exact rfl; exact rfl; exact rfl; exact rfl; omega))
    | (apply e_allocF; exact rfl; exact rfl; exact rfl; kernel_rfl)))
  | (apply W.ln; (apply l_st_box; exact rfl; exact rfl; exact rfl; exact rfl; exact rfl; exact rfl; kernel_rfl; kernel_rfl; kernel_rfl))
  | (apply AWP.seq)
  | (apply ACont_normal)
  | (apply W.region; kernel_rfl)
  | (apply Walk.nil)
  | (apply AWP.block)
  | (apply AWP.skip)
  | (apply ABlock_normal)
  | (apply W.condF; exact rfl)))
      exact ⟨rfl, ⟨[0, 1, 2, 3, 4, 5, 6, 7, 8], rfl, rfl, rfl, by (repeat (first | exact trivial | refine ⟨rfl, ?_⟩))⟩⟩
  dsimp only
  generalize PL hv.length = A at *
  (repeat' (first
  | (apply W.qd; (apply q_ld_box; exact rfl; exact rfl; exact rfl; exact rfl))
  | (apply W.ln; (apply l_st_box; exact rfl; exact rfl; exact rfl; exact rfl; exact rfl; exact rfl; kernel_rfl; kernel_rfl; kernel_rfl))
  | (apply AWP.seq)
  | (apply ACont_normal)
  | (apply W.region; kernel_rfl)
  | (apply Walk.nil)
  | (apply AWP.ret)
  | (apply ABlock_normal)))
  exact ⟨.inl rfl, [0], [.osl 6 A.length 0 A.length, iV 0], rfl, rfl, ⟨⟨3, [.osl 6 A.length 0 A.length], false, rfl, rfl, rfl, rfl⟩, ⟨4, [iV 0], false, rfl, rfl, rfl, rfl⟩, trivial⟩, AVle.tup2 (AVle.of_eq (frz_rowJ rfl rfl (by simp))) (AVle.of_eq rfl), rfl⟩
end Go.Proofs.YtilpljehfcpjeaaDoor
end

section
/- The example of layer 10: sanity. -/
namespace Go.Proofs.YtilpljehfcpjeaaDoor
open Go.RowKit
set_option linter.unusedVariables false
set_option linter.unusedSimpArgs false
set_option maxHeartbeats 4000000
set_option maxRecDepth 100000
theorem AVle.any {x : Value} (h : x.oneCell' = true) : AVle (.d (.v x)) (.d .any) := fun F own κ w u hs => by
  rw [sat_v] at hs
  subst hs
  rw [AV.sat, Dat.sat]
  exact h
def hv1 : List Bool := [true, true, false, true, true, true, true]
def hv2 : List Bool := [true, true, false, false, true, true, true]
def hv3 : List Bool := [true, true, false, false, true, false, true]
def usE : List (List Nat) := [[], [], [], [5], [], [6], []]
theorem lrc_chk : ((chkZ 4 lrcP 2 lrcP.length).map fun i => checkN 4 i (lrcP.getD i [])) = [[2, 3, 5], [0, 1, 2, 3, 6]] := by kernel_rfl
theorem lrc_all : (plansTo 8 4 lrcP hv2 hv2.length).length = 2 := by kernel_rfl
theorem lrc_sum : combM 8 1 [1, 1] [[5], [6]] (List.replicate 1 0) = [3] := by kernel_rfl
theorem lrc_some : ∀ k, k < hv2.length → hv2.getD k false = false → (planN 8 4 lrcP hv2 k).isSome = true := fun k hk => by
  have h : ((List.range 7).all fun k => hv2.getD k false || (planN 8 4 lrcP hv2 k).isSome) = true := by kernel_rfl
  have := List.all_eq_true.1 h k (List.mem_range.2 hk)
  intro h2
  rw [h2] at this
  simpa using this
attribute [local irreducible] Quiet Eff OpOk AWPG ACont ABlock ACalls AGoto
theorem A_lrc : ACalls Tryd.prog 18 [] [] (cdN 8 4 lrcP) [] := by
  refine ACalls.leR (r := .agg [.d (.v (.string ⟨#[108, 114, 99]⟩)), iV 8, iV 4, rowsN lrcP, iV 7]) ?_ (AVle.agg ⟨AVle.any rfl, AVle.refl _, AVle.refl _, AVle.refl _, AVle.any rfl, trivial⟩)
  refine acalls_of_body Tryd.func18 rfl (Nat.le_of_ble_eq_true rfl) ?_
  (repeat' (first
  | (apply W.qd; (first
    | (apply q_buildF; exact rfl; exact rfl; kernel_rfl)
    | (apply q_litF; exact rfl; exact rfl; exact rfl; exact rfl; exact rfl; kernel_rfl; kernel_rfl; exact rfl)))
  | (apply W.ed; (apply e_allocF; exact rfl; exact rfl; exact rfl; kernel_rfl))
  | (apply W.ln; (apply l_st_box; exact rfl; exact rfl; exact rfl; exact rfl; exact rfl; exact rfl; kernel_rfl; kernel_rfl; kernel_rfl))
  | (apply AWP.seq)
  | (apply ACont_normal)
  | (apply W.region; kernel_rfl)
  | (apply Walk.nil)
  | (apply AWP.ret)))
  exact Ends.cell1 rfl rfl rfl rfl
theorem lrc_apply : ACalls Tryd.prog 10 [cdN 8 4 lrcP, .agg [iV 2, tmsA [(3, 1), (5, 1)]], strs usE] [] (.tup [bS [3], iV 0]) [] := by
  have hc := A_fcombine (M := 8) (n := 1) (cs := [1, 1]) (us := [[5], [6]]) (.inl rfl) (fun h => by cases h) rfl (by decide) (by decide) (fun u hu => by
    have : u = [5] ∨ u = [6] := by simpa using hu
    rcases this with rfl | rfl <;> exact ⟨fun x hx => by simp at hx; omega, rfl⟩) (by decide) (by decide)
  rw [lrc_sum] at hc
  have := A_applyOk (M := 8) (D := 4) (u := 2) (e := 0) (par := toZ lrcP) (us := usE) (l := [(3, 1), (5, 1)]) (s := [3]) (code_in lrc_ok) (valid_ok lrc_ok) rfl (by decide) (by decide) (by decide) (by decide) hc
  exact this
theorem lrc_nil : ACalls Tryd.prog 16 [cdN 8 4 lrcP, .d (.v (.slice none 0 0)), iV 2] [] (.tup [pl0, iV 1]) [] := by
  have := A_plan_bad (M := 8) (D := 4) (u := 2) (par := toZ lrcP) (hv := []) (code_in lrc_ok) (fun h => by have := h.2.2.2; simp at this)
  refine ACalls.le this fun F κ w vs h => AVleL.sat (xs := [cdN 8 4 lrcP, .d (.v (.slice none 0 0)), iV 2]) (ys := [cdA 8 4 (toZ lrcP), bools [], iV 2]) ⟨AVle.of_eq rfl, AVle.nil 1, AVle.refl _, trivial⟩ F [] κ w vs h
/-- The example. -/
theorem A_sanity10 : ACalls Tryd.prog 9 [] [] (bV true) [] := by
  have hchk := A_checks (u := 2) lrc_ok
  rw [lrc_chk] at hchk
  have hp1 := A_planO (v := 0) (u := 2) (hv := hv1) lrc_ok rfl (by decide)
  rw [show planN 8 4 lrcP hv1 2 = some [(3, 1), (5, 1)] from lrc_p1] at hp1
  obtain ⟨l2, e2, e3⟩ := Option.map_eq_some_iff.1 lrc_p2
  have hp2 := A_planO (v := 0) (u := 2) (hv := hv2) lrc_ok rfl (by decide)
  rw [show planN 8 4 lrcP hv2 2 = some l2 from e2] at hp2
  have hp3 := A_planO (v := 0) (u := 2) (hv := hv3) lrc_ok rfl (by decide)
  rw [show planN 8 4 lrcP hv3 2 = none from lrc_p3] at hp3
  have hall := A_allO (v := 0) (hv := hv2) lrc_ok rfl lrc_some
  have hll := lrc_all
  obtain ⟨a1, a2, ea⟩ : ∃ a1 a2, plansTo 8 4 lrcP hv2 hv2.length = [a1, a2] := by
    generalize plansTo 8 4 lrcP hv2 hv2.length = L at hll
    match L, hll with
    | [a1, a2], _ => exact ⟨a1, a2, rfl⟩
  rw [ea] at hall
  have hl2 : l2.length = 4 := by have := congrArg List.length e3; simpa using this
  have hrd := A_reads (u := 2) (l := l2) (by omega)
  rw [e3] at hrd
  have hsm := A_samePlan (u := 2) (v := 2) (a := [(3, 1), (5, 1)]) (b := [(3, 1), (5, 1)]) (by decide) (by decide)
  have hs1 := A_same_ints (a := [2, 3, 5]) (b := [2, 3, 5]) (by decide) (by decide)
  have hs2 := A_same_ints (a := [0, 1, 2, 3, 6]) (b := [0, 1, 2, 3, 6]) (by decide) (by decide)
  have hs3 := A_same_ints (a := [0, 1, 5, 6]) (b := [0, 1, 5, 6]) (by decide) (by decide)
  rw [decide_eq_true rfl] at hs1 hs2 hs3
  rw [decide_eq_true rfl, decide_eq_true rfl, Bool.true_and] at hsm
  have hlrc := A_lrc
  have hap := lrc_apply
  have hnil := lrc_nil
  unfold planA at hp1 hp2 hp3
  dsimp only at hp1 hp2 hp3
  refine acalls_of_body Tryd.func9 rfl (Nat.le_of_ble_eq_true rfl) ?_
  have hv1l : (hv1.map tD).length = 7 := rfl
  have hv1k : hv1.length = 7 := rfl
  have hv2k : hv2.length = 7 := rfl
  have hv3k : hv3.length = 7 := rfl
  have hv2l : (hv2.map tD).length = 7 := rfl
  have hv3l : (hv3.map tD).length = 7 := rfl
  (repeat' (first
  | (apply W.qd; (first
    | (apply (q_callC (hlrc)); exact rfl; exact rfl; kernel_rfl; kernel_rfl; kernel_rfl)
    | (apply q_as; (first
    | exact Eq.refl (AV.d _)
    | exact Eq.refl (AV.osl _ _ _ _)
    | exact Eq.refl (AV.opt _ _)
    | exact Eq.refl (AV.agg _)
    | exact Eq.refl (AV.fpt _ _ _ _)
    | exact Eq.refl (AV.rpt _ _ _ _)
    | exact Eq.refl (AV.fn _ _)
    | exact Eq.refl (AV.yl _)
    | exact Eq.refl (AV.tup _)
    | exact Eq.refl AV.top))))
  | (apply W.ed; (apply e_allocF; exact rfl; exact rfl; exact rfl; kernel_rfl))
  | (apply W.ln; (apply l_st_box; exact rfl; exact rfl; exact rfl; exact rfl; exact rfl; exact rfl; kernel_rfl; kernel_rfl; kernel_rfl))
  | (apply AWP.seq)
  | (apply ACont_normal)
  | (apply (W.regionS 2); exact rfl; kernel_rfl)
  | (apply Walk.nil)))
  (repeat' (first
  | (apply W.ed; (apply e_litO; exact rfl; exact rfl; exact rfl; exact rfl; exact rfl; exact rfl; kernel_rfl; exact rfl; exact rfl))
  | (apply W.qd; (apply q_as; (first
    | exact Eq.refl (AV.d _)
    | exact Eq.refl (AV.osl _ _ _ _)
    | exact Eq.refl (AV.opt _ _)
    | exact Eq.refl (AV.agg _)
    | exact Eq.refl (AV.fpt _ _ _ _)
    | exact Eq.refl (AV.rpt _ _ _ _)
    | exact Eq.refl (AV.fn _ _)
    | exact Eq.refl (AV.yl _)
    | exact Eq.refl (AV.tup _)
    | exact Eq.refl AV.top)))
  | (apply AWP.seq)
  | (apply ACont_normal)
  | (apply (W.regionS 3); exact rfl; kernel_rfl)
  | (apply Walk.nil)))
  refine AWP.wk ⟨[(1, .opt 0 0), (2, .osl 1 0 0 7)], [.box [.d .any, iV 8, iV 4, rowsN lrcP, .d .any], .row 0 1 4 (hv1.map tD)]⟩ ⟨[0, 1], rfl, rfl, rfl, by (repeat (first | exact trivial | refine ⟨rfl, ?_⟩))⟩ ?_
  (repeat' (first
  | (apply W.qd; (first
    | (apply (q_callC (hchk)); exact rfl; exact rfl; kernel_rfl; kernel_rfl; kernel_rfl)
    | (apply (q_callC (hap)); exact rfl; exact rfl; kernel_rfl; kernel_rfl; kernel_rfl)
    | (apply q_mv; (first
    | exact Eq.refl (AV.d _)
    | exact Eq.refl (AV.osl _ _ _ _)
    | exact Eq.refl (AV.opt _ _)
    | exact Eq.refl (AV.agg _)
    | exact Eq.refl (AV.fpt _ _ _ _)
    | exact Eq.refl (AV.rpt _ _ _ _)
    | exact Eq.refl (AV.fn _ _)
    | exact Eq.refl (AV.yl _)
    | exact Eq.refl (AV.tup _)
    | exact Eq.refl AV.top))
    | (apply q_as; (first
    | exact Eq.refl (AV.d _)
    | exact Eq.refl (AV.osl _ _ _ _)
    | exact Eq.refl (AV.opt _ _)
    | exact Eq.refl (AV.agg _)
    | exact Eq.refl (AV.fpt _ _ _ _)
    | exact Eq.refl (AV.rpt _ _ _ _)
    | exact Eq.refl (AV.fn _ _)
    | exact Eq.refl (AV.yl _)
    | exact Eq.refl (AV.tup _)
    | exact Eq.refl AV.top))
    | (apply q_ld_boxF; exact rfl; exact rfl; exact rfl; exact rfl)
    | (apply q_extract; exact rfl; exact rfl)
    | (apply q_litF; exact rfl; exact rfl; exact rfl; exact rfl; exact rfl; kernel_rfl; kernel_rfl; exact rfl)))
  | (apply W.ed; (first
    | (apply (e_callJ (js := [1]) (hp1)); exact rfl; exact rfl; exact rfl; exact rfl; exact rfl; kernel_rfl; kernel_rfl)
    | (apply e_allocF; exact rfl; exact rfl; exact rfl; kernel_rfl)))
  | (apply W.ln; (apply l_st_box; exact rfl; exact rfl; exact rfl; exact rfl; exact rfl; exact rfl; kernel_rfl; kernel_rfl; kernel_rfl))
  | (apply AWP.seq)
  | (apply ACont_normal)
  | (apply (W.regionS 6); exact rfl; kernel_rfl)
  | (apply Walk.nil)))
  refine AWP.wk ⟨[(1, .opt 0 0), (2, .osl 1 0 0 7), (3, rowsN [[2, 3, 5], [0, 1, 2, 3, 6]]), (4, .opt 2 0), (5, iV 0), (6, bS [3]), (7, iV 0)], [.box [.d .any, iV 8, iV 4, rowsN lrcP, .d .any], .row 0 1 4 (hv1.map tD), .box [iV 2, tmsA [(3, 1), (5, 1)]]]⟩ ⟨[0, 1, 2], rfl, rfl, rfl, by (repeat (first | exact trivial | refine ⟨rfl, ?_⟩))⟩ ?_
  (repeat' (first
  | (apply W.qd; (first
    | (apply q_mv; (first
    | exact Eq.refl (AV.d _)
    | exact Eq.refl (AV.osl _ _ _ _)
    | exact Eq.refl (AV.opt _ _)
    | exact Eq.refl (AV.agg _)
    | exact Eq.refl (AV.fpt _ _ _ _)
    | exact Eq.refl (AV.rpt _ _ _ _)
    | exact Eq.refl (AV.fn _ _)
    | exact Eq.refl (AV.yl _)
    | exact Eq.refl (AV.tup _)
    | exact Eq.refl AV.top))
    | (apply q_ix_osl0; exact rfl; exact rfl; exact rfl; exact rfl; (first | (with_reducible exact rfl) | exact natI_spec rfl | assumption | exact (Int.toNat_of_nonneg (by omega)).symm); (first | omega | (focus (simp only [List.length_map]; omega)) | (focus (simp; done)) | (focus (simp; omega))))))
  | (apply W.ln; (apply l_st_rpt; exact rfl; exact rfl; exact rfl; exact rfl; exact rfl; exact rfl; exact rfl; exact fun _ => rfl; (first | omega | (focus (simp only [List.length_map]; omega)) | (focus (simp; omega)))))
  | (apply AWP.seq)
  | (apply ACont_normal)
  | (apply (W.regionS 7); exact rfl; kernel_rfl)
  | (apply Walk.nil)))
  refine AWP.wk ⟨[(1, .opt 0 0), (2, .osl 1 0 0 7), (3, rowsN [[2, 3, 5], [0, 1, 2, 3, 6]]), (4, .opt 2 0), (5, iV 0), (6, bS [3]), (7, iV 0)], [.box [.d .any, iV 8, iV 4, rowsN lrcP, .d .any], .row 0 1 4 (hv2.map tD), .box [iV 2, tmsA [(3, 1), (5, 1)]]]⟩ ⟨[0, 1, 2], rfl, rfl, rfl, by (repeat (first | exact trivial | refine ⟨rfl, ?_⟩))⟩ ?_
  (repeat' (first
  | (apply W.qd; (first
    | (apply q_mv; (first
    | exact Eq.refl (AV.d _)
    | exact Eq.refl (AV.osl _ _ _ _)
    | exact Eq.refl (AV.opt _ _)
    | exact Eq.refl (AV.agg _)
    | exact Eq.refl (AV.fpt _ _ _ _)
    | exact Eq.refl (AV.rpt _ _ _ _)
    | exact Eq.refl (AV.fn _ _)
    | exact Eq.refl (AV.yl _)
    | exact Eq.refl (AV.tup _)
    | exact Eq.refl AV.top))
    | (apply q_as; (first
    | exact Eq.refl (AV.d _)
    | exact Eq.refl (AV.osl _ _ _ _)
    | exact Eq.refl (AV.opt _ _)
    | exact Eq.refl (AV.agg _)
    | exact Eq.refl (AV.fpt _ _ _ _)
    | exact Eq.refl (AV.rpt _ _ _ _)
    | exact Eq.refl (AV.fn _ _)
    | exact Eq.refl (AV.yl _)
    | exact Eq.refl (AV.tup _)
    | exact Eq.refl AV.top))
    | (apply q_ld_boxF; exact rfl; exact rfl; exact rfl; exact rfl)
    | (apply q_extract; exact rfl; exact rfl)))
  | (apply W.ed; (first
    | (apply (e_callJ (js := [1]) (hp2)); exact rfl; exact rfl; exact rfl; exact rfl; exact rfl; kernel_rfl; kernel_rfl)
    | (apply (e_callJ (js := [1]) (hall)); exact rfl; exact rfl; exact rfl; exact rfl; exact rfl; kernel_rfl; kernel_rfl)
    | (apply e_allocF; exact rfl; exact rfl; exact rfl; kernel_rfl)))
  | (apply W.ln; (apply l_st_box; exact rfl; exact rfl; exact rfl; exact rfl; exact rfl; exact rfl; kernel_rfl; kernel_rfl; kernel_rfl))
  | (apply AWP.seq)
  | (apply ACont_normal)
  | (apply (W.regionS 9); exact rfl; kernel_rfl)
  | (apply Walk.nil)))
  refine AWP.wk ⟨[(1, .opt 0 0), (2, .osl 1 0 0 7), (3, rowsN [[2, 3, 5], [0, 1, 2, 3, 6]]), (4, .opt 2 0), (5, iV 0), (6, bS [3]), (7, iV 0), (8, .opt 3 0), (9, iV 0), (10, plsA [a1, a2]), (11, iV 0)], [.box [.d .any, iV 8, iV 4, rowsN lrcP, .d .any], .row 0 1 4 (hv2.map tD), .box [iV 2, tmsA [(3, 1), (5, 1)]], .box [iV 2, tmsA l2]]⟩ ⟨[0, 1, 2, 3], rfl, rfl, rfl, by (repeat (first | exact trivial | refine ⟨rfl, ?_⟩))⟩ ?_
  (repeat' (first
  | (apply W.qd; (first
    | (apply q_mv; (first
    | exact Eq.refl (AV.d _)
    | exact Eq.refl (AV.osl _ _ _ _)
    | exact Eq.refl (AV.opt _ _)
    | exact Eq.refl (AV.agg _)
    | exact Eq.refl (AV.fpt _ _ _ _)
    | exact Eq.refl (AV.rpt _ _ _ _)
    | exact Eq.refl (AV.fn _ _)
    | exact Eq.refl (AV.yl _)
    | exact Eq.refl (AV.tup _)
    | exact Eq.refl AV.top))
    | (apply q_ix_osl0; exact rfl; exact rfl; exact rfl; exact rfl; (first | (with_reducible exact rfl) | exact natI_spec rfl | assumption | exact (Int.toNat_of_nonneg (by omega)).symm); (first | omega | (focus (simp only [List.length_map]; omega)) | (focus (simp; done)) | (focus (simp; omega))))))
  | (apply W.ln; (apply l_st_rpt; exact rfl; exact rfl; exact rfl; exact rfl; exact rfl; exact rfl; exact rfl; exact fun _ => rfl; (first | omega | (focus (simp only [List.length_map]; omega)) | (focus (simp; omega)))))
  | (apply AWP.seq)
  | (apply ACont_normal)
  | (apply (W.regionS 10); exact rfl; kernel_rfl)
  | (apply Walk.nil)))
  refine AWP.wk ⟨[(1, .opt 0 0), (2, .osl 1 0 0 7), (3, rowsN [[2, 3, 5], [0, 1, 2, 3, 6]]), (4, .opt 2 0), (5, iV 0), (6, bS [3]), (7, iV 0), (8, .opt 3 0), (9, iV 0), (10, plsA [a1, a2]), (11, iV 0)], [.box [.d .any, iV 8, iV 4, rowsN lrcP, .d .any], .row 0 1 4 (hv3.map tD), .box [iV 2, tmsA [(3, 1), (5, 1)]], .box [iV 2, tmsA l2]]⟩ ⟨[0, 1, 2, 3], rfl, rfl, rfl, by (repeat (first | exact trivial | refine ⟨rfl, ?_⟩))⟩ ?_
  (repeat' (first
  | (apply W.qd; (first
    | (apply (q_callC (hnil)); exact rfl; exact rfl; kernel_rfl; kernel_rfl; kernel_rfl)
    | (apply q_mv; (first
    | exact Eq.refl (AV.d _)
    | exact Eq.refl (AV.osl _ _ _ _)
    | exact Eq.refl (AV.opt _ _)
    | exact Eq.refl (AV.agg _)
    | exact Eq.refl (AV.fpt _ _ _ _)
    | exact Eq.refl (AV.rpt _ _ _ _)
    | exact Eq.refl (AV.fn _ _)
    | exact Eq.refl (AV.yl _)
    | exact Eq.refl (AV.tup _)
    | exact Eq.refl AV.top))
    | (apply q_as; (first
    | exact Eq.refl (AV.d _)
    | exact Eq.refl (AV.osl _ _ _ _)
    | exact Eq.refl (AV.opt _ _)
    | exact Eq.refl (AV.agg _)
    | exact Eq.refl (AV.fpt _ _ _ _)
    | exact Eq.refl (AV.rpt _ _ _ _)
    | exact Eq.refl (AV.fn _ _)
    | exact Eq.refl (AV.yl _)
    | exact Eq.refl (AV.tup _)
    | exact Eq.refl AV.top))
    | (apply q_ld_boxF; exact rfl; exact rfl; exact rfl; exact rfl)
    | (apply q_extract; exact rfl; exact rfl)))
  | (apply W.ed; (first
    | (apply (e_callJ (js := [1]) (hp3)); exact rfl; exact rfl; exact rfl; exact rfl; exact rfl; kernel_rfl; kernel_rfl)
    | (apply e_allocF; exact rfl; exact rfl; exact rfl; kernel_rfl)))
  | (apply W.ln; (apply l_st_box; exact rfl; exact rfl; exact rfl; exact rfl; exact rfl; exact rfl; kernel_rfl; kernel_rfl; kernel_rfl))
  | (apply AWP.seq)
  | (apply ACont_normal)
  | (apply (W.regionS 12); exact rfl; kernel_rfl)
  | (apply Walk.nil)))
  refine AWP.wk ⟨[(3, rowsN [[2, 3, 5], [0, 1, 2, 3, 6]]), (4, .opt 0 0), (5, iV 0), (6, bS [3]), (7, iV 0), (8, .opt 1 0), (9, iV 0), (10, plsA [a1, a2]), (11, iV 0), (13, iV 11), (15, iV 1)], [.box [iV 2, tmsA [(3, 1), (5, 1)]], .box [iV 2, tmsA l2]]⟩ ⟨[2, 3], rfl, rfl, rfl, by (repeat (first | exact trivial | refine ⟨rfl, ?_⟩))⟩ ?_
  have hB3 : isB [3] := fun x hx => by simp at hx; omega
  (repeat' (first
  | (apply W.gOn; exact rfl; exact rfl)
  | (apply W.qd; (first
    | (apply (q_callC (hs1)); exact rfl; exact rfl; kernel_rfl; kernel_rfl; kernel_rfl)
    | (apply (q_callC (hs2)); exact rfl; exact rfl; kernel_rfl; kernel_rfl; kernel_rfl)
    | (apply (q_callC (hs3)); exact rfl; exact rfl; kernel_rfl; kernel_rfl; kernel_rfl)
    | (apply (q_callC (hsm)); exact rfl; exact rfl; kernel_rfl; kernel_rfl; kernel_rfl)
    | (apply (q_callC (hrd)); exact rfl; exact rfl; kernel_rfl; kernel_rfl; kernel_rfl)
    | ((apply q_eqlS (l := [3]) (l' := [3]); exact rfl; exact rfl; exact hB3; exact hB3))
    | (apply q_mv; (first
    | exact Eq.refl (AV.d _)
    | exact Eq.refl (AV.osl _ _ _ _)
    | exact Eq.refl (AV.opt _ _)
    | exact Eq.refl (AV.agg _)
    | exact Eq.refl (AV.fpt _ _ _ _)
    | exact Eq.refl (AV.rpt _ _ _ _)
    | exact Eq.refl (AV.fn _ _)
    | exact Eq.refl (AV.yl _)
    | exact Eq.refl (AV.tup _)
    | exact Eq.refl AV.top))
    | (apply q_as; (first
    | exact Eq.refl (AV.d _)
    | exact Eq.refl (AV.osl _ _ _ _)
    | exact Eq.refl (AV.opt _ _)
    | exact Eq.refl (AV.agg _)
    | exact Eq.refl (AV.fpt _ _ _ _)
    | exact Eq.refl (AV.rpt _ _ _ _)
    | exact Eq.refl (AV.fn _ _)
    | exact Eq.refl (AV.yl _)
    | exact Eq.refl (AV.tup _)
    | exact Eq.refl AV.top))
    | (apply q_ld_boxF; exact rfl; exact rfl; exact rfl; exact rfl)
    | (apply q_eql; exact rfl; exact rfl)
    | (apply q_len_sl; exact rfl; exact rfl)
    | (apply q_ld_map; exact rfl; exact rfl; exact rfl; (first | omega | (focus (simp; done))))
    | (apply q_buildF; exact rfl; exact rfl; kernel_rfl)
    | (apply q_litF; exact rfl; exact rfl; exact rfl; exact rfl; exact rfl; kernel_rfl; kernel_rfl; exact rfl)
    | (apply q_ix_slF; exact rfl; exact rfl; exact rfl; exact rfl; (first | (with_reducible exact rfl) | exact natI_spec rfl | assumption | exact (Int.toNat_of_nonneg (by omega)).symm); (first | omega | (focus (simp only [List.length_map]; omega)) | (focus (simp; done)) | (focus (simp; omega))))
    | (apply (q_pickT (u := .d _)); exact rfl; exact rfl)))
  | (apply ACont_normal)
  | (apply W.region; kernel_rfl)
  | (apply Walk.nil)
  | (apply AWP.ret)))
  exact Ends.b rfl rfl
end Go.Proofs.YtilpljehfcpjeaaDoor
end

section
/- The law RepairApplyMatchesSpec: Apply and Reads of the package and of the reference, for all arguments; the walk. -/
namespace Go.Proofs.YtilpljehfcpjeaaDoor
open Go.RowKit
set_option linter.unusedVariables false
set_option linter.unusedSimpArgs false
set_option maxHeartbeats 4000000
set_option maxRecDepth 100000
theorem outZ_false {n : Nat} {k : Int} (h : outZ n k = false) : ∃ q : Nat, k = (q : Int) ∧ q < n := by
  unfold outZ at h
  rw [Bool.or_eq_false_iff, decide_eq_false_iff_not, decide_eq_false_iff_not] at h
  exact ⟨k.toNat, by omega, by omega⟩
theorem outZ_true {n : Nat} {k : Int} (h : outZ n k = true) : k < 0 ∨ (n : Int) ≤ k := by
  unfold outZ at h
  rw [Bool.or_eq_true, decide_eq_true_eq, decide_eq_true_eq] at h
  exact h
attribute [local irreducible] Quiet Eff OpOk AWPG ACont ABlock ACalls AGoto
theorem A_rreadsZ {u : Int} {l : List (Int × Int)} (hl : l.length ≤ 100000) : ACalls Tryd.prog 14 [.agg [iV u, tmsZ l]] [] (ints (l.map (·.1))) [] := by
  refine acalls_of_body Tryd.func14 rfl (Nat.le_of_ble_eq_true rfl) ?_
  have hml : (l.map tzD).length = l.length := List.length_map _
  (repeat' (first
  | (apply W.qd; (apply q_as; (first
    | exact Eq.refl (AV.d _)
    | exact Eq.refl (AV.osl _ _ _ _)
    | exact Eq.refl (AV.opt _ _)
    | exact Eq.refl (AV.agg _)
    | exact Eq.refl (AV.fpt _ _ _ _)
    | exact Eq.refl (AV.rpt _ _ _ _)
    | exact Eq.refl (AV.fn _ _)
    | exact Eq.refl (AV.yl _)
    | exact Eq.refl (AV.tup _)
    | exact Eq.refl AV.top)))
  | (apply W.ed; (apply e_boxF; exact rfl; exact rfl; exact rfl; kernel_rfl; kernel_rfl))
  | (apply AWP.seq)
  | (apply ACont_normal)
  | (apply (W.regionS 2); exact rfl; kernel_rfl)
  | (apply Walk.nil)))
  refine AWP.nilRow 3 1 3 rfl (by omega) ?_
  (repeat' (first
  | (apply W.qd; (apply q_as; (first
    | exact Eq.refl (AV.d _)
    | exact Eq.refl (AV.osl _ _ _ _)
    | exact Eq.refl (AV.opt _ _)
    | exact Eq.refl (AV.agg _)
    | exact Eq.refl (AV.fpt _ _ _ _)
    | exact Eq.refl (AV.rpt _ _ _ _)
    | exact Eq.refl (AV.fn _ _)
    | exact Eq.refl (AV.yl _)
    | exact Eq.refl (AV.tup _)
    | exact Eq.refl AV.top)))
  | (apply ACont_normal)
  | (apply (W.regionS 3); exact rfl; kernel_rfl)
  | (apply Walk.nil)
  | (apply AWP.block)))
  refine AWP.loopW (α := Nat) (fun k => k ≤ l.length) (fun k => ⟨[(4, iV k), (1, .opt 0 0), (3, .osl 1 ((l.take k).map (·.1)).length 0 ((l.take k).map (·.1)).length)], [.box [iV u, tmsZ l], .row ((l.take k).map (·.1)).length 1 3 (((l.take k).map (·.1)).map iD)]⟩) (fun k => l.length - k) 0 (by omega) ⟨[0, 1], rfl, rfl, rfl, rfl, rfl, rfl, trivial⟩ fun k hk => ?_
  have hlk : ((l.take k).map (·.1)).length ≤ 100000 := by rw [List.length_map, List.length_take]; omega
  by_cases hkl : k < l.length
  · have e1 : (l.take (k + 1)).map (·.1) = (l.take k).map (·.1) ++ [l[k].1] := by rw [List.take_succ_eq_append_getElem hkl, List.map_append]; rfl
    generalize hA : (l.take k).map (·.1) = A at *
    (repeat' (first
  | (apply W.qd; (first
    | (apply q_mv; (first
    | exact Eq.refl (AV.d _)
    | exact Eq.refl (AV.osl _ _ _ _)
    | exact Eq.refl (AV.opt _ _)
    | exact Eq.refl (AV.agg _)
    | exact Eq.refl (AV.fpt _ _ _ _)
    | exact Eq.refl (AV.rpt _ _ _ _)
    | exact Eq.refl (AV.fn _ _)
    | exact Eq.refl (AV.yl _)
    | exact Eq.refl (AV.tup _)
    | exact Eq.refl AV.top))
    | (apply q_as; (first
    | exact Eq.refl (AV.d _)
    | exact Eq.refl (AV.osl _ _ _ _)
    | exact Eq.refl (AV.opt _ _)
    | exact Eq.refl (AV.agg _)
    | exact Eq.refl (AV.fpt _ _ _ _)
    | exact Eq.refl (AV.rpt _ _ _ _)
    | exact Eq.refl (AV.fn _ _)
    | exact Eq.refl (AV.yl _)
    | exact Eq.refl (AV.tup _)
    | exact Eq.refl AV.top))
    | (apply q_fld_optF; exact rfl; exact rfl; exact rfl)
    | (apply q_ld_box; exact rfl; exact rfl; exact rfl; exact rfl)
    | (apply q_lss; exact rfl; exact rfl)
    | (apply q_add; exact rfl; exact rfl; omega)
    | (apply q_len_sl; exact rfl; exact rfl)
    | (apply q_ld_map; exact rfl; exact rfl; exact rfl; (first | omega | (focus (simp; done))))
    | (apply q_fld_fptF; exact rfl; exact rfl; exact rfl)
    | (apply q_litF; exact rfl; exact rfl; exact rfl; exact rfl; exact rfl; kernel_rfl; kernel_rfl; exact rfl)
    | (apply q_ix_slF; exact rfl; exact rfl; exact rfl; exact rfl; (first | (with_reducible exact rfl) | exact natI_spec rfl | assumption | exact (Int.toNat_of_nonneg (by omega)).symm); (first | omega | (focus (simp only [List.length_map]; omega)) | (focus (simp; done)) | (focus (simp; omega))))))
  | (apply W.ld; (apply l_app1; exact rfl; exact rfl; exact rfl; exact rfl; exact rfl; exact rfl; exact rfl; exact rfl; (first | omega | (focus (simp; omega)) | (focus (simp; done)))))
  | (apply AWP.seq)
  | (apply ACont_normal)
  | (apply W.region; kernel_rfl)
  | (apply Walk.nil)
  | (apply AWP.block)
  | (apply AWP.skip)
  | (apply ABlock_normal)
  | (refine W.cond _ rfl (fun hb => ?_) (fun hb => ?_) <;> ((try simp only [hb, Bool.not_true, Bool.not_false]) <;> (try simp only [decide_eq_true_eq, decide_eq_false_iff_not, Bool.not_eq_true', Bool.not_eq_false', Int.not_lt, Int.not_le, List.length_map, not_true_eq_false] at hb) <;> (try (exfalso; omega))))))
    refine ⟨k + 1, by omega, by omega, ?_⟩
    rw [e1, show (A ++ [l[k].1]).length = A.length + 1 by simp]
    exact ⟨[0, 1], rfl, rfl, rfl, iV_eq (by omega), rfl, congrArg (AV.osl 1 (A.length + 1) 0) (by simp), trivial⟩
  · have e : k = l.length := by omega
    subst e
    rw [List.take_length]
    generalize l.map (·.1) = A at *
    (repeat' (first
  | (apply W.qd; (first
    | (apply q_mv; (first
    | exact Eq.refl (AV.d _)
    | exact Eq.refl (AV.osl _ _ _ _)
    | exact Eq.refl (AV.opt _ _)
    | exact Eq.refl (AV.agg _)
    | exact Eq.refl (AV.fpt _ _ _ _)
    | exact Eq.refl (AV.rpt _ _ _ _)
    | exact Eq.refl (AV.fn _ _)
    | exact Eq.refl (AV.yl _)
    | exact Eq.refl (AV.tup _)
    | exact Eq.refl AV.top))
    | (apply q_as; (first
    | exact Eq.refl (AV.d _)
    | exact Eq.refl (AV.osl _ _ _ _)
    | exact Eq.refl (AV.opt _ _)
    | exact Eq.refl (AV.agg _)
    | exact Eq.refl (AV.fpt _ _ _ _)
    | exact Eq.refl (AV.rpt _ _ _ _)
    | exact Eq.refl (AV.fn _ _)
    | exact Eq.refl (AV.yl _)
    | exact Eq.refl (AV.tup _)
    | exact Eq.refl AV.top))
    | (apply q_fld_optF; exact rfl; exact rfl; exact rfl)
    | (apply q_ld_box; exact rfl; exact rfl; exact rfl; exact rfl)
    | (apply q_lss; exact rfl; exact rfl)
    | (apply q_len_sl; exact rfl; exact rfl)))
  | (apply AWP.seq)
  | (apply ACont_normal)
  | (apply W.region; kernel_rfl)
  | (apply Walk.nil)
  | (apply AWP.exit)
  | (apply AWP.ret)
  | (apply ACont_exit)
  | (apply ABlock_exit)
  | (refine W.cond _ rfl (fun hb => ?_) (fun hb => ?_) <;> ((try simp only [hb, Bool.not_true, Bool.not_false]) <;> (try simp only [decide_eq_true_eq, decide_eq_false_iff_not, Bool.not_eq_true', Bool.not_eq_false', Int.not_lt, Int.not_le, List.length_map, not_true_eq_false] at hb) <;> (try (exfalso; omega))))))
    exact Ends.osl rfl rfl (by simp) rfl
theorem A_apply_bad {M D u : Int} {par : List (List Int)} {us : List (List Nat)} {l : List (Int × Int)} (hp : CodeIn par) (hus : us.length ≤ 1000) (hll : l.length ≤ 1000) (h : ¬ (validC M D par = true ∧ (us.length : Int) = D + (par.length : Int) ∧ outZ us.length u = false ∧ ∀ t ∈ l, outZ us.length t.1 = false)) :
    ACalls Tryd.prog 10 [cdA M D par, .agg [iV u, tmsZ l], strs us] [] (.tup [bS [], iV 1]) [] := by
  refine acalls_of_body Tryd.func10 rfl (Nat.le_of_ble_eq_true rfl) ?_
  have hmu : (us.map sD).length = us.length := List.length_map _
  have hv := A_evalid (M := M) (D := D) hp
  have hwd := A_ewidth (M := M) (D := D) hp
  have ho := A_outside (us := us) (k := u) (by omega)
  have hrd := A_readsZ (u := u) (l := l) (by omega)
  have hcf := A_contains_int (O := [.box [strs us]]) (g := 21) (caps := [.opt 0 0]) (outZ us.length) (l.map (·.1)) (by rw [List.length_map]; omega) (by kernel_rfl) (fun x _ => A_outside (by omega))
  cases hV : validC M D par with
  | false =>
    rw [hV] at hv hwd
    rw [if_neg (by decide)] at hwd
    (repeat' (first
  | (apply W.qd; (first
    | (apply (q_callC (hv)); exact rfl; exact rfl; kernel_rfl; kernel_rfl; kernel_rfl)
    | (apply q_mv; (first
    | exact Eq.refl (AV.d _)
    | exact Eq.refl (AV.osl _ _ _ _)
    | exact Eq.refl (AV.opt _ _)
    | exact Eq.refl (AV.agg _)
    | exact Eq.refl (AV.fpt _ _ _ _)
    | exact Eq.refl (AV.rpt _ _ _ _)
    | exact Eq.refl (AV.fn _ _)
    | exact Eq.refl (AV.yl _)
    | exact Eq.refl (AV.tup _)
    | exact Eq.refl AV.top))
    | (apply q_as; (first
    | exact Eq.refl (AV.d _)
    | exact Eq.refl (AV.osl _ _ _ _)
    | exact Eq.refl (AV.opt _ _)
    | exact Eq.refl (AV.agg _)
    | exact Eq.refl (AV.fpt _ _ _ _)
    | exact Eq.refl (AV.rpt _ _ _ _)
    | exact Eq.refl (AV.fn _ _)
    | exact Eq.refl (AV.yl _)
    | exact Eq.refl (AV.tup _)
    | exact Eq.refl AV.top))
    | (apply q_ld_boxF; exact rfl; exact rfl; exact rfl; exact rfl)
    | (apply q_not; exact rfl)
    | (apply q_makeFunc)
    | (apply (q_pickT (u := .d _)); exact rfl; exact rfl)))
  | (apply W.ed; (apply e_boxF; exact rfl; exact rfl; exact rfl; kernel_rfl; kernel_rfl))
  | (refine W.gOff _ _ rfl rfl (by intro h; cases h) ?_)
  | (apply AWP.seq)
  | (apply ACont_normal)
  | (apply W.region; kernel_rfl)
  | (apply W.regionD; exact rfl; kernel_rfl)
  | (apply Walk.nil)
  | (apply W.chk; kernel_rfl)
  | (apply AWP.ret)
  | (apply ACont_ret)
  | (apply W.condT; exact rfl)))
    all_goals exact Ends.two rfl rfl rfl
  | true =>
    rw [hV] at hv hwd
    rw [if_pos rfl] at hwd
    by_cases hw : (us.length : Int) = D + (par.length : Int)
    · rw [← hw] at hwd
      cases hO : outZ us.length u with
      | true =>
        rw [hO] at ho
        (repeat' (first
  | (apply W.gOn; exact rfl; exact rfl)
  | (apply W.qd; (first
    | (apply (q_callR (js := [2]) (ho)); exact rfl; exact rfl; exact rfl; exact fun _ => rfl; exact fun _ => rfl; kernel_rfl; kernel_rfl)
    | (apply (q_callC (hv)); exact rfl; exact rfl; kernel_rfl; kernel_rfl; kernel_rfl)
    | (apply (q_callC (hwd)); exact rfl; exact rfl; kernel_rfl; kernel_rfl; kernel_rfl)
    | (apply q_mv; (first
    | exact Eq.refl (AV.d _)
    | exact Eq.refl (AV.osl _ _ _ _)
    | exact Eq.refl (AV.opt _ _)
    | exact Eq.refl (AV.agg _)
    | exact Eq.refl (AV.fpt _ _ _ _)
    | exact Eq.refl (AV.rpt _ _ _ _)
    | exact Eq.refl (AV.fn _ _)
    | exact Eq.refl (AV.yl _)
    | exact Eq.refl (AV.tup _)
    | exact Eq.refl AV.top))
    | (apply q_as; (first
    | exact Eq.refl (AV.d _)
    | exact Eq.refl (AV.osl _ _ _ _)
    | exact Eq.refl (AV.opt _ _)
    | exact Eq.refl (AV.agg _)
    | exact Eq.refl (AV.fpt _ _ _ _)
    | exact Eq.refl (AV.rpt _ _ _ _)
    | exact Eq.refl (AV.fn _ _)
    | exact Eq.refl (AV.yl _)
    | exact Eq.refl (AV.tup _)
    | exact Eq.refl AV.top))
    | (apply q_fld_optF; exact rfl; exact rfl; exact rfl)
    | (apply q_ld_box; exact rfl; exact rfl; exact rfl; exact rfl)
    | (apply q_ld_boxF; exact rfl; exact rfl; exact rfl; exact rfl)
    | (apply q_neq; exact rfl; exact rfl)
    | (apply q_not; exact rfl)
    | (apply q_len_sl; exact rfl; exact rfl)
    | (apply q_makeFunc)
    | (apply (q_pickT (u := .d _)); exact rfl; exact rfl)
    | (apply (q_pickF (u := .d _)); exact rfl; exact rfl)))
  | (apply W.ed; (apply e_boxF; exact rfl; exact rfl; exact rfl; kernel_rfl; kernel_rfl))
  | (refine W.gOff _ _ rfl rfl (by intro h; cases h) ?_)
  | (apply AWP.seq)
  | (apply ACont_normal)
  | (apply W.region; kernel_rfl)
  | (apply W.regionD; exact rfl; kernel_rfl)
  | (apply Walk.nil)
  | (apply W.chk; kernel_rfl)
  | (apply AWP.ret)
  | (apply ACont_ret)
  | (apply W.condT; exact rfl)
  | (refine W.gF _ _ rfl rfl (fun hb => ?_) (fun hb => ?_) <;> ((try simp only [hb, Bool.not_true, Bool.not_false]) <;> (try simp only [decide_eq_true_eq, decide_eq_false_iff_not, Bool.not_eq_true', Bool.not_eq_false', Int.not_lt, Int.not_le, List.length_map, not_true_eq_false] at hb) <;> (try (exfalso; omega))))))
        all_goals exact Ends.two rfl rfl rfl
      | false =>
        rw [hO] at ho
        have hany : (l.map (·.1)).any (outZ us.length) = true := by
          cases e : (l.map (·.1)).any (outZ us.length) with
          | true => rfl
          | false =>
            exfalso
            refine h ⟨hV, hw, hO, fun t ht => ?_⟩
            rw [List.any_eq_false] at e
            have := e t.1 (List.mem_map.2 ⟨t, ht, rfl⟩)
            simpa using this
        rw [hany] at hcf
        (repeat' (first
  | (apply W.gOn; exact rfl; exact rfl)
  | (apply W.qd; (first
    | (apply (q_callR (js := [2]) (ho)); exact rfl; exact rfl; exact rfl; exact fun _ => rfl; exact fun _ => rfl; kernel_rfl; kernel_rfl)
    | (apply (q_callC (hv)); exact rfl; exact rfl; kernel_rfl; kernel_rfl; kernel_rfl)
    | (apply (q_callC (hwd)); exact rfl; exact rfl; kernel_rfl; kernel_rfl; kernel_rfl)
    | (apply (q_callC (hrd)); exact rfl; exact rfl; kernel_rfl; kernel_rfl; kernel_rfl)
    | (apply (q_callR (js := [2]) (hcf)); exact rfl; exact rfl; exact rfl; exact fun _ => rfl; exact fun _ => rfl; kernel_rfl; kernel_rfl)
    | (apply q_mv; (first
    | exact Eq.refl (AV.d _)
    | exact Eq.refl (AV.osl _ _ _ _)
    | exact Eq.refl (AV.opt _ _)
    | exact Eq.refl (AV.agg _)
    | exact Eq.refl (AV.fpt _ _ _ _)
    | exact Eq.refl (AV.rpt _ _ _ _)
    | exact Eq.refl (AV.fn _ _)
    | exact Eq.refl (AV.yl _)
    | exact Eq.refl (AV.tup _)
    | exact Eq.refl AV.top))
    | (apply q_as; (first
    | exact Eq.refl (AV.d _)
    | exact Eq.refl (AV.osl _ _ _ _)
    | exact Eq.refl (AV.opt _ _)
    | exact Eq.refl (AV.agg _)
    | exact Eq.refl (AV.fpt _ _ _ _)
    | exact Eq.refl (AV.rpt _ _ _ _)
    | exact Eq.refl (AV.fn _ _)
    | exact Eq.refl (AV.yl _)
    | exact Eq.refl (AV.tup _)
    | exact Eq.refl AV.top))
    | (apply q_fld_optF; exact rfl; exact rfl; exact rfl)
    | (apply q_ld_box; exact rfl; exact rfl; exact rfl; exact rfl)
    | (apply q_ld_boxF; exact rfl; exact rfl; exact rfl; exact rfl)
    | (apply q_neq; exact rfl; exact rfl)
    | (apply q_not; exact rfl)
    | (apply q_len_sl; exact rfl; exact rfl)
    | (apply q_makeFunc)
    | (apply (q_pickF (u := .d _)); exact rfl; exact rfl)))
  | (apply W.ed; (apply e_boxF; exact rfl; exact rfl; exact rfl; kernel_rfl; kernel_rfl))
  | (apply AWP.seq)
  | (apply ACont_normal)
  | (apply W.region; kernel_rfl)
  | (apply W.regionD; exact rfl; kernel_rfl)
  | (apply Walk.nil)
  | (apply W.chk; kernel_rfl)
  | (apply AWP.ret)
  | (apply ACont_ret)
  | (apply W.condT; exact rfl)
  | (refine W.gF _ _ rfl rfl (fun hb => ?_) (fun hb => ?_) <;> ((try simp only [hb, Bool.not_true, Bool.not_false]) <;> (try simp only [decide_eq_true_eq, decide_eq_false_iff_not, Bool.not_eq_true', Bool.not_eq_false', Int.not_lt, Int.not_le, List.length_map, not_true_eq_false] at hb) <;> (try (exfalso; omega))))))
        all_goals exact Ends.two rfl rfl rfl
    · have hne : ¬ (((us.map sD).length : Nat) : Int) = D + (par.length : Int) := by rw [hmu]; exact hw
      (repeat' (first
  | (apply W.gOn; exact rfl; exact rfl)
  | (apply W.qd; (first
    | (apply (q_callC (hv)); exact rfl; exact rfl; kernel_rfl; kernel_rfl; kernel_rfl)
    | (apply (q_callC (hwd)); exact rfl; exact rfl; kernel_rfl; kernel_rfl; kernel_rfl)
    | (apply q_mv; (first
    | exact Eq.refl (AV.d _)
    | exact Eq.refl (AV.osl _ _ _ _)
    | exact Eq.refl (AV.opt _ _)
    | exact Eq.refl (AV.agg _)
    | exact Eq.refl (AV.fpt _ _ _ _)
    | exact Eq.refl (AV.rpt _ _ _ _)
    | exact Eq.refl (AV.fn _ _)
    | exact Eq.refl (AV.yl _)
    | exact Eq.refl (AV.tup _)
    | exact Eq.refl AV.top))
    | (apply q_as; (first
    | exact Eq.refl (AV.d _)
    | exact Eq.refl (AV.osl _ _ _ _)
    | exact Eq.refl (AV.opt _ _)
    | exact Eq.refl (AV.agg _)
    | exact Eq.refl (AV.fpt _ _ _ _)
    | exact Eq.refl (AV.rpt _ _ _ _)
    | exact Eq.refl (AV.fn _ _)
    | exact Eq.refl (AV.yl _)
    | exact Eq.refl (AV.tup _)
    | exact Eq.refl AV.top))
    | (apply q_ld_box; exact rfl; exact rfl; exact rfl; exact rfl)
    | (apply q_ld_boxF; exact rfl; exact rfl; exact rfl; exact rfl)
    | (apply q_neq; exact rfl; exact rfl)
    | (apply q_not; exact rfl)
    | (apply q_len_sl; exact rfl; exact rfl)
    | (apply q_makeFunc)
    | (apply (q_pickT (u := .d _)); exact rfl; exact rfl)
    | (apply (q_pickF (u := .d _)); exact rfl; exact rfl)))
  | (apply W.ed; (apply e_boxF; exact rfl; exact rfl; exact rfl; kernel_rfl; kernel_rfl))
  | (refine W.gOff _ _ rfl rfl (by intro h; cases h) ?_)
  | (apply AWP.seq)
  | (apply ACont_normal)
  | (apply W.region; kernel_rfl)
  | (apply W.regionD; exact rfl; kernel_rfl)
  | (apply Walk.nil)
  | (apply W.chk; kernel_rfl)
  | (apply AWP.ret)
  | (apply ACont_ret)
  | (apply W.condT; exact rfl)
  | (refine W.gF _ _ rfl rfl (fun hb => ?_) (fun hb => ?_) <;> ((try simp only [hb, Bool.not_true, Bool.not_false]) <;> (try simp only [decide_eq_true_eq, decide_eq_false_iff_not, Bool.not_eq_true', Bool.not_eq_false', Int.not_lt, Int.not_le, List.length_map, not_true_eq_false] at hb) <;> (try (exfalso; omega))))))
      all_goals exact Ends.two rfl rfl rfl
theorem A_rapply_bad {M D u : Int} {par : List (List Int)} {us : List (List Nat)} {l : List (Int × Int)} (hD : D ≤ 1000000) (hP : par.length ≤ 1000000) (h : ¬ (validC M D par = true ∧ (us.length : Int) = D + (par.length : Int) ∧ outZ us.length u = false ∧ 0 < l.length)) :
    ACalls Tryd.prog 11 [cdA M D par, .agg [iV u, tmsZ l], strs us] [] (.tup [bS [], iV 1]) [] := by
  refine acalls_of_body Tryd.func11 rfl (Nat.le_of_ble_eq_true rfl) ?_
  have hmu : (us.map sD).length = us.length := List.length_map _
  have hml : (l.map tzD).length = l.length := List.length_map _
  have hw := A_r8width (M := M) hD hP
  cases hV : validC M D par with
  | false =>
    rw [hV, if_neg (by decide)] at hw
    (repeat' (first
  | (apply W.qd; (first
    | (apply (q_callC (hw)); exact rfl; exact rfl; kernel_rfl; kernel_rfl; kernel_rfl)
    | (apply q_mv; (first
    | exact Eq.refl (AV.d _)
    | exact Eq.refl (AV.osl _ _ _ _)
    | exact Eq.refl (AV.opt _ _)
    | exact Eq.refl (AV.agg _)
    | exact Eq.refl (AV.fpt _ _ _ _)
    | exact Eq.refl (AV.rpt _ _ _ _)
    | exact Eq.refl (AV.fn _ _)
    | exact Eq.refl (AV.yl _)
    | exact Eq.refl (AV.tup _)
    | exact Eq.refl AV.top))
    | (apply q_as; (first
    | exact Eq.refl (AV.d _)
    | exact Eq.refl (AV.osl _ _ _ _)
    | exact Eq.refl (AV.opt _ _)
    | exact Eq.refl (AV.agg _)
    | exact Eq.refl (AV.fpt _ _ _ _)
    | exact Eq.refl (AV.rpt _ _ _ _)
    | exact Eq.refl (AV.fn _ _)
    | exact Eq.refl (AV.yl _)
    | exact Eq.refl (AV.tup _)
    | exact Eq.refl AV.top))
    | (apply q_ld_boxF; exact rfl; exact rfl; exact rfl; exact rfl)
    | (apply q_eql; exact rfl; exact rfl)
    | (apply (q_pickT (u := .d _)); exact rfl; exact rfl)))
  | (apply W.ed; (apply e_boxF; exact rfl; exact rfl; exact rfl; kernel_rfl; kernel_rfl))
  | (refine W.gOff _ _ rfl rfl (by intro h; cases h) ?_)
  | (apply AWP.seq)
  | (apply ACont_normal)
  | (apply W.region; kernel_rfl)
  | (apply Walk.nil)
  | (apply AWP.ret)
  | (apply ACont_ret)
  | (apply W.condT; exact rfl)))
    all_goals exact Ends.two rfl rfl rfl
  | true =>
    rw [hV, if_pos rfl] at hw
    by_cases hw2 : (us.length : Int) = D + (par.length : Int)
    · rw [← hw2] at hw
      cases hO : outZ us.length u with
      | true =>
        have := outZ_true hO
        (repeat' (first
  | (apply W.gOn; exact rfl; exact rfl)
  | (apply W.qd; (first
    | (apply (q_callC (hw)); exact rfl; exact rfl; kernel_rfl; kernel_rfl; kernel_rfl)
    | (apply q_mv; (first
    | exact Eq.refl (AV.d _)
    | exact Eq.refl (AV.osl _ _ _ _)
    | exact Eq.refl (AV.opt _ _)
    | exact Eq.refl (AV.agg _)
    | exact Eq.refl (AV.fpt _ _ _ _)
    | exact Eq.refl (AV.rpt _ _ _ _)
    | exact Eq.refl (AV.fn _ _)
    | exact Eq.refl (AV.yl _)
    | exact Eq.refl (AV.tup _)
    | exact Eq.refl AV.top))
    | (apply q_as; (first
    | exact Eq.refl (AV.d _)
    | exact Eq.refl (AV.osl _ _ _ _)
    | exact Eq.refl (AV.opt _ _)
    | exact Eq.refl (AV.agg _)
    | exact Eq.refl (AV.fpt _ _ _ _)
    | exact Eq.refl (AV.rpt _ _ _ _)
    | exact Eq.refl (AV.fn _ _)
    | exact Eq.refl (AV.yl _)
    | exact Eq.refl (AV.tup _)
    | exact Eq.refl AV.top))
    | (apply q_fld_optF; exact rfl; exact rfl; exact rfl)
    | (apply q_ld_box; exact rfl; exact rfl; exact rfl; exact rfl)
    | (apply q_ld_boxF; exact rfl; exact rfl; exact rfl; exact rfl)
    | (apply q_lss; exact rfl; exact rfl)
    | (apply q_geq; exact rfl; exact rfl)
    | (apply q_eql; exact rfl; exact rfl)
    | (apply q_neq; exact rfl; exact rfl)
    | (apply q_len_sl; exact rfl; exact rfl)
    | (apply (q_pickT (u := .d _)); exact rfl; exact rfl)
    | (apply (q_pickF (u := .d _)); exact rfl; exact rfl)))
  | (apply W.ed; (apply e_boxF; exact rfl; exact rfl; exact rfl; kernel_rfl; kernel_rfl))
  | (refine W.gOff _ _ rfl rfl (by intro h; cases h) ?_)
  | (apply AWP.seq)
  | (apply ACont_normal)
  | (apply W.region; kernel_rfl)
  | (apply Walk.nil)
  | (apply AWP.ret)
  | (apply ACont_ret)
  | (apply W.condT; exact rfl)
  | (refine W.gF _ _ rfl rfl (fun hb => ?_) (fun hb => ?_) <;> ((try simp only [hb, Bool.not_true, Bool.not_false]) <;> (try simp only [decide_eq_true_eq, decide_eq_false_iff_not, Bool.not_eq_true', Bool.not_eq_false', Int.not_lt, Int.not_le, List.length_map, not_true_eq_false] at hb) <;> (try (exfalso; omega))))))
        all_goals exact Ends.two rfl rfl rfl
      | false =>
        obtain ⟨k, rfl, hk⟩ := outZ_false hO
        have hl0 : l.length = 0 := by
          by_cases e : 0 < l.length
          · exact absurd ⟨hV, hw2, hO, e⟩ h
          · omega
        (repeat' (first
  | (apply W.gOn; exact rfl; exact rfl)
  | (apply W.qd; (first
    | (apply (q_callC (hw)); exact rfl; exact rfl; kernel_rfl; kernel_rfl; kernel_rfl)
    | (apply q_mv; (first
    | exact Eq.refl (AV.d _)
    | exact Eq.refl (AV.osl _ _ _ _)
    | exact Eq.refl (AV.opt _ _)
    | exact Eq.refl (AV.agg _)
    | exact Eq.refl (AV.fpt _ _ _ _)
    | exact Eq.refl (AV.rpt _ _ _ _)
    | exact Eq.refl (AV.fn _ _)
    | exact Eq.refl (AV.yl _)
    | exact Eq.refl (AV.tup _)
    | exact Eq.refl AV.top))
    | (apply q_as; (first
    | exact Eq.refl (AV.d _)
    | exact Eq.refl (AV.osl _ _ _ _)
    | exact Eq.refl (AV.opt _ _)
    | exact Eq.refl (AV.agg _)
    | exact Eq.refl (AV.fpt _ _ _ _)
    | exact Eq.refl (AV.rpt _ _ _ _)
    | exact Eq.refl (AV.fn _ _)
    | exact Eq.refl (AV.yl _)
    | exact Eq.refl (AV.tup _)
    | exact Eq.refl AV.top))
    | (apply q_fld_optF; exact rfl; exact rfl; exact rfl)
    | (apply q_ld_box; exact rfl; exact rfl; exact rfl; exact rfl)
    | (apply q_ld_boxF; exact rfl; exact rfl; exact rfl; exact rfl)
    | (apply q_lss; exact rfl; exact rfl)
    | (apply q_geq; exact rfl; exact rfl)
    | (apply q_eql; exact rfl; exact rfl)
    | (apply q_neq; exact rfl; exact rfl)
    | (apply q_len_sl; exact rfl; exact rfl)
    | (apply (q_pickF (u := .d _)); exact rfl; exact rfl)))
  | (apply W.ed; (apply e_boxF; exact rfl; exact rfl; exact rfl; kernel_rfl; kernel_rfl))
  | (apply AWP.seq)
  | (apply ACont_normal)
  | (apply W.region; kernel_rfl)
  | (apply Walk.nil)
  | (apply AWP.ret)
  | (apply ACont_ret)
  | (refine W.gF _ _ rfl rfl (fun hb => ?_) (fun hb => ?_) <;> ((try simp only [hb, Bool.not_true, Bool.not_false]) <;> (try simp only [decide_eq_true_eq, decide_eq_false_iff_not, Bool.not_eq_true', Bool.not_eq_false', Int.not_lt, Int.not_le, List.length_map, not_true_eq_false] at hb) <;> (try (exfalso; omega))))
  | (refine W.cond _ rfl (fun hb => ?_) (fun hb => ?_) <;> ((try simp only [hb, Bool.not_true, Bool.not_false]) <;> (try simp only [decide_eq_true_eq, decide_eq_false_iff_not, Bool.not_eq_true', Bool.not_eq_false', Int.not_lt, Int.not_le, List.length_map, not_true_eq_false] at hb) <;> (try (exfalso; omega))))))
        all_goals exact Ends.two rfl rfl rfl
    · (repeat' (first
  | (apply W.gOn; exact rfl; exact rfl)
  | (apply W.qd; (first
    | (apply (q_callC (hw)); exact rfl; exact rfl; kernel_rfl; kernel_rfl; kernel_rfl)
    | (apply q_mv; (first
    | exact Eq.refl (AV.d _)
    | exact Eq.refl (AV.osl _ _ _ _)
    | exact Eq.refl (AV.opt _ _)
    | exact Eq.refl (AV.agg _)
    | exact Eq.refl (AV.fpt _ _ _ _)
    | exact Eq.refl (AV.rpt _ _ _ _)
    | exact Eq.refl (AV.fn _ _)
    | exact Eq.refl (AV.yl _)
    | exact Eq.refl (AV.tup _)
    | exact Eq.refl AV.top))
    | (apply q_as; (first
    | exact Eq.refl (AV.d _)
    | exact Eq.refl (AV.osl _ _ _ _)
    | exact Eq.refl (AV.opt _ _)
    | exact Eq.refl (AV.agg _)
    | exact Eq.refl (AV.fpt _ _ _ _)
    | exact Eq.refl (AV.rpt _ _ _ _)
    | exact Eq.refl (AV.fn _ _)
    | exact Eq.refl (AV.yl _)
    | exact Eq.refl (AV.tup _)
    | exact Eq.refl AV.top))
    | (apply q_ld_boxF; exact rfl; exact rfl; exact rfl; exact rfl)
    | (apply q_eql; exact rfl; exact rfl)
    | (apply q_neq; exact rfl; exact rfl)
    | (apply q_len_sl; exact rfl; exact rfl)
    | (apply (q_pickT (u := .d _)); exact rfl; exact rfl)
    | (apply (q_pickF (u := .d _)); exact rfl; exact rfl)))
  | (apply W.ed; (apply e_boxF; exact rfl; exact rfl; exact rfl; kernel_rfl; kernel_rfl))
  | (refine W.gOff _ _ rfl rfl (by intro h; cases h) ?_)
  | (apply AWP.seq)
  | (apply ACont_normal)
  | (apply W.region; kernel_rfl)
  | (apply Walk.nil)
  | (apply AWP.ret)
  | (apply ACont_ret)
  | (apply W.condT; exact rfl)
  | (refine W.gF _ _ rfl rfl (fun hb => ?_) (fun hb => ?_) <;> ((try simp only [hb, Bool.not_true, Bool.not_false]) <;> (try simp only [decide_eq_true_eq, decide_eq_false_iff_not, Bool.not_eq_true', Bool.not_eq_false', Int.not_lt, Int.not_le, List.length_map, not_true_eq_false] at hb) <;> (try (exfalso; omega))))))
      all_goals exact Ends.two rfl rfl rfl
theorem A_rapply {M D e : Int} {u q : Nat} {par : List (List Int)} {us : List (List Nat)} {l : List (Int × Int)} {s : List Nat} (hD : D ≤ 1000000) (hP : par.length ≤ 1000000) (hV : validC M D par = true) (hw : (us.length : Int) = D + (par.length : Int)) (hus : us.length ≤ 1000) (hu : u < us.length) (hl0 : 0 < l.length) (hll : l.length ≤ 1000) (hq : q ≤ l.length)
    (hgood : ∀ i (h : i < l.length), i < q → outZ us.length l[i].1 = false) (hbad : ∀ h : q < l.length, outZ us.length l[q].1 = true) (hres : q < l.length → s = [] ∧ e = 1)
    (hc : q = l.length → ACalls Tryd.prog 27 [iV M, ints (l.map (·.2)), strs (readZ us l)] [] (.tup [bS s, iV e]) []) :
    ACalls Tryd.prog 11 [cdA M D par, .agg [iV u, tmsZ l], strs us] [] (.tup [bS s, iV e]) [] := by
  refine acalls_of_body Tryd.func11 rfl (Nat.le_of_ble_eq_true rfl) ?_
  have hmu : (us.map sD).length = us.length := List.length_map _
  have hml : (l.map tzD).length = l.length := List.length_map _
  have hwd := A_r8width (M := M) hD hP
  rw [hV, if_pos rfl, ← hw] at hwd
  (repeat' (first
  | (apply W.gOn; exact rfl; exact rfl)
  | (apply W.qd; (first
    | (apply (q_callC (hwd)); exact rfl; exact rfl; kernel_rfl; kernel_rfl; kernel_rfl)
    | (apply q_mv; (first
    | exact Eq.refl (AV.d _)
    | exact Eq.refl (AV.osl _ _ _ _)
    | exact Eq.refl (AV.opt _ _)
    | exact Eq.refl (AV.agg _)
    | exact Eq.refl (AV.fpt _ _ _ _)
    | exact Eq.refl (AV.rpt _ _ _ _)
    | exact Eq.refl (AV.fn _ _)
    | exact Eq.refl (AV.yl _)
    | exact Eq.refl (AV.tup _)
    | exact Eq.refl AV.top))
    | (apply q_as; (first
    | exact Eq.refl (AV.d _)
    | exact Eq.refl (AV.osl _ _ _ _)
    | exact Eq.refl (AV.opt _ _)
    | exact Eq.refl (AV.agg _)
    | exact Eq.refl (AV.fpt _ _ _ _)
    | exact Eq.refl (AV.rpt _ _ _ _)
    | exact Eq.refl (AV.fn _ _)
    | exact Eq.refl (AV.yl _)
    | exact Eq.refl (AV.tup _)
    | exact Eq.refl AV.top))
    | (apply q_fld_optF; exact rfl; exact rfl; exact rfl)
    | (apply q_ld_box; exact rfl; exact rfl; exact rfl; exact rfl)
    | (apply q_ld_boxF; exact rfl; exact rfl; exact rfl; exact rfl)
    | (apply q_lss; exact rfl; exact rfl)
    | (apply q_geq; exact rfl; exact rfl)
    | (apply q_eql; exact rfl; exact rfl)
    | (apply q_neq; exact rfl; exact rfl)
    | (apply q_len_sl; exact rfl; exact rfl)
    | (apply (q_pickF (u := .d _)); exact rfl; exact rfl)))
  | (apply W.ed; (apply e_boxF; exact rfl; exact rfl; exact rfl; kernel_rfl; kernel_rfl))
  | (apply AWP.seq)
  | (apply ACont_normal)
  | (apply (W.regionS 6); exact rfl; kernel_rfl)
  | (apply Walk.nil)
  | (apply AWP.skip)
  | (refine W.gF _ _ rfl rfl (fun hb => ?_) (fun hb => ?_) <;> ((try simp only [hb, Bool.not_true, Bool.not_false]) <;> (try simp only [decide_eq_true_eq, decide_eq_false_iff_not, Bool.not_eq_true', Bool.not_eq_false', Int.not_lt, Int.not_le, List.length_map, not_true_eq_false] at hb) <;> (try (exfalso; omega))))
  | (refine W.cond _ rfl (fun hb => ?_) (fun hb => ?_) <;> ((try simp only [hb, Bool.not_true, Bool.not_false]) <;> (try simp only [decide_eq_true_eq, decide_eq_false_iff_not, Bool.not_eq_true', Bool.not_eq_false', Int.not_lt, Int.not_le, List.length_map, not_true_eq_false] at hb) <;> (try (exfalso; omega))))))
  refine AWP.nilRow 9 1 3 rfl (by omega) ?_
  refine AWP.nilRow 10 1 9 rfl (by omega) ?_
  (repeat' (first
  | (apply W.qd; (apply q_as; (first
    | exact Eq.refl (AV.d _)
    | exact Eq.refl (AV.osl _ _ _ _)
    | exact Eq.refl (AV.opt _ _)
    | exact Eq.refl (AV.agg _)
    | exact Eq.refl (AV.fpt _ _ _ _)
    | exact Eq.refl (AV.rpt _ _ _ _)
    | exact Eq.refl (AV.fn _ _)
    | exact Eq.refl (AV.yl _)
    | exact Eq.refl (AV.tup _)
    | exact Eq.refl AV.top)))
  | (apply ACont_normal)
  | (apply (W.regionS 7); exact rfl; kernel_rfl)
  | (apply Walk.nil)
  | (apply AWP.block)))
  refine AWP.loopW (α := Nat) (fun k => k ≤ q) (fun k => ⟨[(11, iV k), (9, .osl 2 k 0 ((l.take k).map (·.2)).length), (10, .osl 3 k 0 (readZ us (l.take k)).length), (2, strs us), (3, .opt 0 0), (4, .opt 1 0), (8, iV us.length)], [.box [.d .any, iV M, iV D, rowsA par, .d .any], .box [iV u, tmsZ l], .row k 1 3 (((l.take k).map (·.2)).map iD), .row k 1 9 ((readZ us (l.take k)).map sD)]⟩) (fun k => q - k) 0 (Nat.zero_le _) ⟨[0, 1, 2, 3], rfl, rfl, rfl, by (repeat (first | exact trivial | refine ⟨rfl, ?_⟩))⟩ fun k hk => ?_
  have hl1 : ((l.take k).map (·.2)).length ≤ 1024 := by simp; omega
  have hl2 : (readZ us (l.take k)).length ≤ 1024 := by unfold readZ; simp; omega
  by_cases hkq : k < q
  · have hkl : k < l.length := by omega
    obtain ⟨x, hx, hxu⟩ := outZ_false (hgood k hkl hkq)
    have h1 : (l.take (k + 1)).map (·.2) = (l.take k).map (·.2) ++ [l[k].2] := by
      rw [List.take_succ_eq_append_getElem hkl, List.map_append]; rfl
    have h2 : readZ us (l.take (k + 1)) = readZ us (l.take k) ++ [us[x]] := by
      unfold readZ
      rw [List.take_succ_eq_append_getElem hkl, List.map_append]
      simp [List.getD_eq_getElem?_getD, hx, hxu]
    replace h1 := Lib.hid h1
    replace h2 := Lib.hid h2
    clear hc hgood hbad
    generalize (l.take k).map (·.2) = A at *
    generalize readZ us (l.take k) = B at *
    (repeat' (first
  | (apply W.gOn; exact rfl; exact rfl)
  | (apply W.qd; (first
    | (apply q_mv; (first
    | exact Eq.refl (AV.d _)
    | exact Eq.refl (AV.osl _ _ _ _)
    | exact Eq.refl (AV.opt _ _)
    | exact Eq.refl (AV.agg _)
    | exact Eq.refl (AV.fpt _ _ _ _)
    | exact Eq.refl (AV.rpt _ _ _ _)
    | exact Eq.refl (AV.fn _ _)
    | exact Eq.refl (AV.yl _)
    | exact Eq.refl (AV.tup _)
    | exact Eq.refl AV.top))
    | (apply q_as; (first
    | exact Eq.refl (AV.d _)
    | exact Eq.refl (AV.osl _ _ _ _)
    | exact Eq.refl (AV.opt _ _)
    | exact Eq.refl (AV.agg _)
    | exact Eq.refl (AV.fpt _ _ _ _)
    | exact Eq.refl (AV.rpt _ _ _ _)
    | exact Eq.refl (AV.fn _ _)
    | exact Eq.refl (AV.yl _)
    | exact Eq.refl (AV.tup _)
    | exact Eq.refl AV.top))
    | (apply q_fld_optF; exact rfl; exact rfl; exact rfl)
    | (apply q_ld_box; exact rfl; exact rfl; exact rfl; exact rfl)
    | (apply q_lss; exact rfl; exact rfl)
    | (apply q_geq; exact rfl; exact rfl)
    | (apply q_add; exact rfl; exact rfl; omega)
    | (apply q_len_sl; exact rfl; exact rfl)
    | (apply q_ld_map; exact rfl; exact rfl; exact rfl; (first | omega | (focus (simp; done))))
    | (apply q_ld_maps; exact rfl; exact rfl; exact rfl; (first | omega | (focus (simp; done))))
    | (apply q_litF; exact rfl; exact rfl; exact rfl; exact rfl; exact rfl; kernel_rfl; kernel_rfl; exact rfl)
    | (apply q_ix_slF; exact rfl; exact rfl; exact rfl; exact rfl; (first | (with_reducible exact rfl) | exact natI_spec rfl | assumption | exact (Int.toNat_of_nonneg (by omega)).symm); (first | omega | (focus (simp only [List.length_map]; omega)) | (focus (simp; done)) | (focus (simp; omega))))
    | (apply (q_pickF (u := .d _)); exact rfl; exact rfl)))
  | (apply W.ld; (apply l_app1; exact rfl; exact rfl; exact rfl; exact rfl; exact rfl; exact rfl; exact rfl; exact rfl; (first | omega | (focus (simp; omega)) | (focus (simp; done)))))
  | (apply W.ed; (apply e_allocF; exact rfl; exact rfl; exact rfl; kernel_rfl))
  | (apply W.ln; (apply l_st_box; exact rfl; exact rfl; exact rfl; exact rfl; exact rfl; exact rfl; kernel_rfl; kernel_rfl; kernel_rfl))
  | (apply AWP.seq)
  | (apply ACont_normal)
  | (apply W.region; kernel_rfl)
  | (apply Walk.nil)
  | (apply AWP.block)
  | (apply AWP.skip)
  | (apply ABlock_normal)
  | (refine W.gF _ _ rfl rfl (fun hb => ?_) (fun hb => ?_) <;> ((try simp only [hb, Bool.not_true, Bool.not_false]) <;> (try simp only [decide_eq_true_eq, decide_eq_false_iff_not, Bool.not_eq_true', Bool.not_eq_false', Int.not_lt, Int.not_le, List.length_map, not_true_eq_false] at hb) <;> (try (exfalso; omega))))
  | (refine W.cond _ rfl (fun hb => ?_) (fun hb => ?_) <;> ((try simp only [hb, Bool.not_true, Bool.not_false]) <;> (try simp only [decide_eq_true_eq, decide_eq_false_iff_not, Bool.not_eq_true', Bool.not_eq_false', Int.not_lt, Int.not_le, List.length_map, not_true_eq_false] at hb) <;> (try (exfalso; omega))))))
    refine ⟨k + 1, by omega, by omega, ?_⟩
    rw [h1.out, h2.out]
    exact ⟨[0, 1, 2, 3], rfl, rfl, rfl, iV_eq (by omega), rfl, rfl, rfl, rfl, rfl, rfl, trivial⟩
  · have hkq' : k = q := by omega
    subst hkq'
    by_cases hkl : k < l.length
    · obtain ⟨rfl, rfl⟩ := hres hkl
      have hb2 := outZ_true (hbad hkl)
      clear hc hgood hbad
      generalize (l.take k).map (·.2) = A at *
      generalize readZ us (l.take k) = B at *
      (repeat' (first
  | (apply W.gOn; exact rfl; exact rfl)
  | (apply W.qd; (first
    | (apply q_mv; (first
    | exact Eq.refl (AV.d _)
    | exact Eq.refl (AV.osl _ _ _ _)
    | exact Eq.refl (AV.opt _ _)
    | exact Eq.refl (AV.agg _)
    | exact Eq.refl (AV.fpt _ _ _ _)
    | exact Eq.refl (AV.rpt _ _ _ _)
    | exact Eq.refl (AV.fn _ _)
    | exact Eq.refl (AV.yl _)
    | exact Eq.refl (AV.tup _)
    | exact Eq.refl AV.top))
    | (apply q_as; (first
    | exact Eq.refl (AV.d _)
    | exact Eq.refl (AV.osl _ _ _ _)
    | exact Eq.refl (AV.opt _ _)
    | exact Eq.refl (AV.agg _)
    | exact Eq.refl (AV.fpt _ _ _ _)
    | exact Eq.refl (AV.rpt _ _ _ _)
    | exact Eq.refl (AV.fn _ _)
    | exact Eq.refl (AV.yl _)
    | exact Eq.refl (AV.tup _)
    | exact Eq.refl AV.top))
    | (apply q_fld_optF; exact rfl; exact rfl; exact rfl)
    | (apply q_ld_box; exact rfl; exact rfl; exact rfl; exact rfl)
    | (apply q_lss; exact rfl; exact rfl)
    | (apply q_geq; exact rfl; exact rfl)
    | (apply q_len_sl; exact rfl; exact rfl)
    | (apply q_ld_maps; exact rfl; exact rfl; exact rfl; (first | omega | (focus (simp; done))))
    | (apply q_ix_slF; exact rfl; exact rfl; exact rfl; exact rfl; (first | (with_reducible exact rfl) | exact natI_spec rfl | assumption | exact (Int.toNat_of_nonneg (by omega)).symm); (first | omega | (focus (simp only [List.length_map]; omega)) | (focus (simp; done)) | (focus (simp; omega))))
    | (apply (q_pickT (u := .d _)); exact rfl; exact rfl)
    | (apply (q_pickF (u := .d _)); exact rfl; exact rfl)))
  | (apply W.ed; (apply e_allocF; exact rfl; exact rfl; exact rfl; kernel_rfl))
  | (apply W.ln; (apply l_st_box; exact rfl; exact rfl; exact rfl; exact rfl; exact rfl; exact rfl; kernel_rfl; kernel_rfl; kernel_rfl))
  | (refine W.gOff _ _ rfl rfl (by intro h; cases h) ?_)
  | (apply AWP.seq)
  | (apply ACont_normal)
  | (apply W.region; kernel_rfl)
  | (apply Walk.nil)
  | (apply AWP.block)
  | (apply AWP.skip)
  | (apply AWP.ret)
  | (apply ACont_ret)
  | (apply ABlock_ret)
  | (apply W.condT; exact rfl)
  | (refine W.gF _ _ rfl rfl (fun hb => ?_) (fun hb => ?_) <;> ((try simp only [hb, Bool.not_true, Bool.not_false]) <;> (try simp only [decide_eq_true_eq, decide_eq_false_iff_not, Bool.not_eq_true', Bool.not_eq_false', Int.not_lt, Int.not_le, List.length_map, not_true_eq_false] at hb) <;> (try (exfalso; omega))))
  | (refine W.cond _ rfl (fun hb => ?_) (fun hb => ?_) <;> ((try simp only [hb, Bool.not_true, Bool.not_false]) <;> (try simp only [decide_eq_true_eq, decide_eq_false_iff_not, Bool.not_eq_true', Bool.not_eq_false', Int.not_lt, Int.not_le, List.length_map, not_true_eq_false] at hb) <;> (try (exfalso; omega))))))
      all_goals exact Ends.two rfl rfl rfl
    · have hkl' : k = l.length := by omega
      subst hkl'
      have hc := hc rfl
      rw [List.take_length]
      rw [List.take_length] at hl1 hl2
      generalize l.map (·.2) = A at *
      generalize readZ us l = B at *
      refine AWP.wk ⟨[(11, iV l.length), (9, ints A), (10, strs B), (3, .opt 0 0), (4, .opt 1 0)], [.box [.d .any, iV M, iV D, rowsA par, .d .any], .box [iV u, tmsZ l]]⟩ ⟨[0, 1], rfl, rfl, rfl, rfl, (frz_rowJ rfl rfl (by simp)).symm, (frz_rowJ rfl rfl (by simp)).symm, rfl, rfl, trivial⟩ ?_
      (repeat' (first
  | (apply W.qd; (first
    | (apply (q_callC (hc)); exact rfl; exact rfl; kernel_rfl; kernel_rfl; kernel_rfl)
    | (apply q_mv; (first
    | exact Eq.refl (AV.d _)
    | exact Eq.refl (AV.osl _ _ _ _)
    | exact Eq.refl (AV.opt _ _)
    | exact Eq.refl (AV.agg _)
    | exact Eq.refl (AV.fpt _ _ _ _)
    | exact Eq.refl (AV.rpt _ _ _ _)
    | exact Eq.refl (AV.fn _ _)
    | exact Eq.refl (AV.yl _)
    | exact Eq.refl (AV.tup _)
    | exact Eq.refl AV.top))
    | (apply q_as; (first
    | exact Eq.refl (AV.d _)
    | exact Eq.refl (AV.osl _ _ _ _)
    | exact Eq.refl (AV.opt _ _)
    | exact Eq.refl (AV.agg _)
    | exact Eq.refl (AV.fpt _ _ _ _)
    | exact Eq.refl (AV.rpt _ _ _ _)
    | exact Eq.refl (AV.fn _ _)
    | exact Eq.refl (AV.yl _)
    | exact Eq.refl (AV.tup _)
    | exact Eq.refl AV.top))
    | (apply q_fld_optF; exact rfl; exact rfl; exact rfl)
    | (apply q_ld_box; exact rfl; exact rfl; exact rfl; exact rfl)
    | (apply q_lss; exact rfl; exact rfl)
    | (apply q_extract; exact rfl; exact rfl)
    | (apply q_len_sl; exact rfl; exact rfl)))
  | (apply AWP.seq)
  | (apply ACont_normal)
  | (apply W.region; kernel_rfl)
  | (apply Walk.nil)
  | (apply AWP.exit)
  | (apply AWP.ret)
  | (apply ACont_exit)
  | (apply ABlock_exit)
  | (refine W.cond _ rfl (fun hb => ?_) (fun hb => ?_) <;> ((try simp only [hb, Bool.not_true, Bool.not_false]) <;> (try simp only [decide_eq_true_eq, decide_eq_false_iff_not, Bool.not_eq_true', Bool.not_eq_false', Int.not_lt, Int.not_le, List.length_map, not_true_eq_false] at hb) <;> (try (exfalso; omega))))))
      exact Ends.two rfl rfl rfl
/-- Both Applys answer alike. -/
theorem apply2 {M D u : Int} {par : List (List Int)} {us : List (List Nat)} {l : List (Int × Int)} (hp : CodeIn par) (hD : D ≤ 1000000) (hP : par.length ≤ 1000000) (hus : us.length ≤ 24) (hub : ∀ x ∈ us, isB x ∧ x.length ≤ 64) (hll : l.length ≤ 24) (hlb : ∀ t ∈ l, t.2 < 9223372036854775808) :
    ∃ (s : List Nat) (e : Int), isB s ∧ ACalls Tryd.prog 10 [cdA M D par, .agg [iV u, tmsZ l], strs us] [] (.tup [bS s, iV e]) [] ∧ ACalls Tryd.prog 11 [cdA M D par, .agg [iV u, tmsZ l], strs us] [] (.tup [bS s, iV e]) [] := by
  by_cases hg : validC M D par = true ∧ (us.length : Int) = D + (par.length : Int) ∧ outZ us.length u = false
  · obtain ⟨g1, g2, g3⟩ := hg
    obtain ⟨m, d, ps, rfl, rfl, rfl, hok⟩ := ok_valid g1
    have hM := hok.f
    obtain ⟨k, rfl, hk⟩ := outZ_false g3
    obtain ⟨q, q1, q2, q3, _⟩ := first_none (fun i => if outZ us.length (l.getD i (0, 0)).1 = false then some () else none) l.length
    have hgood : ∀ i (h : i < l.length), i < q → outZ us.length l[i].1 = false := fun i h hi => by
      have := q2 i hi
      rw [List.getD_eq_getElem?_getD, List.getElem?_eq_getElem h] at this
      by_cases e : outZ us.length l[i].1 = false
      · exact e
      · rw [if_neg (by simpa using e)] at this; cases this
    have hbad : ∀ h : q < l.length, outZ us.length l[q].1 = true := fun h => by
      have := q3 h
      rw [List.getD_eq_getElem?_getD, List.getElem?_eq_getElem h] at this
      by_cases e : outZ us.length l[q].1 = false
      · rw [if_pos (by simpa using e)] at this; cases this
      · simpa using e
    by_cases hql : q < l.length
    · refine ⟨[], 1, isB_nil, A_apply_bad hp (by omega) (by omega) fun h => ?_, A_rapply hD hP g1 g2 (by omega) hk (by omega) (by omega) q1 hgood hbad (fun _ => ⟨rfl, rfl⟩) fun e => by omega⟩
      have h1 := h.2.2.2 _ (List.getElem_mem hql)
      rw [hbad hql] at h1; cases h1
    · have hq' : q = l.length := by omega
      have hall : ∀ t ∈ l, outZ us.length t.1 = false := fun t ht => by
        obtain ⟨i, hi, rfl⟩ := List.getElem_of_mem ht
        exact hgood i hi (by omega)
      have hrl : (readZ us l).length = l.length := by unfold readZ; simp
      have hrb : ∀ x ∈ readZ us l, isB x ∧ x.length ≤ 64 := fun x hx => by
        unfold readZ at hx
        obtain ⟨t, ht, rfl⟩ := List.mem_map.1 hx
        obtain ⟨y, hy, hyu⟩ := outZ_false (hall t ht)
        rw [hy, List.getD_eq_getElem?_getD, show ((y : Nat) : Int).toNat = y from rfl, List.getElem?_eq_getElem hyu]
        exact hub _ (List.getElem_mem hyu)
      by_cases hf : fitC m (l.map (·.2)) (readZ us l)
      · obtain ⟨f1, f2, f3, f4⟩ := hf
        rw [List.length_map] at f1
        have hcs : (l.map (·.2)) = ((l.map (·.2)).map Int.toNat).map fun n : Nat => (n : Int) := by
          rw [List.map_map]
          refine (List.map_id _).symm.trans (List.map_congr_left fun x hx => ?_)
          obtain ⟨c, rfl, _⟩ := inF_nat hM (f2 x hx)
          rfl
        have hlt : ∀ c ∈ (l.map (·.2)).map Int.toNat, c < 2 ^ m := fun c hc => by
          obtain ⟨x, hx, rfl⟩ := List.mem_map.1 hc
          obtain ⟨c, rfl, h⟩ := inF_nat hM (f2 x hx)
          exact h
        have hn64 : (List.headD (readZ us l) []).length ≤ 64 := by
          cases hh : readZ us l with
          | nil => simp
          | cons a r => exact (hrb a (by rw [hh]; simp)).2
        have hb := combM_ok hM f3 ((l.map (·.2)).map Int.toNat) (readZ us l) (List.replicate (List.headD (readZ us l) []).length 0) hlt (fun x hx => f4 x hx) (isB_zero _) (by simp)
        have h1 := A_fcombine (cs := (l.map (·.2)).map Int.toNat) (us := readZ us l) hM f3 (by simp [hrl]) (by simp; omega) hlt (fun x hx => ⟨(hrb x hx).1, f4 x hx⟩) (by omega) (by simp; omega)
        have h2 := A_rcombine (cs := (l.map (·.2)).map Int.toNat) (us := readZ us l) hM f3 (by simp [hrl]) (by simp; omega) hlt (fun x hx => ⟨(hrb x hx).1, f4 x hx⟩) (by omega) (by simp; omega)
        rw [nats_ints, ← hcs] at h1 h2
        exact ⟨_, 0, hb.1, A_applyOk hp g1 g2 (by omega) g3 hall (by omega) h1, A_rapply hD hP g1 g2 (by omega) hk f1 (by omega) q1 hgood hbad (fun e => by omega) fun _ => h2⟩
      · have h1 := A_fcombine_bad (us := readZ us l) hM (by rw [List.length_map, hrl]) (fun x hx => by obtain ⟨t, ht, rfl⟩ := List.mem_map.1 hx; exact hlb t ht) (fun x hx => by have := (hrb x hx).2; omega) (by rw [List.length_map]; omega) hf
        refine ⟨[], 1, isB_nil, A_applyOk hp g1 g2 (by omega) g3 hall (by omega) h1, ?_⟩
        by_cases hl0 : 0 < l.length
        · have h2 := A_rcombine_bad (us := readZ us l) hM (by rw [List.length_map, hrl]) (fun x hx => ⟨(hrb x hx).1, by have := (hrb x hx).2; omega⟩) (by rw [List.length_map]; omega) hf
          exact A_rapply hD hP g1 g2 (by omega) hk hl0 (by omega) q1 hgood hbad (fun e => by omega) fun _ => h2
        · exact A_rapply_bad hD hP fun h => hl0 h.2.2.2
  · exact ⟨[], 1, isB_nil, A_apply_bad hp (by omega) (by omega) fun h => hg ⟨h.1, h.2.1, h.2.2.1⟩, A_rapply_bad hD hP fun h => hg ⟨h.1, h.2.1, h.2.2.1⟩⟩
theorem A_applyMatches {M D u : Int} {par : List (List Int)} {us : List (List Nat)} {l : List (Int × Int)} (hpar : ∀ r ∈ par, ∀ x ∈ r, x < 9223372036854775808) (_hu : -9223372036854775808 ≤ u ∧ u < 9223372036854775808) (hlb : ∀ t ∈ l, (-9223372036854775808 ≤ t.1 ∧ t.1 < 9223372036854775808) ∧ (-9223372036854775808 ≤ t.2 ∧ t.2 < 9223372036854775808)) (hus : ∀ u ∈ us, isB u) :
    ACalls Tryd.prog 3 [cdA M D par, .agg [iV u, tmsZ l], strs us] [] (bV true) [] := by
  refine acalls_of_body Tryd.func3 rfl (Nat.le_of_ble_eq_true rfl) ?_
  have hca : CodeIn par := ⟨hpar⟩
  have hsan := A_sanity10
  have hsm := A_small (M := M) (D := D) (par := par)
  have hfew := A_few (us := us)
  have hml : (l.map tzD).length = l.length := List.length_map _
  by_cases hgood : smallB D par = true ∧ fewB us = true ∧ l.length ≤ 24
  · obtain ⟨g1, g2, g3⟩ := hgood
    rw [g1] at hsm
    rw [g2] at hfew
    unfold fewB at g2
    unfold smallB at g1
    simp only [Bool.and_eq_true, decide_eq_true_eq, List.all_eq_true] at g1 g2
    obtain ⟨s, e, hs, a1, a2⟩ := apply2 (M := M) (D := D) (u := u) (par := par) (us := us) (l := l) hca (by omega) (by omega) g2.1 (fun x hx => ⟨hus x hx, g2.2 x hx⟩) g3 (fun t ht => (hlb t ht).2.2)
    have r1 := A_readsZ (u := u) (l := l) (by omega)
    have r2 := A_rreadsZ (u := u) (l := l) (by omega)
    have s1 := A_same_ints (a := l.map (·.1)) (b := l.map (·.1)) (by simp; omega) (by simp; omega)
    rw [decide_eq_true rfl] at s1
    (repeat' (first
  | (apply W.gOn; exact rfl; exact rfl)
  | (apply W.qd; (first
    | (apply (q_callC (hsan)); exact rfl; exact rfl; kernel_rfl; kernel_rfl; kernel_rfl)
    | (apply (q_callC (hsm)); exact rfl; exact rfl; kernel_rfl; kernel_rfl; kernel_rfl)
    | (apply (q_callC (hfew)); exact rfl; exact rfl; kernel_rfl; kernel_rfl; kernel_rfl)
    | (apply (q_callC (a1)); exact rfl; exact rfl; kernel_rfl; kernel_rfl; kernel_rfl)
    | (apply (q_callC (a2)); exact rfl; exact rfl; kernel_rfl; kernel_rfl; kernel_rfl)
    | (apply (q_callC (r1)); exact rfl; exact rfl; kernel_rfl; kernel_rfl; kernel_rfl)
    | (apply (q_callC (r2)); exact rfl; exact rfl; kernel_rfl; kernel_rfl; kernel_rfl)
    | (apply (q_callC (s1)); exact rfl; exact rfl; kernel_rfl; kernel_rfl; kernel_rfl)
    | (apply q_mv; (first
    | exact Eq.refl (AV.d _)
    | exact Eq.refl (AV.osl _ _ _ _)
    | exact Eq.refl (AV.opt _ _)
    | exact Eq.refl (AV.agg _)
    | exact Eq.refl (AV.fpt _ _ _ _)
    | exact Eq.refl (AV.rpt _ _ _ _)
    | exact Eq.refl (AV.fn _ _)
    | exact Eq.refl (AV.yl _)
    | exact Eq.refl (AV.tup _)
    | exact Eq.refl AV.top))
    | (apply q_as; (first
    | exact Eq.refl (AV.d _)
    | exact Eq.refl (AV.osl _ _ _ _)
    | exact Eq.refl (AV.opt _ _)
    | exact Eq.refl (AV.agg _)
    | exact Eq.refl (AV.fpt _ _ _ _)
    | exact Eq.refl (AV.rpt _ _ _ _)
    | exact Eq.refl (AV.fn _ _)
    | exact Eq.refl (AV.yl _)
    | exact Eq.refl (AV.tup _)
    | exact Eq.refl AV.top))
    | (apply q_fld_optF; exact rfl; exact rfl; exact rfl)
    | (apply q_ld_box; exact rfl; exact rfl; exact rfl; exact rfl)
    | (apply q_ld_boxF; exact rfl; exact rfl; exact rfl; exact rfl)
    | (apply q_gtr; exact rfl; exact rfl)
    | (apply q_eql; exact rfl; exact rfl)
    | (apply q_not; exact rfl)
    | (apply q_extract; exact rfl; exact rfl)
    | (apply q_len_sl; exact rfl; exact rfl)
    | (apply (q_pickT (u := .d _)); exact rfl; exact rfl)
    | (apply (q_pickF (u := .d _)); exact rfl; exact rfl)
    | (apply q_eqlS; exact rfl; exact rfl; (first | assumption | exact isB_nil | exact isB_xor (by assumption) (by assumption)); (first | assumption | exact isB_nil | exact isB_xor (by assumption) (by assumption)))))
  | (apply W.ed; (apply e_boxF; exact rfl; exact rfl; exact rfl; kernel_rfl; kernel_rfl))
  | (apply AWP.seq)
  | (apply ACont_normal)
  | (apply W.region; kernel_rfl)
  | (apply W.regionD; exact rfl; kernel_rfl)
  | (apply Walk.nil)
  | (apply W.chk; kernel_rfl)
  | (apply AWP.skip)
  | (apply AWP.ret)
  | (refine W.gT _ _ rfl rfl (fun hb => ?_) (fun hb => ?_) <;> ((try simp only [hb, Bool.not_true, Bool.not_false]) <;> (try simp only [decide_eq_true_eq, decide_eq_false_iff_not, Bool.not_eq_true', Bool.not_eq_false', Int.not_lt, Int.not_le, List.length_map, not_true_eq_false] at hb) <;> (try (exfalso; omega))))
  | (refine W.cond _ rfl (fun hb => ?_) (fun hb => ?_) <;> ((try simp only [hb, Bool.not_true, Bool.not_false]) <;> (try simp only [decide_eq_true_eq, decide_eq_false_iff_not, Bool.not_eq_true', Bool.not_eq_false', Int.not_lt, Int.not_le, List.length_map, not_true_eq_false] at hb) <;> (try (exfalso; omega))))))
    all_goals exact Ends.b rfl (by first | rfl | (simp; done))
  · cases h1 : smallB D par <;> rw [h1] at hsm
    · (repeat' (first
  | (apply W.qd; (first
    | (apply (q_callC (hsan)); exact rfl; exact rfl; kernel_rfl; kernel_rfl; kernel_rfl)
    | (apply (q_callC (hsm)); exact rfl; exact rfl; kernel_rfl; kernel_rfl; kernel_rfl)
    | (apply q_mv; (first
    | exact Eq.refl (AV.d _)
    | exact Eq.refl (AV.osl _ _ _ _)
    | exact Eq.refl (AV.opt _ _)
    | exact Eq.refl (AV.agg _)
    | exact Eq.refl (AV.fpt _ _ _ _)
    | exact Eq.refl (AV.rpt _ _ _ _)
    | exact Eq.refl (AV.fn _ _)
    | exact Eq.refl (AV.yl _)
    | exact Eq.refl (AV.tup _)
    | exact Eq.refl AV.top))
    | (apply q_as; (first
    | exact Eq.refl (AV.d _)
    | exact Eq.refl (AV.osl _ _ _ _)
    | exact Eq.refl (AV.opt _ _)
    | exact Eq.refl (AV.agg _)
    | exact Eq.refl (AV.fpt _ _ _ _)
    | exact Eq.refl (AV.rpt _ _ _ _)
    | exact Eq.refl (AV.fn _ _)
    | exact Eq.refl (AV.yl _)
    | exact Eq.refl (AV.tup _)
    | exact Eq.refl AV.top))
    | (apply q_ld_boxF; exact rfl; exact rfl; exact rfl; exact rfl)
    | (apply q_not; exact rfl)
    | (apply (q_pickT (u := .d _)); exact rfl; exact rfl)))
  | (apply W.ed; (apply e_boxF; exact rfl; exact rfl; exact rfl; kernel_rfl; kernel_rfl))
  | (refine W.gOff _ _ rfl rfl (by intro h; cases h) ?_)
  | (apply AWP.seq)
  | (apply ACont_normal)
  | (apply W.region; kernel_rfl)
  | (apply Walk.nil)
  | (apply AWP.ret)
  | (apply ACont_ret)
  | (apply W.condT; exact rfl)))
      all_goals exact Ends.b rfl rfl
    · cases h2 : fewB us <;> rw [h2] at hfew
      · (repeat' (first
  | (apply W.gOn; exact rfl; exact rfl)
  | (apply W.qd; (first
    | (apply (q_callC (hsan)); exact rfl; exact rfl; kernel_rfl; kernel_rfl; kernel_rfl)
    | (apply (q_callC (hsm)); exact rfl; exact rfl; kernel_rfl; kernel_rfl; kernel_rfl)
    | (apply (q_callC (hfew)); exact rfl; exact rfl; kernel_rfl; kernel_rfl; kernel_rfl)
    | (apply q_mv; (first
    | exact Eq.refl (AV.d _)
    | exact Eq.refl (AV.osl _ _ _ _)
    | exact Eq.refl (AV.opt _ _)
    | exact Eq.refl (AV.agg _)
    | exact Eq.refl (AV.fpt _ _ _ _)
    | exact Eq.refl (AV.rpt _ _ _ _)
    | exact Eq.refl (AV.fn _ _)
    | exact Eq.refl (AV.yl _)
    | exact Eq.refl (AV.tup _)
    | exact Eq.refl AV.top))
    | (apply q_as; (first
    | exact Eq.refl (AV.d _)
    | exact Eq.refl (AV.osl _ _ _ _)
    | exact Eq.refl (AV.opt _ _)
    | exact Eq.refl (AV.agg _)
    | exact Eq.refl (AV.fpt _ _ _ _)
    | exact Eq.refl (AV.rpt _ _ _ _)
    | exact Eq.refl (AV.fn _ _)
    | exact Eq.refl (AV.yl _)
    | exact Eq.refl (AV.tup _)
    | exact Eq.refl AV.top))
    | (apply q_ld_boxF; exact rfl; exact rfl; exact rfl; exact rfl)
    | (apply q_not; exact rfl)
    | (apply (q_pickT (u := .d _)); exact rfl; exact rfl)
    | (apply (q_pickF (u := .d _)); exact rfl; exact rfl)))
  | (apply W.ed; (apply e_boxF; exact rfl; exact rfl; exact rfl; kernel_rfl; kernel_rfl))
  | (refine W.gOff _ _ rfl rfl (by intro h; cases h) ?_)
  | (apply AWP.seq)
  | (apply ACont_normal)
  | (apply W.region; kernel_rfl)
  | (apply Walk.nil)
  | (apply AWP.ret)
  | (apply ACont_ret)
  | (apply W.condT; exact rfl)))
        all_goals exact Ends.b rfl rfl
      · have h3 : 24 < l.length := by
          by_cases e : l.length ≤ 24
          · exact absurd ⟨h1, h2, e⟩ hgood
          · omega
        (repeat' (first
  | (apply W.gOn; exact rfl; exact rfl)
  | (apply W.qd; (first
    | (apply (q_callC (hsan)); exact rfl; exact rfl; kernel_rfl; kernel_rfl; kernel_rfl)
    | (apply (q_callC (hsm)); exact rfl; exact rfl; kernel_rfl; kernel_rfl; kernel_rfl)
    | (apply (q_callC (hfew)); exact rfl; exact rfl; kernel_rfl; kernel_rfl; kernel_rfl)
    | (apply q_mv; (first
    | exact Eq.refl (AV.d _)
    | exact Eq.refl (AV.osl _ _ _ _)
    | exact Eq.refl (AV.opt _ _)
    | exact Eq.refl (AV.agg _)
    | exact Eq.refl (AV.fpt _ _ _ _)
    | exact Eq.refl (AV.rpt _ _ _ _)
    | exact Eq.refl (AV.fn _ _)
    | exact Eq.refl (AV.yl _)
    | exact Eq.refl (AV.tup _)
    | exact Eq.refl AV.top))
    | (apply q_as; (first
    | exact Eq.refl (AV.d _)
    | exact Eq.refl (AV.osl _ _ _ _)
    | exact Eq.refl (AV.opt _ _)
    | exact Eq.refl (AV.agg _)
    | exact Eq.refl (AV.fpt _ _ _ _)
    | exact Eq.refl (AV.rpt _ _ _ _)
    | exact Eq.refl (AV.fn _ _)
    | exact Eq.refl (AV.yl _)
    | exact Eq.refl (AV.tup _)
    | exact Eq.refl AV.top))
    | (apply q_fld_optF; exact rfl; exact rfl; exact rfl)
    | (apply q_ld_box; exact rfl; exact rfl; exact rfl; exact rfl)
    | (apply q_ld_boxF; exact rfl; exact rfl; exact rfl; exact rfl)
    | (apply q_gtr; exact rfl; exact rfl)
    | (apply q_not; exact rfl)
    | (apply q_len_sl; exact rfl; exact rfl)
    | (apply (q_pickF (u := .d _)); exact rfl; exact rfl)))
  | (apply W.ed; (apply e_boxF; exact rfl; exact rfl; exact rfl; kernel_rfl; kernel_rfl))
  | (apply AWP.seq)
  | (apply ACont_normal)
  | (apply W.region; kernel_rfl)
  | (apply Walk.nil)
  | (apply AWP.ret)
  | (apply ACont_ret)
  | (refine W.cond _ rfl (fun hb => ?_) (fun hb => ?_) <;> ((try simp only [hb, Bool.not_true, Bool.not_false]) <;> (try simp only [decide_eq_true_eq, decide_eq_false_iff_not, Bool.not_eq_true', Bool.not_eq_false', Int.not_lt, Int.not_le, List.length_map, not_true_eq_false] at hb) <;> (try (exfalso; omega))))))
        all_goals exact Ends.b rfl rfl
end Go.Proofs.YtilpljehfcpjeaaDoor
end
