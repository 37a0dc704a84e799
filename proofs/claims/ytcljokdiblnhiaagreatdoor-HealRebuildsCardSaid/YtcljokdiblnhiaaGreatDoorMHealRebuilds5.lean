import Derived.Test.YtcljokdiblnhiaaGreatDoorMHealRebuilds4
import Derived.WalkKit
import Derived.Laws.CopyRow
import Derived.Laws.IdiomCopy
import Derived.WalkLawsBesides
import Derived.WalkSpells
import Derived.Handy
import Derived.PlainAid
import Derived.Outline
import Derived.Laws.OwnMore
import Derived.Laws.CopyOwn
import Derived.Deep.AppendLies
import Derived.Deep.Draws
import Derived.Deep.QuietTactic
import Derived.Deep.LoopGhost
import Derived.Deep.DeepFit
import Derived.Deep.DeepCutAuto
import Derived.Deep.RegionLaw
import Derived.Deep.RegionHeld3
import Derived.BigQuiet
import Derived.StillTailTactics
import Derived.Lib.Hide
import Derived.Carry
import Derived.Deep.Onto
import Derived.Test.YtcljokdiblnhiaaGreatDoorChecked
import Derived.Lib.SliceRun
/- Joined texts: Rp4 Rp5 Rp6 Xp3 St1 St2 Ds3 Kern43 Ds7 Ds8 He0 He1 Kern45 Cl1 Cl2 Cl4 Cl6 DgB DgP DgD DgD2 DgD3 DgD4 DgD5 DgL1 DgL2 DgL3 Hl0 Kern50 DgO Hl1 St3S. -/
set_option linter.unusedVariables false
set_option linter.unusedSimpArgs false
section
namespace Go.Proofs.YtcljokdiblnhiaaGreatDoor
open Go.RowKit
set_option maxHeartbeats 4000000
set_option maxRecDepth 100000
theorem cterms_take (M D : Nat) (row L : List Nat) (u k : Nat) (h : k < L.length) : ctermsN M D row (L.take (k + 1)) u = if L[k] = u then ctermsN M D row (L.take k) u else ctermsN M D row (L.take k) u ++ [(L[k], mu M (coefN row D L[k]) (invN M (coefN row D u)))] := by
  unfold ctermsN
  rw [List.take_succ_eq_append_getElem h, List.filter_append, List.map_append]
  by_cases e : L[k] = u
  · have e2 : (L[k] != u) = false := by simpa using e
    rw [if_pos e]; simp only [List.filter_cons, e2, Bool.false_eq_true, if_false, List.filter_nil, List.map_nil, List.append_nil]
  · have e2 : (L[k] != u) = true := by simpa using e
    rw [if_neg e]; simp only [List.filter_cons, e2, if_true, List.filter_nil, List.map_cons, List.map_nil]
theorem cterms_le (M D : Nat) (row L : List Nat) (u : Nat) : (ctermsN M D row L u).length ≤ L.length := by
  unfold ctermsN; rw [List.length_map]; exact List.length_filter_le _ _
def candC (M D : Nat) (ps : List (List Nat)) (oth : List Bool) (u : Nat) (I : List Nat) : List (List (Nat × Nat)) := (I.filter fun i => fullC oth (checkN D i (ps.getD i [])) u).map fun i => ctermsN M D (ps.getD i []) (checkN D i (ps.getD i [])) u
theorem candC_take (M D : Nat) (ps : List (List Nat)) (oth : List Bool) (u : Nat) (I : List Nat) (k : Nat) (h : k < I.length) : candC M D ps oth u (I.take (k + 1)) = if fullC oth (checkN D I[k] (ps.getD I[k] [])) u = true then candC M D ps oth u (I.take k) ++ [ctermsN M D (ps.getD I[k] []) (checkN D I[k] (ps.getD I[k] [])) u] else candC M D ps oth u (I.take k) := by
  unfold candC
  rw [List.take_succ_eq_append_getElem h, List.filter_append, List.map_append]
  by_cases e : fullC oth (checkN D I[k] (ps.getD I[k] [])) u = true
  · rw [if_pos e]; simp only [List.filter_cons, e, if_true, List.filter_nil, List.map_cons, List.map_nil]
  · have e2 := Bool.eq_false_iff.2 e
    rw [if_neg e]; simp only [List.filter_cons, e2, Bool.false_eq_true, if_false, List.filter_nil, List.map_nil, List.append_nil]
theorem candC_le (M D : Nat) (ps : List (List Nat)) (oth : List Bool) (u : Nat) (I : List Nat) : (candC M D ps oth u I).length ≤ I.length := by
  unfold candC; rw [List.length_map]; exact List.length_filter_le _ _
def misZ (oth : List Bool) (u : Nat) (x : Int) : Bool := !decide (x = (u : Int)) && !(oth.getD x.toNat false)
theorem misZ_full (oth : List Bool) (u : Nat) (l : List Nat) : (l.map fun n : Nat => (n : Int)).any (misZ oth u) = !fullC oth l u := by
  unfold fullC misZ
  rw [List.any_map, List.all_eq_not_any_not, Bool.not_not]
  congr 1
  funext x
  show (!decide ((x : Int) = (u : Int)) && !(oth.getD (x : Int).toNat false)) = !(x == u || oth.getD x false)
  rw [Int.toNat_natCast, Bool.not_or]
  congr 2
  rw [Bool.eq_iff_iff]
  simp
  omega
attribute [local irreducible] Quiet Eff OpOk AWPG ACont ABlock ACalls AGoto
theorem A_rterms {M D i u : Nat} {ps : List (List Nat)} (h : CodeOk M D ps) (hi : i < ps.length) (hu : u ∈ checkN D i (ps.getD i [])) : ACalls Tryz.prog 139 [cdN M D ps, nats (checkN D i (ps.getD i [])), iV u] [] (tmsA (ctermsN M D (ps.getD i []) (checkN D i (ps.getD i [])) u)) [] := by
  refine acalls_of_body Tryz.func139 rfl (Nat.le_of_ble_eq_true rfl) ?_
  have h1 := h.d
  have h2 := h.w
  have hM := h.f
  have hck := fun k (hk : k ∈ checkN D i (ps.getD i [])) => coef_ok h hi hk
  have hr := (h.row _ (List.getElem_mem hi)).1
  have e : ps.getD i [] = ps[i] := by rw [List.getD_eq_getElem?_getD, List.getElem?_eq_getElem hi]; rfl
  have hLl : (checkN D i (ps.getD i [])).length = (dataC D (ps.getD i []) D).length + 1 := by simp [checkN]
  have hLv : ∀ h : (dataC D (ps.getD i []) D).length < (checkN D i (ps.getD i [])).length, (checkN D i (ps.getD i []))[(dataC D (ps.getD i []) D).length] = D + i := fun h => by simp [checkN]
  have hLc := checkN_length D i (ps.getD i [])
  rw [e] at hck hLl hLv hLc hu ⊢
  generalize (dataC D ps[i] D).length = n at *
  have hs := fun k (hk : k < (checkN D i ps[i]).length) => Lib.hid (cterms_take M D ps[i] (checkN D i ps[i]) u k hk)
  have hle := fun k => cterms_le M D ps[i] ((checkN D i ps[i]).take k) u
  have h00 : ctermsN M D ps[i] ((checkN D i ps[i]).take 0) u = [] := rfl
  have hfull : ctermsN M D ps[i] ((checkN D i ps[i]).take (checkN D i ps[i]).length) u = ctermsN M D ps[i] (checkN D i ps[i]) u := by rw [List.take_length]
  generalize checkN D i ps[i] = L at *
  have hml : (L.map kD).length = L.length := List.length_map _
  have hi1 : (((L.map kD).length : Int) - 1) = ((n : Nat) : Int) := by omega
  have hv := hLv (by omega)
  have hi2 : ((L[n]'(by omega) : Nat) : Int) - (D : Int) = ((i : Nat) : Int) := by omega
  have hcl := A_clone (l := ps[i]) (by omega) (by omega)
  have hcoef := fun k (hk : k < 1000) => A_coef (M := M) (ps := ps) (row := ps[i]) hk hr (show D ≤ 32 by omega)
  have hlr : (ps[i]).length = D := hr
  generalize hC : (fun k => ctermsN M D ps[i] (L.take k) u) = CT
  have hC' : ∀ k, ctermsN M D ps[i] (L.take k) u = CT k := fun k => congrFun hC k
  simp only [hC'] at hs hle h00 hfull
  rw [← hfull]
  (repeat' (first
  | (apply W.qd; (apply q_as; (conv => lhs; whnf)))|(apply W.ed; (apply yBb; (iterate 3 exact rfl); kernel_rfl; kernel_rfl))|(apply yA)|(apply yB)|(apply (W.regionS 1); exact rfl; kernel_rfl)
  | (apply yE)))
  refine AWP.hole rfl (AWP.hole rfl ?_)
  (repeat' (first
  | (apply W.qd; (first
    | (apply q_mv; (conv => lhs; whnf))|(apply q_as; (conv => lhs; whnf))|(apply yS; (iterate 3 exact rfl))|(apply yT; (iterate 4 exact rfl))|(apply q_sub; exact rfl; exact rfl; omega)|(apply yV; exact rfl; exact rfl)|(apply yX; (iterate 3 exact rfl); (first | omega | (focus (simp; done))))|(apply q_makeFunc)|(apply q_litF; (iterate 5 exact rfl); kernel_rfl; kernel_rfl; exact rfl)
    | (apply yGb; (iterate 4 exact rfl); (first | (with_reducible exact rfl) | exact natI_spec rfl | assumption | exact (Int.toNat_of_nonneg (by omega)).symm); (first | omega | (focus (simp only [List.length_map]; omega)) | (focus (simp; done)) | (focus (simp; omega))))))
  | (apply W.ld; (first
    | (apply (l_call (hcl)); (iterate 4 exact rfl); kernel_rfl; kernel_rfl)|(apply (l_app1 (f := kD) 1); (iterate 8 exact rfl); omega)
    | (apply l_alloc; (iterate 3 exact rfl); kernel_rfl; kernel_rfl)))|(apply W.ln; (apply l_st_box; (iterate 6 exact rfl); (iterate 3 kernel_rfl)))|(apply yA)|(apply yB)|(apply yC; kernel_rfl)|(apply yD; exact rfl; kernel_rfl)|(apply yE)|(apply yF; kernel_rfl)
  | (apply yG)))
  refine AWP.nilRow 9 2 92 rfl (by omega) ?_
  refine AWP.loopW (α := Nat) (fun k => k ≤ L.length) (fun k => ⟨[(33, iV k), (32, iV L.length), (31, nats L), (2, iV u), (8, .fn 185 [.opt 2 0, .opt 0 0]), (3, .opt 0 0), (9, .osl 3 (CT k).length 0 (CT k).length)], [.box [.d .any, iV M, iV D, rowsN ps, .d .any], .row 2 1 3 ((ps[i] ++ [1]).map kD), .box [.osl 1 2 0 (D + 1)], .row (CT k).length 2 92 ((CT k).map tmD)]⟩) (fun k => L.length - k) 0 (by omega) ?wk0 fun k hk => ?_
  case wk0 =>
    rw [h00]
    refine ⟨[0, 1, 2, 3], rfl, rfl, ?_, rfl, iV_eq (by simp), rfl, rfl, rfl, rfl, rfl, trivial⟩
    have e9 : (ps[i] ++ [1]).length = D + 1 := by simp [hr]
    show _ = _
    rw [← e9]
    rfl
  have hlc := hle k
  have hlk : (L.take k).length ≤ 33 := by rw [List.length_take]; omega
  by_cases hkl : k < L.length
  · have hs2 := hs k hkl
    have hk1 := hck L[k] (List.getElem_mem hkl)
    have hu1 := hck u hu
    have c1 := hcoef L[k] (by omega)
    have c2 := hcoef u (by omega)
    have c3 := A_div hM hk1.2.1 hu1.2.1 hu1.2.2
    generalize coefN ps[i] D L[k] = a at *
    generalize coefN ps[i] D u = b at *
    by_cases hku : L[k] = u
    · replace hs2 := Lib.hid (hs2.out.trans (if_pos hku))
      (repeat' (first
  | (apply W.qd; (first
    | (apply q_mv; (conv => lhs; whnf))|(apply q_as; (conv => lhs; whnf))|(apply q_lss; exact rfl; exact rfl)|(apply q_neq; exact rfl; exact rfl)|(apply q_add; exact rfl; exact rfl; omega)|(apply yX; (iterate 3 exact rfl); (first | omega | (focus (simp; done))))
    | (apply yGb; (iterate 4 exact rfl); (first | (with_reducible exact rfl) | exact natI_spec rfl | assumption | exact (Int.toNat_of_nonneg (by omega)).symm); (first | omega | (focus (simp only [List.length_map]; omega)) | (focus (simp; done)) | (focus (simp; omega))))))|(apply yA)|(apply yB)|(apply yC; kernel_rfl)|(apply yE)|(apply yG)|(apply yH)|(apply yL)
  | (refine W.cond _ rfl (fun hb => ?_) (fun hb => ?_) <;> ((try simp only [hb, zA, zB]) <;> (try simp only [zC, zD, zE, zF, zG, zH, zI, zJ] at hb) <;> (try (exfalso; omega))))))
      refine ⟨k + 1, by omega, by omega, ?_⟩
      rw [hs2.out]
      exact ⟨[0, 1, 2, 3], rfl, rfl, rfl, iV_eq (by omega), rfl, rfl, rfl, rfl, rfl, rfl, trivial⟩
    · replace hs2 := Lib.hid (hs2.out.trans (if_neg hku))
      (repeat' (first
  | (apply W.qd; (first
    | (apply (q_callR (js := [0, 2, 1]) (c1)); (iterate 3 exact rfl); exact fun _ => rfl; exact fun _ => rfl; kernel_rfl; kernel_rfl)|(apply (q_callR (js := [0, 2, 1]) (c2)); (iterate 3 exact rfl); exact fun _ => rfl; exact fun _ => rfl; kernel_rfl; kernel_rfl)|(apply (yW (c3)); exact rfl; exact rfl; (iterate 3 kernel_rfl))|(apply q_mv; (conv => lhs; whnf))|(apply q_as; (conv => lhs; whnf))|(apply yS; (iterate 3 exact rfl))|(apply yT; (iterate 4 exact rfl))|(apply q_lss; exact rfl; exact rfl)|(apply q_neq; exact rfl; exact rfl)|(apply q_add; exact rfl; exact rfl; omega)|(apply yAb; exact rfl; exact rfl)|(apply yX; (iterate 3 exact rfl); (first | omega | (focus (simp; done))))|(apply yZ; exact rfl; exact rfl; kernel_rfl)|(apply q_litF; (iterate 5 exact rfl); kernel_rfl; kernel_rfl; exact rfl)
    | (apply yGb; (iterate 4 exact rfl); (first | (with_reducible exact rfl) | exact natI_spec rfl | assumption | exact (Int.toNat_of_nonneg (by omega)).symm); (first | omega | (focus (simp only [List.length_map]; omega)) | (focus (simp; done)) | (focus (simp; omega))))))|(apply W.ld; (apply (l_app1 (f := tmD) (L[k], mu M a (invN M b))); (iterate 8 exact rfl); omega))|(apply yA)|(apply yB)|(apply yC; kernel_rfl)|(apply yD; exact rfl; kernel_rfl)|(apply yE)|(apply yF; kernel_rfl)|(apply yG)|(apply yH)|(apply yL)
  | (refine W.cond _ rfl (fun hb => ?_) (fun hb => ?_) <;> ((try simp only [hb, zA, zB]) <;> (try simp only [zC, zD, zE, zF, zG, zH, zI, zJ] at hb) <;> (try (exfalso; omega))))))
      refine ⟨k + 1, by omega, by omega, ?_⟩
      rw [hs2.out, show (CT k ++ [(L[k], mu M a (invN M b))]).length = (CT k).length + 1 by simp]
      exact ⟨[0, 1, 2, 3], rfl, rfl, rfl, iV_eq (by omega), rfl, rfl, rfl, rfl, rfl, congrArg (AV.osl 3 ((CT k).length + 1) 0) (by simp), trivial⟩
  · have e4 : k = L.length := by omega
    subst e4
    generalize CT L.length = A at *
    (repeat' (first
  | (apply W.qd; (first
    | (apply q_mv; (conv => lhs; whnf))|(apply q_as; (conv => lhs; whnf))
    | (apply q_lss; exact rfl; exact rfl)))|(apply yA)|(apply yB)|(apply yC; kernel_rfl)|(apply yE)|(apply yI)|(apply yJ)|(apply yK)|(apply yM)
  | (refine W.cond _ rfl (fun hb => ?_) (fun hb => ?_) <;> ((try simp only [hb, zA, zB]) <;> (try simp only [zC, zD, zE, zF, zG, zH, zI, zJ] at hb) <;> (try (exfalso; omega))))))
    exact Ends.osl rfl rfl (by simp) rfl
theorem A_fits {M D : Int} {par : List (List Int)} {hv : List Bool} (hp : CodeIn par) : ACalls Tryz.prog 135 [cdA M D par, bools hv] [] (bV (validC M D par && decide ((hv.length : Int) = D + (par.length : Int)))) [] := by
  refine acalls_of_bodyO Tryz.func135 rfl (Nat.le_of_ble_eq_true rfl) ?_
  have h0 := A_evalid (M := M) (D := D) hp
  have h1 := A_ewidth (M := M) (D := D) hp
  have hmh : (hv.map tD).length = hv.length := List.length_map _
  cases hv2 : validC M D par
  · rw [hv2] at h0
    (repeat' (first
  | (apply W.qd; (first
    | (apply (yW (h0)); exact rfl; exact rfl; (iterate 3 kernel_rfl))|(apply q_mv; (conv => lhs; whnf))|(apply q_as; (conv => lhs; whnf))|(apply yU; (iterate 4 exact rfl))
    | (apply (yDb (u := .d _)); exact rfl; exact rfl)))|(apply W.ed; (apply yBb; (iterate 3 exact rfl); kernel_rfl; kernel_rfl))|(refine W.gOff _ _ rfl rfl (by intro h; cases h) ?_)|(apply yA)|(apply yB)|(apply yC; kernel_rfl)|(apply yE)
  | (apply yJ)))
    all_goals exact ⟨.inl rfl, [], [bV false], rfl, rfl, ⟨rfl, trivial⟩, AVle.of_eq rfl, rfl⟩
  · rw [hv2] at h0
    rw [hv2, if_pos rfl] at h1
    (repeat' (first
  | (apply yFb; exact rfl; exact rfl)
  | (apply W.qd; (first
    | (apply (yW (h0)); exact rfl; exact rfl; (iterate 3 kernel_rfl))|(apply (yW (h1)); exact rfl; exact rfl; (iterate 3 kernel_rfl))|(apply q_mv; (conv => lhs; whnf))|(apply q_as; (conv => lhs; whnf))|(apply yU; (iterate 4 exact rfl))|(apply q_eql; exact rfl; exact rfl)|(apply yV; exact rfl; exact rfl)
    | (apply (yEb (u := .d _)); exact rfl; exact rfl)))|(apply W.ed; (apply yBb; (iterate 3 exact rfl); kernel_rfl; kernel_rfl))|(apply yA)|(apply yB)|(apply yC; kernel_rfl)|(apply yE)
  | (apply yJ)))
    all_goals exact ⟨.inl rfl, [], [bV _], rfl, rfl, ⟨rfl, trivial⟩, AVle.of_eq (congrArg bV (by rw [hmh]; rfl)), rfl⟩
theorem A_missing {u k : Nat} {oth : List Bool} (hk : k < oth.length) : ACalls Tryz.prog 137 [iV k, .opt 0 0, .opt 1 0] [.box [iV u], .box [bools oth]] (bV (misZ oth u k)) [.box [iV u], .box [bools oth]] := by
  refine acalls_of_bodyO Tryz.func137 rfl (Nat.le_of_ble_eq_true rfl) ?_
  unfold misZ
  have e : oth.getD (k : Int).toNat false = oth[k] := by rw [Int.toNat_natCast, List.getD_eq_getElem?_getD, List.getElem?_eq_getElem hk]; rfl
  rw [e]
  by_cases hku : k = u
  · rw [decide_eq_true (show (k : Int) = u by omega)]
    (repeat' (first
  | (apply W.qd; (first
    | (apply q_mv; (conv => lhs; whnf))|(apply q_as; (conv => lhs; whnf))|(apply yT; (iterate 4 exact rfl))|(apply q_neq; exact rfl; exact rfl)
    | (apply (yDb (u := .d _)); exact rfl; exact rfl)))|(refine W.gOff _ _ rfl rfl (by intro h; cases h) ?_)|(apply yA)|(apply yB)|(apply yC; kernel_rfl)|(apply yE)|(apply yJ)
  | (refine W.gT _ _ rfl rfl (fun hb => ?_) (fun hb => ?_) <;> ((try simp only [hb, zA, zB]) <;> (try simp only [zC, zD, zE, zF, zG, zH, zI, zJ] at hb) <;> (try (exfalso; omega))))))
    all_goals exact ⟨.inl rfl, [0, 1], [bV false], rfl, rfl, ⟨rfl, trivial⟩, AVle.of_eq rfl, rfl⟩
  · rw [decide_eq_false (show ¬ (k : Int) = u by omega)]
    (repeat' (first
  | (apply yFb; exact rfl; exact rfl)
  | (apply W.qd; (first
    | (apply q_mv; (conv => lhs; whnf))|(apply q_as; (conv => lhs; whnf))|(apply yT; (iterate 4 exact rfl))|(apply q_neq; exact rfl; exact rfl)|(apply q_not; exact rfl)|(apply yX; (iterate 3 exact rfl); (first | omega | (focus (simp; done))))|(apply yGb; (iterate 4 exact rfl); (first | (with_reducible exact rfl) | exact natI_spec rfl | assumption | exact (Int.toNat_of_nonneg (by omega)).symm); (first | omega | (focus (simp only [List.length_map]; omega)) | (focus (simp; done)) | (focus (simp; omega))))
    | (apply (yEb (u := .d _)); exact rfl; exact rfl)))|(apply yA)|(apply yB)|(apply yC; kernel_rfl)|(apply yE)|(apply yJ)
  | (refine W.gT _ _ rfl rfl (fun hb => ?_) (fun hb => ?_) <;> ((try simp only [hb, zA, zB]) <;> (try simp only [zC, zD, zE, zF, zG, zH, zI, zJ] at hb) <;> (try (exfalso; omega))))))
    all_goals exact ⟨.inl rfl, [0, 1], [bV (!oth[k])], rfl, rfl, ⟨rfl, trivial⟩, AVle.of_eq rfl, rfl⟩
abbrev pl0 : AV := .agg [iV 0, tmsA []]
theorem pl0_le (e : Int) : AVle (.tup [.agg [iV 0, .d (.v (.slice none 0 0))], iV e]) (.tup [pl0, iV e]) :=
  AVle.tup ⟨AVle.agg ⟨AVle.refl _, AVle.nil 2, trivial⟩, AVle.refl _, trivial⟩
def planA (u : Nat) : Option (List (Nat × Nat)) → AV
  | some l => .tup [.agg [iV u, tmsA l], iV 0]
  | none => .tup [pl0, iV 11]
theorem Ends.cell2le {P : Program} {env : List (Nat × AV)} {own : List Ent} {t p i : Nat} {tyc : TypeId} {l : List AV} {y r : AV} (hx : look env p = .opt i 0) (ho : own[i]? = some (.box l)) (ht : tyInfo P tyc = some (true, l.length)) (hy : look env t = y) (hr : AVle (AV.frz own [] (.tup [.agg l, y])) r) : Ends P [.cell p tyc, .tmp t] r [] .ret ⟨env, own⟩ :=
  ⟨.inl rfl, [], [.agg l, y], rfl, ⟨⟨i, l, true, hx, ho, ht, rfl⟩, hy, trivial⟩, hr, rfl⟩
theorem A_plan {M D u : Nat} {ps : List (List Nat)} {hv : List Bool} (h : CodeOk M D ps) (hl : hv.length = D + ps.length) (hu : u < D + ps.length) : ACalls Tryz.prog 82 [cdN M D ps, bools hv, iV u] [] (planA u (planN M D ps hv u)) [] := by
  have hl2 : (hv.set u false).length = D + ps.length := by rw [List.length_set]; exact hl
  have h1 := h.d
  have h2 := h.w
  have hfit := A_fits (M := M) (D := D) (hv := hv) (code_in h)
  have hpl : (toZ ps).length = ps.length := List.length_map _
  rw [valid_ok h, hpl, decide_eq_true (show (hv.length : Int) = D + (ps.length : Int) by omega), ← cdN_A] at hfit
  have hcl := A_cloneB (l := hv) (by omega) (by omega)
  have hcomb := A_comb h hl2 hu
  have hchk := A_checks (u := (u : Int)) h
  rw [chkZ_nat] at hchk
  have hIlt : ∀ i ∈ chkI D ps u ps.length, i < ps.length ∧ u ∈ checkN D i (ps.getD i []) := fun i hi => by
    obtain ⟨q1, q2⟩ := List.mem_filter.1 hi
    exact ⟨List.mem_range.1 q1, by simpa using q2⟩
  have hIl : (chkI D ps u ps.length).length ≤ ps.length := by rw [← chkZ_nat]; exact chkZ_length _ _ _ _
  have hterm := fun i hi => A_rterms h (hIlt i hi).1 (hIlt i hi).2
  have hcb := fun i => checkN_length D i (ps.getD i [])
  have hmem : ∀ i ∈ chkI D ps u ps.length, ∀ k ∈ checkN D i (ps.getD i []), k < D + ps.length := fun i hi k hk => (coef_ok h (hIlt i hi).1 hk).1
  have hcs := fun k (hk : k < (chkI D ps u ps.length).length) => Lib.hid (candC_take M D ps (hv.set u false) u (chkI D ps u ps.length) k hk)
  have hcl3 := fun k => candC_le M D ps (hv.set u false) u ((chkI D ps u ps.length).take k)
  have hP : planN M D ps hv u = bestN ((combN M D ps (hv.set u false) u).toList ++ candC M D ps (hv.set u false) u ((chkI D ps u ps.length).take (chkI D ps u ps.length).length)) := by rw [List.take_length]; rfl
  have hc0 : candC M D ps (hv.set u false) u ((chkI D ps u ps.length).take 0) = [] := rfl
  have hall : ∀ x ∈ (combN M D ps (hv.set u false) u).toList ++ candC M D ps (hv.set u false) u ((chkI D ps u ps.length).take (chkI D ps u ps.length).length), x.length ≤ 1000 := fun x hx => by
    rcases List.mem_append.1 hx with hx | hx
    · cases hc : combN M D ps (hv.set u false) u with
      | none => rw [hc] at hx; simp at hx
      | some y =>
        rw [hc] at hx
        obtain rfl : x = y := by simpa using hx
        have := (comb_ok h hl2 hu hc).le
        have := basis_len h hl2
        omega
    · unfold candC at hx
      obtain ⟨i, _, rfl⟩ := List.mem_map.1 hx
      have := cterms_le M D (ps.getD i []) (checkN D i (ps.getD i [])) u
      have := checkN_length D i (ps.getD i [])
      omega
  have hcombl : ∀ y, combN M D ps (hv.set u false) u = some y → y.length ≤ 1000 := fun y hc => hall y (by rw [hc]; simp)
  generalize chkI D ps u ps.length = I at *
  generalize planN M D ps hv u = PL at *
  generalize hC : (fun k => candC M D ps (hv.set u false) u (I.take k)) = CC at *
  have hC' : ∀ k, candC M D ps (hv.set u false) u (I.take k) = CC k := fun k => congrFun hC k
  simp only [hC'] at hcs hcl3 hP hc0 hall
  generalize combN M D ps (hv.set u false) u = CO at *
  generalize hCh : (fun i => checkN D i (ps.getD i [])) = CK at *
  have hCh' : ∀ i, checkN D i (ps.getD i []) = CK i := fun i => congrFun hCh i
  simp only [hCh'] at hterm hcb hmem hcs
  have hmis := fun k (hk : k < (hv.set u false).length) => A_missing (u := u) hk
  have hlo : (hv.set u false).length = D + ps.length := hl2
  have hmh : (hv.map tD).length = hv.length := List.length_map _
  refine acalls_of_body Tryz.func82 rfl (Nat.le_of_ble_eq_true rfl) ?_
  (repeat' (first
  | (apply yFb; exact rfl; exact rfl)
  | (apply W.qd; (first
    | (apply (yW (hfit)); exact rfl; exact rfl; (iterate 3 kernel_rfl))|(apply q_mv; (conv => lhs; whnf))|(apply q_as; (conv => lhs; whnf))|(apply yT; (iterate 4 exact rfl))|(apply yU; (iterate 4 exact rfl))|(apply q_lss; exact rfl; exact rfl)|(apply q_geq; exact rfl; exact rfl)|(apply q_not; exact rfl)|(apply yV; exact rfl; exact rfl)|(apply (yDb (u := .d _)); exact rfl; exact rfl)
    | (apply q_ix_osl0; (iterate 4 exact rfl); (first | (with_reducible exact rfl) | exact natI_spec rfl | assumption | exact (Int.toNat_of_nonneg (by omega)).symm); (first | omega | (focus (simp only [List.length_map]; omega)) | (focus (simp; done)) | (focus (simp; omega))))))
  | (apply W.ed; (first
    | (apply (e_callJ (js := []) (hcl)); (iterate 5 exact rfl); kernel_rfl; kernel_rfl)|(apply yBb; (iterate 3 exact rfl); kernel_rfl; kernel_rfl)
    | (apply yCb; (iterate 3 exact rfl); kernel_rfl)))
  | (apply W.ln; (first
    | (apply l_st_box; (iterate 6 exact rfl); (iterate 3 kernel_rfl))
    | (apply l_st_rpt; (iterate 7 exact rfl); exact fun _ => rfl; (first | omega | (focus (simp only [List.length_map]; omega)) | (focus (simp; omega))))))|(apply yA)|(apply yB)|(apply (W.regionS 5); exact rfl; kernel_rfl)|(apply yE)|(apply yH)
  | (refine W.cond _ rfl (fun hb => ?_) (fun hb => ?_) <;> ((try simp only [hb, zA, zB]) <;> (try simp only [zC, zD, zE, zF, zG, zH, zI, zJ] at hb) <;> (try (exfalso; omega))))))
  refine AWP.wk ⟨[(3, .opt 0 0), (5, .opt 1 0), (6, .opt 2 0), (7, iV 0), (8, .opt 3 0), (1, bools hv)], [.box [.d .any, iV M, iV D, rowsN ps, .d .any], .box [iV u], .box [iV 0, .d (.v (.slice none 0 0))], .box [bools (hv.set u false)]]⟩ ⟨[0, 1, 2, 4], rfl, rfl, ?wkPl, rfl, rfl, rfl, rfl, rfl, rfl, trivial⟩ ?_
  case wkPl =>
    have z := frz_rowJ (own := [.box [.d .any, iV M, iV D, rowsN ps, .d .any], .box [iV u], .box [iV 0, .d (.v (.slice none 0 0))], .row 1 1 4 ((hv.set u false).map tD), .box [.osl 3 1 0 hv.length]]) (js := [0, 1, 2, 4]) (i := 3) (ver := 1) (n := hv.length) rfl rfl (by simp)
    exact congrArg (fun z => [Ent.box [.d .any, iV M, iV D, rowsN ps, .d .any], .box [iV u], .box [iV 0, .d (.v (.slice none 0 0))], .box [z]]) z.symm
  generalize hv.set u false = OT at *
  (repeat' (first
  | (apply W.qd; (apply q_as; (conv => lhs; whnf)))|(apply yA)|(apply yB)|(apply (W.regionS 6); exact rfl; kernel_rfl)
  | (apply yE)))
  refine AWP.nilRow 9 1 82 rfl (by omega) ?_
  have hmi : ((I.map CK).map rnD).length = I.length := by simp
  have hmi2 : (I.map CK).length = I.length := by simp
  have e1 : ∀ (n : Nat), AV.osl 4 n 0 n = AV.osl 4 n 0 n := fun _ => rfl
  cases CO with
  | none => ?_
  | some t0 => ?_
  all_goals unfold termsA at hcomb
  all_goals dsimp only at hcomb
  all_goals (repeat' (first
  | (apply W.qd; (first
    | (apply (yW (hcomb)); exact rfl; exact rfl; (iterate 3 kernel_rfl))|(apply q_mv; (conv => lhs; whnf))|(apply q_as; (conv => lhs; whnf))|(apply yT; (iterate 4 exact rfl))|(apply yU; (iterate 4 exact rfl))|(apply q_eql; exact rfl; exact rfl)|(apply yAb; exact rfl; exact rfl)|(apply q_makeFunc)
    | (apply q_litF; (iterate 5 exact rfl); kernel_rfl; kernel_rfl; exact rfl)))|(apply W.ed; (apply e_appF; (iterate 8 exact rfl); (first | rfl | simp); (first | exact Nat.zero_lt_one | (focus (simp; done)) | omega); (first | (focus (simp; done)) | (focus (simp; omega)) | omega)))|(apply yA)|(apply yB)|(apply (W.regionS 10); exact rfl; kernel_rfl)|(apply yE)|(apply yH)|(apply yQ; exact rfl)
  | (apply yR; exact rfl)))
  rotate_left
  · refine AWP.wk ⟨[(9, .osl 4 [t0].length 0 [t0].length), (12, .fn 137 [.opt 1 0, .opt 3 0]), (3, .opt 0 0), (5, .opt 1 0), (6, .opt 2 0), (7, iV 0)], [.box [.d .any, iV M, iV D, rowsN ps, .d .any], .box [iV u], .box [iV 0, .d (.v (.slice none 0 0))], .box [bools OT], .row [t0].length 1 82 ([t0].map tlD)]⟩ ⟨[0, 1, 2, 3, 4], rfl, rfl, rfl, rfl, rfl, rfl, rfl, rfl, rfl, trivial⟩ ?_
    have hB1 : [t0].length ≤ 1 := Nat.le_refl _
    rw [show (some t0).toList = [t0] from rfl] at hP hall
    generalize [t0] = B at *
    (repeat' (first
  | (apply W.qd; (first
    | (apply (yW (hchk)); exact rfl; exact rfl; (iterate 3 kernel_rfl))|(apply q_mv; (conv => lhs; whnf))|(apply yT; (iterate 4 exact rfl))|(apply yU; (iterate 4 exact rfl))
    | (apply yV; exact rfl; exact rfl)))|(apply yB)|(apply yC; kernel_rfl)|(apply yE)
  | (apply yG)))
    refine AWP.loopW (α := Nat) (fun k => k ≤ I.length) (fun k => ⟨[(55, iV k), (54, iV I.length), (53, rowsN (I.map CK)), (9, .osl 4 (B ++ CC k).length 0 (B ++ CC k).length), (12, .fn 137 [.opt 1 0, .opt 3 0]), (3, .opt 0 0), (5, .opt 1 0), (6, .opt 2 0), (7, iV 0)], [.box [.d .any, iV M, iV D, rowsN ps, .d .any], .box [iV u], .box [iV 0, .d (.v (.slice none 0 0))], .box [bools OT], .row (B ++ CC k).length 1 82 ((B ++ CC k).map tlD)]⟩) (fun k => I.length - k) 0 (by omega) ?wkA fun k hk => ?_
    case wkA =>
      rw [hc0, List.append_nil]
      exact ⟨[0, 1, 2, 3, 4], rfl, rfl, rfl, rfl, iV_eq (by simp), rfl, rfl, rfl, rfl, rfl, rfl, rfl, trivial⟩
    have hlL : (B ++ CC k).length ≤ 100 := by
      have := hcl3 k
      rw [List.length_append]
      rw [List.length_take] at this
      omega
    by_cases hkI : k < I.length
    · have hIk := List.getElem_mem hkI
      have eK : (I.map CK)[k]'(by simpa using hkI) = CK I[k] := List.getElem_map _
      have hs2 := hcs k hkI
      have ht1 := hterm I[k] hIk
      have hcbk := hcb I[k]
      have hcf := A_contains_int (O := [.box [iV u], .box [bools OT]]) (g := 137) (caps := [.opt 0 0, .opt 1 0]) (misZ OT u) ((CK I[k]).map fun n : Nat => (n : Int)) (by rw [List.length_map]; omega) (by kernel_rfl) (fun x hx => by
        obtain ⟨y, hy, rfl⟩ := List.mem_map.1 hx
        exact hmis y (by rw [hlo]; exact hmem _ hIk y hy))
      rw [misZ_full, ← nats_ints] at hcf
      have htl := cterms_le M D (ps.getD I[k] []) (CK I[k]) u
      generalize ctermsN M D (ps.getD I[k] []) (CK I[k]) u = TT at *
      rw [← eK] at ht1 hcf
      rw [← eK] at hs2
      cases hfu : fullC OT ((I.map CK)[k]'(by simpa using hkI)) u <;> rw [hfu] at hcf hs2
      · replace hs2 := Lib.hid (hs2.out.trans (if_neg (by decide)))
        (repeat' (first
  | (apply W.qd; (first
    | (apply q_mv; (conv => lhs; whnf))|(apply q_as; (conv => lhs; whnf))|(apply q_lss; exact rfl; exact rfl)|(apply q_not; exact rfl)|(apply q_add; exact rfl; exact rfl; omega)|(apply yX; (iterate 3 exact rfl); (first | omega | (focus (simp; done))))
    | (apply yGb; (iterate 4 exact rfl); (first | (with_reducible exact rfl) | exact natI_spec rfl | assumption | exact (Int.toNat_of_nonneg (by omega)).symm); (first | omega | (focus (simp only [List.length_map]; omega)) | (focus (simp; done)) | (focus (simp; omega))))))|(apply W.ed; (apply (e_callJ (js := [1, 3]) (hcf)); (iterate 5 exact rfl); kernel_rfl; kernel_rfl))|(apply yA)|(apply yB)|(apply yC; kernel_rfl)|(apply yE)|(apply yG)|(apply yH)|(apply yL)|(apply yR; exact rfl)
  | (refine W.cond _ rfl (fun hb => ?_) (fun hb => ?_) <;> ((try simp only [hb, zA, zB]) <;> (try simp only [zC, zD, zE, zF, zG, zH, zI, zJ] at hb) <;> (try (exfalso; omega))))))
        refine ⟨k + 1, by omega, by omega, ?_⟩
        rw [hs2.out]
        exact ⟨[0, 1, 2, 3, 4], rfl, rfl, rfl, iV_eq (by omega), rfl, rfl, rfl, rfl, rfl, rfl, rfl, rfl, trivial⟩
      · replace hs2 := Lib.hid (hs2.out.trans (if_pos rfl))
        (repeat' (first
  | (apply W.qd; (first
    | (apply (yW (ht1)); exact rfl; exact rfl; (iterate 3 kernel_rfl))|(apply q_mv; (conv => lhs; whnf))|(apply q_as; (conv => lhs; whnf))|(apply yT; (iterate 4 exact rfl))|(apply yU; (iterate 4 exact rfl))|(apply q_lss; exact rfl; exact rfl)|(apply q_not; exact rfl)|(apply q_add; exact rfl; exact rfl; omega)|(apply yX; (iterate 3 exact rfl); (first | omega | (focus (simp; done))))|(apply q_litF; (iterate 5 exact rfl); kernel_rfl; kernel_rfl; exact rfl)
    | (apply yGb; (iterate 4 exact rfl); (first | (with_reducible exact rfl) | exact natI_spec rfl | assumption | exact (Int.toNat_of_nonneg (by omega)).symm); (first | omega | (focus (simp only [List.length_map]; omega)) | (focus (simp; done)) | (focus (simp; omega))))))|(apply W.ld; (apply l_app1; (iterate 8 exact rfl); (first | omega | (focus (simp; omega)) | (focus (simp; done)))))|(apply W.ed; (apply (e_callJ (js := [1, 3]) (hcf)); (iterate 5 exact rfl); kernel_rfl; kernel_rfl))|(apply yA)|(apply yB)|(apply yC; kernel_rfl)|(apply yE)|(apply yG)|(apply yH)|(apply yL)|(apply yQ; exact rfl)
  | (refine W.cond _ rfl (fun hb => ?_) (fun hb => ?_) <;> ((try simp only [hb, zA, zB]) <;> (try simp only [zC, zD, zE, zF, zG, zH, zI, zJ] at hb) <;> (try (exfalso; omega))))))
        refine ⟨k + 1, by omega, by omega, ?_⟩
        rw [hs2.out, ← List.append_assoc, show ((B ++ CC k) ++ [TT]).length = (B ++ CC k).length + 1 by simp; omega]
        exact ⟨[0, 1, 2, 3, 4], rfl, rfl, rfl, iV_eq (by omega), rfl, rfl, congrArg (AV.osl 4 ((B ++ CC k).length + 1) 0) (by simp), rfl, rfl, rfl, rfl, rfl, trivial⟩
    · have e3 : k = I.length := by omega
      subst e3
      rw [hP]
      generalize B ++ CC I.length = L at *
      refine AWP.wk ⟨[(55, iV I.length), (54, iV I.length), (9, tlsA L), (3, .opt 0 0), (5, .opt 1 0), (6, .opt 2 0), (7, iV 0)], [.box [.d .any, iV M, iV D, rowsN ps, .d .any], .box [iV u], .box [iV 0, .d (.v (.slice none 0 0))], .box [bools OT]]⟩ ⟨[0, 1, 2, 3], rfl, rfl, rfl, rfl, rfl, (frz_rowJ rfl rfl (by simp)).symm, rfl, rfl, rfl, rfl, trivial⟩ ?_
      have hmL : (L.map tlD).length = L.length := List.length_map _
      by_cases hL0 : L = []
      · subst hL0
        (repeat' (first
  | (apply W.qd; (first
    | (apply q_mv; (conv => lhs; whnf))|(apply q_as; (conv => lhs; whnf))|(apply q_lss; exact rfl; exact rfl)|(apply q_eql; exact rfl; exact rfl)|(apply yV; exact rfl; exact rfl)
    | (apply yZ; exact rfl; exact rfl; kernel_rfl)))|(apply W.ln; (apply l_st_box; (iterate 6 exact rfl); (iterate 3 kernel_rfl)))|(apply yA)|(apply yB)|(apply yC; kernel_rfl)|(apply yE)|(apply yI)|(apply yJ)|(apply yK)|(apply yP)|(apply yM)|(apply yQ; exact rfl)
  | (refine W.cond _ rfl (fun hb => ?_) (fun hb => ?_) <;> ((try simp only [hb, zA, zB]) <;> (try simp only [zC, zD, zE, zF, zG, zH, zI, zJ] at hb) <;> (try (exfalso; omega))))))
        exact Ends.cell2le rfl rfl rfl rfl (pl0_le 11)
      · have hLp : 0 < L.length := List.length_pos_iff.2 hL0
        have hmin := A_minFunc L hLp (by omega) (fun t ht => by have := hall t ht; omega)
        have hbs : bestN L = some ((bestN L).getD []) := by
          cases L with
          | nil => exact absurd rfl hL0
          | cons a l => rfl
        rw [hbs]
        generalize (bestN L).getD [] = RR at *
        (repeat' (first
  | (apply W.qd; (first
    | (apply q_mv; (conv => lhs; whnf))|(apply q_as; (conv => lhs; whnf))|(apply yT; (iterate 4 exact rfl))|(apply q_lss; exact rfl; exact rfl)|(apply q_eql; exact rfl; exact rfl)|(apply yV; exact rfl; exact rfl)|(apply yZ; exact rfl; exact rfl; kernel_rfl)
    | (apply q_makeFunc)))
  | (apply W.ed; (first
    | (apply (e_callJ (js := [4]) (hmin)); (iterate 5 exact rfl); kernel_rfl; kernel_rfl)
    | (apply yCb; (iterate 3 exact rfl); kernel_rfl)))|(apply W.ln; (apply l_st_box; (iterate 6 exact rfl); (iterate 3 kernel_rfl)))|(apply yA)|(apply yB)|(apply yC; kernel_rfl)|(apply yE)|(apply yH)|(apply yI)|(apply yJ)|(apply yK)|(apply yM)
  | (refine W.cond _ rfl (fun hb => ?_) (fun hb => ?_) <;> ((try simp only [hb, zA, zB]) <;> (try simp only [zC, zD, zE, zF, zG, zH, zI, zJ] at hb) <;> (try (exfalso; omega))))))
        exact Ends.cell2 rfl rfl rfl rfl rfl
  · refine AWP.wk ⟨[(9, .osl 4 ([] : List (List (Nat × Nat))).length 0 ([] : List (List (Nat × Nat))).length), (12, .fn 137 [.opt 1 0, .opt 3 0]), (3, .opt 0 0), (5, .opt 1 0), (6, .opt 2 0), (7, iV 0)], [.box [.d .any, iV M, iV D, rowsN ps, .d .any], .box [iV u], .box [iV 0, .d (.v (.slice none 0 0))], .box [bools OT], .row ([] : List (List (Nat × Nat))).length 1 82 (([] : List (List (Nat × Nat))).map tlD)]⟩ ⟨[0, 1, 2, 3, 4], rfl, rfl, rfl, rfl, rfl, rfl, rfl, rfl, rfl, trivial⟩ ?_
    have hB1 : ([] : List (List (Nat × Nat))).length ≤ 1 := Nat.zero_le _
    rw [show (none : Option (List (Nat × Nat))).toList = [] from rfl] at hP hall
    generalize ([] : List (List (Nat × Nat))) = B at hP hall hB1 ⊢
    (repeat' (first
  | (apply W.qd; (first
    | (apply (yW (hchk)); exact rfl; exact rfl; (iterate 3 kernel_rfl))|(apply q_mv; (conv => lhs; whnf))|(apply yT; (iterate 4 exact rfl))|(apply yU; (iterate 4 exact rfl))
    | (apply yV; exact rfl; exact rfl)))|(apply yB)|(apply yC; kernel_rfl)|(apply yE)
  | (apply yG)))
    refine AWP.loopW (α := Nat) (fun k => k ≤ I.length) (fun k => ⟨[(55, iV k), (54, iV I.length), (53, rowsN (I.map CK)), (9, .osl 4 (B ++ CC k).length 0 (B ++ CC k).length), (12, .fn 137 [.opt 1 0, .opt 3 0]), (3, .opt 0 0), (5, .opt 1 0), (6, .opt 2 0), (7, iV 0)], [.box [.d .any, iV M, iV D, rowsN ps, .d .any], .box [iV u], .box [iV 0, .d (.v (.slice none 0 0))], .box [bools OT], .row (B ++ CC k).length 1 82 ((B ++ CC k).map tlD)]⟩) (fun k => I.length - k) 0 (by omega) ?wkA fun k hk => ?_
    case wkA =>
      rw [hc0, List.append_nil]
      exact ⟨[0, 1, 2, 3, 4], rfl, rfl, rfl, rfl, iV_eq (by simp), rfl, rfl, rfl, rfl, rfl, rfl, rfl, trivial⟩
    have hlL : (B ++ CC k).length ≤ 100 := by
      have := hcl3 k
      rw [List.length_append]
      rw [List.length_take] at this
      omega
    by_cases hkI : k < I.length
    · have hIk := List.getElem_mem hkI
      have eK : (I.map CK)[k]'(by simpa using hkI) = CK I[k] := List.getElem_map _
      have hs2 := hcs k hkI
      have ht1 := hterm I[k] hIk
      have hcbk := hcb I[k]
      have hcf := A_contains_int (O := [.box [iV u], .box [bools OT]]) (g := 137) (caps := [.opt 0 0, .opt 1 0]) (misZ OT u) ((CK I[k]).map fun n : Nat => (n : Int)) (by rw [List.length_map]; omega) (by kernel_rfl) (fun x hx => by
        obtain ⟨y, hy, rfl⟩ := List.mem_map.1 hx
        exact hmis y (by rw [hlo]; exact hmem _ hIk y hy))
      rw [misZ_full, ← nats_ints] at hcf
      have htl := cterms_le M D (ps.getD I[k] []) (CK I[k]) u
      generalize ctermsN M D (ps.getD I[k] []) (CK I[k]) u = TT at *
      rw [← eK] at ht1 hcf
      rw [← eK] at hs2
      cases hfu : fullC OT ((I.map CK)[k]'(by simpa using hkI)) u <;> rw [hfu] at hcf hs2
      · replace hs2 := Lib.hid (hs2.out.trans (if_neg (by decide)))
        (repeat' (first
  | (apply W.qd; (first
    | (apply q_mv; (conv => lhs; whnf))|(apply q_as; (conv => lhs; whnf))|(apply q_lss; exact rfl; exact rfl)|(apply q_not; exact rfl)|(apply q_add; exact rfl; exact rfl; omega)|(apply yX; (iterate 3 exact rfl); (first | omega | (focus (simp; done))))
    | (apply yGb; (iterate 4 exact rfl); (first | (with_reducible exact rfl) | exact natI_spec rfl | assumption | exact (Int.toNat_of_nonneg (by omega)).symm); (first | omega | (focus (simp only [List.length_map]; omega)) | (focus (simp; done)) | (focus (simp; omega))))))|(apply W.ed; (apply (e_callJ (js := [1, 3]) (hcf)); (iterate 5 exact rfl); kernel_rfl; kernel_rfl))|(apply yA)|(apply yB)|(apply yC; kernel_rfl)|(apply yE)|(apply yG)|(apply yH)|(apply yL)|(apply yR; exact rfl)
  | (refine W.cond _ rfl (fun hb => ?_) (fun hb => ?_) <;> ((try simp only [hb, zA, zB]) <;> (try simp only [zC, zD, zE, zF, zG, zH, zI, zJ] at hb) <;> (try (exfalso; omega))))))
        refine ⟨k + 1, by omega, by omega, ?_⟩
        rw [hs2.out]
        exact ⟨[0, 1, 2, 3, 4], rfl, rfl, rfl, iV_eq (by omega), rfl, rfl, rfl, rfl, rfl, rfl, rfl, rfl, trivial⟩
      · replace hs2 := Lib.hid (hs2.out.trans (if_pos rfl))
        (repeat' (first
  | (apply W.qd; (first
    | (apply (yW (ht1)); exact rfl; exact rfl; (iterate 3 kernel_rfl))|(apply q_mv; (conv => lhs; whnf))|(apply q_as; (conv => lhs; whnf))|(apply yT; (iterate 4 exact rfl))|(apply yU; (iterate 4 exact rfl))|(apply q_lss; exact rfl; exact rfl)|(apply q_not; exact rfl)|(apply q_add; exact rfl; exact rfl; omega)|(apply yX; (iterate 3 exact rfl); (first | omega | (focus (simp; done))))|(apply q_litF; (iterate 5 exact rfl); kernel_rfl; kernel_rfl; exact rfl)
    | (apply yGb; (iterate 4 exact rfl); (first | (with_reducible exact rfl) | exact natI_spec rfl | assumption | exact (Int.toNat_of_nonneg (by omega)).symm); (first | omega | (focus (simp only [List.length_map]; omega)) | (focus (simp; done)) | (focus (simp; omega))))))|(apply W.ld; (apply l_app1; (iterate 8 exact rfl); (first | omega | (focus (simp; omega)) | (focus (simp; done)))))|(apply W.ed; (apply (e_callJ (js := [1, 3]) (hcf)); (iterate 5 exact rfl); kernel_rfl; kernel_rfl))|(apply yA)|(apply yB)|(apply yC; kernel_rfl)|(apply yE)|(apply yG)|(apply yH)|(apply yL)|(apply yQ; exact rfl)
  | (refine W.cond _ rfl (fun hb => ?_) (fun hb => ?_) <;> ((try simp only [hb, zA, zB]) <;> (try simp only [zC, zD, zE, zF, zG, zH, zI, zJ] at hb) <;> (try (exfalso; omega))))))
        refine ⟨k + 1, by omega, by omega, ?_⟩
        rw [hs2.out, ← List.append_assoc, show ((B ++ CC k) ++ [TT]).length = (B ++ CC k).length + 1 by simp; omega]
        exact ⟨[0, 1, 2, 3, 4], rfl, rfl, rfl, iV_eq (by omega), rfl, rfl, congrArg (AV.osl 4 ((B ++ CC k).length + 1) 0) (by simp), rfl, rfl, rfl, rfl, rfl, trivial⟩
    · have e3 : k = I.length := by omega
      subst e3
      rw [hP]
      generalize B ++ CC I.length = L at *
      refine AWP.wk ⟨[(55, iV I.length), (54, iV I.length), (9, tlsA L), (3, .opt 0 0), (5, .opt 1 0), (6, .opt 2 0), (7, iV 0)], [.box [.d .any, iV M, iV D, rowsN ps, .d .any], .box [iV u], .box [iV 0, .d (.v (.slice none 0 0))], .box [bools OT]]⟩ ⟨[0, 1, 2, 3], rfl, rfl, rfl, rfl, rfl, (frz_rowJ rfl rfl (by simp)).symm, rfl, rfl, rfl, rfl, trivial⟩ ?_
      have hmL : (L.map tlD).length = L.length := List.length_map _
      by_cases hL0 : L = []
      · subst hL0
        (repeat' (first
  | (apply W.qd; (first
    | (apply q_mv; (conv => lhs; whnf))|(apply q_as; (conv => lhs; whnf))|(apply q_lss; exact rfl; exact rfl)|(apply q_eql; exact rfl; exact rfl)|(apply yV; exact rfl; exact rfl)
    | (apply yZ; exact rfl; exact rfl; kernel_rfl)))|(apply W.ln; (apply l_st_box; (iterate 6 exact rfl); (iterate 3 kernel_rfl)))|(apply yA)|(apply yB)|(apply yC; kernel_rfl)|(apply yE)|(apply yI)|(apply yJ)|(apply yK)|(apply yP)|(apply yM)|(apply yQ; exact rfl)
  | (refine W.cond _ rfl (fun hb => ?_) (fun hb => ?_) <;> ((try simp only [hb, zA, zB]) <;> (try simp only [zC, zD, zE, zF, zG, zH, zI, zJ] at hb) <;> (try (exfalso; omega))))))
        exact Ends.cell2le rfl rfl rfl rfl (pl0_le 11)
      · have hLp : 0 < L.length := List.length_pos_iff.2 hL0
        have hmin := A_minFunc L hLp (by omega) (fun t ht => by have := hall t ht; omega)
        have hbs : bestN L = some ((bestN L).getD []) := by
          cases L with
          | nil => exact absurd rfl hL0
          | cons a l => rfl
        rw [hbs]
        generalize (bestN L).getD [] = RR at *
        (repeat' (first
  | (apply W.qd; (first
    | (apply q_mv; (conv => lhs; whnf))|(apply q_as; (conv => lhs; whnf))|(apply yT; (iterate 4 exact rfl))|(apply q_lss; exact rfl; exact rfl)|(apply q_eql; exact rfl; exact rfl)|(apply yV; exact rfl; exact rfl)|(apply yZ; exact rfl; exact rfl; kernel_rfl)
    | (apply q_makeFunc)))
  | (apply W.ed; (first
    | (apply (e_callJ (js := [4]) (hmin)); (iterate 5 exact rfl); kernel_rfl; kernel_rfl)
    | (apply yCb; (iterate 3 exact rfl); kernel_rfl)))|(apply W.ln; (apply l_st_box; (iterate 6 exact rfl); (iterate 3 kernel_rfl)))|(apply yA)|(apply yB)|(apply yC; kernel_rfl)|(apply yE)|(apply yH)|(apply yI)|(apply yJ)|(apply yK)|(apply yM)
  | (refine W.cond _ rfl (fun hb => ?_) (fun hb => ?_) <;> ((try simp only [hb, zA, zB]) <;> (try simp only [zC, zD, zE, zF, zG, zH, zI, zJ] at hb) <;> (try (exfalso; omega))))))
        exact Ends.cell2 rfl rfl rfl rfl rfl
end Go.Proofs.YtcljokdiblnhiaaGreatDoor
end
section
namespace Go.Proofs.YtcljokdiblnhiaaGreatDoor
open Go.RowKit
set_option maxHeartbeats 4000000
set_option maxRecDepth 100000
attribute [local irreducible] Quiet Eff OpOk AWPG ACont ABlock ACalls AGoto
def tzD (t : Int × Int) : List Dat := [.v (.int .i64 t.1), .v (.int .i64 t.2)]
abbrev tmsZ (l : List (Int × Int)) : AV := .d (.sl 2 (l.map tzD))
theorem tms_tmsZ (l : List (Nat × Nat)) : tmsA l = tmsZ (l.map fun t => ((t.1 : Int), (t.2 : Int))) := by
  unfold tmsA tmsZ
  rw [List.map_map]
  rfl
theorem A_readsZ {u : Int} {l : List (Int × Int)} (hl : l.length ≤ 100000) : ACalls Tryz.prog 95 [.agg [iV u, tmsZ l]] [] (ints (l.map (·.1))) [] := by
  refine acalls_of_body Tryz.func95 rfl (Nat.le_of_ble_eq_true rfl) ?_
  have hml : (l.map tzD).length = l.length := List.length_map _
  (repeat' (first
  | (apply W.qd; (apply q_as; (conv => lhs; whnf)))|(apply W.ed; (apply yBb; (iterate 3 exact rfl); kernel_rfl; kernel_rfl))|(apply yA)|(apply yB)|(apply (W.regionS 2); exact rfl; kernel_rfl)
  | (apply yE)))
  refine AWP.nilRow 3 1 3 rfl (by omega) ?_
  (repeat' (first
  | (apply W.qd; (first
    | (apply q_mv; (conv => lhs; whnf))|(apply yS; (iterate 3 exact rfl))|(apply yT; (iterate 4 exact rfl))
    | (apply yV; exact rfl; exact rfl)))|(apply yB)|(apply (W.regionS 1); exact rfl; kernel_rfl)|(apply yE)
  | (apply yG)))
  refine AWP.loopW (α := Nat) (fun k => k ≤ l.length) (fun k => ⟨[(9, iV k), (8, iV l.length), (7, tmsZ l), (3, .osl 1 ((l.take k).map (·.1)).length 0 ((l.take k).map (·.1)).length)], [.box [iV u, tmsZ l], .row ((l.take k).map (·.1)).length 1 3 (((l.take k).map (·.1)).map iD)]⟩) (fun k => l.length - k) 0 (by omega) ⟨[0, 1], rfl, rfl, rfl, iV_eq (by simp), iV_eq (by rw [hml]), rfl, rfl, trivial⟩ fun k hk => ?_
  have hlk : ((l.take k).map (·.1)).length ≤ 100000 := by rw [List.length_map, List.length_take]; omega
  by_cases hkl : k < l.length
  · have e1 : (l.take (k + 1)).map (·.1) = (l.take k).map (·.1) ++ [l[k].1] := by rw [List.take_succ_eq_append_getElem hkl, List.map_append]; rfl
    generalize hA : (l.take k).map (·.1) = A at *
    (repeat' (first
  | (apply W.qd; (first
    | (apply q_mv; (conv => lhs; whnf))|(apply q_as; (conv => lhs; whnf))|(apply yS; (iterate 3 exact rfl))|(apply yT; (iterate 4 exact rfl))|(apply q_lss; exact rfl; exact rfl)|(apply q_add; exact rfl; exact rfl; omega)|(apply yY; (iterate 3 exact rfl); (first | omega | (focus (simp; done))))|(apply q_litF; (iterate 5 exact rfl); kernel_rfl; kernel_rfl; exact rfl)
    | (apply yGb; (iterate 4 exact rfl); (first | (with_reducible exact rfl) | exact natI_spec rfl | assumption | exact (Int.toNat_of_nonneg (by omega)).symm); (first | omega | (focus (simp only [List.length_map]; omega)) | (focus (simp; done)) | (focus (simp; omega))))))|(apply W.ld; (apply l_app1; (iterate 8 exact rfl); (first | omega | (focus (simp; omega)) | (focus (simp; done)))))|(apply W.ed; (apply yCb; (iterate 3 exact rfl); kernel_rfl))|(apply W.ln; (apply l_st_box; (iterate 6 exact rfl); (iterate 3 kernel_rfl)))|(apply yA)|(apply yB)|(apply yC; kernel_rfl)|(apply yE)|(apply yG)|(apply yH)|(apply yL)
  | (refine W.cond _ rfl (fun hb => ?_) (fun hb => ?_) <;> ((try simp only [hb, zA, zB]) <;> (try simp only [zC, zD, zE, zF, zG, zH, zI, zJ] at hb) <;> (try (exfalso; omega))))))
    refine ⟨k + 1, by omega, by omega, ?_⟩
    rw [e1, show (A ++ [l[k].1]).length = A.length + 1 by simp]
    exact ⟨[0, 1], rfl, rfl, rfl, iV_eq (by omega), rfl, rfl, congrArg (AV.osl 1 (A.length + 1) 0) (by simp), trivial⟩
  · have e : k = l.length := by omega
    subst e
    rw [List.take_length]
    generalize l.map (·.1) = A at *
    (repeat' (first
  | (apply W.qd; (first
    | (apply q_mv; (conv => lhs; whnf))|(apply q_as; (conv => lhs; whnf))
    | (apply q_lss; exact rfl; exact rfl)))|(apply yA)|(apply yB)|(apply yC; kernel_rfl)|(apply yE)|(apply yI)|(apply yJ)|(apply yK)|(apply yM)
  | (refine W.cond _ rfl (fun hb => ?_) (fun hb => ?_) <;> ((try simp only [hb, zA, zB]) <;> (try simp only [zC, zD, zE, zF, zG, zH, zI, zJ] at hb) <;> (try (exfalso; omega))))))
    exact Ends.osl rfl rfl (by simp) rfl
end Go.Proofs.YtcljokdiblnhiaaGreatDoor
end
section
namespace Go.Proofs.YtcljokdiblnhiaaGreatDoor
open Go.RowKit
set_option maxHeartbeats 4000000
set_option maxRecDepth 100000
def outZ (n : Nat) (k : Int) : Bool := decide (k < 0) || decide ((n : Int) ≤ k)
def readZ (us : List (List Nat)) (l : List (Int × Int)) : List (List Nat) := l.map fun t => us.getD t.1.toNat []
attribute [local irreducible] Quiet Eff OpOk AWPG ACont ABlock ACalls AGoto
theorem A_outside {us : List (List Nat)} {k : Int} (hu : us.length ≤ 1000000) : ACalls Tryz.prog 93 [iV k, .opt 0 0] [.box [strs us]] (bV (outZ us.length k)) [.box [strs us]] := by
  refine acalls_of_bodyO Tryz.func93 rfl (Nat.le_of_ble_eq_true rfl) ?_
  have hmu : (us.map sD).length = us.length := List.length_map _
  unfold outZ
  by_cases h0 : k < 0
  · rw [decide_eq_true h0, Bool.true_or]
    (repeat' (first
  | (apply W.qd; (first
    | (apply q_mv; (conv => lhs; whnf))|(apply q_as; (conv => lhs; whnf))|(apply q_lss; exact rfl; exact rfl)
    | (apply (yEb (u := .d _)); exact rfl; exact rfl)))|(refine W.gOff _ _ rfl rfl (by intro h; cases h) ?_)|(apply yA)|(apply yB)|(apply yC; kernel_rfl)|(apply yE)|(apply yJ)
  | (refine W.gF _ _ rfl rfl (fun hb => ?_) (fun hb => ?_) <;> ((try simp only [hb, zA, zB]) <;> (try simp only [zC, zD, zE, zF, zG, zH, zI, zJ] at hb) <;> (try (exfalso; omega))))))
    all_goals exact ⟨.inl rfl, [0], [bV true], rfl, rfl, ⟨rfl, trivial⟩, AVle.of_eq rfl, rfl⟩
  · rw [decide_eq_false h0, Bool.false_or]
    (repeat' (first
  | (apply yFb; exact rfl; exact rfl)
  | (apply W.qd; (first
    | (apply q_mv; (conv => lhs; whnf))|(apply q_as; (conv => lhs; whnf))|(apply yT; (iterate 4 exact rfl))|(apply q_lss; exact rfl; exact rfl)|(apply q_geq; exact rfl; exact rfl)|(apply yV; exact rfl; exact rfl)
    | (apply (yDb (u := .d _)); exact rfl; exact rfl)))|(apply yA)|(apply yB)|(apply yC; kernel_rfl)|(apply yE)|(apply yJ)
  | (refine W.gF _ _ rfl rfl (fun hb => ?_) (fun hb => ?_) <;> ((try simp only [hb, zA, zB]) <;> (try simp only [zC, zD, zE, zF, zG, zH, zI, zJ] at hb) <;> (try (exfalso; omega))))))
    all_goals exact ⟨.inl rfl, [0], [bV (decide ((us.length : Int) ≤ k))], rfl, rfl, ⟨by simp only [hmu]; rfl, trivial⟩, AVle.of_eq rfl, rfl⟩
theorem A_applyOk {M D u e : Int} {par : List (List Int)} {us : List (List Nat)} {l : List (Int × Int)} {s : List Nat} (hp : CodeIn par) (hV : validC M D par = true) (hw : (us.length : Int) = D + (par.length : Int)) (hus : us.length ≤ 1000) (hu : outZ us.length u = false) (hl : ∀ t ∈ l, outZ us.length t.1 = false) (hll : l.length ≤ 1000)
    (hc : ACalls Tryz.prog 92 [iV M, ints (l.map (·.2)), strs (readZ us l)] [] (.tup [bS s, iV e]) []) :
    ACalls Tryz.prog 42 [cdA M D par, .agg [iV u, tmsZ l], strs us] [] (.tup [bS s, iV e]) [] := by
  refine acalls_of_body Tryz.func42 rfl (Nat.le_of_ble_eq_true rfl) ?_
  have hmu : (us.map sD).length = us.length := List.length_map _
  have hml : (l.map tzD).length = l.length := List.length_map _
  have hv := A_evalid (M := M) (D := D) hp
  have hwd := A_ewidth (M := M) (D := D) hp
  rw [hV] at hv hwd
  rw [if_pos rfl, ← hw] at hwd
  have ho := A_outside (us := us) (k := u) (by omega)
  rw [hu] at ho
  have hrd := A_readsZ (u := u) (l := l) (by omega)
  have hcf := A_contains_int (O := [.box [strs us]]) (g := 93) (caps := [.opt 0 0]) (outZ us.length) (l.map (·.1)) (by rw [List.length_map]; omega) (by kernel_rfl) (fun x _ => A_outside (by omega))
  have hno : (l.map (·.1)).any (outZ us.length) = false := by
    rw [List.any_eq_false]
    intro x hx
    obtain ⟨t, ht, rfl⟩ := List.mem_map.1 hx
    rw [hl t ht]; simp
  rw [hno] at hcf
  have hlt : ∀ k (hk : k < l.length), ∃ q : Nat, l[k].1 = (q : Int) ∧ q < us.length := fun k hk => by
    have h1 := hl l[k] (List.getElem_mem _)
    unfold outZ at h1
    rw [Bool.or_eq_false_iff, decide_eq_false_iff_not, decide_eq_false_iff_not] at h1
    exact ⟨l[k].1.toNat, by omega, by omega⟩
  (repeat' (first
  | (apply yFb; exact rfl; exact rfl)
  | (apply W.qd; (first
    | (apply (q_callR (js := [2]) (ho)); (iterate 3 exact rfl); exact fun _ => rfl; exact fun _ => rfl; kernel_rfl; kernel_rfl)|(apply (yW (hv)); exact rfl; exact rfl; (iterate 3 kernel_rfl))|(apply (yW (hwd)); exact rfl; exact rfl; (iterate 3 kernel_rfl))|(apply (yW (hrd)); exact rfl; exact rfl; (iterate 3 kernel_rfl))|(apply (q_callR (js := [2]) (hcf)); (iterate 3 exact rfl); exact fun _ => rfl; exact fun _ => rfl; kernel_rfl; kernel_rfl)|(apply q_mv; (conv => lhs; whnf))|(apply q_as; (conv => lhs; whnf))|(apply yS; (iterate 3 exact rfl))|(apply yT; (iterate 4 exact rfl))|(apply yU; (iterate 4 exact rfl))|(apply q_neq; exact rfl; exact rfl)|(apply q_not; exact rfl)|(apply yV; exact rfl; exact rfl)|(apply q_makeFunc)
    | (apply (yDb (u := .d _)); exact rfl; exact rfl)))|(apply W.ed; (apply yBb; (iterate 3 exact rfl); kernel_rfl; kernel_rfl))|(apply yA)|(apply yB)|(apply yC; kernel_rfl)|(apply yD; exact rfl; kernel_rfl)|(apply yE)|(apply yF; kernel_rfl)|(apply yG)|(apply yH)|(apply yR; exact rfl)
  | (refine W.gF _ _ rfl rfl (fun hb => ?_) (fun hb => ?_) <;> ((try simp only [hb, zA, zB]) <;> (try simp only [zC, zD, zE, zF, zG, zH, zI, zJ] at hb) <;> (try (exfalso; omega))))))
  refine AWP.nilRow 9 1 3 rfl (by omega) ?_
  refine AWP.nilRow 10 1 9 rfl (by omega) ?_
  refine AWP.loopW (α := Nat) (fun k => k ≤ l.length) (fun k => ⟨[(39, iV k), (38, iV l.length), (37, tmsZ l), (9, .osl 3 k 0 ((l.take k).map (·.2)).length), (10, .osl 4 k 0 (readZ us (l.take k)).length), (3, .opt 0 0), (4, .opt 1 0), (5, .opt 2 0)], [.box [.d .any, iV M, iV D, .d (.sl 1 (par.map rD)), .d .any], .box [iV u, tmsZ l], .box [strs us], .row k 1 3 (((l.take k).map (·.2)).map iD), .row k 1 9 ((readZ us (l.take k)).map sD)]⟩) (fun k => l.length - k) 0 (by omega) ⟨[0, 1, 2, 3, 4], rfl, rfl, rfl, iV_eq (by simp), iV_eq (by rw [hml]), rfl, rfl, rfl, rfl, rfl, rfl, trivial⟩ fun k hk => ?_
  by_cases hkl : k < l.length
  · obtain ⟨q, hq, hqu⟩ := hlt k hkl
    have h1 : (l.take (k + 1)).map (·.2) = (l.take k).map (·.2) ++ [l[k].2] := by
      rw [List.take_succ_eq_append_getElem hkl, List.map_append]; rfl
    have h2 : readZ us (l.take (k + 1)) = readZ us (l.take k) ++ [us[q]] := by
      unfold readZ
      rw [List.take_succ_eq_append_getElem hkl, List.map_append]
      simp [List.getD_eq_getElem?_getD, hq, hqu]
    have hl1 : ((l.take k).map (·.2)).length ≤ 1024 := by simp; omega
    have hl2 : (readZ us (l.take k)).length ≤ 1024 := by unfold readZ; simp; omega
    replace h1 := Lib.hid h1
    replace h2 := Lib.hid h2
    generalize (l.take k).map (·.2) = A at *
    generalize readZ us (l.take k) = B at *
    (repeat' (first
  | (apply W.qd; (first
    | (apply q_mv; (conv => lhs; whnf))|(apply q_as; (conv => lhs; whnf))|(apply yS; (iterate 3 exact rfl))|(apply yT; (iterate 4 exact rfl))|(apply q_lss; exact rfl; exact rfl)|(apply q_add; exact rfl; exact rfl; omega)|(apply yX; (iterate 3 exact rfl); (first | omega | (focus (simp; done))))|(apply yY; (iterate 3 exact rfl); (first | omega | (focus (simp; done))))|(apply q_litF; (iterate 5 exact rfl); kernel_rfl; kernel_rfl; exact rfl)
    | (apply yGb; (iterate 4 exact rfl); (first | (with_reducible exact rfl) | exact natI_spec rfl | assumption | exact (Int.toNat_of_nonneg (by omega)).symm); (first | omega | (focus (simp only [List.length_map]; omega)) | (focus (simp; done)) | (focus (simp; omega))))))|(apply W.ld; (apply l_app1; (iterate 8 exact rfl); (first | omega | (focus (simp; omega)) | (focus (simp; done)))))|(apply W.ed; (apply yCb; (iterate 3 exact rfl); kernel_rfl))|(apply W.ln; (apply l_st_box; (iterate 6 exact rfl); (iterate 3 kernel_rfl)))|(apply yA)|(apply yB)|(apply yC; kernel_rfl)|(apply yD; exact rfl; kernel_rfl)|(apply yE)|(apply yF; kernel_rfl)|(apply yG)|(apply yH)|(apply yL)
  | (refine W.cond _ rfl (fun hb => ?_) (fun hb => ?_) <;> ((try simp only [hb, zA, zB]) <;> (try simp only [zC, zD, zE, zF, zG, zH, zI, zJ] at hb) <;> (try (exfalso; omega))))))
    refine ⟨k + 1, by omega, by omega, ?_⟩
    rw [h1.out, h2.out]
    exact ⟨[0, 1, 2, 3, 4], rfl, rfl, rfl, iV_eq (by omega), rfl, rfl, rfl, rfl, rfl, rfl, rfl, trivial⟩
  · have e : k = l.length := by omega
    subst e
    rw [List.take_length]
    have hl1 : (l.map (·.2)).length ≤ 1024 := by simp; omega
    generalize l.map (·.2) = A at *
    generalize readZ us l = B at *
    refine AWP.wk ⟨[(39, iV l.length), (38, iV l.length), (9, ints A), (10, strs B), (3, .opt 0 0)], [.box [.d .any, iV M, iV D, .d (.sl 1 (par.map rD)), .d .any]]⟩ ⟨[0], rfl, rfl, rfl, rfl, rfl, (frz_rowJ rfl rfl (by simp)).symm, (frz_rowJ rfl rfl (by simp)).symm, rfl, trivial⟩ ?_
    (repeat' (first
  | (apply W.qd; (first
    | (apply (yW (hc)); exact rfl; exact rfl; (iterate 3 kernel_rfl))|(apply q_mv; (conv => lhs; whnf))|(apply q_as; (conv => lhs; whnf))|(apply yS; (iterate 3 exact rfl))|(apply yT; (iterate 4 exact rfl))|(apply q_lss; exact rfl; exact rfl)
    | (apply yAb; exact rfl; exact rfl)))|(apply yA)|(apply yB)|(apply yC; kernel_rfl)|(apply yE)|(apply yI)|(apply yJ)|(apply yK)|(apply yM)
  | (refine W.cond _ rfl (fun hb => ?_) (fun hb => ?_) <;> ((try simp only [hb, zA, zB]) <;> (try simp only [zC, zD, zE, zF, zG, zH, zI, zJ] at hb) <;> (try (exfalso; omega))))))
    exact Ends.two rfl rfl rfl
end Go.Proofs.YtcljokdiblnhiaaGreatDoor
end
section
namespace Go.Proofs.YtcljokdiblnhiaaGreatDoor
open Go.RowKit
set_option maxHeartbeats 4000000
set_option maxRecDepth 100000
structure SysOk (M D C : Nat) (pm : List Nat) (Bl : List (List Nat)) : Prop where
  pl : pm.length = D
  nd : ∀ q q', q < D → q' < D → pm.getD q 0 = pm.getD q' 0 → q = q'
  lt : ∀ q, q < D → pm.getD q 0 < D
  bl : Bl.length = D
  rl : ∀ l ∈ Bl, l.length = C
  rx : ∀ l ∈ Bl, ∀ x ∈ l, x < 2 ^ M
theorem SysOk.set {M D C : Nat} {pm : List Nat} {Bl : List (List Nat)} (h : SysOk M D C pm Bl) (a : Nat) {l : List Nat} (h1 : l.length = C) (h2 : ∀ x ∈ l, x < 2 ^ M) : SysOk M D C pm (Bl.set a l) :=
  ⟨h.pl, h.nd, h.lt, by rw [List.length_set]; exact h.bl, fun x hx => (List.mem_or_eq_of_mem_set hx).elim (h.rl x) fun e => e ▸ h1, fun x hx => (List.mem_or_eq_of_mem_set hx).elim (h.rx x) fun e => e ▸ h2⟩
attribute [local irreducible] Quiet Eff OpOk AWPG ACont ABlock ACalls AGoto
end Go.Proofs.YtcljokdiblnhiaaGreatDoor
end
section
namespace Go.Proofs.YtcljokdiblnhiaaGreatDoor
structure Weak {α : Type} (lt : α → α → Bool) : Prop where
  irr : ∀ a, lt a a = false
  trans : ∀ a b c, lt a b = true → lt b c = true → lt a c = true
  neg : ∀ a b c, lt a c = true → lt a b = true ∨ lt b c = true
def eqvB {α : Type} (lt : α → α → Bool) (c x : α) : Bool := !lt c x && !lt x c
def Srt {α : Type} (lt : α → α → Bool) (l : List α) : Prop := l.Pairwise fun a b => lt b a = false
def Stb {α : Type} (lt : α → α → Bool) (X Z : List α) : Prop := ∀ c, Z.filter (eqvB lt c) = X.filter (eqvB lt c)
section
variable {α : Type} {lt : α → α → Bool}
theorem Weak.asymm (h : Weak lt) {a b : α} (h1 : lt a b = true) : lt b a = false := by
  cases h2 : lt b a with
  | false => rfl
  | true => have := h.trans _ _ _ h1 h2; rw [h.irr] at this; cases this
theorem Weak.le_trans (h : Weak lt) {a b c : α} (h1 : lt b a = false) (h2 : lt c b = false) : lt c a = false := by
  cases h3 : lt c a with
  | false => rfl
  | true => rcases h.neg c b a h3 with h4 | h4 <;> simp_all
theorem Weak.lt_le (h : Weak lt) {a b c : α} (h1 : lt a b = true) (h2 : lt c b = false) : lt a c = true := by
  rcases h.neg a c b h1 with h4 | h4
  · exact h4
  · rw [h2] at h4; cases h4
theorem Weak.le_lt (h : Weak lt) {a b c : α} (h1 : lt b a = false) (h2 : lt b c = true) : lt a c = true := by
  rcases h.neg b a c h2 with h4 | h4
  · rw [h1] at h4; cases h4
  · exact h4
theorem eqv_self (h : Weak lt) (c : α) : eqvB lt c c = true := by unfold eqvB; rw [h.irr]; rfl
theorem eqv_not_lt (h : Weak lt) {c x u : α} (h1 : eqvB lt c x = true) (h2 : eqvB lt c u = true) : lt x u = false := by
  unfold eqvB at h1 h2
  simp only [Bool.and_eq_true, Bool.not_eq_true'] at h1 h2
  cases h3 : lt x u with
  | false => rfl
  | true => rcases h.neg x c u h3 with h4 | h4 <;> simp_all
theorem Stb.refl (X : List α) : Stb lt X X := fun _ => rfl
theorem Stb.trans {X Y Z : List α} (h1 : Stb lt X Y) (h2 : Stb lt Y Z) : Stb lt X Z := fun c => (h2 c).trans (h1 c)
theorem Stb.symm {X Y : List α} (h1 : Stb lt X Y) : Stb lt Y X := fun c => (h1 c).symm
theorem Stb.app {X Z X' Z' : List α} (h1 : Stb lt X Z) (h2 : Stb lt X' Z') : Stb lt (X ++ X') (Z ++ Z') := fun c => by
  rw [List.filter_append, List.filter_append, h1 c, h2 c]
theorem Stb.mem (h : Weak lt) {X Z : List α} (h1 : Stb lt X Z) (x : α) : x ∈ Z ↔ x ∈ X := by
  have := h1 x
  constructor
  · intro hx
    have : x ∈ X.filter (eqvB lt x) := by rw [← this]; exact List.mem_filter.2 ⟨hx, eqv_self h x⟩
    exact (List.mem_filter.1 this).1
  · intro hx
    have : x ∈ Z.filter (eqvB lt x) := by rw [this]; exact List.mem_filter.2 ⟨hx, eqv_self h x⟩
    exact (List.mem_filter.1 this).1
theorem Stb.count [DecidableEq α] (h : Weak lt) {X Z : List α} (h1 : Stb lt X Z) (x : α) : Z.count x = X.count x := by
  rw [← List.count_filter (eqv_self h x), ← List.count_filter (l := X) (eqv_self h x), h1 x]
theorem Stb.len [DecidableEq α] (h : Weak lt) {X Z : List α} (h1 : Stb lt X Z) : Z.length = X.length :=
  (List.perm_iff_count.2 fun x => h1.count h x).length_eq
theorem Stb.swap (h : Weak lt) {U X : List α} (hx : ∀ x ∈ X, ∀ u ∈ U, lt x u = true) : Stb lt (U ++ X) (X ++ U) := fun c => by
  rw [List.filter_append, List.filter_append]
  by_cases hu : U.filter (eqvB lt c) = []
  · rw [hu]; simp
  · have : X.filter (eqvB lt c) = [] := by
      rw [List.filter_eq_nil_iff]
      intro x hxm hc
      obtain ⟨u, hum⟩ := List.exists_mem_of_ne_nil _ hu
      obtain ⟨h2, h3⟩ := List.mem_filter.1 hum
      have := hx x hxm u h2
      rw [eqv_not_lt h hc h3] at this
      cases this
    rw [this]; simp
theorem srt_app {X Y : List α} : Srt lt (X ++ Y) ↔ Srt lt X ∧ Srt lt Y ∧ ∀ x ∈ X, ∀ y ∈ Y, lt y x = false := List.pairwise_append
theorem Srt.left {X Y : List α} (h : Srt lt (X ++ Y)) : Srt lt X := (srt_app.1 h).1
theorem Srt.right {X Y : List α} (h : Srt lt (X ++ Y)) : Srt lt Y := (srt_app.1 h).2.1
theorem Srt.last (h : Weak lt) {X : List α} {u : α} (hs : Srt lt (X ++ [u])) {x : α} (hx : x ∈ X ++ [u]) : lt u x = false := by
  rcases List.mem_append.1 hx with h1 | h1
  · exact (srt_app.1 hs).2.2 x h1 u (by simp)
  · rw [List.mem_singleton.1 h1]; exact h.irr u
theorem Srt.head (h : Weak lt) {X : List α} {u : α} (hs : Srt lt (u :: X)) {x : α} (hx : x ∈ u :: X) : lt x u = false := by
  rcases List.mem_cons.1 hx with rfl | h1
  · exact h.irr x
  · exact (List.pairwise_cons.1 hs).1 x h1
theorem srt_unique (h : Weak lt) : ∀ {X Z : List α}, Srt lt X → Srt lt Z → Stb lt X Z → X = Z
  | [], [], _, _, _ => rfl
  | [], z :: Z, _, _, hs => by have := (hs.mem h z).1 (by simp); simp at this
  | x :: X, [], _, _, hs => by have := (hs.mem h x).2 (by simp); simp at this
  | x :: X, z :: Z, hx, hz, hs => by
    have h1 : lt z x = false := hx.head h ((hs.mem h z).1 (by simp))
    have h2 : lt x z = false := hz.head h ((hs.mem h x).2 (by simp))
    have h3 := hs x
    have e : x = z := by
      rw [List.filter_cons, List.filter_cons, if_pos (eqv_self h x), if_pos (by unfold eqvB; rw [h1, h2]; rfl)] at h3
      injection h3 with h4 _; exact h4.symm
    subst e
    have ih := srt_unique h (X := X) (Z := Z) (List.pairwise_cons.1 hx).2 (List.pairwise_cons.1 hz).2 fun c => by
      have h4 := hs c
      rw [List.filter_cons, List.filter_cons] at h4
      split at h4
      · injection h4
      · exact h4
    rw [ih]
theorem srt_insert (h : Weak lt) {A B : List α} {x : α} (hs : Srt lt (A ++ B)) (hA : ∀ a ∈ A, lt x a = false) (hB : ∀ b ∈ B, lt b x = false) : Srt lt (A ++ x :: B) := by
  obtain ⟨h1, h2, h3⟩ := srt_app.1 hs
  refine srt_app.2 ⟨h1, List.pairwise_cons.2 ⟨hB, h2⟩, fun a ha b hb => ?_⟩
  rcases List.mem_cons.1 hb with rfl | hb
  · exact hA a ha
  · exact h3 a ha b hb
theorem merge_cut (h : Weak lt) {X1 X2 Y1 Y2 Z1 Z2 : List α} (hX : Srt lt (X1 ++ X2)) (hY : Srt lt (Y1 ++ Y2)) (h1 : ∀ y ∈ Y1, ∀ x ∈ X2, lt y x = true) (h2 : ∀ x ∈ X1, ∀ y ∈ Y2, lt y x = false)
    (s1 : Srt lt Z1) (s2 : Srt lt Z2) (b1 : Stb lt (X1 ++ Y1) Z1) (b2 : Stb lt (X2 ++ Y2) Z2) : Srt lt (Z1 ++ Z2) ∧ Stb lt ((X1 ++ X2) ++ (Y1 ++ Y2)) (Z1 ++ Z2) := by
  constructor
  · refine srt_app.2 ⟨s1, s2, fun a ha b hb => ?_⟩
    rw [b1.mem h, List.mem_append] at ha
    rw [b2.mem h, List.mem_append] at hb
    rcases ha with ha | ha <;> rcases hb with hb | hb
    · exact (srt_app.1 hX).2.2 a ha b hb
    · exact h2 a ha b hb
    · exact h.asymm (h1 a ha b hb)
    · exact (srt_app.1 hY).2.2 a ha b hb
  · refine Stb.trans ?_ (b1.app b2)
    have := ((Stb.refl X1).app (Stb.swap (lt := lt) h (U := X2) (X := Y1) fun y hy x hx => h1 y hy x hx)).app (Stb.refl Y2)
    simpa [List.append_assoc] using this
def insN (lt : α → α → Bool) (x : α) : List α → List α
  | [] => [x]
  | y :: l => if lt y x = true then y :: insN lt x l else x :: y :: l
def sortN (lt : α → α → Bool) : List α → List α
  | [] => []
  | x :: l => insN lt x (sortN lt l)
theorem insN_form (h : Weak lt) (x : α) : ∀ {l : List α}, Srt lt l → ∃ A B, l = A ++ B ∧ insN lt x l = A ++ x :: B ∧ (∀ a ∈ A, lt a x = true) ∧ ∀ b ∈ B, lt b x = false
  | [], _ => ⟨[], [], rfl, rfl, by simp, by simp⟩
  | y :: l, hs => by
    unfold insN
    by_cases hy : lt y x = true
    · rw [if_pos hy]
      obtain ⟨A, B, rfl, e, h1, h2⟩ := insN_form h x (List.pairwise_cons.1 hs).2
      refine ⟨y :: A, B, rfl, by rw [e]; rfl, fun a ha => ?_, h2⟩
      rcases List.mem_cons.1 ha with rfl | ha
      · exact hy
      · exact h1 a ha
    · rw [if_neg hy]
      refine ⟨[], y :: l, rfl, rfl, by simp, fun b hb => ?_⟩
      have hy := Bool.eq_false_iff.2 hy
      rcases List.mem_cons.1 hb with rfl | hb
      · exact hy
      · exact h.le_trans hy ((List.pairwise_cons.1 hs).1 b hb)
theorem sortN_spec (h : Weak lt) : ∀ l : List α, Srt lt (sortN lt l) ∧ Stb lt l (sortN lt l)
  | [] => ⟨List.Pairwise.nil, Stb.refl _⟩
  | x :: l => by
    obtain ⟨h1, h2⟩ := sortN_spec h l
    unfold sortN
    obtain ⟨A, B, e, e2, hA, hB⟩ := insN_form h x h1
    rw [e2]
    rw [e] at h1 h2
    refine ⟨srt_insert h h1 (fun a ha => h.asymm (hA a ha)) hB, ?_⟩
    have k1 : Stb lt ([x] ++ l) ([x] ++ (A ++ B)) := (Stb.refl [x]).app h2
    have k2 : Stb lt (([x] ++ A) ++ B) ((A ++ [x]) ++ B) := (Stb.swap h (U := [x]) (X := A) fun a ha u hu => by rw [List.mem_singleton.1 hu]; exact hA a ha).app (Stb.refl B)
    refine Stb.trans k1 ?_
    simpa using k2
theorem sortN_eq (h : Weak lt) {l Z : List α} (h1 : Srt lt Z) (h2 : Stb lt l Z) : Z = sortN lt l := by
  obtain ⟨k1, k2⟩ := sortN_spec h l
  exact srt_unique h h1 k1 (h2.symm.trans k2)
theorem sortN_self (h : Weak lt) {l : List α} (h1 : Srt lt l) : sortN lt l = l := (sortN_eq h h1 (Stb.refl l)).symm
theorem insN_len (x : α) : ∀ l : List α, (insN lt x l).length = l.length + 1
  | [] => rfl
  | y :: l => by
    unfold insN
    split
    · simp [insN_len x l]
    · rfl
theorem sortN_len : ∀ l : List α, (sortN lt l).length = l.length
  | [] => rfl
  | x :: l => by unfold sortN; rw [insN_len, sortN_len l]; rfl
end
end Go.Proofs.YtcljokdiblnhiaaGreatDoor
end
section
namespace Go.Proofs.YtcljokdiblnhiaaGreatDoor
def bsN (p : Nat → Bool) (lo hi : Nat) : Nat :=
  if h : lo < hi then (if p ((lo + hi) / 2) then bsN p lo ((lo + hi) / 2) else bsN p ((lo + hi) / 2 + 1) hi) else lo
termination_by hi - lo
theorem bs_spec (p : Nat → Bool) : ∀ (n lo hi : Nat), hi - lo ≤ n → lo ≤ hi → lo ≤ bsN p lo hi ∧ bsN p lo hi ≤ hi ∧ (lo < bsN p lo hi → p (bsN p lo hi - 1) = false) ∧ (bsN p lo hi < hi → p (bsN p lo hi) = true)
  | n, lo, hi, hn, h => by
    rw [bsN]
    by_cases hlt : lo < hi
    · rw [dif_pos hlt]
      cases hp : p ((lo + hi) / 2) with
      | true =>
        rw [if_pos rfl]
        obtain ⟨m, rfl⟩ : ∃ m, n = m + 1 := ⟨n - 1, by omega⟩
        obtain ⟨h1, h2, h3, h4⟩ := bs_spec p m lo ((lo + hi) / 2) (by omega) (by omega)
        refine ⟨h1, by omega, h3, fun hr => ?_⟩
        by_cases e : bsN p lo ((lo + hi) / 2) < (lo + hi) / 2
        · exact h4 e
        · rw [show bsN p lo ((lo + hi) / 2) = (lo + hi) / 2 by omega]; exact hp
      | false =>
        rw [if_neg (by decide)]
        obtain ⟨m, rfl⟩ : ∃ m, n = m + 1 := ⟨n - 1, by omega⟩
        obtain ⟨h1, h2, h3, h4⟩ := bs_spec p m ((lo + hi) / 2 + 1) hi (by omega) (by omega)
        refine ⟨by omega, h2, fun hr => ?_, h4⟩
        by_cases e : (lo + hi) / 2 + 1 < bsN p ((lo + hi) / 2 + 1) hi
        · exact h3 e
        · rw [show bsN p ((lo + hi) / 2 + 1) hi = (lo + hi) / 2 + 1 by omega]; exact hp
    · rw [dif_neg hlt]
      exact ⟨Nat.le_refl _, h, fun e => by omega, fun e => by omega⟩
theorem bs_done (p : Nat → Bool) {lo hi : Nat} (h : ¬ lo < hi) : bsN p lo hi = lo := by rw [bsN, dif_neg h]
theorem bs_left {p : Nat → Bool} {lo hi : Nat} (h : lo < hi) (hp : p ((lo + hi) / 2) = true) : bsN p lo hi = bsN p lo ((lo + hi) / 2) := by rw [bsN, dif_pos h, if_pos hp]
theorem bs_right {p : Nat → Bool} {lo hi : Nat} (h : lo < hi) (hp : p ((lo + hi) / 2) = false) : bsN p lo hi = bsN p ((lo + hi) / 2 + 1) hi := by rw [bsN, dif_pos h, if_neg (by rw [hp]; decide)]
section
variable {α : Type}
def swpN (d : α) (L : List α) (a b : Nat) : List α := (L.set a (L.getD b d)).set b (L.getD a d)
theorem set_mid (P S : List α) (x y : α) : (P ++ x :: S).set P.length y = P ++ y :: S := by
  rw [List.set_append_right _ _ (Nat.le_refl _), Nat.sub_self]; rfl
theorem getD_mid (d : α) (P S : List α) (x : α) : (P ++ x :: S).getD P.length d = x := by
  rw [List.getD_eq_getElem?_getD, List.getElem?_append_right (Nat.le_refl _), Nat.sub_self]; rfl
theorem swp_mid (d : α) (P M S : List α) (u v : α) : swpN d (P ++ u :: (M ++ v :: S)) P.length (P.length + 1 + M.length) = P ++ v :: (M ++ u :: S) := by
  have e1 : P ++ u :: (M ++ v :: S) = (P ++ u :: M) ++ v :: S := by simp
  have e2 : P.length + 1 + M.length = (P ++ u :: M).length := by simp; omega
  unfold swpN
  rw [getD_mid]
  rw [e1, e2, getD_mid, ← e1, set_mid]
  have e3 : P ++ v :: (M ++ v :: S) = (P ++ v :: M) ++ v :: S := by simp
  rw [e3, show (P ++ u :: M).length = (P ++ v :: M).length by simp, set_mid]
  simp
theorem swp_comm (d : α) (L : List α) (a b : Nat) (h : a ≠ b) : swpN d L a b = swpN d L b a := by
  unfold swpN
  exact List.set_comm _ _ h
theorem swp_adj (d : α) (P S : List α) (u v : α) : swpN d (P ++ u :: v :: S) P.length (P.length + 1) = P ++ v :: u :: S := swp_mid d P [] S u v
theorem swp_adj' (d : α) (P S : List α) (u v : α) : swpN d (P ++ u :: v :: S) (P.length + 1) P.length = P ++ v :: u :: S := by
  rw [swp_comm d _ _ _ (by omega)]; exact swp_adj d P S u v
def swpF (d : α) : Nat → List α → Nat → Nat → List α
  | 0, L, _, _ => L
  | n + 1, L, a, b => swpF d n (swpN d L a b) (a + 1) (b + 1)
theorem swpF_block (d : α) : ∀ (U V P M S : List α), U.length = V.length → swpF d U.length (P ++ (U ++ (M ++ (V ++ S)))) P.length (P.length + U.length + M.length) = P ++ (V ++ (M ++ (U ++ S)))
  | [], [], P, M, S, _ => by simp [swpF]
  | [], _ :: _, P, M, S, h => by simp at h
  | _ :: _, [], P, M, S, h => by simp at h
  | u :: U, v :: V, P, M, S, h => by
    have h2 : U.length = V.length := by simpa using h
    have e0 : P ++ ((u :: U) ++ (M ++ ((v :: V) ++ S))) = P ++ u :: ((U ++ M) ++ v :: (V ++ S)) := by simp
    have e1 : P.length + (u :: U).length + M.length = P.length + 1 + (U ++ M).length := by simp; omega
    rw [List.length_cons, swpF, e0]
    rw [show P.length + (U.length + 1) + M.length = P.length + 1 + (U ++ M).length by simp; omega, swp_mid]
    have ih := swpF_block d U V (P ++ [v]) (M ++ [u]) S h2
    have e2 : P ++ v :: ((U ++ M) ++ u :: (V ++ S)) = (P ++ [v]) ++ (U ++ ((M ++ [u]) ++ (V ++ S))) := by simp
    rw [e2, show P.length + 1 = (P ++ [v]).length by simp, show (P ++ [v]).length + (U ++ M).length + 1 = (P ++ [v]).length + U.length + (M ++ [u]).length by simp; omega, ih]
    simp
def Blk (lt : α → α → Bool) (s : Nat) (Q : List α) : Prop := ∀ i, Srt lt ((Q.drop (i * s)).take s)
theorem blk_nil (lt : α → α → Bool) (s : Nat) : Blk lt s [] := fun i => by simp [Srt]
theorem blk_app {lt : α → α → Bool} {s k : Nat} {Q S : List α} (h : Blk lt s Q) (hl : Q.length = k * s) (hs : S.length ≤ s) (h2 : Srt lt S) : Blk lt s (Q ++ S) := fun i => by
  rcases Nat.lt_trichotomy i k with h1 | h1 | h1
  · have h3 := h i
    have h4 : i * s + s ≤ Q.length := by
      rw [hl]
      have := Nat.mul_le_mul_right s (show i + 1 ≤ k from h1)
      rwa [Nat.succ_mul] at this
    rw [List.drop_append_of_le_length (by omega), List.take_append_of_le_length (by rw [List.length_drop]; omega)]
    exact h3
  · subst h1
    rw [← hl, List.drop_left, List.take_of_length_le hs]
    exact h2
  · have h4 : k * s + s ≤ i * s := by
      have := Nat.mul_le_mul_right s (show k + 1 ≤ i from h1)
      rwa [Nat.succ_mul] at this
    rw [List.drop_eq_nil_of_le (by rw [List.length_append]; omega)]
    simp [Srt]
theorem blk_whole {lt : α → α → Bool} {s : Nat} {Q : List α} (h : Blk lt s Q) (hs : Q.length ≤ s) : Srt lt Q := by
  have := h 0
  rw [Nat.zero_mul, List.drop_zero, List.take_of_length_le hs] at this
  exact this
end
end Go.Proofs.YtcljokdiblnhiaaGreatDoor
end
section
namespace Go.Proofs.YtcljokdiblnhiaaGreatDoor
open Go.RowKit
set_option maxHeartbeats 4000000
set_option maxRecDepth 100000
def letB (c : Nat) : Bool := decide (97 ≤ c) && decide (c ≤ 122)
def digB (c : Nat) : Bool := decide (48 ≤ c) && decide (c ≤ 57)
def wordAt (s : List Nat) (k : Nat) : Bool := letB (s.getD k 0) || (decide (k ≠ 0) && digB (s.getD k 0))
def wordB (s : List Nat) : Bool := decide (s ≠ []) && (List.range s.length).all (wordAt s)
def chkC (nm : List Nat) (M D : Int) (par : List (List Int)) (dom : Int) : Bool :=
  (wordB nm && decide (nm.length ≤ 12)) && (decide (M = 8 ∨ M = 16) && decide (1 ≤ D) && decide (D ≤ 31) && decide (par.length ≠ 0) && decide (D + (par.length : Int) ≤ 32)) && par.all (rowOk M D) && (decide (1 ≤ dom) && decide (dom ≤ D + (par.length : Int)))
theorem chk_valid {nm : List Nat} {M D dom : Int} {par : List (List Int)} (h : chkC nm M D par dom = true) : validC M D par = true := by
  unfold chkC at h
  simp only [Bool.and_eq_true, decide_eq_true_eq] at h
  obtain ⟨⟨⟨h1, ⟨⟨⟨h2, h3⟩, h4⟩, h5⟩, h6⟩, h7⟩, h8⟩ := h
  unfold validC
  simp only [Bool.and_eq_true, decide_eq_true_eq]
  refine ⟨⟨⟨⟨?_, h3⟩, by omega⟩, by omega⟩, h7⟩
  unfold allF
  rw [decide_eq_true h2]
  rcases h2 with rfl | rfl <;> rfl
abbrev cdF (nm : List Nat) (M D : Int) (par : List (List Int)) (dom : Int) : AV := .agg [bS nm, iV M, iV D, rowsA par, iV dom]
theorem cdF_le {nm : List Nat} {M D dom : Int} {par : List (List Int)} {F : Nat → Prop} {own : List Ent} {κ : List (Option Nat)} {w : World} {u : Value} (h : AV.sat F own κ w (cdF nm M D par dom) u) : AV.sat F own κ w (cdA M D par) u := by
  rw [AV.sat] at h ⊢
  obtain ⟨us, h1, h2⟩ := h
  refine ⟨us, h1, ?_⟩
  generalize us.toList = l at h2
  rcases l with _ | ⟨a, _ | ⟨b, _ | ⟨c, _ | ⟨d, _ | ⟨e, l⟩⟩⟩⟩⟩ <;> simp only [AV.satL, and_false, and_assoc] at h2 ⊢
  obtain ⟨h3, h4, h5, h6, h7, h8⟩ := h2
  rw [sat_v] at h3 h7
  subst h3; subst h7
  refine ⟨?_, h4, h5, h6, ?_, h8⟩
  · rw [AV.sat, Dat.sat]; rfl
  · rw [AV.sat, Dat.sat]; rfl
theorem ACalls.cdF {P : Program} {f : FuncId} {nm : List Nat} {M D dom : Int} {par : List (List Int)} {l : List AV} {r : AV} {own own' : List Ent} (h : ACalls P f (cdA M D par :: l) own r own') : ACalls P f (cdF nm M D par dom :: l) own r own' :=
  h.le fun F κ w vs => satL_le1 (fun F own κ w u => cdF_le) F own κ w vs
attribute [local irreducible] Quiet Eff OpOk AWPG ACont ABlock ACalls AGoto
end Go.Proofs.YtcljokdiblnhiaaGreatDoor
end
section
namespace Go.Proofs.YtcljokdiblnhiaaGreatDoor
open Go.RowKit
theorem seg_get (l us : List Value) (o x : Nat) (h : o + us.length ≤ l.length) : (l.take o ++ us ++ l.drop (o + us.length))[x]? = if o ≤ x ∧ x < o + us.length then us[x - o]? else l[x]? := by
  have ht : (l.take o).length = o := by rw [List.length_take]; omega
  by_cases h1 : x < o
  · rw [if_neg (by omega), List.append_assoc, List.getElem?_append_left (by omega), List.getElem?_take, if_pos h1]
  · by_cases h2 : x < o + us.length
    · rw [if_pos ⟨by omega, h2⟩, List.append_assoc, List.getElem?_append_right (by omega), ht, List.getElem?_append_left (by omega)]
    · rw [if_neg (by omega), List.getElem?_append_right (by rw [List.length_append, ht]; omega), List.length_append, ht, List.getElem?_drop]
      congr 1
      omega
theorem setK_same {κ : List (Option Nat)} {i : Nat} {og : Option Nat} (h : κ[i]? = some og) : κ.set i og = κ := List.ext_getElem? fun j => by
  by_cases hj : j = i
  · subst hj; rw [List.getElem?_set_self (List.getElem?_eq_some_iff.1 h).1, h]
  · rw [List.getElem?_set_ne (Ne.symm hj)]
theorem row_put {F : Nat → Prop} {κ : List (Option Nat)} {w : World} {m : Nat} {own : List Ent} {i ver sz g : Nat} {e : TypeId} {l l' : List (List Dat)} {cur cur' : Array Value} (ho : OwnSat F own κ w) (hi : own[i]? = some (.row ver sz e l)) (h3 : κ[i]? = some (some g)) (h5 : w.heap[g]? = some (.cells cur e (0, 0))) (h0 : 0 < sz) (hs : cur'.size = cur.size) (hl : l'.length = l.length) (h6 : l.length * sz ≤ cur.size)
    (hr : ∀ j e', l'[j]? = some e' → e'.length = sz ∧ ∀ q y, e'[q]? = some y → ∃ u, cur'[j * sz + q]? = some u ∧ u.oneCell' = true ∧ Dat.sat (badK F κ) w y u) :
    OwnSat F (own.set i (.row ver sz e l')) κ (w.setRow g cur') ∧ Tr F m own κ w (own.set i (.row ver sz e l')) κ (w.setRow g cur') := by
  have hrow := setRow_heap w g cur cur' e (0, 0) h5
  have key := step_upd (m := m) (x' := .row ver sz e l') (og := some g) (og' := some g) (w' := w.setRow g cur') ho hi h3 rfl rfl rfl (by simp [World.setRow]) (fun b hb hne => by
        simp only [World.setRow, Array.getElem?_modify]
        rw [if_neg (fun e => hne (by rw [e]))]) (.inl rfl) (.inr rfl) (.inr ⟨rfl, rfl, rfl, hl.symm, rfl, fun g' hg' cur2 t' fz' hcur' => by
          obtain rfl : g = g' := by simpa using hg'
          rw [h5] at hcur'
          obtain ⟨rfl, rfl, rfl⟩ : cur = cur2 ∧ e = t' ∧ (0, 0) = fz' := by simpa using hcur'
          exact ⟨_, _, _, hrow, hs.symm⟩⟩) (fun hst => ⟨h0, .inr ⟨g, rfl, _, hrow, by rw [hl, hs]; exact h6, by
            rw [Dat.rowsSat_iff]
            intro j' e' hj'
            obtain ⟨h8, h9⟩ := hr j' e' hj'
            refine ⟨h8, ?_⟩
            rw [Dat.rowSat_iff]
            intro q y hq
            obtain ⟨u, q1, q2, q3⟩ := h9 q y hq
            refine ⟨u, ?_, q2, Dat.sat_wide hst.wide y q3⟩
            rw [cell_of_row _ g _ _ e (0, 0) hrow, Nat.zero_add]
            exact q1⟩⟩)
  rw [setK_same h3] at key
  exact key
theorem row_cells {F : Nat → Prop} {κ : List (Option Nat)} {w : World} {own : List Ent} {i ver sz g : Nat} {e : TypeId} {l : List (List Dat)} (ho : OwnSat F own κ w) (hi : own[i]? = some (.row ver sz e l)) (h3 : κ[i]? = some (some g)) :
    0 < sz ∧ ∃ cur, w.heap[g]? = some (.cells cur e (0, 0)) ∧ l.length * sz ≤ cur.size ∧ ∀ j e', l[j]? = some e' → e'.length = sz ∧ ∀ q y, e'[q]? = some y → ∃ u, cur[j * sz + q]? = some u ∧ u.oneCell' = true ∧ Dat.sat (badK F κ) w y u := by
  obtain ⟨h0, hent⟩ := ho.ent i _ hi
  rw [getD_some h3] at hent
  rcases hent with ⟨hxx, _⟩ | ⟨g', hg', cur, h5, h6, h7⟩
  · cases hxx
  · obtain rfl : g = g' := by simpa using hg'
    refine ⟨h0, cur, h5, h6, fun j e' hj => ?_⟩
    rw [Dat.rowsSat_iff] at h7
    obtain ⟨h8, h9⟩ := h7 j e' hj
    refine ⟨h8, fun q y hq => ?_⟩
    rw [Dat.rowSat_iff] at h9
    obtain ⟨u, q1, q2, q3⟩ := h9 q y hq
    rw [cell_of_row w g _ cur e (0, 0) h5, Nat.zero_add] at q1
    exact ⟨u, q1, q2, q3⟩
theorem idx_ne {j j' q o sz : Nat} (hq : q < sz) (ho : o < sz) (h : j' ≠ j) : ¬ (j * sz ≤ j' * sz + q ∧ j' * sz + q < j * sz + sz) := fun ⟨a, b⟩ => by
  rcases Nat.lt_or_gt_of_ne h with h1 | h1
  · have := Nat.mul_le_mul_right sz (show j' + 1 ≤ j from h1)
    rw [Nat.succ_mul] at this; omega
  · have := Nat.mul_le_mul_right sz (show j + 1 ≤ j' from h1)
    rw [Nat.succ_mul] at this; omega
section
variable {P : Program} {m : Nat} {env : List (Nat × AV)} {own : List Ent} {dst : Option Tmp} {ty : TypeId} {pos : String} {af : Array Edge} {gd : Option (Nat × Bool)}
theorem e_st_rpts {t : TypeId} {k : Nat} {b : Bool} {x y : Operand} {i ver j sz : Nat} {e : TypeId} {l : List (List Dat)} {ds : List Dat} {own' : List Ent} (hx : lookO env x = .rpt i ver j 0) (hi : own[i]? = some (.row ver sz e l)) (ht : tyInfo P t = some (b, k)) (hk : k = sz) (hy : cellsD (lookO env y) = some ds) (hds : ds.length = sz) (h1 : ds.all (fun d => oneA (.d d)) = true) (ho' : setF own i (.row ver sz e (l.set j ds)) = some own') :
    Eff P m ⟨dst, .store t x y, ty, pos, af, gd⟩ env own [i] (.d (.v undef)) own' := by
  rw [setF_spec ho']
  exact Eff.mk (set_same _ i) fun F κ a w hs ho hm => by
    subst hk
    have hx1 := hs x (by simp [Op.operands]); rw [hx, AV.sat] at hx1
    have hy1 := hs y (by simp [Op.operands])
    obtain ⟨hcA, hok⟩ := cellsD_A hy
    have hcs := cellsA_sat hcA hy1 hok
    have hcl := satL_length hcs
    obtain ⟨hj, g, h3, h4⟩ := hx1.2 k e l hi
    obtain ⟨h0, cur, h5, h6, h7⟩ := row_cells ho hi h3
    have hvn : (a.eval y).cells.size = k := by
      rw [List.length_map, hds] at hcl
      rw [← Array.length_toList]; exact hcl.symm
    have hvl : (a.eval y).cells.toList.length = k := by rw [Array.length_toList]; exact hvn
    have hus : ∀ q d, ds[q]? = some d → ∃ u, (a.eval y).cells.toList[q]? = some u ∧ u.oneCell' = true ∧ Dat.sat (badK F κ) w d u := fun q d hq => by
      obtain ⟨u, q1, q2⟩ := satL_get hcs q (.d d) (by rw [List.getElem?_map, hq]; rfl)
      have q3 := List.all_eq_true.1 h1 d (List.mem_of_getElem? hq)
      refine ⟨u, q1, one_of_cellsA q3 q2, ?_⟩
      rw [AV.sat] at q2; exact q2
    have hone : ∀ u ∈ (a.eval y).cells.toList, u.oneCell' = true := fun u hu => by
      obtain ⟨q, hq⟩ := List.mem_iff_getElem?.1 hu
      have hlt : q < ds.length := by have := (List.getElem?_eq_some_iff.1 hq).1; omega
      obtain ⟨u', q1, q2, _⟩ := hus q _ (List.getElem?_eq_getElem hlt)
      rw [hq] at q1
      obtain rfl : u = u' := by simpa using q1
      exact q2
    have hjk : j * k + k ≤ l.length * k := by
      have := Nat.mul_le_mul_right k (show j + 1 ≤ l.length from hj)
      rw [Nat.succ_mul] at this; omega
    have hrun : (execOp a.eval ⟨dst, .store t x y, ty, pos, af, gd⟩).run P w = .ok .skip (w.setRow g (cur.toList.take (j * k) ++ (a.eval y).cells.toList ++ cur.toList.drop (j * k + (a.eval y).cells.toList.length)).toArray) := by
      have := run_storeAt (P := P) ht h5 (v := a.eval y) (o := j * k) hvn (by omega) hone
      rw [Nat.add_zero] at h4
      exact exec_u (by rw [h4]; exact this)
    rw [hrun]
    have hcs2 : cur.toList.length = cur.size := Array.length_toList
    obtain ⟨r1, r2⟩ := row_put (m := m) (cur' := (cur.toList.take (j * k) ++ (a.eval y).cells.toList ++ cur.toList.drop (j * k + (a.eval y).cells.toList.length)).toArray) (l' := l.set j ds) ho hi h3 h5 h0 (by simp; omega) (by simp) h6 (fun j' e' hj' => by
      have hget : ∀ x, (cur.toList.take (j * k) ++ (a.eval y).cells.toList ++ cur.toList.drop (j * k + (a.eval y).cells.toList.length)).toArray[x]? = if j * k ≤ x ∧ x < j * k + k then (a.eval y).cells.toList[x - j * k]? else cur[x]? := fun x => by
        have ec : cur.toList[x]? = cur[x]? := Array.getElem?_toList
        rw [List.getElem?_toArray, seg_get _ _ _ _ (by omega), hvl, ec]
      by_cases hjj : j' = j
      · subst hjj
        rw [List.getElem?_set_self hj] at hj'
        obtain rfl : ds = e' := by simpa using hj'
        refine ⟨hds, fun q y' hq => ?_⟩
        have hql : q < k := by have := (List.getElem?_eq_some_iff.1 hq).1; omega
        obtain ⟨u, q1, q2, q3⟩ := hus q y' hq
        refine ⟨u, ?_, q2, q3⟩
        rw [hget, if_pos ⟨by omega, by omega⟩, show j' * k + q - j' * k = q by omega]
        exact q1
      · rw [List.getElem?_set_ne (Ne.symm hjj)] at hj'
        obtain ⟨h8, h9⟩ := h7 j' e' hj'
        refine ⟨h8, fun q y' hq => ?_⟩
        have hql : q < k := by have := (List.getElem?_eq_some_iff.1 hq).1; omega
        obtain ⟨u, q1, q2, q3⟩ := h9 q y' hq
        exact ⟨u, by rw [hget, if_neg (idx_ne hql h0 hjj)]; exact q1, q2, q3⟩)
    exact ⟨κ, by rw [AV.sat, Dat.sat], r1, r2⟩
theorem e_st_rptM {α : Type} {f : α → List Dat} {l : List α} {t : TypeId} {k : Nat} {b : Bool} {x y : Operand} {i ver j sz : Nat} {e : TypeId} {ds : List Dat} {own' : List Ent} (v : α) (hx : lookO env x = .rpt i ver j 0) (hi : own[i]? = some (.row ver sz e (l.map f))) (ht : tyInfo P t = some (b, k)) (hk : k = sz) (hy : cellsD (lookO env y) = some ds) (hv : f v = ds) (hds : (f v).length = sz) (h1 : (f v).all (fun d => oneA (.d d)) = true) (ho' : setF own i (.row ver sz e ((l.set j v).map f)) = some own') :
    Eff P m ⟨dst, .store t x y, ty, pos, af, gd⟩ env own [i] (.d (.v undef)) own' := by
  subst hv
  refine e_st_rpts hx hi ht hk hy hds h1 ?_
  rw [List.map_set] at ho'
  exact ho'
end
end Go.Proofs.YtcljokdiblnhiaaGreatDoor
end
section
namespace Go.Proofs.YtcljokdiblnhiaaGreatDoor
open Go.RowKit
set_option maxHeartbeats 4000000
set_option maxRecDepth 100000
section
variable {P : Program} {m : Nat} {env : List (Nat × AV)} {own : List Ent} {dst : Option Tmp} {ty : TypeId} {pos : String} {af : Array Edge} {gd : Option (Nat × Bool)}
theorem q_convU {src dst' : TypeId} {x : Operand} {k : IntKind} {n : Int} {v : Nat} (hx : lookO env x = .d (.v (.int k n))) (hs : (P.underlying src).isSome = true) (hd : isInt P dst' .u64 = true) (hn : n = (v : Int)) (h : v < 18446744073709551616) :
    Quiet P m ⟨dst, .convert src dst' x, ty, pos, af, gd⟩ env own [] (.d (.v (.int .u64 (v : Int)))) := by
  have := q_conv (P := P) (m := m) (env := env) (own := own) (dst := dst) (ty := ty) (pos := pos) (af := af) (gd := gd) (src := src) .u64 hs hd hx
  rwa [hn, capK_wrap (k := .u64) h] at this
end
attribute [local irreducible] Quiet Eff OpOk AWPG ACont ABlock ACalls AGoto
end Go.Proofs.YtcljokdiblnhiaaGreatDoor
end
section
namespace Go.Proofs.YtcljokdiblnhiaaGreatDoor
open Go.RowKit
set_option maxHeartbeats 4000000
set_option maxRecDepth 100000
structure FIn (nm : List Nat) (D : Int) (par : List (List Int)) : Prop where
  n : isB nm
  l : nm.length < 9223372036854775808
  d : 0 ≤ D ∧ D ≤ 1000000
  p : par.length ≤ 1000000
theorem toZ_back (ps : List (List Nat)) : ((toZ ps).map fun r => r.map Int.toNat) = ps := by
  unfold toZ
  rw [List.map_map]
  have : ((fun r : List Int => r.map Int.toNat) ∘ fun r : List Nat => r.map fun n : Nat => (n : Int)) = id := by
    funext r
    simp [Function.comp_def]
  rw [this]; simp
attribute [local irreducible] Quiet Eff OpOk AWPG ACont ABlock ACalls AGoto
end Go.Proofs.YtcljokdiblnhiaaGreatDoor
end
section
namespace Go.Proofs.YtcljokdiblnhiaaGreatDoor
open Go.RowKit
abbrev Hl := Int × Int × Int × Int
def hlD (h : Hl) : List Dat := [.v (.int .i64 h.1), .v (.int .i64 h.2.1), .v (.int .i64 h.2.2.1), .v (.int .i64 h.2.2.2)]
abbrev hls (l : List Hl) : AV := .d (.sl 4 (l.map hlD))
def hl0 : Hl := (0, 0, 0, 0)
end Go.Proofs.YtcljokdiblnhiaaGreatDoor
end
section
namespace Go.Proofs.YtcljokdiblnhiaaGreatDoor
open Go.RowKit
set_option maxHeartbeats 4000000
set_option maxRecDepth 100000
theorem cmpI_lt (x y : Int) : cmpI x y < 0 ↔ x < y := by unfold cmpI; split <;> (try split) <;> omega
theorem cmpI_eq (x y : Int) : cmpI x y = 0 ↔ x = y := by unfold cmpI; split <;> (try split) <;> omega
theorem orI_lt (x : Int) (l : List Int) : orI (x :: l) < 0 ↔ x < 0 ∨ (x = 0 ∧ orI l < 0) := by
  show (if x ≠ 0 then x else orI l) < 0 ↔ _
  split
  · omega
  · omega
attribute [local irreducible] Quiet Eff OpOk AWPG ACont ABlock ACalls AGoto
end Go.Proofs.YtcljokdiblnhiaaGreatDoor
end
section
namespace Go.Proofs.YtcljokdiblnhiaaGreatDoor
open Go.RowKit
inductive Lf where
  | i (o : Nat)
  | s (o : Nat)
def fldsD (P : Program) : Nat → Nat → Nat → List Field → Option (List Lf)
  | 0, _, _, _ => none
  | n + 1, off, sz, [] => some []
  | n + 1, off, sz, f :: fs =>
    if f.name = "_" then none else
    match fldsD P n off sz fs with
    | none => none
    | some rest =>
      match P.underlying f.type with
      | some (.int _) => if f.offset < sz then some (.i (off + f.offset) :: rest) else none
      | some .string => if f.offset < sz then some (.s (off + f.offset) :: rest) else none
      | some (.struct fs2) => if P.stoodInHeld f.type then none else
        match P.info? f.type with
        | none => none
        | some inf => if f.offset + inf.size ≤ sz then (match fldsD P n (off + f.offset) inf.size fs2.toList with | some l => some (l ++ rest) | none => none) else none
      | _ => none
def eqLf (xs ys : Array Value) : List Lf → Option Bool
  | [] => some true
  | .i o :: os => match xs[o]?, ys[o]?, eqLf xs ys os with
    | some (.int k a), some (.int k' b), some r => if k = k' then some (decide (a = b) && r) else none
    | _, _, _ => none
  | .s o :: os => match xs[o]?, ys[o]?, eqLf xs ys os with
    | some (.string a), some (.string b), some r => some ((a.toList == b.toList) && r)
    | _, _, _ => none
theorem eqLf_app {xs ys : Array Value} : ∀ {A B : List Lf} {b : Bool}, eqLf xs ys (A ++ B) = some b → ∃ b1 b2, eqLf xs ys A = some b1 ∧ eqLf xs ys B = some b2 ∧ b = (b1 && b2)
  | [], B, b, h => ⟨true, b, rfl, h, by simp⟩
  | .i o :: A, B, b, h => by
    simp only [List.cons_append, eqLf] at h ⊢
    split at h
    · rename_i k a k' a' r h1 h2 h3
      split at h
      · rename_i hk
        obtain ⟨b1, b2, e1, e2, rfl⟩ := eqLf_app h3
        rw [h1, h2, e1]
        simp only [Option.some.injEq] at h
        exact ⟨decide (a = a') && b1, b2, by simp [hk], e2, by rw [← h, Bool.and_assoc]⟩
      · cases h
    · cases h
  | .s o :: A, B, b, h => by
    simp only [List.cons_append, eqLf] at h ⊢
    split at h
    · rename_i a a' r h1 h2 h3
      obtain ⟨b1, b2, e1, e2, rfl⟩ := eqLf_app h3
      rw [h1, h2, e1]
      simp only [Option.some.injEq] at h
      exact ⟨(a.toList == a'.toList) && b1, b2, rfl, e2, by rw [← h, Bool.and_assoc]⟩
    · cases h
theorem run_eqD {P : Program} {w : World} : ∀ (n d off sz : Nat) (fs : List Field) (os : List Lf) (xs ys X Y : Array Value) (b : Bool), fldsD P n off sz fs = some os → (∀ i, i < sz → X[i]? = xs[off + i]?) → (∀ i, i < sz → Y[i]? = ys[off + i]?) → eqLf xs ys os = some b → (Op.eqFields (d + n) X Y fs).run P w = .ok b w
  | 0, d, off, sz, fs, os, xs, ys, X, Y, b, h, hX, hY, hb => by simp [fldsD] at h
  | n + 1, d, off, sz, [], os, xs, ys, X, Y, b, h, hX, hY, hb => by
    simp only [fldsD, Option.some.injEq] at h
    subst h
    simp only [eqLf, Option.some.injEq] at hb
    subst hb
    rfl
  | n + 1, d, off, sz, f :: fs, os, xs, ys, X, Y, b, h, hX, hY, hb => by
    simp only [fldsD] at h
    split at h
    · cases h
    · rename_i hne
      split at h
      · cases h
      · rename_i rest hrest
        have tail : ∀ r, eqLf xs ys rest = some r → (Op.eqFields (d + (n + 1)) X Y fs).run P w = .ok r w := fun r hr => by
          have := run_eqD (w := w) n (d + 1) off sz fs rest xs ys X Y r hrest hX hY hr
          rwa [show d + 1 + n = d + (n + 1) by omega] at this
        have fin : ∀ (a c : Value) (q r : Bool), (part f.type X f.offset).run P w = .ok a w → (part f.type Y f.offset).run P w = .ok c w → (Op.equalIn (d + (n + 1)) f.type a c).run P w = .ok q w → eqLf xs ys rest = some r → (Op.eqFields (d + (n + 1)) X Y (f :: fs)).run P w = .ok (q && r) w := fun a c q r e1 e2 e3 hr => by
          simp only [Op.eqFields, hne, ne_eq, not_false_eq_true, if_true, Sem.run_bind, e1, e2, e3, Result.andThen_ok, Sem.run_ite]
          cases q with
          | true => simpa using tail r hr
          | false => simp
        split at h
        · rename_i k hk
          split at h
          · rename_i hlt
            obtain rfl : Lf.i (off + f.offset) :: rest = os := by simpa using h
            simp only [eqLf] at hb
            split at hb
            · rename_i k1 a k2 c r h1 h2 h3
              split at hb
              · rename_i hkk
                subst hkk
                obtain rfl : (decide (a = c) && r) = b := by simpa using hb
                have hia : (isAgg f.type).run P w = .ok false w := by simp [isAgg, run_underlying hk]
                refine fin (.int k1 a) (.int k1 c) (decide (a = c)) r (by simp [part, hia, hX _ hlt, h1]) (by simp [part, hia, hY _ hlt, h2]) ?_ h3
                rw [show d + (n + 1) = (d + n) + 1 by omega, run_equalIn_int w (d + n) f.type k1 k a c hk]
                congr 1
              · cases hb
            · cases hb
          · cases h
        · rename_i hk
          split at h
          · rename_i hlt
            obtain rfl : Lf.s (off + f.offset) :: rest = os := by simpa using h
            simp only [eqLf] at hb
            split at hb
            · rename_i a c r h1 h2 h3
              obtain rfl : ((a.toList == c.toList) && r) = b := by simpa using hb
              have hia : (isAgg f.type).run P w = .ok false w := by simp [isAgg, run_underlying hk]
              refine fin (.string a) (.string c) (a.toList == c.toList) r (by simp [part, hia, hX _ hlt, h1]) (by simp [part, hia, hY _ hlt, h2]) ?_ h3
              rw [show d + (n + 1) = (d + n) + 1 by omega, run_equalIn_string w (d + n) f.type a c hk]
            · cases hb
          · cases h
        · rename_i fs2 hk
          split at h
          · cases h
          · rename_i hst
            split at h
            · cases h
            · rename_i inf hi
              split at h
              · rename_i hfit
                split at h
                · rename_i l hl
                  obtain rfl : l ++ rest = os := by simpa using h
                  obtain ⟨b1, b2, g1, g2, rfl⟩ := eqLf_app hb
                  have hia : (isAgg f.type).run P w = .ok true w := by simp [isAgg, run_underlying hk]
                  have hsz : (sizeOf f.type).run P w = .ok inf.size w := by simp [sizeOf, typeInfo, hi]
                  have hfo : P.fieldsOf f.type = fs2 := by simp [Program.fieldsOf, hk]
                  refine fin (.agg (X.extract f.offset (f.offset + inf.size))) (.agg (Y.extract f.offset (f.offset + inf.size))) b1 b2 (by simp [part, hia, hsz]) (by simp [part, hia, hsz]) ?_ g2
                  rw [show d + (n + 1) = (d + n) + 1 by omega, run_equalIn_struct w (d + n) f.type _ _ (by rw [hfo]; exact hk) (by simpa using hst), hfo]
                  refine run_eqD n d (off + f.offset) inf.size fs2.toList l xs ys _ _ b1 hl (fun i hi => ?_) (fun i hi => ?_) g1
                  · have := hX (f.offset + i) (by omega)
                    rw [show off + f.offset + i = off + (f.offset + i) by omega, ← this, Array.getElem?_extract]
                    split
                    · rfl
                    · rename_i hne2
                      rw [Array.getElem?_eq_none (by omega)]
                  · have := hY (f.offset + i) (by omega)
                    rw [show off + f.offset + i = off + (f.offset + i) by omega, ← this, Array.getElem?_extract]
                    split
                    · rfl
                    · rename_i hne2
                      rw [Array.getElem?_eq_none (by omega)]
                · cases h
              · cases h
        · cases h
def fldsT (P : Program) (t : TypeId) : Option (List Lf) :=
  match P.underlying t, P.info? t with
  | some (.struct fs), some inf => if P.stoodInHeld t || P.eqGuardType P.depth t then none else fldsD P 30 0 inf.size fs.toList
  | _, _ => none
theorem run_eqT {P : Program} {t : TypeId} {os : List Lf} (h : fldsT P t = some os) {xs ys : Array Value} {b : Bool} (hb : eqLf xs ys os = some b) (x y : Operand) (w : World) :
    (do eqGuard .eql t x y (.agg xs) (.agg ys); binOp .eql t (.agg xs) (.agg ys) : Sem Value).run P w = .ok (.bool b) w ∧ (do eqGuard .neq t x y (.agg xs) (.agg ys); binOp .neq t (.agg xs) (.agg ys) : Sem Value).run P w = .ok (.bool (!b)) w := by
  unfold fldsT at h
  split at h
  · rename_i fs inf hu hi
    split at h
    · cases h
    · rename_i hc
      simp only [Bool.or_eq_true, not_or, Bool.not_eq_true] at hc
      have hfo : P.fieldsOf t = fs := by simp [Program.fieldsOf, hu]
      have e := run_eqD (P := P) (w := w) 30 9969 0 inf.size fs.toList os xs ys xs ys b h (fun i _ => by rw [Nat.zero_add]) (fun i _ => by rw [Nat.zero_add]) hb
      have e2 : (Op.equalIn 10000 t (.agg xs) (.agg ys)).run P w = .ok b w := by
        rw [run_equalIn_struct w 9999 t xs ys (by rw [hfo]; exact hu) hc.1, hfo]; exact e
      constructor
      · rw [Sem.run_bind, run_eqGuard_agg _ _ _ _ _ _ _ hc.2, Result.andThen_ok, run_eql_struct, e2]; rfl
      · rw [Sem.run_bind, run_eqGuard_agg _ _ _ _ _ _ _ hc.2, Result.andThen_ok, run_neq_struct, e2]; rfl
  · cases h
section
variable {P : Program} {m : Nat} {dst : Option Tmp} {ty : TypeId} {pos : String} {af : Array Edge} {env : List (Nat × AV)} {own : List Ent} {gd : Option (Nat × Bool)}
theorem q_eqT {t t' : TypeId} {os : List Lf} {x y : Operand} {l1 l2 : List AV} {vs1 vs2 : List Value} {b b' : Bool} (hf : fldsT P t = some os) (hx : lookO env x = .agg l1) (hy : lookO env y = .agg l2) (h1 : l1.mapM valA = some vs1) (h2 : l2.mapM valA = some vs2) (hb : eqLf vs1.toArray vs2.toArray os = some b) (he : b = b') :
    Quiet P m ⟨dst, .binOp .eql t x y t', ty, pos, af, gd⟩ env own [] (bV b') := Quiet.val fun F own' κ a w hs _ _ _ => by
  subst he
  have g1 := hs x (by simp [Op.operands]); rw [hx] at g1
  have g2 := hs y (by simp [Op.operands]); rw [hy] at g2
  refine ⟨.bool b, exec_v ?_, sat_v.2 rfl⟩
  rw [valL_eq h1 g1, valL_eq h2 g2]; exact (run_eqT hf hb x y w).1
theorem q_neT {t t' : TypeId} {os : List Lf} {x y : Operand} {l1 l2 : List AV} {vs1 vs2 : List Value} {b b' : Bool} (hf : fldsT P t = some os) (hx : lookO env x = .agg l1) (hy : lookO env y = .agg l2) (h1 : l1.mapM valA = some vs1) (h2 : l2.mapM valA = some vs2) (hb : eqLf vs1.toArray vs2.toArray os = some b) (he : (!b) = b') :
    Quiet P m ⟨dst, .binOp .neq t x y t', ty, pos, af, gd⟩ env own [] (bV b') := Quiet.val fun F own' κ a w hs _ _ _ => by
  subst he
  have g1 := hs x (by simp [Op.operands]); rw [hx] at g1
  have g2 := hs y (by simp [Op.operands]); rw [hy] at g2
  refine ⟨.bool (!b), exec_v ?_, sat_v.2 rfl⟩
  rw [valL_eq h1 g1, valL_eq h2 g2]; exact (run_eqT hf hb x y w).2
end
end Go.Proofs.YtcljokdiblnhiaaGreatDoor
end
section
namespace Go.Proofs.YtcljokdiblnhiaaGreatDoor
open Go.RowKit
set_option maxHeartbeats 4000000
set_option maxRecDepth 100000
abbrev Cd := List Nat × Int × Int × List (List Int) × Int
abbrev Sv := List Nat × Int × Int × Int × Int
def chkD (c : Cd) : Bool := chkC c.1 c.2.1 c.2.2.1 c.2.2.2.1 c.2.2.2.2
def FInD (c : Cd) : Prop := FIn c.1 c.2.2.1 c.2.2.2.1
structure NameIn (s : List Nat) : Prop where
  b : isB s
  l : s.length < 9223372036854775808
attribute [local irreducible] Quiet Eff OpOk AWPG ACont ABlock ACalls AGoto
end Go.Proofs.YtcljokdiblnhiaaGreatDoor
end
section
namespace Go.Proofs.YtcljokdiblnhiaaGreatDoor
open Go.RowKit
set_option maxHeartbeats 4000000
set_option maxRecDepth 100000
theorem fin_chk {c : Cd} (h : chkD c = true) (hn : NameIn c.1) : FInD c := by
  have hv := chk_valid h
  unfold validC at hv
  simp only [Bool.and_eq_true, decide_eq_true_eq] at hv
  exact ⟨hn.b, hn.l, by omega, by omega⟩
attribute [local irreducible] Quiet Eff OpOk AWPG ACont ABlock ACalls AGoto
end Go.Proofs.YtcljokdiblnhiaaGreatDoor
end
section
namespace Go.Proofs.YtcljokdiblnhiaaGreatDoor
open Go.RowKit
set_option maxHeartbeats 4000000
set_option maxRecDepth 100000
structure LibOk (cs : List Cd) (vs : List Sv) : Prop where
  cn : ∀ c ∈ cs, NameIn c.1
  ck : ∀ c ∈ cs, chkD c = true
  vn : ∀ v ∈ vs, NameIn v.1
  cl : cs.length ≤ 1000
  vl : vs.length ≤ 1000
theorem LibOk.fin {cs : List Cd} {vs : List Sv} (h : LibOk cs vs) : ∀ c ∈ cs, FInD c := fun c hc => fin_chk (h.ck c hc) (h.cn c hc)
attribute [local irreducible] Quiet Eff OpOk AWPG ACont ABlock ACalls AGoto
end Go.Proofs.YtcljokdiblnhiaaGreatDoor
end
section
namespace Go.Proofs.YtcljokdiblnhiaaGreatDoor
open Go.RowKit
set_option maxHeartbeats 4000000
set_option maxRecDepth 100000
section
variable {α : Type} {q : α → Bool} {l : List α}
theorem idxA_iff {i : Nat} : idxA q l = (i : Int) ↔ ∃ h : i < l.length, q l[i] = true ∧ ∀ (j : Nat) (hj : j < i), q (l[j]'(by omega)) = false := by
  unfold idxA
  constructor
  · intro h
    split at h
    · rename_i k hk
      obtain rfl : k = i := by omega
      obtain ⟨h1, h2, h3⟩ := List.findIdx?_eq_some_iff_getElem.1 hk
      exact ⟨h1, h2, fun j hj => by simpa using h3 j hj⟩
    · omega
  · rintro ⟨h1, h2, h3⟩
    have : l.findIdx? q = some i := List.findIdx?_eq_some_iff_getElem.2 ⟨h1, h2, fun j hj => by simpa using h3 j hj⟩
    rw [this]
theorem idxA_nat (h : 0 ≤ idxA q l) : ∃ i : Nat, idxA q l = i := ⟨(idxA q l).toNat, by omega⟩
end
end Go.Proofs.YtcljokdiblnhiaaGreatDoor
end
section
namespace Go.Proofs.YtcljokdiblnhiaaGreatDoor
open Go.RowKit
def Ints (w : World) (v : Value) (l : List Int) : Prop :=
  ∃ (A : Option Addr) (c : Nat), v = .slice A l.length c ∧ l.length ≤ c ∧ c ≤ maxLen ∧ (0 < l.length → ∃ b o, A = some ⟨b, o, none⟩ ∧ b < w.heap.size ∧ ∀ j, j < l.length → w.cell? ⟨b, o + j, none⟩ = some (.int .i64 (l.getD j 0)))
theorem Ints.keep {w w' : World} {v : Value} {l : List Int} (h : Ints w v l) (hb : Below w.heap.size w w') : Ints w' v l := by
  obtain ⟨A, c, rfl, h1, h2, h3⟩ := h
  refine ⟨A, c, rfl, h1, h2, fun hp => ?_⟩
  obtain ⟨b, o, rfl, hlt, hc⟩ := h3 hp
  refine ⟨b, o, rfl, Nat.lt_of_lt_of_le hlt hb.size, fun j hj => ?_⟩
  rw [hb.cell (p := ⟨b, o + j, none⟩) hlt]; exact hc j hj
theorem Ints.of_own {w : World} {base e n : Nat} {v : Value} {l : List Int} (h : w.ownsRow base e 1 v n (l.map (Value.int .i64))) : Ints w v l := by
  have hn : l.length = n := by have := h.1; simpa using this
  rcases h.2 with ⟨rfl, hx⟩ | ⟨g, cap, cur, rfl, hb, hh, hnc, hcm, hcs, htake⟩
  · subst hx
    have : l = [] := List.eq_nil_of_length_eq_zero hn
    subst this
    exact ⟨none, 0, rfl, by simp, by simp [maxLen], fun hp => by simp at hp⟩
  · subst hn
    refine ⟨_, cap, rfl, hnc, hcm, fun hp => ⟨g, 0, rfl, ?_, fun j hj => ?_⟩⟩
    · rcases Nat.lt_or_ge g w.heap.size with hlt | hge
      · exact hlt
      · rw [Array.getElem?_eq_none hge] at hh; cases hh
    · rw [cell_of_row w g (0 + j) cur e (0, 0) hh, Nat.zero_add]
      have h1 : cur.toList[j]? = (l.map (Value.int .i64))[j]? := by
        rw [← htake, List.getElem?_take, if_pos (by simpa using hj)]
      have h2 : cur[j]? = cur.toList[j]? := by simp
      rw [h2, h1]
      simp [List.getElem?_map, List.getElem?_eq_getElem hj]
theorem ret_i {k : IntKind} {a b : Int} (h : a = b) : Ending.returned (.int k a) = .returned (.int k b) := by rw [h]
theorem ret_b {a b : Bool} (h : a = b) : Ending.returned (.bool a) = .returned (.bool b) := by rw [h]
theorem getD_ltB {α : Type} (l : List α) (k : Nat) (d : α) (h : k < l.length) : l.getD k d = l[k] := by simp [List.getD_eq_getElem?_getD, List.getElem?_eq_getElem h]
theorem below_drewN {B : Nat} {a w : World} (h : Below B a w) (n : Nat) : Below B a (w.drewN n) := ⟨h.os, h.tape, h.output, h.size, h.block⟩
theorem Below.then {B : Nat} {a w w' : World} (h : Below B a w) (hb : Below w.heap.size w w') (hB : B ≤ w.heap.size) : Below B a w' := h.trans (hb.mono hB)
theorem Below.lt {B : Nat} {w w' : World} (h : Below B w w') {k : Nat} (hk : k < w.heap.size) : k < w'.heap.size := Nat.lt_of_lt_of_le hk h.size
theorem bcell {W w1 : World} (hb : Below W.heap.size W w1) : (∀ b o, b < W.heap.size → w1.cell? ⟨b, o, none⟩ = W.cell? ⟨b, o, none⟩) ∧ (∀ b o, b < W.heap.size → w1.frozen? ⟨b, o, none⟩ = W.frozen? ⟨b, o, none⟩) :=
  ⟨fun b o h => hb.cell (p := ⟨b, o, none⟩) h, fun b o h => hb.frozen (p := ⟨b, o, none⟩) h⟩
theorem Ints.drewN {w : World} {v : Value} {l : List Int} (h : Ints w v l) (n : Nat) : Ints (w.drewN n) v l := h
theorem Ints.drew {w : World} {v : Value} {l : List Int} (h : Ints w v l) : Ints w.drew v l := h
theorem Ints.alloc {w : World} {v : Value} {l : List Int} (h : Ints w v l) (o : Obj) : Ints (w.alloc o) v l := h.keep ((Below.refl _ _).alloc (Nat.le_refl _) o)
theorem Ints.nil (w : World) : Ints w (.slice none 0 0) [] := ⟨none, 0, rfl, by simp, by simp [maxLen], fun h => by simp at h⟩
theorem wpList_append1 {P : Program} {w : World} {ops : Array Oper} {rest : List Oper} {o : Oper} {a : Act} {Q : Exit → Act → World → Prop} (hgd : o.guard = none) (s x : Operand) (t : TypeId)
    (ho : o.op = .call { callee := .builtin .append, args := #[s, x], argTypes := #[t, t] })
    (e : TypeId) (z : Value) (bytes : Nat) (ht : P.underlying t = some (.slice e)) (hinfo : (P.info? e).map (fun i => (i.zero, i.size, i.bytes)) = some (some z, 1, bytes)) (hzs : z.cells.size = 1)
    (W : World) (base : Nat) (v : Value) (n : Nat) (xs : List Value) (hs : a.eval s = v) (hown : w.ownsRow base e 1 v n xs)
    (g : Nat) (u : Value) (hx : a.eval x = .slice (some ⟨g, 0, none⟩) 1 1) (hu : w.cell? ⟨g, 0, none⟩ = some u) (h1 : u.oneCell' = true)
    (hn : n ≤ 1000000000) (hby : bytes ≤ 64) (hW : Below base W w) (hbase : base ≤ w.heap.size)
    (h : ∀ v' w', w'.ownsRow base e 1 v' (n + 1) (xs ++ [u]) → Below base W w' → w.grownBy w' v.ownBlock → wpList P ops Q rest (a.put o.dst v') w') : wpList P ops Q (o :: rest) a w := by
  obtain ⟨i, hi, hz, hsize, hb⟩ := info_parts hinfo
  refine wpList_append_own w hgd s x t ho base e i z 1 bytes ht hi hz hsize hb hzs (by omega) v n xs hs hown ⟨g, 0, none⟩ 1 1 [u] hx rfl ?_ ?_ (by unfold maxLen; omega) ?_ hbase ?_
  · intro j y hy
    match j, hy with
    | 0, hy => simp at hy; subst hy; simpa [Addr.add] using hu
  · intro y hy; simp at hy; subst hy; exact h1
  · have h2 : (n + 1) * bytes ≤ (n + 1) * 64 := Nat.mul_le_mul_left _ hby
    omega
  · intro v' w' hown' hg _
    exact h v' w' hown' (hW.grown hg hbase fun k hk => (hown.lt k hk).1) hg
theorem Below.after {w X w1 : World} (h : Below w.heap.size w X) (hb : Below X.heap.size X w1) : Below w.heap.size w w1 := h.trans (hb.mono h.size)
theorem toNat_div_mod (a b m : Nat) : ((a : Int) / (b : Int) % (m : Int)).toNat = a / b % m := by
  have h : ((a : Int) / (b : Int) % (m : Int)) = ((a / b % m : Nat) : Int) := by simp
  rw [h]; exact Int.toNat_natCast _
theorem wpList_make1 {P : Program} {w : World} {ops : Array Oper} {rest : List Oper} {o : Oper} {a : Act} {Q : Exit → Act → World → Prop} (hgd : o.guard = none) (l c : Operand) (t : TypeId) (hop : o.op = Op.makeSlice t l c)
    (e : TypeId) (z : Value) (bytes : Nat) (ht : P.underlying t = some (.slice e)) (hinfo : (P.info? e).map (fun i => (i.zero, i.size, i.bytes)) = some (some z, 1, bytes)) (hzs : z.cells = #[z])
    (L C : Int) (n : Nat) (hl : a.eval l = .int .i64 L) (hc : a.eval c = .int .i64 C) (hL : L = n) (hC : C = n) (hn : n ≤ 1000000000) (hby : bytes ≤ 64)
    (h : ∀ w', w'.ownsRow w.heap.size e 1 (.slice (some ⟨w.heap.size, 0, none⟩) n n) n (List.replicate n z) → Below w.heap.size w w' → w.heap.size < w'.heap.size → wpList P ops Q rest (a.put o.dst (.slice (some ⟨w.heap.size, 0, none⟩) n n)) w') : wpList P ops Q (o :: rest) a w := by
  obtain ⟨i, hi, hz, hsize, hb⟩ := info_parts hinfo
  refine wpList_make_full w hgd l c t hop w.heap.size e i z 1 ht hi hz hsize .i64 .i64 L C n hl hc hL hC ?_ (by unfold maxLen; omega) (Nat.le_refl _) ?_
  · rw [hb]
    have := Nat.mul_le_mul hby hn
    omega
  · intro w' hown hg
    rw [hzs, Nat.mul_one, toList_madeCells_one] at hown
    refine h w' hown ⟨hg.os, hg.tape, hg.output, hg.size, fun k hk => hg.block k hk (by simp)⟩ ?_
    rcases hown.2 with ⟨hv, _⟩ | ⟨g, cap, cur, hv, _, hh, _⟩
    · simp at hv
    · simp only [Value.slice.injEq, Option.some.injEq, Addr.mk.injEq, and_true] at hv
      obtain ⟨rfl, _⟩ := hv
      exact (Array.getElem?_eq_some_iff.1 hh).1
theorem fill_step {α : Type} (xs L : List α) (k : Nat) (v : α) (hl : xs.length = L.length) (hk : k < L.length) (h : xs.take k = L.take k) (hv : L[k] = v) : (xs.set k v).take (k + 1) = L.take (k + 1) := by
  subst hv
  rw [List.take_succ_eq_append_getElem hk, ← h, List.take_set, List.take_succ_eq_append_getElem (by omega : k < xs.length), List.set_append_right _ _ (by simp; omega)]
  have : k - (List.take k xs).length = 0 := by simp; omega
  rw [this]; rfl
theorem fill_done {α : Type} (xs L : List α) (k : Nat) (hl : xs.length = L.length) (hk : L.length ≤ k) (h : xs.take k = L.take k) : xs = L := by
  rwa [List.take_of_length_le (by omega), List.take_of_length_le (by omega)] at h
theorem own_shape {w : World} {base : Nat} {e : TypeId} {size : Nat} {v : Value} {n : Nat} {xs : List Value} (h : w.ownsRow base e size v n xs) : ∃ A c, v = .slice A n c := by
  rcases h.2 with ⟨rfl, rfl⟩ | ⟨g, cap, cur, hv, _⟩
  · exact ⟨_, _, rfl⟩
  · exact ⟨_, _, hv⟩
theorem Ints.lit (w : World) (e : TypeId) (l : List Int) (n : Nat) (hn : l.length = n) (hm : n ≤ 1000000000) :
    Ints (w.alloc (.cells (l.map (Value.int .i64)).toArray e)) (.slice (some ⟨w.heap.size, 0, none⟩) n n) l := by
  have h := World.ownsRow_lit (base := 0) (size := 1) (e := e) w (l.map (Value.int .i64)).toArray n (Nat.zero_le _) (by unfold maxLen; omega) (by simp [hn])
  exact Ints.of_own (by simpa using h)
theorem Ints.ext {w w' : World} {v : Value} {l : List Int} (h : Ints w v l) (hb : Below w.heap.size w w') : Ints w' v l := h.keep hb
def Box6 (w : World) (g : Nat) (d r n s l i : Int) : Prop :=
  g < w.heap.size ∧ w.cell? ⟨g, 0, none⟩ = some (.int .i64 d) ∧ w.cell? ⟨g, 1, none⟩ = some (.int .i64 r) ∧ w.cell? ⟨g, 2, none⟩ = some (.int .i64 n) ∧ w.cell? ⟨g, 3, none⟩ = some (.int .i64 s) ∧ w.cell? ⟨g, 4, none⟩ = some (.int .i64 l) ∧ w.cell? ⟨g, 5, none⟩ = some (.int .i64 i)
theorem Box6.keep {w w' : World} {g : Nat} {d r n s l i : Int} (h : Box6 w g d r n s l i) (hb : Below w.heap.size w w') : Box6 w' g d r n s l i := by
  obtain ⟨h0, h1, h2, h3, h4, h5, h6⟩ := h
  have hc := fun o => hb.cell (p := ⟨g, o, none⟩) h0
  exact ⟨Nat.lt_of_lt_of_le h0 hb.size, (hc 0).trans h1, (hc 1).trans h2, (hc 2).trans h3, (hc 3).trans h4, (hc 4).trans h5, (hc 5).trans h6⟩
theorem Box6.new (w : World) (t : TypeId) (d r n s l i : Int) : Box6 (w.alloc (.cells #[.int .i64 d, .int .i64 r, .int .i64 n, .int .i64 s, .int .i64 l, .int .i64 i] t)) w.heap.size d r n s l i := by
  refine ⟨by simp, ?_, ?_, ?_, ?_, ?_, ?_⟩ <;> simp
def Row (w : World) (b o : Nat) (l : List Int) : Prop := b < w.heap.size ∧ ∀ j, j < l.length → w.cell? ⟨b, o + j, none⟩ = some (.int .i64 (l.getD j 0))
theorem Row.keep {w w' : World} {b o : Nat} {l : List Int} (h : Row w b o l) (hb : Below w.heap.size w w') : Row w' b o l :=
  ⟨Nat.lt_of_lt_of_le h.1 hb.size, fun j hj => (hb.cell (p := ⟨b, o + j, none⟩) h.1).trans (h.2 j hj)⟩
theorem Ints.row {w : World} {v : Value} {l : List Int} (h : Ints w v l) (hp : 0 < l.length) : ∃ b o c, v = .slice (some ⟨b, o, none⟩) l.length c ∧ l.length ≤ c ∧ c ≤ 9223372036854775807 ∧ Row w b o l := by
  obtain ⟨A, c, rfl, h1, h2, h3⟩ := h
  obtain ⟨b, o, rfl, hlt, hc⟩ := h3 hp
  exact ⟨b, o, c, rfl, h1, by unfold maxLen at h2; omega, hlt, hc⟩
theorem Row.ints {w : World} {b o c : Nat} {l : List Int} (h : Row w b o l) (h1 : l.length ≤ c) (h2 : c ≤ 9223372036854775807) : Ints w (.slice (some ⟨b, o, none⟩) l.length c) l :=
  ⟨_, c, rfl, h1, by unfold maxLen; omega, fun _ => ⟨b, o, rfl, h.1, h.2⟩⟩
/-! ### A region that draws its order, whose operations read old cells and whose callees make memory but hand back numbers: one walk of the lexical order. -/
structure Ext (W : World) where
  w : World
  h : Below W.heap.size W w
instance (W : World) : Nonempty (Ext W) := ⟨⟨W, Below.refl _ _⟩⟩
theorem Box6.ext {W : World} {g : Nat} {d r n s l i : Int} (h : Box6 W g d r n s l i) :
    (∀ y : Ext W, y.w.cell? ⟨g, 0, none⟩ = some (.int .i64 d)) ∧ (∀ y : Ext W, y.w.cell? ⟨g, 1, none⟩ = some (.int .i64 r)) ∧ (∀ y : Ext W, y.w.cell? ⟨g, 2, none⟩ = some (.int .i64 n)) ∧
    (∀ y : Ext W, y.w.cell? ⟨g, 3, none⟩ = some (.int .i64 s)) ∧ (∀ y : Ext W, y.w.cell? ⟨g, 4, none⟩ = some (.int .i64 l)) ∧ (∀ y : Ext W, y.w.cell? ⟨g, 5, none⟩ = some (.int .i64 i)) := by
  refine ⟨fun y => ?_, fun y => ?_, fun y => ?_, fun y => ?_, fun y => ?_, fun y => ?_⟩ <;> (obtain ⟨_, h1, h2, h3, h4, h5, h6⟩ := h.keep y.h; assumption)
/-! ### A block that is known whole -/
def BlkB (w : World) (g : Nat) (t : TypeId) (cs : Array Value) : Prop := w.heap[g]? = some (.cells cs t (0, 0))
section
variable {w w' : World} {g : Nat} {t : TypeId} {cs : Array Value}
theorem BlkB.lt (h : BlkB w g t cs) : g < w.heap.size := by
  rcases Nat.lt_or_ge g w.heap.size with hlt | hge
  · exact hlt
  · unfold BlkB at h; rw [Array.getElem?_eq_none hge] at h; cases h
theorem BlkB.cell (h : BlkB w g t cs) (i : Nat) : w.cell? ⟨g, i, none⟩ = cs[i]? := cell_of_row w g i cs t (0, 0) h
theorem BlkB.frozen (h : BlkB w g t cs) (i : Nat) : w.frozen? ⟨g, i, none⟩ = false := by
  unfold BlkB at h
  simp [World.frozen?, h]
theorem BlkB.new (w : World) (t : TypeId) (cs : Array Value) : BlkB (w.alloc (.cells cs t)) w.heap.size t cs := heap_alloc_new w _
theorem BlkB.drewN (h : BlkB w g t cs) (n : Nat) : BlkB (w.drewN n) g t cs := h
theorem BlkB.alloc (h : BlkB w g t cs) (o : Obj) : BlkB (w.alloc o) g t cs := (Below.heap_alloc w o g h.lt).trans h
theorem BlkB.below {B : Nat} (h : BlkB w g t cs) (hb : Below B w w') (hg : g < B) : BlkB w' g t cs := (hb.block g hg).trans h
theorem BlkB.keep (h : BlkB w g t cs) (hb : Below w.heap.size w w') : BlkB w' g t cs := h.below hb h.lt
end
end Go.Proofs.YtcljokdiblnhiaaGreatDoor
end
section
namespace Go.Proofs.YtcljokdiblnhiaaGreatDoor
theorem getD_lt' {α : Type} (l : List α) (k : Nat) (d : α) (h : k < l.length) : l.getD k d = l[k] := by simp [List.getD_eq_getElem?_getD, List.getElem?_eq_getElem h]
def idxP (p : Int → Bool) (l : List Int) : Int := if l.any p then (l.findIdx p : Int) else -1
theorem idxP_at (l : List Int) (p : Int → Bool) (k : Nat) (hk : k < l.length) (h : p l[k] = true) (hb : ∀ j, j < k → p (l.getD j 0) = false) : idxP p l = k := by
  unfold idxP; rw [if_pos (List.any_eq_true.2 ⟨_, List.getElem_mem hk, h⟩)]
  have h1 : l.findIdx p < l.length := List.findIdx_lt_length_of_exists ⟨_, List.getElem_mem hk, h⟩
  have h2 := List.findIdx_getElem (w := h1)
  have h4 : ¬ l.findIdx p < k := fun hlt => by
    have h3 := hb _ hlt; rw [getD_lt' _ _ _ h1, h2] at h3; cases h3
  have h5 : ¬ k < l.findIdx p := fun hlt => by
    have := List.not_of_lt_findIdx hlt
    simp [h] at this
  omega
theorem idxP_no (l : List Int) (p : Int → Bool) (hb : ∀ j, j < l.length → p (l.getD j 0) = false) : idxP p l = -1 := by
  unfold idxP; rw [if_neg]
  intro hx
  obtain ⟨a, ha, hp⟩ := List.any_eq_true.1 hx
  obtain ⟨k, hk, h⟩ := List.getElem_of_mem ha
  have := hb k hk; rw [getD_lt' _ _ _ hk, h, hp] at this; cases this
theorem idxP_cases (p : Int → Bool) (l : List Int) : (idxP p l = -1 ∧ ∀ a ∈ l, p a = false) ∨ ∃ k : Nat, ∃ h : k < l.length, idxP p l = k ∧ p l[k] = true ∧ (∀ a ∈ l.take k, p a = false) := by
  unfold idxP
  by_cases hx : l.any p
  · rw [if_pos hx]
    obtain ⟨a, ha, hp⟩ := List.any_eq_true.1 hx
    have h1 : l.findIdx p < l.length := List.findIdx_lt_length_of_exists ⟨a, ha, hp⟩
    refine .inr ⟨l.findIdx p, h1, rfl, List.findIdx_getElem (w := h1), fun b hb => ?_⟩
    obtain ⟨j, hj, rfl⟩ := List.getElem_of_mem hb
    rw [List.length_take] at hj
    rw [List.getElem_take]
    have := List.not_of_lt_findIdx (xs := l) (p := p) (i := j) (by omega)
    simpa using this
  · rw [if_neg hx]
    refine .inl ⟨rfl, fun a ha => ?_⟩
    cases hp : p a
    · rfl
    · exact absurd (List.any_eq_true.2 ⟨a, ha, hp⟩) hx
theorem filter_take_one (l : List Int) (q : Int → Bool) (j : Nat) (h : j < l.length) : (l.take (j + 1)).filter q = (l.take j).filter q ++ (if q l[j] then [l[j]] else []) := by
  rw [List.take_succ_eq_append_getElem h, List.filter_append]
  congr 1
  cases hq : q l[j] <;> simp [hq]
theorem del_keep (l ys : List Int) (q : Int → Bool) (i j : Nat) (hij : i < j) (hj : j < l.length) (hl : ys.length = l.length) (h1 : ys.take i = (l.take j).filter q) (h2 : ys.drop j = l.drop j) (hq : q l[j] = true) :
    (ys.set i l[j]).take (i + 1) = (l.take (j + 1)).filter q ∧ (ys.set i l[j]).drop (j + 1) = l.drop (j + 1) := by
  constructor
  · rw [filter_take_one l q j hj, hq, if_pos rfl, ← h1]
    rw [List.take_set]
    rw [List.take_succ_eq_append_getElem (by omega : i < ys.length)]
    rw [List.set_append_right _ _ (by simp; omega)]
    have : i - (List.take i ys).length = 0 := by simp; omega
    rw [this]; rfl
  · rw [List.drop_set_of_lt (by omega), ← List.drop_drop, h2, List.drop_drop]
theorem del_drop (l ys : List Int) (q : Int → Bool) (i j : Nat) (hj : j < l.length) (h1 : ys.take i = (l.take j).filter q) (h2 : ys.drop j = l.drop j) (hq : q l[j] = false) :
    ys.take i = (l.take (j + 1)).filter q ∧ ys.drop (j + 1) = l.drop (j + 1) := by
  constructor
  · rw [filter_take_one l q j hj, hq, h1]; simp
  · rw [← List.drop_drop, h2, List.drop_drop]
theorem getD_drop_eq (l ys : List Int) (j : Nat) (hj : j < l.length) (hl : ys.length = l.length) (h2 : ys.drop j = l.drop j) : ys.getD j 0 = l[j] := by
  have h3 : (ys.drop j)[0]? = (l.drop j)[0]? := by rw [h2]
  rw [List.getElem?_drop, List.getElem?_drop] at h3
  simp at h3
  rw [getD_lt' _ _ _ (by omega)]
  rw [List.getElem?_eq_getElem (by omega), List.getElem?_eq_getElem hj] at h3
  simpa using h3
/-! ### The multipliers -/
def prog (r k : Nat) : List Nat := (List.range k).map fun i => 1 + i * r
def cnt (d r : Nat) : Nat := (d - 1 + r - 1) / r
def muls (d r : Nat) : List Nat := if d = 1 then [1] else (prog r (cnt d r)).filter fun a => Nat.gcd a d == 1
theorem prog_succ (r k : Nat) : prog r (k + 1) = prog r k ++ [1 + k * r] := by simp [prog, List.range_succ]
theorem prog_length (r k : Nat) : (prog r k).length = k := by simp [prog]
theorem cnt_eq (d r k : Nat) (hr : 1 ≤ r) (h1 : d ≤ 1 + k * r) (h2 : k = 0 ∨ 1 + (k - 1) * r < d) (hd : 1 ≤ d) : k = cnt d r := by
  unfold cnt
  rcases h2 with h2 | h2
  · subst h2
    symm; apply Nat.div_eq_of_lt; omega
  · obtain ⟨j, rfl⟩ : ∃ j, k = j + 1 := by
      rcases Nat.eq_zero_or_pos k with h | h
      · subst h
        exact absurd h2 (by omega)
      · exact ⟨k - 1, by omega⟩
    symm
    rw [Nat.div_eq_iff (by omega)]
    simp only [Nat.add_sub_cancel] at h2
    rw [Nat.succ_mul] at h1 ⊢
    omega
def I (l : List Nat) : List Int := l.map fun n : Nat => (n : Int)
theorem I_length (l : List Nat) : (I l).length = l.length := by simp [I]
theorem I_getD (l : List Nat) (k : Nat) : (I l).getD k 0 = (l.getD k 0 : Nat) := by
  simp [I, List.getD_eq_getElem?_getD]
  cases l[k]? <;> simp
theorem I_append (l m : List Nat) : I (l ++ m) = I l ++ I m := by simp [I]
theorem prog_lt (r k d a : Nat) (h2 : k = 0 ∨ 1 + (k - 1) * r < d) (ha : a ∈ prog r k) : 1 ≤ a ∧ a < d := by
  simp only [prog, List.mem_map, List.mem_range] at ha
  obtain ⟨i, hi, rfl⟩ := ha
  have h1 : i * r ≤ (k - 1) * r := Nat.mul_le_mul_right _ (by omega)
  omega
theorem filter_I (l : List Nat) (d : Nat) : (I l).filter (fun a => !decide (1 < Nat.gcd a.toNat d)) = I (l.filter fun a => !decide (1 < Nat.gcd a d)) := by
  induction l with
  | nil => rfl
  | cons a l ih =>
    simp only [I, List.map_cons, List.filter_cons, Int.toNat_natCast] at ih ⊢
    rw [ih]
    split <;> simp
theorem prog_filter (d r k : Nat) (hd : 2 ≤ d) : (prog r k).filter (fun a => !decide (1 < Nat.gcd a d)) = (prog r k).filter fun a => Nat.gcd a d == 1 := by
  apply List.filter_congr
  intro a ha
  have h1 : 0 < Nat.gcd a d := Nat.gcd_pos_of_pos_right _ (by omega)
  rw [Bool.eq_iff_iff]
  simp; omega
theorem muls_length (d r : Nat) (hd : 1 ≤ d) (hd2 : d ≤ 64) (hr : 1 ≤ r) : (muls d r).length ≤ 64 := by
  unfold muls
  split
  · simp
  · refine Nat.le_trans (List.length_filter_le _ _) ?_
    rw [prog_length]; unfold cnt
    have : (d - 1 + r - 1) / r ≤ d - 1 := by
      rw [← Nat.lt_succ_iff, Nat.div_lt_iff_lt_mul (by omega), Nat.succ_mul]
      have := Nat.le_mul_of_pos_right (d - 1) (by omega : 0 < r)
      omega
    omega
theorem cnt_bd (d r : Nat) (hr : 1 ≤ r) (hd : 1 ≤ d) : cnt d r = 0 ∨ 1 + (cnt d r - 1) * r < d := by
  unfold cnt
  have h1 := Nat.div_mul_le_self (d - 1 + r - 1) r
  generalize hq : (d - 1 + r - 1) / r = q at *
  rcases Nat.eq_zero_or_pos q with h | h
  · exact .inl h
  · obtain ⟨j, rfl⟩ : ∃ j, q = j + 1 := ⟨q - 1, by omega⟩
    rw [Nat.succ_mul] at h1
    simp only [Nat.add_sub_cancel]
    omega
theorem muls_mem (d r a : Nat) (hd : 1 ≤ d) (hr : 1 ≤ r) (ha : a ∈ muls d r) : 1 ≤ a ∧ a ≤ d ∧ Nat.gcd a d = 1 ∧ (a < d ∨ d = 1) := by
  unfold muls at ha
  split at ha
  · simp at ha; subst ha; subst_vars; exact ⟨by omega, by omega, by simp, .inr rfl⟩
  · rw [List.mem_filter] at ha
    have := prog_lt r (cnt d r) d a (cnt_bd d r hr hd) ha.1
    exact ⟨this.1, by omega, by simpa using ha.2, .inl this.2⟩
theorem cnt_pos (d r : Nat) (hd : 2 ≤ d) (hr : 1 ≤ r) : 1 ≤ cnt d r := by
  unfold cnt
  rw [Nat.le_div_iff_mul_le (by omega)]; omega
theorem muls_pos (d r : Nat) (hd : 1 ≤ d) (hr : 1 ≤ r) : 1 ≤ (muls d r).length := by
  unfold muls
  split
  · simp
  · have h1 : 1 ∈ (prog r (cnt d r)).filter fun a => Nat.gcd a d == 1 := by
      rw [List.mem_filter]
      exact ⟨by simp only [prog, List.mem_map, List.mem_range]; exact ⟨0, cnt_pos d r (by omega) hr, by simp⟩, by simp⟩
    exact List.length_pos_of_mem h1
end Go.Proofs.YtcljokdiblnhiaaGreatDoor
end
section
namespace Go.Proofs.YtcljokdiblnhiaaGreatDoor
open Go.RowKit
theorem infoInt : (Tryz.prog.info? 3).map (fun i => (i.zero, i.size, i.bytes)) = some (some (.int .i64 0), 1, 8) := by kernel_rfl
set_option maxHeartbeats 400000 in
theorem common_any (a b : Int) (w : World) (ha : 0 ≤ a) (hb : 0 ≤ b) (ha2 : a ≤ 9223372036854775807) (hb2 : b ≤ 9223372036854775807) :
    Calls Tryz.prog 234 #[.int .i64 a, .int .i64 b] w fun e w' => e = .returned (.int .i64 (Nat.gcd a.toNat b.toNat)) ∧ ∃ n, w' = w.drewN n := by
  obtain ⟨x0, rfl⟩ := Int.eq_ofNat_of_zero_le ha
  obtain ⟨y0, rfl⟩ := Int.eq_ofNat_of_zero_le hb
  rw [Int.toNat_natCast, Int.toNat_natCast]
  go_enter Tryz.func234, Tryz.ntmps234
  go_wp2
  go_loopw [0, 1] (fun a b wr => ∃ x y n : Nat, a = .int .i64 x ∧ b = .int .i64 y ∧ x ≤ 9223372036854775807 ∧ y ≤ 9223372036854775807 ∧ Nat.gcd x y = Nat.gcd x0 y0 ∧ wr = w.drewN n) (fun _ b _ => (intOf b).toNat)
  case atStart => exact ⟨x0, y0, 0, rfl, rfl, by omega, by omega, rfl, rfl⟩
  case round =>
    obtain ⟨x, y, n, rfl, rfl, hx, hy, hg, rfl⟩ := hrel
    have HG := Lib.hid hg; clear hg
    by_cases hlt : 0 < y
    · go_wp2
      go_quiet (fail)
      go_wp2
      go_roundw
      case rel => exact ⟨y, x % y, _, rfl, by simp, by omega, by have := Nat.mod_lt x hlt; omega, by rw [← HG.out, Nat.gcd_comm y, ← Nat.gcd_rec]; exact Nat.gcd_comm _ _, World.drewN_drewN _ _ _⟩
      case measure => simp [intOf]; exact Nat.mod_lt _ hlt
    · go_wp2
      go_ret
      obtain rfl : y = 0 := by omega
      exact ⟨ret_i (by rw [← HG.out]; simp), _, rfl⟩
def cd (d : Nat) (a : Int) : Bool := decide (1 < Nat.gcd a.toNat d)
theorem cd_def (d : Nat) (a : Int) : decide ((1 : Int) < (Nat.gcd a.toNat d : Int)) = cd d a := by
  unfold cd; rw [decide_eq_decide]; omega
theorem mult1_any (a : Int) (d : Nat) (g : Nat) (w : World) (ha : 0 ≤ a) (ha2 : a ≤ 64) (hd2 : d ≤ 64) (hc : w.cell? ⟨g, 0, none⟩ = some (.int .i64 d)) :
    Calls Tryz.prog 233 #[.int .i64 a, .pointer (some ⟨g, 0, none⟩)] w fun e w' => e = .returned (.bool (cd d a)) ∧ ∃ n, w' = w.drewN n := by
  go_enter Tryz.func233, Tryz.ntmps233
  go_wp2_with (go_at_call 234; refine (common_any _ _ _ (by omega) (by omega) (by omega) (by omega)).mono ?_; rintro e w' ⟨rfl, n, rfl⟩)
  go_ret
  refine ⟨ret_b ?_, n, rfl⟩
  exact cd_def d a
theorem indexFunc_any (v : Value) (l : List Int) (d g : Nat) (w : World) (h : Ints w v l) (hl : ∀ a ∈ l, 0 ≤ a ∧ a ≤ 64) (hd2 : d ≤ 64) (hc : w.cell? ⟨g, 0, none⟩ = some (.int .i64 d)) :
    Calls Tryz.prog 155 #[v, .func (.func 233) #[] #[.pointer (some ⟨g, 0, none⟩)]] w fun e w' => e = .returned (.int .i64 (idxP (cd d) l)) ∧ ∃ n, w' = w.drewN n := by
  obtain ⟨A, c, rfl, h1, h2, h3⟩ := h
  unfold maxLen at h2
  have HL := Lib.hid hl; clear hl
  go_enter Tryz.func155, Tryz.ntmps155
  go_wp2
  go_loopw [8] (fun i wr => ∃ k n : Nat, k ≤ l.length ∧ i = .int .i64 k ∧ wr = w.drewN n ∧ ∀ j, j < k → cd d (l.getD j 0) = false) (fun i _ => l.length - (intOf i).toNat)
  case atStart => exact ⟨0, 0, Nat.zero_le _, rfl, rfl, by omega⟩
  case round =>
    obtain ⟨k, n, hk, rfl, rfl, hno⟩ := hrel
    have HN := Lib.hid hno; clear hno
    by_cases hlt : k < l.length
    · obtain ⟨b, o, rfl, _, hck⟩ := h3 (by omega)
      replace hck := hck k hlt
      have hb := HL.out l[k] (List.getElem_mem hlt)
      obtain ⟨hb1, hb2⟩ := hb
      rw [getD_ltB _ _ _ hlt] at hck
      clear h3
      cases hcd : cd d l[k]
      · have HC := Lib.hid hcd
        go_wp2_with (go_at_call 233; refine (mult1_any _ d g _ (by omega) (by omega) hd2 (by go_simp)).mono ?_; rintro e w' ⟨rfl, n', rfl⟩)
        go_roundw
        case rel =>
          refine ⟨k + 1, _, by omega, by go_num, rfl, fun j hj => ?_⟩
          rcases Nat.lt_or_ge j k with h | h
          · exact HN.out j h
          · have : j = k := by omega
            subst this
            rw [getD_ltB _ _ _ hlt]; exact HC.out
        case measure => simp [intOf]; omega
      · have HC := Lib.hid hcd
        go_wp2_with (go_at_call 233; refine (mult1_any _ d g _ (by omega) (by omega) hd2 (by go_simp)).mono ?_; rintro e w' ⟨rfl, n', rfl⟩)
        go_ret
        exact ⟨ret_i (idxP_at l _ k hlt HC.out HN.out).symm, _, rfl⟩
    · go_wp2
      go_ret
      exact ⟨ret_i (idxP_no l _ fun j hj => HN.out j (by omega)).symm, _, rfl⟩
def RetOwn (w : World) (l : List Int) (e : Ending) (w' : World) : Prop :=
  ∃ v, e = .returned v ∧ w'.ownsRow w.heap.size 3 1 v l.length (l.map (Value.int .i64)) ∧ Below w.heap.size w w'
def RetOwnB (base : Nat) (w : World) (l : List Int) (e : Ending) (w' : World) : Prop :=
  ∃ v, e = .returned v ∧ w'.ownsRow base 3 1 v l.length (l.map (Value.int .i64)) ∧ Below base w w'
theorem run_clear_tail {P : Program} (w : World) (t e ty : TypeId) (z : Value) (ht : P.underlying t = some (.slice e)) (hv : ∀ w, (zeroValue e).run P w = .ok z w) (hz : z.cells = #[z]) (h1 : z.oneCell' = true)
    (base g n cap i : Nat) (xs : List Value) (hi : i ≤ n) (hown : w.ownsRow base e 1 (.slice (some ⟨g, 0, none⟩) n cap) n xs) :
    ∃ w', (Builtin.clear_ #[t] ty #[.slice (if cap = i then some ⟨g, 0, none⟩ else some ⟨g, i, none⟩) (n - i) (cap - i)]).run P w = .ok (.tuple #[]) w' ∧
      w'.ownsRow base e 1 (.slice (some ⟨g, 0, none⟩) i cap) i (xs.take i) ∧ w.grownBy w' (some g) := by
  have hown0 := hown
  rcases hown.2 with ⟨h, _⟩ | ⟨g', cap', cur, h, hbg, hh, hnc, hcm, hcs, htake⟩
  · simp at h
  · simp only [Value.slice.injEq, Option.some.injEq, Addr.mk.injEq, and_true, true_and] at h
    obtain ⟨rfl, rfl⟩ := h
    have hxl : xs.length = n := by simpa using hown.1
    rcases Nat.lt_or_ge i n with hlt | hge
    · rw [if_neg (by omega)]
      have hzc : (Builtin.zeroCells z.cells (n - i)).toList = List.replicate (n - i) z := by
        rw [hz]
        simp [Builtin.zeroCells]
        apply List.ext_getElem
        · simp
        · intro i h1 h2
          simp [Nat.mod_one]
      have hst := run_storeCells_at P g i e (List.replicate (n - i) z) 0 cur w hh (by simp; omega) (fun v hv' => by rw [List.eq_of_mem_replicate hv']; exact h1)
      simp only [Nat.add_zero] at hst
      obtain ⟨cur', hc'⟩ : ∃ c, c = (List.take i cur.toList ++ List.replicate (n - i) z ++ List.drop (i + (List.replicate (n - i) z).length) cur.toList).toArray := ⟨_, rfl⟩
      rw [← hc'] at hst
      have hs' : cur'.size = cap * 1 := by subst hc'; simp; omega
      have ht' : cur'.toList.take (i * 1) = xs.take i := by
        subst hc'
        simp only [Nat.mul_one, List.append_assoc]
        rw [List.take_append_of_le_length (by simp; omega), List.take_take, Nat.min_self, ← htake, List.take_take]
        congr 1; omega
      refine ⟨w.setRow g cur', ?_, ⟨by simp; omega, .inr ⟨g, cap, cur', rfl, hbg, setRow_heap w g cur cur' e _ hh, by omega, hcm, hs', ht'⟩⟩, ⟨rfl, rfl, rfl, by simp, fun k _ hk => setRow_other w g k _ (fun e => hk (by simp [e]))⟩⟩
      obtain ⟨m, hm⟩ : ∃ m, n - i = m + 1 := ⟨n - i - 1, by omega⟩
      rw [hm] at hzc hst ⊢
      simp [Builtin.clear_, run_underlying ht, hv, hzc, hst]
    · obtain rfl : i = n := by omega
      refine ⟨w, ?_, ?_, World.grownBy.refl w _⟩
      · rw [Nat.sub_self]
        by_cases hc : cap = i
        · rw [if_pos hc]; simp [Builtin.clear_, run_underlying ht]
        · rw [if_neg hc]; simp [Builtin.clear_, run_underlying ht]
      · rw [List.take_of_length_le (by omega)]; exact hown0
theorem zeroInt (w : World) : (zeroValue 3).run Tryz.prog w = .ok (.int .i64 0) w := by kernel_rfl
set_option maxHeartbeats 800000 in
theorem deleteFunc_any (v : Value) (l : List Int) (d g0 base : Nat) (w : World) (hown : w.ownsRow base 3 1 v l.length (l.map (Value.int .i64))) (hbase : base ≤ w.heap.size) (hl : ∀ a ∈ l, 0 ≤ a ∧ a ≤ 64) (hln : l.length ≤ 64) (hd2 : d ≤ 64) (hg0 : g0 < base) (hc : w.cell? ⟨g0, 0, none⟩ = some (.int .i64 d)) :
    Calls Tryz.prog 232 #[v, .func (.func 233) #[] #[.pointer (some ⟨g0, 0, none⟩)]] w (RetOwnB base w (l.filter fun a => !cd d a)) := by
  have hI := Ints.of_own hown
  have HO := Lib.hid hown
  have HL := Lib.hid hl
  rcases idxP_cases (cd d) l with ⟨hi, hno⟩ | ⟨k, hk, hi, hp, hno⟩
  · have HN := Lib.hid hno
    have hIF := indexFunc_any v l d g0 w hI hl hd2 hc
    rw [hi] at hIF
    clear hno hi hl hown
    go_enter Tryz.func232, Tryz.ntmps232
    go_wp2_with (go_at_call 155; refine hIF.mono ?_; rintro e w' ⟨rfl, n', rfl⟩)
    go_ret
    have hf : (l.filter fun a => !cd d a) = l := List.filter_eq_self.2 fun a ha => by rw [HN.out a ha]; rfl
    refine ⟨v, rfl, ?_, below_drewN (Below.refl _ _) _⟩
    rw [hf]; exact HO.out
  · have HN := Lib.hid hno
    have HP := Lib.hid hp
    have hIF := indexFunc_any v l d g0 w hI hl hd2 hc
    rw [hi] at hIF
    obtain ⟨g, cap, rfl, hgb, hglt⟩ := hown.form (by omega)
    clear hno hi hl hp hown hI
    have hk64 : k < 64 := by omega
    have hk1 : ((k : Int) == -1) = false := by simp
    go_enter Tryz.func232, Tryz.ntmps232
    go_wp2_with (go_at_call 155; refine hIF.mono ?_; rintro e w' ⟨rfl, n', rfl⟩)
    have hcap : cap ≤ 9223372036854775807 ∧ l.length ≤ cap := by
      rcases HO.out.2 with ⟨h, _⟩ | ⟨g', cap', cur, h, _, _, h1, h2, _⟩
      · simp at h
      · simp only [Value.slice.injEq, Option.some.injEq, Addr.mk.injEq, and_true, true_and] at h
        obtain ⟨rfl, rfl⟩ := h
        exact ⟨by unfold maxLen at h2; omega, h1⟩
    obtain ⟨hcap1, hcap2⟩ := hcap
    go_loopw [5, 6] (fun i j wr => ∃ (i' j' : Nat) (ys : List Int), i = .int .i64 i' ∧ j = .int .i64 j' ∧ i' < j' ∧ j' ≤ l.length ∧ ys.length = l.length ∧
        wr.ownsRow base 3 1 (.slice (some ⟨g, 0, none⟩) l.length cap) l.length (ys.map (Value.int .i64)) ∧ Below base w wr ∧
        ys.take i' = (l.take j').filter (fun a => !cd d a) ∧ ys.drop j' = l.drop j')
      (fun _ j _ => l.length - (intOf j).toNat)
    case atStart =>
      refine ⟨k, k + 1, l, rfl, by go_num, by omega, by omega, rfl, HO.out, below_drewN (Below.refl _ _) _, ?_, rfl⟩
      rw [filter_take_one l _ k hk, HP.out]
      have : (l.take k).filter (fun a => !cd d a) = l.take k := List.filter_eq_self.2 fun a ha => by rw [HN.out a ha]; rfl
      simp [this]
    case round =>
      obtain ⟨i, j, ys, rfl, rfl, hij, hjl, hyl, hown, hbel, hy1, hy2⟩ := hrel
      have HOW := Lib.hid hown
      have HY := Lib.hid hy1
      have HY2 := Lib.hid hy2
      have hsz := hbel.size
      by_cases hlt : j < l.length
      · have hb := HL.out l[j] (List.getElem_mem hlt)
        obtain ⟨hb1, hb2⟩ := hb
        have hcj : wr.cell? ⟨g, j, none⟩ = some (.int .i64 l[j]) := by
          rw [hown.cellAt j (by omega), List.getElem?_map, List.getElem?_eq_getElem (by omega)]
          have := getD_drop_eq l ys j hlt hyl hy2
          rw [getD_ltB _ _ _ (by omega)] at this
          simp [this]
        have hfr : wr.frozen? ⟨g, i, none⟩ = false := hown.frozenAt i
        have hci : wr.cell? ⟨g, i, none⟩ = some (.int .i64 (ys.getD i 0)) := by
          rw [hown.cellAt i (by omega), List.getElem?_map, List.getElem?_eq_getElem (by omega), getD_ltB _ _ _ (by omega)]; rfl
        have hcg : wr.cell? ⟨g0, 0, none⟩ = some (.int .i64 d) := by rw [hbel.cell (p := ⟨g0, 0, none⟩) hg0]; exact hc
        have HB := Lib.hid hbel
        clear hown hy1 hy2 hc hbel
        cases hq : cd d l[j]
        · have HQ := Lib.hid hq
          go_wp2_with (go_at_call 233; refine (mult1_any _ d g0 _ (by omega) (by omega) hd2 (by go_simp)).mono ?_; rintro e w' ⟨rfl, n', rfl⟩)
          go_roundw
          case rel =>
            have hdk := del_keep l ys (fun a => !cd d a) i j hij hlt hyl HY.out HY2.out (by rw [HQ.out]; rfl)
            have hst := World.ownsRow.stored HOW.out i (.int .i64 l[j])
            refine ⟨i + 1, j + 1, ys.set i l[j], by go_num, by go_num, by omega, by omega, by simpa using hyl, ?_, ?_, hdk.1, hdk.2⟩
            · rw [List.map_set]; exact hst.1
            · exact below_drewN (HB.out.setCell (p := ⟨g, i, none⟩) (by simpa using hgb) _) _
          case measure => simp [intOf]; omega
        · have HQ := Lib.hid hq
          go_wp2_with (go_at_call 233; refine (mult1_any _ d g0 _ (by omega) (by omega) hd2 (by go_simp)).mono ?_; rintro e w' ⟨rfl, n', rfl⟩)
          go_roundw
          case rel =>
            have hdk := del_drop l ys (fun a => !cd d a) i j hlt HY.out HY2.out (by rw [HQ.out]; rfl)
            exact ⟨i, j + 1, ys, rfl, by go_num, by omega, by omega, hyl, HOW.out, below_drewN HB.out _, hdk.1, hdk.2⟩
          case measure => simp [intOf]; omega
      · obtain rfl : j = l.length := by omega
        obtain ⟨w2, hrun, hown2, hg2⟩ := run_clear_tail (P := Tryz.prog) wr 48 3 0 (.int .i64 0) Tryz.underlying48 zeroInt rfl rfl base g l.length cap i (ys.map (Value.int .i64)) (by omega) hown
        have HB := Lib.hid hbel
        have HH := Lib.hid hown2
        have HG := Lib.hid hg2
        clear hown hy1 hy2 hc hbel hown2 hg2
        have hend : RetOwnB base w (l.filter fun a => !cd d a) (.returned (.slice (some ⟨g, 0, none⟩) i cap)) w2 := by
          have h1 : (ys.take i).length = i := by rw [List.length_take]; omega
          have h2 : ys.take i = l.filter (fun a => !cd d a) := by rw [HY.out, List.take_length]
          rw [← h2]
          refine ⟨_, rfl, ?_, HB.out.grown HG.out (by omega) (by simp; omega)⟩
          rw [h1, List.map_take]; exact HH.out
        have HE := Lib.hid hend
        clear hend
        rw [if_neg (by omega)] at hrun
        have hcl : ∀ ty, (Builtin.clear_ #[48] ty #[.slice (some ⟨g, i, none⟩) (l.length - i) (cap - i)]).run Tryz.prog wr = .ok (.tuple #[]) w2 := fun ty => hrun
        go_wp2
        go_ret
        exact HE.out
end Go.Proofs.YtcljokdiblnhiaaGreatDoor
end
section
namespace Go.Proofs.YtcljokdiblnhiaaGreatDoor
open Go.RowKit
theorem cd_filter (d : Nat) (l : List Nat) : (I l).filter (fun a => !cd d a) = I (l.filter fun a => !decide (1 < Nat.gcd a d)) := filter_I l d
set_option maxHeartbeats 800000 in
theorem multipliers_any (d r : Nat) (w : World) (hd : 1 ≤ d) (hd2 : d ≤ 64) (hr : 1 ≤ r) (hr2 : r ≤ 8) (hdr : d = 1 → r = 1) :
    Calls Tryz.prog 223 #[.agg #[.int .i64 d, .int .i64 r]] w (RetOwn w (I (muls d r))) := by
  by_cases h1 : d = 1
  · obtain rfl := hdr h1
    subst h1
    go_enter Tryz.func223, Tryz.ntmps223
    go_wp2
    go_ret
    refine ⟨_, rfl, ?_, ((Below.refl _ _).alloc (Nat.le_refl _) _).alloc (by simp) _⟩
    have := World.ownsRow_lit (base := w.heap.size) (size := 1) (e := 3) (w.alloc (.cells #[.int .i64 1, .int .i64 1] 280)) #[.int .i64 1] 1 (by simp) (by simp [maxLen]) (by simp)
    simpa [I, muls] using this
  · have h2 : ((d : Int) == 1) = false := by simp; omega
    have HD := Lib.hid h1
    clear hdr h1
    go_enter Tryz.func223, Tryz.ntmps223
    go_wp2
    go_loopw [3, 4] (fun v a wr => ∃ k : Nat, a = .int .i64 (1 + k * r : Nat) ∧ k ≤ 64 ∧ (k = 0 ∨ 1 + (k - 1) * r < d) ∧ wr.ownsRow (w.heap.size + 1) 3 1 v k ((I (prog r k)).map (Value.int .i64)) ∧
        Below (w.heap.size + 1) (w.alloc (.cells #[.int .i64 d, .int .i64 r] 280)) wr)
      (fun _ a _ => d - (intOf a).toNat)
    case atStart => exact ⟨0, by simp, by omega, .inl rfl, World.ownsRow_nil _ _ _ _, Below.refl _ _⟩
    case round =>
      obtain ⟨k, rfl, hk, hk2, hown, hbel⟩ := hrel
      have hsz : w.heap.size + 1 ≤ wr.heap.size := by have := hbel.size; simpa using this
      have hc0 : wr.cell? ⟨w.heap.size, 0, none⟩ = some (.int .i64 d) := by rw [hbel.cell (p := ⟨w.heap.size, 0, none⟩) (by simp)]; simp
      have hc1 : wr.cell? ⟨w.heap.size, 1, none⟩ = some (.int .i64 r) := by rw [hbel.cell (p := ⟨w.heap.size, 1, none⟩) (by simp)]; simp
      have hkr : k * r ≤ 64 * 8 := Nat.mul_le_mul hk hr2
      obtain ⟨a, ha⟩ : ∃ a, a = 1 + k * r := ⟨_, rfl⟩
      rw [← ha]
      have ha2 : a ≤ 1000 := by omega
      have HA := Lib.hid ha
      have HB := Lib.hid hbel
      have HO := Lib.hid hown
      by_cases hlt : a < d
      · have hk3 : k < 64 := by
          have := Nat.le_mul_of_pos_right k (by omega : 0 < r)
          omega
        clear ha hkr hbel hown
        go_wp2_with (at_builtin; refine wpList_append1 rfl _ _ _ rfl 3 (.int .i64 0) 8 Tryz.underlying48 infoInt rfl _ (w.heap.size + 1) _ k _ rfl (HO.out.alloc _) wr.heap.size (.int .i64 a) rfl (by simp) rfl (by omega) (by omega) (HB.out.alloc (by omega) _) (by simp; omega) ?_; intro v1 w1 hown1 hbel1 hg1; have hc11 : w1.cell? ⟨w.heap.size, 1, none⟩ = some (.int .i64 r) := (by rw [hbel1.cell (p := ⟨w.heap.size, 1, none⟩) (by simp)]; simp); have HO1 := Lib.hid hown1; have HB1 := Lib.hid hbel1; clear hown1 hbel1 hg1)
        go_roundw
        case rel =>
          refine ⟨k + 1, ?_, by omega, .inr ?_, ?_, HB1.out⟩
          · rw [HA.out, Nat.succ_mul]; go_num
          · rw [Nat.add_sub_cancel, ← HA.out]; exact hlt
          · rw [prog_succ, I_append, List.map_append, ← HA.out]; exact HO1.out
        case measure => simp [intOf]; omega
      · have hkc : k = cnt d r := cnt_eq d r k hr (by omega) hk2 hd
        clear ha hkr hbel hown
        have hL : (I (prog r k)).length = k := by rw [I_length, prog_length]
        have hbd : ∀ a ∈ I (prog r k), 0 ≤ a ∧ a ≤ 64 := by
          intro a ha
          simp only [I, List.mem_map] at ha
          obtain ⟨n, hn, rfl⟩ := ha
          have := prog_lt r k d n hk2 hn
          omega
        have HL := Lib.hid hL
        have HK := Lib.hid hkc
        have HBD := Lib.hid hbd
        clear hL hkc hbd
        go_wp2_with (go_at_call 232; refine (deleteFunc_any _ (I (prog r k)) d w.heap.size (w.heap.size + 1) wr (by rw [HL.out]; exact HO.out) hsz HBD.out (by rw [HL.out]; exact hk) hd2 (by omega) hc0).mono ?_; rintro e w' ⟨v', rfl, hown', hbel'⟩; have HO' := Lib.hid hown'; have HB' := Lib.hid hbel'; clear hown' hbel')
        go_ret
        have hm : ((I (prog r k)).filter fun a => !cd d a) = I (muls d r) := by
          rw [cd_filter, prog_filter d r k (by have := HD.out; omega), HK.out, muls, if_neg HD.out]
        rw [hm] at HO'
        refine ⟨v', rfl, ?_, ?_⟩
        · exact HO'.out.mono (by omega)
        · exact (((Below.refl _ _).alloc (Nat.le_refl _) _).trans (HB.out.mono (by omega))).trans (HB'.out.mono (by omega))
end Go.Proofs.YtcljokdiblnhiaaGreatDoor
end
section
namespace Go.Proofs.YtcljokdiblnhiaaGreatDoor
open Go.RowKit
def OkC (d r n s l i : Int) : Prop := (1 ≤ d ∧ d ≤ 64) ∧ (1 ≤ r ∧ r ≤ 8) ∧ (1 ≤ n ∧ n ≤ 4096) ∧ (0 ≤ s ∧ s ≤ d - 1) ∧ (1 ≤ l ∧ l ≤ 65536) ∧ (1 ≤ i ∧ i ≤ 65536) ∧ d % r = 0
instance (d r n s l i : Int) : Decidable (OkC d r n s l i) := by unfold OkC; infer_instance
def chk13 (d r n s l i : Int) : Int := if OkC d r n s l i then 0 else 1
theorem chk13_yes {d r n s l i : Int} (h : OkC d r n s l i) : chk13 d r n s l i = 0 := if_pos h
theorem chk13_no {d r n s l i : Int} (h : ¬ OkC d r n s l i) : chk13 d r n s l i = 1 := if_neg h
theorem within_any (a b c : Int) (w : World) :
    Calls Tryz.prog 222 #[.int .i64 a, .int .i64 b, .int .i64 c] w fun e w' => e = .returned (.bool (decide (b ≤ a) && decide (a ≤ c))) ∧ w = w' := by
  by_cases h : b ≤ a
  · by_cases h2 : a ≤ c
    · go_enter Tryz.func222, Tryz.ntmps222
      go_wp2
      go_ret
      first | (simp [h, h2]; done) | (simp [h, h2]; omega)
    · have h2' : c < a := by omega
      go_enter Tryz.func222, Tryz.ntmps222
      go_wp2
      go_ret
      first | (simp [h, h2]; done) | (simp [h, h2]; omega)
  · have h' : a < b := by omega
    go_enter Tryz.func222, Tryz.ntmps222
    go_wp2
    go_ret
    first | (simp [h]; done) | (simp; intros; omega)
set_option maxHeartbeats 1600000 in
theorem check_any (d r n s l i : Int) (w : World) :
    Calls Tryz.prog 192 #[.agg #[.int .i64 d, .int .i64 r, .int .i64 n, .int .i64 s, .int .i64 l, .int .i64 i]] w fun e w' => e = .returned (.int .i64 (chk13 d r n s l i)) ∧ Below w.heap.size w w' := by
  go_enter Tryz.func192, Tryz.ntmps192
  go_wp2_with (go_at_call 222; refine (within_any _ _ _ _).mono ?_; rintro e w' ⟨rfl, rfl⟩)
  all_goals (go_ret; refine ⟨ret_i ?_, by go_grown⟩)
  all_goals first
    | (rw [chk13_no]; unfold OkC; intro h; obtain ⟨h1, h2, h3, h4, h5, h6, h7⟩ := h; first | (exact absurd h1 ‹_›) | (exact absurd h2 ‹_›) | (exact absurd h3 ‹_›) | (exact absurd h4 ‹_›) | (exact absurd h5 ‹_›) | (exact absurd h6 ‹_›) | (have hx : (d % r != 0) = true := (by assumption); simp [h7] at hx); done)
    | (rw [chk13_yes]; have hx : (d % r != 0) = false := (by assumption); exact ⟨‹_›, ‹_›, ‹_›, ‹_›, ‹_›, ‹_›, by simpa using hx⟩)
    | skip
theorem check_yes (d r n s l i : Int) (w : World) (h : OkC d r n s l i) :
    Calls Tryz.prog 192 #[.agg #[.int .i64 d, .int .i64 r, .int .i64 n, .int .i64 s, .int .i64 l, .int .i64 i]] w fun e w' => e = .returned (.int .i64 0) ∧ Below w.heap.size w w' := by
  have := check_any d r n s l i w; rwa [chk13_yes h] at this
theorem check_no (d r n s l i : Int) (w : World) (h : ¬ OkC d r n s l i) :
    Calls Tryz.prog 192 #[.agg #[.int .i64 d, .int .i64 r, .int .i64 n, .int .i64 s, .int .i64 l, .int .i64 i]] w fun e w' => e = .returned (.int .i64 1) ∧ Below w.heap.size w w' := by
  have := check_any d r n s l i w; rwa [chk13_no h] at this
def mulI (d r n s l i : Int) : List Int := if OkC d r n s l i then I (muls d.toNat r.toNat) else []
theorem mulI_yes {d r n s l i : Int} (h : OkC d r n s l i) : mulI d r n s l i = I (muls d.toNat r.toNat) := if_pos h
theorem mulI_no {d r n s l i : Int} (h : ¬ OkC d r n s l i) : mulI d r n s l i = [] := if_neg h
theorem RetOwn.nil {w w' : World} (hb : Below w.heap.size w w') : RetOwn w [] (.returned (.slice none 0 0)) w' := ⟨_, rfl, World.ownsRow_nil _ _ _ _, hb⟩
theorem RetOwn.later {w w1 : World} {l : List Int} {e : Ending} {w' : World} (h : RetOwn w1 l e w') (hb : Below w.heap.size w w1) : RetOwn w l e w' := by
  obtain ⟨v, rfl, ho, hb'⟩ := h
  exact ⟨v, rfl, ho.mono hb.size, hb.trans (hb'.mono hb.size)⟩
set_option maxHeartbeats 400000 in
theorem multsOf_any (d r n s l i : Int) (w : World) :
    Calls Tryz.prog 193 #[.agg #[.int .i64 d, .int .i64 r, .int .i64 n, .int .i64 s, .int .i64 l, .int .i64 i]] w (RetOwn w (mulI d r n s l i)) := by
  by_cases hok : OkC d r n s l i
  · rw [mulI_yes hok]
    have hok2 := hok
    obtain ⟨⟨h1, h2⟩, ⟨h3, h4⟩, _, _, _, _, h5⟩ := hok2
    have H5 := Lib.hid h5
    clear h5
    have HK := Lib.hid hok
    clear hok
    obtain ⟨D, rfl⟩ := Int.eq_ofNat_of_zero_le (by omega : 0 ≤ d)
    obtain ⟨R, rfl⟩ := Int.eq_ofNat_of_zero_le (by omega : 0 ≤ r)
    have hdr : D = 1 → R = 1 := by
      intro h; subst h
      have h6 : ((1 : Nat) % R : Nat) = 0 := by have := H5.out; omega
      rcases Nat.lt_or_ge 1 R with h7 | h7
      · rw [Nat.mod_eq_of_lt h7] at h6; omega
      · omega
    have HDR := Lib.hid hdr
    clear hdr
    go_enter Tryz.func193, Tryz.ntmps193
    go_wp2_with (first | (go_at_call 192; refine (check_yes _ _ _ _ _ _ _ HK.out).mono ?_; rintro e w1 ⟨rfl, hb1⟩; obtain ⟨hc, hf⟩ := bcell hb1; have HB := Lib.hid hb1; clear hb1) | (go_at_call 223; refine (multipliers_any D R _ (by omega) (by omega) (by omega) (by omega) HDR.out).mono ?_; rintro e w2 ⟨v, rfl, hown, hb2⟩))
    go_ret
    have hb : Below w.heap.size w w1 := ((Below.refl _ _).alloc (Nat.le_refl _) _).trans (HB.out.mono (by simp))
    exact RetOwn.later ⟨v, rfl, hown, hb2⟩ hb
  · rw [mulI_no hok]
    have HK := Lib.hid hok
    clear hok
    go_enter Tryz.func193, Tryz.ntmps193
    go_wp2_with (go_at_call 192; refine (check_no _ _ _ _ _ _ _ HK.out).mono ?_; rintro e w1 ⟨rfl, hb1⟩)
    go_ret
    exact RetOwn.nil (((Below.refl _ _).alloc (Nat.le_refl _) _).trans (hb1.mono (by simp)))
end Go.Proofs.YtcljokdiblnhiaaGreatDoor
end
section
namespace Go.Proofs.YtcljokdiblnhiaaGreatDoor
open Go.RowKit
def mulAt (d r row : Nat) : Nat := (muls d r).getD (row / d % (muls d r).length) 0
theorem mulAt_mem (d r row : Nat) (hd : 1 ≤ d) (hr : 1 ≤ r) : mulAt d r row ∈ muls d r := by
  have h1 := muls_pos d r hd hr
  have h2 := Nat.mod_lt (row / d) (by omega : 0 < (muls d r).length)
  unfold mulAt; rw [getD_ltB _ _ _ h2]; exact List.getElem_mem h2
theorem ret_t3 {a b a' b' : Int} {c : Bool} (h1 : a = a') (h2 : b = b') : Ending.returned (.tuple #[.int .i64 a, .int .i64 b, .bool c]) = .returned (.tuple #[.int .i64 a', .int .i64 b', .bool c]) := by rw [h1, h2]
set_option maxHeartbeats 800000 in
theorem rule_yes (d r n s l i row : Int) (w : World) (hok : OkC d r n s l i) (hr0 : 0 ≤ row) (hr1 : row < n) :
    Calls Tryz.prog 148 #[.agg #[.int .i64 d, .int .i64 r, .int .i64 n, .int .i64 s, .int .i64 l, .int .i64 i], .int .i64 row] w
      fun e w' => e = .returned (.tuple #[.int .i64 (mulAt d.toNat r.toNat row.toNat), .int .i64 (row % d), .bool true]) ∧ Below w.heap.size w w' := by
  have hok2 := hok
  obtain ⟨⟨h1, h2⟩, ⟨h3, h4⟩, ⟨_, h5⟩, _⟩ := hok2
  obtain ⟨D, rfl⟩ := Int.eq_ofNat_of_zero_le (by omega : 0 ≤ d)
  obtain ⟨R, rfl⟩ := Int.eq_ofNat_of_zero_le (by omega : 0 ≤ r)
  obtain ⟨X, rfl⟩ := Int.eq_ofNat_of_zero_le hr0
  have hm := mulI_yes hok
  simp only [Int.toNat_natCast] at hm ⊢
  have hm1 := muls_pos D R (by omega) (by omega)
  have hm2 := muls_length D R (by omega) (by omega) (by omega)
  obtain ⟨m, hmm⟩ : ∃ m, m = (muls D R).length := ⟨_, rfl⟩
  have hix := Nat.mod_lt (X / D) (by omega : 0 < m)
  have hD0 : 0 < D := by omega
  have hq : X / D ≤ X := Nat.div_le_self _ _
  rw [← hmm] at hm1 hm2
  have hfin : (I (muls D R)).getD (X / D % m) 0 = (mulAt D R X : Int) := by rw [I_getD, mulAt, ← hmm]
  have hlen : (I (muls D R)).length = m := by rw [I_length, hmm]
  have HFIN := Lib.hid hfin
  have HLEN := Lib.hid hlen
  have HM := Lib.hid hm
  have hm0 : ((m : Int) == 0) = false := by simp; omega
  clear hm hok hfin hlen hmm
  go_enter Tryz.func148, Tryz.ntmps148
  go_wp2_with (go_at_call 193; refine (multsOf_any _ _ _ _ _ _ _).mono ?_; rintro e w1 ⟨v, rfl, hown, hb1⟩; rw [HM.out] at hown; have hI := Ints.of_own hown; obtain ⟨A, c, rfl, h6, h7, h8⟩ := hI; rw [HLEN.out] at hown h6 h8 ⊢; obtain ⟨b, o, rfl, h9, h10⟩ := h8 (by omega); have h11 := h10 (X / D % m) hix; rw [HFIN.out] at h11; clear hown h10; obtain ⟨hc, hf⟩ := bcell hb1; have HB := Lib.hid hb1; clear hb1)
  have hcd : w1.cell? ⟨w.heap.size, 0, none⟩ = some (.int .i64 D) := by rw [hc _ _ (by simp)]; simp
  clear h8 hc hf
  have hDz : ((D : Int) == 0) = false := by simp; omega
  have hq1 : 0 ≤ (X : Int) / (D : Int) := Int.ediv_nonneg (by omega) (by omega)
  have hq2 : (X : Int) / (D : Int) ≤ 4096 := Int.le_trans (Int.ediv_le_self _ (by omega)) (by omega)
  have hq3 : 0 ≤ (X : Int) / (D : Int) % (m : Int) := Int.emod_nonneg _ (by omega)
  have hq4 : (X : Int) / (D : Int) % (m : Int) < m := Int.emod_lt_of_pos _ (by omega)
  have hq5 : ((X : Int) / (D : Int) % (m : Int)).toNat = X / D % m := toNat_div_mod X D m
  go_quiet (fail)
  go_wp2
  go_ret3
  exact ⟨ret_t3 rfl (by simp), below_drewN (Below.after (by go_grown) HB.out) _⟩
set_option maxHeartbeats 800000 in
theorem rule_no (d r n s l i row : Int) (w : World) (hno : ¬ (OkC d r n s l i ∧ 0 ≤ row ∧ row < n)) :
    Calls Tryz.prog 148 #[.agg #[.int .i64 d, .int .i64 r, .int .i64 n, .int .i64 s, .int .i64 l, .int .i64 i], .int .i64 row] w
      fun e w' => e = .returned (.tuple #[.int .i64 0, .int .i64 0, .bool false]) ∧ Below w.heap.size w w' := by
  by_cases hok : OkC d r n s l i
  · have hm : 0 < (mulI d r n s l i).length ∧ (mulI d r n s l i).length ≤ 64 := by
      rw [mulI_yes hok, I_length]
      obtain ⟨⟨h1, h2⟩, ⟨h3, h4⟩, _⟩ := hok
      exact ⟨muls_pos _ _ (by omega) (by omega), muls_length _ _ (by omega) (by omega) (by omega)⟩
    obtain ⟨L, hL⟩ : ∃ L, mulI d r n s l i = L := ⟨_, rfl⟩
    rw [hL] at hm
    obtain ⟨hm1, hm2⟩ := hm
    have HL := Lib.hid hL
    have HN := Lib.hid hno
    have HK := Lib.hid hok
    have hz : ((L.length : Int) == 0) = false := by simp; intro h; subst h; simp at hm1
    clear hL hno hok
    go_enter Tryz.func148, Tryz.ntmps148
    go_wp2_with (go_at_call 193; refine (multsOf_any _ _ _ _ _ _ _).mono ?_; rintro e w1 ⟨v, rfl, hown, hb1⟩; rw [HL.out] at hown; obtain ⟨A, c, rfl⟩ := own_shape hown; clear hown; obtain ⟨hc, hf⟩ := bcell hb1; have HB := Lib.hid hb1; clear hb1)
    all_goals first
      | (go_ret3; exact ⟨rfl, Below.after (by go_grown) HB.out⟩)
      | (exfalso; have hx : 0 ≤ row ∧ row < n := (by assumption); exact HN.out ⟨HK.out, hx.1, hx.2⟩)
  · have hm := mulI_no hok
    have HM := Lib.hid hm
    clear hno hok hm
    go_enter Tryz.func148, Tryz.ntmps148
    go_wp2_with (go_at_call 193; refine (multsOf_any _ _ _ _ _ _ _).mono ?_; rintro e w1 ⟨v, rfl, hown, hb1⟩; rw [HM.out] at hown; obtain ⟨A, c, rfl⟩ := own_shape hown; clear hown; have HB := Lib.hid hb1; clear hb1)
    go_ret3
    exact ⟨rfl, Below.after (by go_grown) HB.out⟩
end Go.Proofs.YtcljokdiblnhiaaGreatDoor
end
section
namespace Go.Proofs.YtcljokdiblnhiaaGreatDoor
open Go.RowKit
def ord (d r row : Nat) : List Nat := (List.range d).map fun p => (mulAt d r row * p + row) % d
theorem ord_length (d r row : Nat) : (ord d r row).length = d := by simp [ord]
theorem ord_getD (d r row p : Nat) (h : p < d) : (I (ord d r row)).getD p 0 = ((mulAt d r row * p + row) % d : Nat) := by
  rw [getD_ltB _ _ _ (by rw [I_length, ord_length]; exact h)]; simp [I, ord]
def ordI (d r n s l i row : Int) : List Int := if OkC d r n s l i ∧ 0 ≤ row ∧ row < n then I (ord d.toNat r.toNat row.toNat) else []
theorem ordI_yes {d r n s l i row : Int} (h : OkC d r n s l i ∧ 0 ≤ row ∧ row < n) : ordI d r n s l i row = I (ord d.toNat r.toNat row.toNat) := if_pos h
theorem ordI_no {d r n s l i row : Int} (h : ¬ (OkC d r n s l i ∧ 0 ≤ row ∧ row < n)) : ordI d r n s l i row = [] := if_neg h
theorem mul_bd (a p : Nat) (ha : a ≤ 64) (hp : p ≤ 64) : 0 ≤ (a : Int) * (p : Int) ∧ (a : Int) * (p : Int) ≤ 4096 := by
  have h := Nat.mul_le_mul ha hp
  have e : (a : Int) * (p : Int) = ((a * p : Nat) : Int) := by simp
  omega
set_option maxHeartbeats 800000 in
theorem order_any (d r n s l i row : Int) (w : World) :
    Calls Tryz.prog 88 #[.agg #[.int .i64 d, .int .i64 r, .int .i64 n, .int .i64 s, .int .i64 l, .int .i64 i], .int .i64 row] w (RetOwn w (ordI d r n s l i row)) := by
  by_cases hok : OkC d r n s l i ∧ 0 ≤ row ∧ row < n
  · have ho := ordI_yes hok
    obtain ⟨hok1, hr0, hr1⟩ := hok
    have hok2 := hok1
    obtain ⟨⟨h1, h2⟩, ⟨h3, h4⟩, ⟨_, h5⟩, _⟩ := hok2
    obtain ⟨D, rfl⟩ := Int.eq_ofNat_of_zero_le (by omega : 0 ≤ d)
    obtain ⟨R, rfl⟩ := Int.eq_ofNat_of_zero_le (by omega : 0 ≤ r)
    obtain ⟨X, rfl⟩ := Int.eq_ofNat_of_zero_le hr0
    simp only [Int.toNat_natCast] at ho
    rw [ho]
    have hru := rule_yes D R n s l i X
    simp only [Int.toNat_natCast] at hru
    have hmm := muls_mem D R _ (by omega) (by omega) (mulAt_mem D R X (by omega) (by omega))
    obtain ⟨a, ha⟩ : ∃ a, a = mulAt D R X := ⟨_, rfl⟩
    have hL : ∀ p, p < D → (I (ord D R X)).getD p 0 = ((a * p + X) % D : Nat) := fun p hp => by rw [ord_getD D R X p hp, ha]
    have hLl : (I (ord D R X)).length = D := by rw [I_length, ord_length]
    rw [← ha] at hru hmm
    obtain ⟨L, hLL⟩ : ∃ L, L = I (ord D R X) := ⟨_, rfl⟩
    simp only [← hLL] at hL hLl ⊢
    have ha64 : a ≤ 64 := by omega
    have hxd : (X : Int) % D < D := Int.emod_lt_of_pos _ (by omega)
    have hxd0 : 0 ≤ (X : Int) % D := Int.emod_nonneg _ (by omega)
    have HRU := Lib.hid hru
    have HK := Lib.hid hok1
    have HL := Lib.hid hL
    have HLl := Lib.hid hLl
    have hDz : ((D : Int) == 0) = false := by simp; omega
    clear hru hok1 hL hLl ho hLL hmm ha
    go_enter Tryz.func88, Tryz.ntmps88
    go_wp2_with (first
      | (go_at_call 148; refine (HRU.out _ HK.out (by omega) hr1).mono ?_; rintro e w1 ⟨rfl, hb1⟩; have hcd : w1.cell? ⟨w.heap.size, 0, none⟩ = some (.int .i64 D) := (by rw [hb1.cell (p := ⟨w.heap.size, 0, none⟩) (by simp)]; simp); have hs1 : w.heap.size < w1.heap.size := (by have := hb1.size; simp at this; omega); have HB1 := Lib.hid hb1; clear hb1)
      | (at_make; refine wpList_make1 rfl _ _ 48 rfl 3 (.int .i64 0) 8 Tryz.underlying48 infoInt rfl D D D rfl rfl rfl rfl (by omega) (by omega) ?_; intro w2 hown2 hb2 hs2; have HO2 := Lib.hid hown2; have HB2 := Lib.hid hb2; clear hown2 hb2))
    obtain ⟨g, hg⟩ : ∃ g, g = w1.heap.size := ⟨_, rfl⟩
    rw [← hg] at HO2 HB2 hs2 ⊢
    have hsg : w.heap.size < g := by omega
    have HG := Lib.hid hg
    clear hg
    go_loopw [24] (fun k wr => ∃ (k' : Nat) (xs : List Int), k = .int .i64 k' ∧ k' ≤ D ∧ xs.length = D ∧ xs.take k' = L.take k' ∧
        wr.ownsRow g 3 1 (.slice (some ⟨g, 0, none⟩) D D) D (xs.map (Value.int .i64)) ∧ Below g w1 wr)
      (fun k _ => D - (intOf k).toNat)
    case atStart =>
      refine ⟨0, List.replicate D 0, rfl, by omega, by simp, by simp, ?_, HB2.out⟩
      rw [List.map_replicate]; exact HO2.out
    case round =>
      obtain ⟨k, xs, rfl, hk, hxl, hx, hown, hbel⟩ := hrel
      have hs2 := hbel.size
      have HX := Lib.hid hx
      have HO := Lib.hid hown
      have HB := Lib.hid hbel
      have HXL := Lib.hid hxl
      by_cases hlt : k < D
      · have hcell : wr.cell? ⟨g, k, none⟩ = some (.int .i64 (xs.getD k 0)) := by
          rw [hown.cellAt k (by omega), List.getElem?_map, List.getElem?_eq_getElem (by omega), getD_ltB _ _ _ (by omega)]; rfl
        have hfr : wr.frozen? ⟨g, k, none⟩ = false := hown.frozenAt k
        have hcw : wr.cell? ⟨w.heap.size, 0, none⟩ = some (.int .i64 D) := by rw [hbel.cell (p := ⟨w.heap.size, 0, none⟩) hsg]; exact hcd
        obtain ⟨hp1, hp2⟩ := mul_bd a k ha64 (by omega)
        clear hx hown hbel hxl hcd
        go_wp2
        go_roundw
        case rel =>
          have hv := HL.out k hlt
          have hlen : k < L.length := by rw [HLl.out]; exact hlt
          rw [getD_ltB _ _ _ hlen] at hv
          have hsz := HG.out
          have hst := World.ownsRow.stored HO.out k (.int .i64 (((a : Int) * k + X) % D))
          refine ⟨k + 1, xs.set k (((a : Int) * k + X) % D), by go_num, by omega, by simp; exact HXL.out, ?_, ?_, ?_⟩
          · exact fill_step xs L k _ (by rw [HXL.out, HLl.out]) hlen HX.out (by rw [hv]; simp)
          · rw [List.map_set]; exact hst.1
          · exact HB.out.setCell (p := ⟨g, k, none⟩) (by simp) _
        case measure => simp [intOf]; omega
      · obtain rfl : k = D := by omega
        go_wp2
        go_ret
        have hf : xs = L := fill_done xs L k (by rw [HXL.out, HLl.out]) (by rw [HLl.out]; exact Nat.le_refl _) HX.out
        refine ⟨_, rfl, ?_, ?_⟩
        · rw [HLl.out, ← hf]; exact HO.out.mono (by omega)
        · exact (Below.after (by go_grown) HB1.out).trans (HB.out.mono (by omega))
  · rw [ordI_no hok]
    have HK := Lib.hid hok
    clear hok
    go_enter Tryz.func88, Tryz.ntmps88
    go_wp2_with (go_at_call 148; refine (rule_no _ _ _ _ _ _ _ _ HK.out).mono ?_; rintro e w1 ⟨rfl, hb1⟩; have HB1 := Lib.hid hb1; clear hb1)
    go_ret
    exact RetOwn.nil (Below.after (by go_grown) HB1.out)
end Go.Proofs.YtcljokdiblnhiaaGreatDoor
end
section
namespace Go.Proofs.YtcljokdiblnhiaaGreatDoor
open Go.RowKit
set_option maxRecDepth 100000
abbrev cfgA (d r n s l i : Int) : AV := .agg [iV d, iV r, iV n, iV s, iV l, iV i]
theorem ints_of_own {F : Nat → Prop} {w w' : World} {e : Nat} {v : Value} {l : List Int} (ho : OwnSat F [] [] w) (h : w'.ownsRow w.heap.size e 1 v l.length (l.map (Value.int .i64))) : AV.sat F [] [] w' (ints l) v := by
  rw [AV.sat, Dat.sat]
  rcases h.2 with ⟨rfl, hx⟩ | ⟨g, cap, cur, rfl, hb, hh, hnc, hcm, hcs, htake⟩
  · have : l = [] := List.eq_nil_of_length_eq_zero hx
    subst this
    exact ⟨none, 0, rfl, by simp, by simp [maxLen], fun h => by simp at h⟩
  · refine ⟨_, cap, by simp, by simpa using hnc, hcm, fun _ => ⟨g, 0, rfl, (Array.getElem?_eq_some_iff.1 hh).1, fun hbad => ?_, ?_⟩⟩
    · rcases hbad with hbad | hbad
      · have := ho.frame g hbad; omega
      · cases hbad
    · rw [Dat.rowsSat_iff]
      intro j x hx
      rw [List.getElem?_map] at hx
      cases hj : l[j]? with
      | none => rw [hj] at hx; cases hx
      | some n =>
        rw [hj] at hx; obtain rfl : iD n = x := by simpa using hx
        refine ⟨rfl, ?_⟩
        simp only [iD, Dat.rowSat, and_true]
        refine ⟨.int .i64 n, ?_, rfl, rfl⟩
        rw [cell_of_row w' g _ cur e (0, 0) hh, Nat.zero_add, Nat.mul_one]
        have hlt : j < l.length := (List.getElem?_eq_some_iff.1 hj).1
        have h1 : cur.toList[j]? = (l.map (Value.int .i64))[j]? := by rw [← htake, List.getElem?_take, if_pos (by omega)]
        have h2 : cur[j]? = cur.toList[j]? := by simp
        rw [h2, h1, List.getElem?_map, hj]; rfl
theorem A_dchk (d r n s l i : Int) : ACalls Tryz.prog 192 [cfgA d r n s l i] [] (iV (chk13 d r n s l i)) [] := acalls_of_exact rfl fun w => check_any d r n s l i w
theorem A_dord (d r n s l i row : Int) : ACalls Tryz.prog 88 [cfgA d r n s l i, iV row] [] (ints (ordI d r n s l i row)) [] := acalls_of_val rfl fun w => (order_any d r n s l i row w).mono fun e w' ⟨v, he, h1, h2⟩ => ⟨v, he, h2, fun F ho => ints_of_own ho h1⟩
end Go.Proofs.YtcljokdiblnhiaaGreatDoor
end
section
namespace Go.Proofs.YtcljokdiblnhiaaGreatDoor
open Go.RowKit
set_option maxRecDepth 100000
attribute [local irreducible] Quiet Eff OpOk AWPG ACont ABlock ACalls
def OkL (d r n s l i w : Int) : Prop := OkC d r n s l i ∧ 1 ≤ w ∧ w ≤ 32
instance (d r n s l i w : Int) : Decidable (OkL d r n s l i w) := by unfold OkL; infer_instance
def vldL (d r n s l i w : Int) : Bool := decide (OkL d r n s l i w)
def grpI (d r n s l i w : Int) : Int := if OkL d r n s l i w then (d - s) / w else 0
theorem A_lvalid (d r n s l i wd : Int) : ACalls Tryz.prog 147 [cfgA d r n s l i, iV wd] [] (bV (vldL d r n s l i wd)) [] := by
  refine acalls_of_body Tryz.func147 rfl (Nat.le_of_ble_eq_true rfl) ?_
  (repeat' (first
  | (apply yFb; exact rfl; exact rfl)
  | (apply W.qd; (first
    | (apply (yW (A_dchk _ _ _ _ _ _)); exact rfl; exact rfl; (iterate 3 kernel_rfl))|(apply q_mv; (conv => lhs; whnf))|(apply q_as; (conv => lhs; whnf))|(apply yU; (iterate 4 exact rfl))|(apply q_leq; exact rfl; exact rfl)|(apply q_geq; exact rfl; exact rfl)|(apply q_eql; exact rfl; exact rfl)|(apply (yEb (u := .d _)); exact rfl; exact rfl)
    | (apply (yDb (u := .d _)); exact rfl; exact rfl)))|(apply W.ed; (apply yBb; (iterate 3 exact rfl); kernel_rfl; kernel_rfl))|(refine W.gOff _ _ rfl rfl (by intro h; cases h) ?_)|(apply yA)|(apply yB)|(apply yC; kernel_rfl)|(apply yE)|(apply yJ)
  | (refine W.gT _ _ rfl rfl (fun hb => ?_) (fun hb => ?_) <;> ((try simp only [hb, zA, zB]) <;> (try simp only [zC, zD, zE, zF, zG, zH, zI, zJ] at hb) <;> (try (exfalso; omega))))))
  all_goals refine Ends.b rfl ?_
  all_goals (unfold chk13 at *; unfold vldL OkL; simp_all)
  omega
theorem OkL.bd {d r n s l i w : Int} (h : OkL d r n s l i w) : (1 ≤ d ∧ d ≤ 64) ∧ (1 ≤ r ∧ r ≤ 8) ∧ (1 ≤ n ∧ n ≤ 4096) ∧ (0 ≤ s ∧ s ≤ d - 1) ∧ 1 ≤ w ∧ w ≤ 32 := by
  obtain ⟨⟨h1, h2, h3, h4, _⟩, h5⟩ := h; exact ⟨h1, h2, h3, h4, h5⟩
theorem A_lgroups (d r n s l i wd : Int) : ACalls Tryz.prog 89 [cfgA d r n s l i, iV wd] [] (iV (grpI d r n s l i wd)) [] := by
  refine acalls_of_body Tryz.func89 rfl (Nat.le_of_ble_eq_true rfl) ?_
  by_cases hok : OkL d r n s l i wd
  · have hv : vldL d r n s l i wd = true := decide_eq_true hok
    have := A_lvalid d r n s l i wd
    rw [hv] at this
    obtain ⟨h1, h2, h3, h4, h5⟩ := hok.bd
    (repeat' (first
  | (apply W.qd; (first
    | (apply (yW (this)); exact rfl; exact rfl; (iterate 3 kernel_rfl))|(apply q_mv; (conv => lhs; whnf))|(apply q_as; (conv => lhs; whnf))|(apply yS; (iterate 3 exact rfl))|(apply yT; (iterate 4 exact rfl))|(apply yU; (iterate 4 exact rfl))|(apply q_not; exact rfl)|(apply q_sub; exact rfl; exact rfl; omega)
    | (apply q_quo; exact rfl; exact rfl; omega; omega; omega)))|(apply W.ed; (apply yBb; (iterate 3 exact rfl); kernel_rfl; kernel_rfl))|(apply yA)|(apply yB)|(apply yC; kernel_rfl)|(apply yE)|(apply yH)|(apply yJ)
  | (apply yR; exact rfl)))
    all_goals exact Ends.i rfl (if_pos hok).symm
  · have hv : vldL d r n s l i wd = false := decide_eq_false hok
    have := A_lvalid d r n s l i wd
    rw [hv] at this
    (repeat' (first
  | (apply W.qd; (first
    | (apply (yW (this)); exact rfl; exact rfl; (iterate 3 kernel_rfl))|(apply q_mv; (conv => lhs; whnf))|(apply q_as; (conv => lhs; whnf))|(apply yU; (iterate 4 exact rfl))
    | (apply q_not; exact rfl)))|(apply W.ed; (apply yBb; (iterate 3 exact rfl); kernel_rfl; kernel_rfl))|(apply yA)|(apply yB)|(apply yC; kernel_rfl)|(apply yE)|(apply yJ)|(apply yP)
  | (apply yQ; exact rfl)))
    all_goals exact Ends.i rfl (if_neg hok).symm
end Go.Proofs.YtcljokdiblnhiaaGreatDoor
end
section
namespace Go.Proofs.YtcljokdiblnhiaaGreatDoor
open Go.RowKit
set_option maxRecDepth 100000
set_option maxHeartbeats 2000000
attribute [local irreducible] Quiet Eff OpOk AWPG ACont ABlock ACalls
def plcI (d r n s l i row w g : Int) : List Int := if 0 ≤ g ∧ g < grpI d r n s l i w then ((ordI d r n s l i row).drop (g * w).toNat).take w.toNat else []
def sprI (d r n s l i row w : Int) : List Int := if OkL d r n s l i w then (ordI d r n s l i row).drop (grpI d r n s l i w * w).toNat else []
theorem ordI_len (d r n s l i row : Int) : (ordI d r n s l i row).length ≤ 64 ∧ ((ordI d r n s l i row).length ≠ 0 → ((ordI d r n s l i row).length : Int) = d) := by
  unfold ordI
  split
  · rename_i h
    have h1 := h.1.1
    rw [I_length, ord_length]; omega
  · simp
theorem grpI_bd {d r n s l i w : Int} (h : OkL d r n s l i w) : 0 ≤ grpI d r n s l i w ∧ grpI d r n s l i w * w ≤ d - s ∧ grpI d r n s l i w ≤ 64 := by
  obtain ⟨h1, h2, h3, h4, h5⟩ := h.bd
  unfold grpI
  rw [if_pos h]
  have e1 := Int.ediv_mul_le (d - s) (show w ≠ 0 by omega)
  have e2 : 0 ≤ (d - s) / w := Int.ediv_nonneg (by omega) (by omega)
  have e3 : (d - s) / w ≤ d - s := Int.ediv_le_self _ (by omega)
  exact ⟨e2, e1, by omega⟩
theorem grpI_pos {d r n s l i w g : Int} (h0 : 0 ≤ g) (h : g < grpI d r n s l i w) : OkL d r n s l i w := by
  unfold grpI at h
  split at h
  · assumption
  · omega
theorem plc_bd {d r n s l i row w g : Int} (hl : (ordI d r n s l i row).length ≠ 0) (h0 : 0 ≤ g) (h : g < grpI d r n s l i w) : 0 ≤ g * w ∧ g * w + w ≤ (ordI d r n s l i row).length ∧ 1 ≤ w ∧ w ≤ 32 := by
  have hok := grpI_pos h0 h
  obtain ⟨h1, h2, h3, h4, h5⟩ := hok.bd
  obtain ⟨g1, g2, g3⟩ := grpI_bd hok
  have h6 := (ordI_len d r n s l i row).2 hl
  have h7 : (g + 1) * w ≤ grpI d r n s l i w * w := Int.mul_le_mul_of_nonneg_right (by omega) (by omega)
  have h8 : 0 ≤ g * w := Int.mul_nonneg h0 (by omega)
  rw [Int.add_mul, Int.one_mul] at h7
  omega
theorem A_lplace (d r n s l i row wd gr : Int) : ACalls Tryz.prog 37 [cfgA d r n s l i, iV row, iV wd, iV gr] [] (ints (plcI d r n s l i row wd gr)) [] := by
  refine acalls_of_body Tryz.func37 rfl (Nat.le_of_ble_eq_true rfl) ?_
  have hlen := ordI_len d r n s l i row
  (repeat' (first
  | (apply yFb; exact rfl; exact rfl)
  | (apply W.qd; (first
    | (apply (yW (A_dord _ _ _ _ _ _ _)); exact rfl; exact rfl; (iterate 3 kernel_rfl))|(apply (yW (A_lgroups _ _ _ _ _ _ _)); exact rfl; exact rfl; (iterate 3 kernel_rfl))|(apply q_mv; (conv => lhs; whnf))|(apply q_as; (conv => lhs; whnf))|(apply yU; (iterate 4 exact rfl))|(apply q_lss; exact rfl; exact rfl)|(apply q_geq; exact rfl; exact rfl)|(apply q_eql; exact rfl; exact rfl)|(apply yV; exact rfl; exact rfl)|(apply (yEb (u := .d _)); exact rfl; exact rfl)
    | (apply (yDb (u := .d _)); exact rfl; exact rfl)))|(apply W.ed; (apply yBb; (iterate 3 exact rfl); kernel_rfl; kernel_rfl))|(refine W.gOff _ _ rfl rfl (by intro h; cases h) ?_)|(apply yA)|(apply yB)|(apply yC; kernel_rfl)|(apply yE)|(apply yH)|(apply yJ)|(apply yP)|(apply yQ; exact rfl)|(refine W.gF _ _ rfl rfl (fun hb => ?_) (fun hb => ?_) <;> ((try simp only [hb, zA, zB]) <;> (try simp only [zC, zD, zE, zF, zG, zH, zI, zJ] at hb) <;> (try (exfalso; omega))))
  | (refine W.cond _ rfl (fun hb => ?_) (fun hb => ?_) <;> ((try simp only [hb, zA, zB]) <;> (try simp only [zC, zD, zE, zF, zG, zH, zI, zJ] at hb) <;> (try (exfalso; omega))))))
  · exact Ends.nil rfl (by unfold plcI; rw [if_neg (by omega)]; rfl)
  · rename_i h0 h1
    have h9 : (ordI d r n s l i row).length ≠ 0 := by omega
    have hF := plc_bd h9 h1 hb
    have hF2 : -9223372036854775808 ≤ gr * wd ∧ gr * wd < 9223372036854775808 := by omega
    (repeat (first
  | (apply W.qd; (first
    | (apply q_mv; (conv => lhs; whnf))|(apply q_as; (conv => lhs; whnf))|(apply q_add; exact rfl; exact rfl; omega)
    | (apply q_mul; exact rfl; exact rfl; (first | omega | assumption))))|(apply yA)|(apply yB)|(apply yC; kernel_rfl)
  | (apply yE)))
    refine W.qd (q_slc_map (gr * wd).toNat ((gr * wd).toNat + wd.toNat) rfl rfl (by exact ⟨_, _, rfl, by omega⟩) (by exact ⟨_, _, rfl, by omega⟩) (by omega) (by omega) (.inr ⟨rfl, rfl, (gr * wd).toNat + wd.toNat, (by exact ⟨_, _, rfl, by omega⟩), by omega, by omega⟩)) ?_
    (repeat (first
  | (apply W.qd; (apply q_as; (conv => lhs; whnf)))|(apply yB)|(apply yE)
  | (apply yJ)))
    exact Ends.sl rfl (by unfold plcI; rw [if_pos ⟨h1, hb⟩, Nat.add_sub_cancel_left])
  · exact Ends.nil rfl (by unfold plcI; rw [if_neg (by omega)]; rfl)
  · refine Ends.nil rfl ?_
    have : ordI d r n s l i row = [] := List.eq_nil_of_length_eq_zero (by omega)
    unfold plcI; rw [this]; split <;> simp
theorem A_lspares (d r n s l i row wd : Int) : ACalls Tryz.prog 84 [cfgA d r n s l i, iV row, iV wd] [] (ints (sprI d r n s l i row wd)) [] := by
  have hlen := ordI_len d r n s l i row
  have ho := A_dord d r n s l i row
  have hv := A_lvalid d r n s l i wd
  have hg := A_lgroups d r n s l i wd
  have hmL : ((ordI d r n s l i row).map iD).length = (ordI d r n s l i row).length := List.length_map _
  refine acalls_of_body Tryz.func84 rfl (Nat.le_of_ble_eq_true rfl) ?_
  unfold sprI
  by_cases hok : OkL d r n s l i wd
  · rw [if_pos hok]
    rw [show vldL d r n s l i wd = true from decide_eq_true hok] at hv
    obtain ⟨h1, h2, h3, h4, h5⟩ := hok.bd
    obtain ⟨g1, g2, g3⟩ := grpI_bd hok
    have g4 : 0 ≤ grpI d r n s l i wd * wd := Int.mul_nonneg g1 (by omega)
    generalize grpI d r n s l i wd = G at *
    have hF2 : -9223372036854775808 ≤ G * wd ∧ G * wd < 9223372036854775808 := by omega
    generalize ordI d r n s l i row = L at *
    by_cases h0 : L.length = 0
    · obtain rfl := List.eq_nil_of_length_eq_zero h0
      (repeat' (first
  | (apply W.qd; (first
    | (apply (yW (ho)); exact rfl; exact rfl; (iterate 3 kernel_rfl))|(apply q_mv; (conv => lhs; whnf))|(apply q_as; (conv => lhs; whnf))|(apply yU; (iterate 4 exact rfl))|(apply q_eql; exact rfl; exact rfl)|(apply yV; exact rfl; exact rfl)
    | (apply (yEb (u := .d _)); exact rfl; exact rfl)))|(apply W.ed; (apply yBb; (iterate 3 exact rfl); kernel_rfl; kernel_rfl))|(refine W.gOff _ _ rfl rfl (by intro h; cases h) ?_)|(apply yA)|(apply yB)|(apply yC; kernel_rfl)|(apply yE)|(apply yJ)|(apply yP)
  | (apply yQ; exact rfl)))
      all_goals first | (exfalso; omega) | exact Ends.nil rfl (by simp)
    · have hL := hlen.2 h0
      (repeat' (first
  | (apply yFb; exact rfl; exact rfl)
  | (apply W.qd; (first
    | (apply (yW (ho)); exact rfl; exact rfl; (iterate 3 kernel_rfl))|(apply (yW (hv)); exact rfl; exact rfl; (iterate 3 kernel_rfl))|(apply (yW (hg)); exact rfl; exact rfl; (iterate 3 kernel_rfl))
    | ((apply (q_slc_map (G * wd).toNat L.length); exact rfl; exact rfl; exact ⟨_, _, rfl, by omega⟩; exact rfl; omega; omega; exact (.inl rfl)))|(apply q_mv; (conv => lhs; whnf))|(apply q_as; (conv => lhs; whnf))|(apply yU; (iterate 4 exact rfl))|(apply q_eql; exact rfl; exact rfl)|(apply q_not; exact rfl)|(apply q_mul; exact rfl; exact rfl; (first | omega | assumption))|(apply yV; exact rfl; exact rfl)
    | (apply (yDb (u := .d _)); exact rfl; exact rfl)))|(apply W.ed; (apply yBb; (iterate 3 exact rfl); kernel_rfl; kernel_rfl))|(apply yA)|(apply yB)|(apply yC; kernel_rfl)|(apply yE)|(apply yH)|(apply yJ)|(apply yR; exact rfl)
  | (refine W.gF _ _ rfl rfl (fun hb => ?_) (fun hb => ?_) <;> ((try simp only [hb, zA, zB]) <;> (try simp only [zC, zD, zE, zF, zG, zH, zI, zJ] at hb) <;> (try (exfalso; omega))))))
      all_goals first | (exfalso; omega) | exact Ends.sl rfl (by rw [List.take_of_length_le (by simp)])
  · rw [if_neg hok]
    rw [show vldL d r n s l i wd = false from decide_eq_false hok] at hv
    generalize ordI d r n s l i row = L at *
    (repeat' (first
  | (apply yFb; exact rfl; exact rfl)
  | (apply W.qd; (first
    | (apply (yW (ho)); exact rfl; exact rfl; (iterate 3 kernel_rfl))|(apply (yW (hv)); exact rfl; exact rfl; (iterate 3 kernel_rfl))|(apply q_mv; (conv => lhs; whnf))|(apply q_as; (conv => lhs; whnf))|(apply yU; (iterate 4 exact rfl))|(apply q_eql; exact rfl; exact rfl)|(apply q_not; exact rfl)|(apply yV; exact rfl; exact rfl)|(apply (yEb (u := .d _)); exact rfl; exact rfl)
    | (apply (yDb (u := .d _)); exact rfl; exact rfl)))|(apply W.ed; (apply yBb; (iterate 3 exact rfl); kernel_rfl; kernel_rfl))|(refine W.gOff _ _ rfl rfl (by intro h; cases h) ?_)|(apply yA)|(apply yB)|(apply yC; kernel_rfl)|(apply yE)|(apply yJ)|(apply yP)|(apply yQ; exact rfl)
  | (refine W.gF _ _ rfl rfl (fun hb => ?_) (fun hb => ?_) <;> ((try simp only [hb, zA, zB]) <;> (try simp only [zC, zD, zE, zF, zG, zH, zI, zJ] at hb) <;> (try (exfalso; omega))))))
    all_goals first | (exfalso; omega) | exact Ends.nil rfl rfl
def atA (l : List Int) (row u : Int) : AV :=
  if 0 ≤ u ∧ u < l.length then .tup [.agg [iV (l.getD u.toNat 0), iV 4, iV row], iV 0] else .tup [.agg [iV 0, iV 0, iV 0], iV 1]
theorem plcI_len (d r n s l i row w g : Int) : (plcI d r n s l i row w g).length ≤ 64 := by
  have := (ordI_len d r n s l i row).1
  unfold plcI; split
  · simp only [List.length_take, List.length_drop]; omega
  · simp
theorem A_lat (d r n s l i wd row gr u : Int) : ACalls Tryz.prog 66 [cfgA d r n s l i, iV wd, .agg [iV row, iV gr, iV u]] [] (atA (plcI d r n s l i row wd gr) row u) [] := by
  refine acalls_of_body Tryz.func66 rfl (Nat.le_of_ble_eq_true rfl) ?_
  have hlen := plcI_len d r n s l i row wd gr
  have hpl := A_lplace d r n s l i row wd gr
  generalize plcI d r n s l i row wd gr = L at *
  (repeat' (first
  | (apply yFb; exact rfl; exact rfl)
  | (apply W.qd; (first
    | (apply (yW (hpl)); exact rfl; exact rfl; (iterate 3 kernel_rfl))|(apply q_mv; (conv => lhs; whnf))|(apply q_as; (conv => lhs; whnf))|(apply yS; (iterate 3 exact rfl))|(apply yT; (iterate 4 exact rfl))|(apply yU; (iterate 4 exact rfl))|(apply q_lss; exact rfl; exact rfl)|(apply q_geq; exact rfl; exact rfl)|(apply yV; exact rfl; exact rfl)|(apply yX; (iterate 3 exact rfl); (first | omega | (focus (simp; done))))|(apply yZ; exact rfl; exact rfl; kernel_rfl)|(apply yGb; (iterate 4 exact rfl); (first | (with_reducible exact rfl) | exact natI_spec rfl | assumption | exact (Int.toNat_of_nonneg (by omega)).symm); (first | omega | (focus (simp only [List.length_map]; omega)) | (focus (simp; done)) | (focus (simp; omega))))|(apply (yEb (u := .d _)); exact rfl; exact rfl)
    | (apply (yDb (u := .d _)); exact rfl; exact rfl)))
  | (apply W.ed; (first
    | (apply yBb; (iterate 3 exact rfl); kernel_rfl; kernel_rfl)
    | (apply yCb; (iterate 3 exact rfl); kernel_rfl)))|(apply W.en; (apply e_st_boxF; (iterate 6 exact rfl); (iterate 3 kernel_rfl)))|(refine W.gOff _ _ rfl rfl (by intro h; cases h) ?_)|(apply yA)|(apply yB)|(apply yC; kernel_rfl)|(apply yD; exact rfl; kernel_rfl)|(apply yE)|(apply yF; kernel_rfl)|(apply yH)|(apply yJ)|(apply yP)|(apply yQ; exact rfl)|(refine W.gF _ _ rfl rfl (fun hb => ?_) (fun hb => ?_) <;> ((try simp only [hb, zA, zB]) <;> (try simp only [zC, zD, zE, zF, zG, zH, zI, zJ] at hb) <;> (try (exfalso; omega))))
  | (refine W.cond _ rfl (fun hb => ?_) (fun hb => ?_) <;> ((try simp only [hb, zA, zB]) <;> (try simp only [zC, zD, zE, zF, zG, zH, zI, zJ] at hb) <;> (try (exfalso; omega))))))
  · refine Ends.cell2 rfl rfl rfl rfl ?_
    unfold atA; rw [if_neg (by omega)]; rfl
  · refine Ends.cell2 rfl rfl rfl rfl ?_
    unfold atA; rw [if_pos (by omega), getD_ltB _ _ _ (by omega)]; rfl
  · refine Ends.cell2 rfl rfl rfl rfl ?_
    unfold atA; rw [if_neg (by omega)]; rfl
end Go.Proofs.YtcljokdiblnhiaaGreatDoor
end
section
namespace Go.Proofs.YtcljokdiblnhiaaGreatDoor
open Go.RowKit
abbrev Se := Int × Int × Int × Int
def seD (s : Se) : List Dat := [.v (.int .i64 s.1), .v (.int .i64 s.2.1), .v (.int .i64 s.2.2.1), .v (.int .i64 s.2.2.2)]
abbrev ses (l : List Se) : AV := .d (.sl 4 (l.map seD))
abbrev seA (s : Se) : AV := .agg ((seD s).map .d)
def se0 : Se := (0, 0, 0, 0)
def atB (a g u : Int) (x : Se) : Bool := decide (x.1 = a) && (decide (x.2.1 = g) && decide (x.2.2.1 = u))
def srvB (inn : List Bool) (d : Int) : Bool := decide (0 ≤ d) && (decide (d < inn.length) && inn.getD d.toNat false)
def seatN (mv : List Se) (a g : Int) (h : Int) (u : Nat) : Int := if 0 ≤ idxA (atB a g u) mv then (mv.getD (idxA (atB a g u) mv).toNat se0).2.2.2 else h
def seatsN (L : List Int) (mv : List Se) (a g : Int) : List Int := (List.range L.length).map fun u => seatN mv a g (L.getD u 0) u
def atDisk (row dk : Int) (x : Se) : Bool := decide (x.1 = row) && decide (x.2.2.2 = dk)
def freeB (mv : List Se) (inn : List Bool) (row dk : Int) : Bool := srvB inn dk && !decide (0 ≤ idxA (atDisk row dk) mv)
def spareN (L : List Int) (mv : List Se) (inn : List Bool) (row : Int) : List Int := L.filter (freeB mv inn row)
theorem seatsN_len (L : List Int) (mv : List Se) (a g : Int) : (seatsN L mv a g).length = L.length := by unfold seatsN; simp
theorem seatsN_get {L : List Int} {mv : List Se} {a g : Int} {u : Nat} (h : u < L.length) : (seatsN L mv a g)[u]'(by rw [seatsN_len]; exact h) = seatN mv a g L[u] u := by
  have e : L.getD u 0 = L[u] := by rw [List.getD_eq_getElem?_getD, List.getElem?_eq_getElem h]; rfl
  unfold seatsN
  rw [List.getElem_map, List.getElem_range, e]
def seatTo (L : List Int) (mv : List Se) (a g : Int) (u : Nat) : List Int := (seatsN L mv a g).take u ++ L.drop u
theorem seatTo_zero (L : List Int) (mv : List Se) (a g : Int) : seatTo L mv a g 0 = L := by unfold seatTo; simp
theorem seatTo_all (L : List Int) (mv : List Se) (a g : Int) : seatTo L mv a g L.length = seatsN L mv a g := by
  unfold seatTo
  rw [List.drop_length, List.append_nil, ← seatsN_len L mv a g, List.take_length]
theorem seatTo_len (L : List Int) (mv : List Se) (a g : Int) {u : Nat} (h : u ≤ L.length) : (seatTo L mv a g u).length = L.length := by
  unfold seatTo
  rw [List.length_append, List.length_take, List.length_drop, seatsN_len]; omega
theorem seatTo_set {L : List Int} {mv : List Se} {a g : Int} {u : Nat} (h : u < L.length) : (seatTo L mv a g u).set u (seatN mv a g L[u] u) = seatTo L mv a g (u + 1) := by
  unfold seatTo
  have h1 : ((seatsN L mv a g).take u).length = u := by rw [List.length_take, seatsN_len]; omega
  rw [List.set_append_right _ _ (by rw [h1]; omega), h1, Nat.sub_self, List.drop_eq_getElem_cons h, List.set_cons_zero, List.take_succ_eq_append_getElem (by rw [seatsN_len]; exact h), seatsN_get h, List.append_assoc]
  rfl
theorem seatTo_keep {L : List Int} {mv : List Se} {a g : Int} {u : Nat} (h : u < L.length) (hs : seatN mv a g L[u] u = L[u]) : seatTo L mv a g (u + 1) = seatTo L mv a g u := by
  rw [← seatTo_set h, hs]
  unfold seatTo
  have h1 : ((seatsN L mv a g).take u).length = u := by rw [List.length_take, seatsN_len]; omega
  rw [List.set_append_right _ _ (by rw [h1]; omega), h1, Nat.sub_self, List.drop_eq_getElem_cons h, List.set_cons_zero]
end Go.Proofs.YtcljokdiblnhiaaGreatDoor
end
section
namespace Go.Proofs.YtcljokdiblnhiaaGreatDoor
open Go.RowKit
section
variable {P : Program} {m : Nat} {env : List (Nat × AV)} {own : List Ent} {dst : Option Tmp} {ty : TypeId} {pos : String} {af : Array Edge} {gd : Option (Nat × Bool)}
theorem q_slc_oslM {t e e' : TypeId} {sz by' : Nat} {z : Value} {x lo hi mx : Operand} {p ver q n : Nat} {l : List (List Dat)} (va vb vm : Nat) (ht : slInfo P t = some (e, sz, by', z)) (hx : lookO env x = .osl p ver q n) (hp : own[p]? = some (.row ver sz e' l))
    (h1 : bnd env (some lo) 0 va) (h2 : bnd env (some hi) 0 vb) (h3 : bnd env (some mx) 0 vm) (hab : va ≤ vb) (hbm : vb ≤ vm) (hmn : vm ≤ n) : Quiet P m ⟨dst, .slice t x (some lo) (some hi) (some mx), ty, pos, af, gd⟩ env own [p] (.win p ver (q + va) (vb - va)) :=
  Quiet.val fun F own' κ a w hs _ hsame _ => by
    have hh := hs x (by simp [Op.operands]); rw [hx, AV.sat] at hh
    have hp' : own'[p]? = some (.row ver sz e' l) := by rw [hsame p (by simp)]; exact hp
    obtain ⟨h4, A, c, h5, h6, h7, h8⟩ := hh.2 sz e' l hp'
    obtain ⟨he, i, hi1, hi2, _, _⟩ := slInfo_spec ht
    have hb := run_bounds (P := P) (a := a) (mx := some mx) true (fun y hy => hs y (mem_slice (x := x) (t := t) hy)) h1 (show bnd env (some hi) n vb from h2) (show bnd env (some mx) c vm from h3) hab hbm (by omega) (.inr rfl)
    refine ⟨.slice (if vm = va then A else A.map (·.add (va * sz))) (vb - va) (vm - va), exec_v ?_, ?_⟩
    · simp only [Option.map_some] at hb
      simp [h5, Instr.sliceAt, run_underlying he, Instr.slice, hb, sizeOf, typeInfo, hi1, hi2]
    · rw [AV.sat]
      refine ⟨by obtain ⟨y1, y2, y3, _⟩ := hh.1; exact ⟨y1, y2, y3, rfl⟩, fun sz2 e2 c2 hc => ?_⟩
      rw [hp'] at hc
      obtain ⟨rfl, rfl, rfl⟩ : sz = sz2 ∧ e' = e2 ∧ l = c2 := by simpa using hc
      refine ⟨by omega, _, vm - va, rfl, by omega, by omega, fun hpos => ?_⟩
      have hcond : 0 < n ∨ q = 0 := by omega
      rcases h8 hcond with ⟨g, g1, rfl, cur, e3, fz, g3, g4⟩ | ⟨g1, rfl, rfl⟩
      · refine .inl ⟨g, g1, ?_, cur, e3, fz, g3, ?_⟩
        · split
          · rename_i h9
            have h10 : va = 0 := by omega
            subst h10; rfl
          · simp [add_none, Nat.add_mul]
        · refine Nat.le_trans (Nat.mul_le_mul_right _ ?_) (Nat.le_of_eq g4)
          omega
      · refine .inr ⟨g1, ?_, by omega⟩
        split <;> simp
theorem q_len_win {t : TypeId} {x : Operand} {i ver j n sz : Nat} {e : TypeId} {l : List (List Dat)} (hx : lookO env x = .win i ver j n) (hi : own[i]? = some (.row ver sz e l)) (ht : isSl P t = true) :
    Quiet P m ⟨dst, .call ⟨.builtin .len, #[x], #[t]⟩, ty, pos, af, gd⟩ env own [i] (iV n) :=
  Quiet.val fun F own' κ a w hs _ hsame _ => by
    have h1 := hs x (by simp [Op.operands, Call.operands]); rw [hx, AV.sat] at h1
    obtain ⟨_, A, c, h2, _⟩ := h1.2 sz e l (by rw [hsame i (by simp)]; exact hi)
    refine ⟨.int .i64 n, ?_, sat_v.2 rfl⟩
    rw [exec_builtin]
    simp only [builtin]
    exact exec_v (by simp only [List.map_toArray, List.map_cons, List.map_nil, h2]; exact run_len_sl ht A _ c w)
theorem q_ix_win {t e e' : TypeId} {sz by' : Nat} {z : Value} {x y : Operand} {p ver q n : Nat} {l : List (List Dat)} {k : IntKind} {i : Int} {j : Nat} (hx : lookO env x = .win p ver q n) (hp : own[p]? = some (.row ver sz e' l)) (ht : slInfo P t = some (e, sz, by', z)) (hy : lookO env y = .d (.v (.int k i))) (hij : i = j) (hj : j < n) :
    Quiet P m ⟨dst, .indexAddr t x y, ty, pos, af, gd⟩ env own [p] (.rpt p ver (q + j) 0) :=
  Quiet.val fun F own' κ a w hs _ hsame _ => by
    have h1 := hs x (by simp [Op.operands]); rw [hx, AV.sat] at h1
    have h2 := hs y (by simp [Op.operands]); rw [hy, sat_v] at h2
    have hp' : own'[p]? = some (.row ver sz e' l) := by rw [hsame p (by simp)]; exact hp
    obtain ⟨h3, A, c, h4, h5, h6, h7⟩ := h1.2 sz e' l hp'
    rcases h7 (.inl (by omega)) with ⟨g, g1, g2, _⟩ | ⟨_, _, rfl⟩
    · refine ⟨.pointer (some ⟨g, q * sz + j * sz, none⟩), exec_v ?_, ?_⟩
      · rw [h4, h2, hij, g2]; exact run_indexAt ht g _ _ c k j hj w
      · rw [AV.sat]
        refine ⟨by obtain ⟨y1, y2, y3, _⟩ := h1.1; exact ⟨y1, y2, y3, rfl⟩, fun sz2 e2 c2 hc => ?_⟩
        rw [hp'] at hc
        obtain ⟨rfl, rfl, rfl⟩ : sz = sz2 ∧ e' = e2 ∧ l = c2 := by simpa using hc
        exact ⟨by omega, g, g1, by rw [Nat.add_mul]; simp⟩
    · omega
end
end Go.Proofs.YtcljokdiblnhiaaGreatDoor
end
section
namespace Go.Proofs.YtcljokdiblnhiaaGreatDoor
open Go.RowKit
set_option maxHeartbeats 4000000
set_option maxRecDepth 100000
def fillN (L : List Int) (p : Nat) : List Int := L.take p ++ List.replicate (L.length - p) 0
theorem fillN_zero (L : List Int) : fillN L 0 = List.replicate L.length 0 := by unfold fillN; simp
theorem fillN_all (L : List Int) : fillN L L.length = L := by unfold fillN; simp
theorem fillN_len {L : List Int} {p : Nat} (h : p ≤ L.length) : (fillN L p).length = L.length := by unfold fillN; simp; omega
theorem fillN_set {L : List Int} {p : Nat} (h : p < L.length) : (fillN L p).set p L[p] = fillN L (p + 1) := by
  unfold fillN
  have h1 : (L.take p).length = p := by rw [List.length_take]; omega
  rw [List.set_append_right _ _ (by rw [h1]; omega), h1, Nat.sub_self, show L.length - p = (L.length - (p + 1)) + 1 by omega, List.replicate_succ, List.set_cons_zero, List.take_succ_eq_append_getElem h, List.append_assoc]
  rfl
theorem OkC.nat2 {d r n s l i : Int} (h : OkC d r n s l i) : ∃ D R : Nat, d = D ∧ r = R ∧ 1 ≤ D ∧ D ≤ 64 ∧ 1 ≤ R ∧ R ≤ 8 := by
  obtain ⟨⟨h1, h2⟩, ⟨h3, h4⟩, _⟩ := h
  exact ⟨d.toNat, r.toNat, by omega, by omega, by omega, by omega, by omega, by omega⟩
theorem A_rule13 (d r n s l i row : Int) : ACalls Tryz.prog 148 [cfgA d r n s l i, iV row] [] (if OkC d r n s l i ∧ 0 ≤ row ∧ row < n then .tup [iV (mulAt d.toNat r.toNat row.toNat : Nat), iV (row % d), bV true] else .tup [iV 0, iV 0, bV false]) [] := by
  split
  · rename_i h
    exact acalls_of_val rfl fun w => (rule_yes d r n s l i row w h.1 h.2.1 h.2.2).mono fun e w' ⟨he, hb⟩ => ⟨_, he, hb, fun F ho => by
      rw [AV.sat]; exact ⟨_, rfl, by simp [AV.satL, sat_v]⟩⟩
  · rename_i h
    exact acalls_of_val rfl fun w => (rule_no d r n s l i row w h).mono fun e w' ⟨he, hb⟩ => ⟨_, he, hb, fun F ho => by
      rw [AV.sat]; exact ⟨_, rfl, by simp [AV.satL, sat_v]⟩⟩
attribute [local irreducible] Quiet Eff OpOk AWPG ACont ABlock ACalls AGoto
theorem A_dordO {d r n s l i row : Int} (h : OkC d r n s l i ∧ 0 ≤ row ∧ row < n) : ACalls Tryz.prog 88 [cfgA d r n s l i, iV row] [] (.osl 0 0 0 (ordI d r n s l i row).length) [.row 0 1 3 ((ordI d r n s l i row).map iD)] := by
  have hr := A_rule13 d r n s l i row
  rw [if_pos h] at hr
  obtain ⟨hok, h0, h1⟩ := h
  rw [ordI_yes ⟨hok, h0, h1⟩]
  obtain ⟨D, R, rfl, rfl, hD1, hD2, hR1, hR2⟩ := hok.nat2
  obtain ⟨X, rfl⟩ := Int.eq_ofNat_of_zero_le h0
  simp only [Int.toNat_natCast] at hr ⊢
  have hLl : (I (ord D R X)).length = D := by rw [I_length, ord_length]
  have hmm := muls_mem D R _ hD1 hR1 (mulAt_mem D R X hD1 hR1)
  have hget : ∀ p (hp : p < (I (ord D R X)).length), ((mulAt D R X : Nat) : Int) * (p : Int) + (X : Int) % (D : Int) ≥ 0 ∧ (((mulAt D R X : Nat) : Int) * (p : Int) + (X : Int) % (D : Int)) % (D : Int) = (I (ord D R X))[p] := fun p hp => by
    have e := ord_getD D R X p (by omega)
    rw [List.getD_eq_getElem?_getD, List.getElem?_eq_getElem hp, Option.getD_some] at e
    rw [e]
    have h9 : (X : Int) % (D : Int) = ((X % D : Nat) : Int) := by omega
    refine ⟨by rw [h9]; exact Int.add_nonneg (Int.mul_nonneg (by omega) (by omega)) (by omega), ?_⟩
    rw [h9]
    rw [← Int.natCast_mul, ← Int.natCast_add, ← Int.natCast_emod, Nat.add_mod_mod]
  generalize hL : I (ord D R X) = L at *
  generalize hA : mulAt D R X = a at *
  refine acalls_of_bodyO Tryz.func88 rfl (Nat.le_of_ble_eq_true rfl) ?_
  (repeat' (first
  | (apply W.qd; (first
    | (apply (yW (hr)); exact rfl; exact rfl; (iterate 3 kernel_rfl))|(apply q_mv; (conv => lhs; whnf))|(apply q_as; (conv => lhs; whnf))|(apply yS; (iterate 3 exact rfl))|(apply yT; (iterate 4 exact rfl))|(apply yU; (iterate 4 exact rfl))|(apply q_not; exact rfl)|(apply yAb; exact rfl; exact rfl)
    | (apply q_len_osl; (iterate 3 exact rfl))))
  | (apply W.ed; (first
    | (apply yBb; (iterate 3 exact rfl); kernel_rfl; kernel_rfl)
    | (apply (e_makeG (f := iD) 0); exact rfl; exact rfl; (first | (with_reducible exact rfl) | exact natI_spec rfl | assumption | exact (Int.toNat_of_nonneg (by omega)).symm); (iterate 7 exact rfl); omega)))|(apply yA)|(apply yB)|(apply (W.regionS 6); exact rfl; kernel_rfl)|(apply yE)|(apply yG)|(apply yH)
  | (apply yR; exact rfl)))
  have hf0 := fillN_zero L
  rw [hLl] at hf0
  refine AWP.loopW (α := Nat) (fun p => p ≤ D) (fun p => ⟨[(24, iV p), (23, iV D), (22, .osl 1 0 0 D), (8, .osl 1 0 0 D), (5, iV a), (6, iV ((X : Int) % (D : Int))), (2, .opt 0 0)], [.box [iV D, iV R, iV n, iV s, iV l, iV i], .row 0 1 3 ((fillN L p).map iD)]⟩) (fun p => D - p) 0 (Nat.zero_le _) ?wkA fun p hp => ?_
  case wkA => exact ⟨[0, 1], rfl, rfl, by rw [hf0]; rfl, rfl, rfl, rfl, rfl, rfl, rfl, rfl, trivial⟩
  by_cases hpl : p < D
  · obtain ⟨g1, g2⟩ := hget p (by omega)
    have hs := fillN_set (show p < L.length by omega)
    have hfl := fillN_len (show p ≤ L.length by omega)
    have hb1 : a * p ≤ 64 * 64 := Nat.mul_le_mul (by omega) (by omega)
    have h8 : -9223372036854775808 ≤ (a : Int) * (p : Int) ∧ (a : Int) * (p : Int) < 9223372036854775808 := by
      rw [← Int.natCast_mul]; omega
    have h7 : 0 ≤ (X : Int) % (D : Int) ∧ (X : Int) % (D : Int) < 64 := ⟨Int.emod_nonneg _ (by omega), by have := Int.emod_lt_of_pos (X : Int) (show (0 : Int) < D by omega); omega⟩
    have h6 : -9223372036854775808 ≤ (a : Int) * (p : Int) + (X : Int) % (D : Int) ∧ (a : Int) * (p : Int) + (X : Int) % (D : Int) < 9223372036854775808 := by
      rw [← Int.natCast_mul] at *; omega
    clear hget
    generalize fillN L p = Z at *
    (repeat' (first
  | (apply W.qd; (first
    | (apply q_mv; (conv => lhs; whnf))|(apply q_as; (conv => lhs; whnf))|(apply yS; (iterate 3 exact rfl))|(apply yT; (iterate 4 exact rfl))|(apply q_lss; exact rfl; exact rfl)|(apply q_add; exact rfl; exact rfl; omega)|(apply q_mul; exact rfl; exact rfl; (first | omega | assumption))|(apply q_rem; exact rfl; exact rfl; omega; omega)
    | (apply q_ix_osl0; (iterate 4 exact rfl); (first | (with_reducible exact rfl) | exact natI_spec rfl | assumption | exact (Int.toNat_of_nonneg (by omega)).symm); (first | omega | (focus (simp only [List.length_map]; omega)) | (focus (simp; done)) | (focus (simp; omega))))))|(apply W.ln; (apply l_st_rpt; (iterate 7 exact rfl); exact fun _ => rfl; (first | omega | (focus (simp only [List.length_map]; omega)) | (focus (simp; omega)))))|(apply yA)|(apply yB)|(apply yC; kernel_rfl)|(apply yE)|(apply yG)|(apply yH)|(apply yL)
  | (refine W.cond _ rfl (fun hb => ?_) (fun hb => ?_) <;> ((try simp only [hb, zA, zB]) <;> (try simp only [zC, zD, zE, zF, zG, zH, zI, zJ] at hb) <;> (try (exfalso; omega))))))
    refine ⟨p + 1, by omega, by omega, ?_⟩
    rw [← hs, ← g2]
    exact ⟨[0, 1], rfl, rfl, rfl, iV_eq (by omega), rfl, rfl, rfl, rfl, rfl, rfl, trivial⟩
  · obtain rfl : p = D := by omega
    have hfa := fillN_all L
    rw [hLl] at hfa
    rw [hfa, hLl]
    (repeat' (first
  | (apply W.qd; (first
    | (apply q_mv; (conv => lhs; whnf))|(apply q_as; (conv => lhs; whnf))
    | (apply q_lss; exact rfl; exact rfl)))|(apply yA)|(apply yB)|(apply yC; kernel_rfl)|(apply yE)|(apply yI)|(apply yJ)|(apply yK)|(apply yM)
  | (refine W.cond _ rfl (fun hb => ?_) (fun hb => ?_) <;> ((try simp only [hb, zA, zB]) <;> (try simp only [zC, zD, zE, zF, zG, zH, zI, zJ] at hb) <;> (try (exfalso; omega))))))
    exact ⟨.inl rfl, [1], [.osl 1 0 0 p], rfl, rfl, ⟨rfl, trivial⟩, AVle.of_eq rfl, rfl⟩
theorem A_lplaceO {d r n s l i row wd gr : Int} (h : plcI d r n s l i row wd gr ≠ []) : ACalls Tryz.prog 37 [cfgA d r n s l i, iV row, iV wd, iV gr] [] (.win 0 0 (gr * wd).toNat wd.toNat) [.row 0 1 3 ((ordI d r n s l i row).map iD)] := by
  have h0 : 0 ≤ gr ∧ gr < grpI d r n s l i wd := by
    unfold plcI at h
    split at h
    · assumption
    · exact absurd rfl h
  have hne : (ordI d r n s l i row).length ≠ 0 := fun e => by
    have e2 := List.eq_nil_of_length_eq_zero e
    unfold plcI at h
    rw [if_pos h0, e2] at h
    simp at h
  have hok : OkC d r n s l i ∧ 0 ≤ row ∧ row < n := by
    rcases Classical.em (OkC d r n s l i ∧ 0 ≤ row ∧ row < n) with h1 | h1
    · exact h1
    · rw [ordI_no h1] at hne; exact absurd rfl hne
  have ho := A_dordO hok
  have hg := A_lgroups d r n s l i wd
  have hF := plc_bd hne h0.1 h0.2
  have hl := (ordI_len d r n s l i row).1
  obtain ⟨h1, h2⟩ := h0
  obtain ⟨F, hFe⟩ := Int.eq_ofNat_of_zero_le hF.1
  obtain ⟨V, rfl⟩ := Int.eq_ofNat_of_zero_le (show 0 ≤ wd by omega)
  rw [hFe, Int.toNat_natCast, Int.toNat_natCast]
  have hF2 : -9223372036854775808 ≤ gr * (V : Int) ∧ gr * (V : Int) < 9223372036854775808 := by omega
  generalize ordI d r n s l i row = L at *
  generalize grpI d r n s l i V = G at *
  have hmL : (L.map iD).length = L.length := List.length_map _
  refine acalls_of_bodyO Tryz.func37 rfl (Nat.le_of_ble_eq_true rfl) ?_
  (repeat' (first
  | (apply yFb; exact rfl; exact rfl)
  | (apply W.qd; (first
    | (apply (yW (hg)); exact rfl; exact rfl; (iterate 3 kernel_rfl))
    | ((apply (q_slc_oslM F (F + V) (F + V)); (iterate 3 exact rfl); exact ⟨_, _, rfl, by omega⟩; exact ⟨_, _, rfl, by omega⟩; exact ⟨_, _, rfl, by omega⟩; omega; omega; omega))
    | ((apply q_as; exact Eq.refl (AV.win _ _ _ _)))|(apply q_mv; (conv => lhs; whnf))|(apply q_as; (conv => lhs; whnf))|(apply yU; (iterate 4 exact rfl))|(apply q_lss; exact rfl; exact rfl)|(apply q_geq; exact rfl; exact rfl)|(apply q_eql; exact rfl; exact rfl)|(apply q_add; exact rfl; exact rfl; omega)|(apply q_mul; exact rfl; exact rfl; (first | omega | assumption))|(apply q_len_osl; (iterate 3 exact rfl))
    | (apply (yDb (u := .d _)); exact rfl; exact rfl)))
  | (apply W.ed; (first
    | (apply (e_callJ (js := []) (ho)); (iterate 5 exact rfl); kernel_rfl; kernel_rfl)
    | (apply yBb; (iterate 3 exact rfl); kernel_rfl; kernel_rfl)))|(apply yA)|(apply yB)|(apply yC; kernel_rfl)|(apply yE)|(apply yH)|(apply yJ)|(refine W.gF _ _ rfl rfl (fun hb => ?_) (fun hb => ?_) <;> ((try simp only [hb, zA, zB]) <;> (try simp only [zC, zD, zE, zF, zG, zH, zI, zJ] at hb) <;> (try (exfalso; omega))))
  | (refine W.cond _ rfl (fun hb => ?_) (fun hb => ?_) <;> ((try simp only [hb, zA, zB]) <;> (try simp only [zC, zD, zE, zF, zG, zH, zI, zJ] at hb) <;> (try (exfalso; omega))))))
  all_goals first
    | (exfalso; omega)
    | exact ⟨.inl rfl, [1], [.win 1 0 (0 + F) (F + V - F)], rfl, rfl, ⟨rfl, trivial⟩, AVle.of_eq (by rw [Nat.zero_add, Nat.add_sub_cancel_left]; rfl), rfl⟩
end Go.Proofs.YtcljokdiblnhiaaGreatDoor
end
section
namespace Go.Proofs.YtcljokdiblnhiaaGreatDoor
open Go.RowKit
set_option maxHeartbeats 4000000
set_option maxRecDepth 100000
theorem fi_unit : fldsT Tryz.prog 73 = some [.i 0, .i 1, .i 2] := by kernel_rfl
theorem idxA_ge0 {α : Type} {q : α → Bool} {l : List α} (h : 0 ≤ idxA q l) : ∃ j : Nat, ∃ hj : j < l.length, idxA q l = (j : Int) := by
  obtain ⟨j, e⟩ := idxA_nat h
  exact ⟨j, (idxA_iff.1 e).1, e⟩
theorem set_midI {P Z S : List Int} {F u : Nat} {v : Int} (hP : P.length = F) (hu : u < Z.length) : (P ++ (Z ++ S)).set (F + u) v = P ++ (Z.set u v ++ S) := by
  subst hP
  rw [List.set_append_right _ _ (by omega), Nat.add_sub_cancel_left, List.set_append_left _ _ hu]
theorem bV_eq {a b : Bool} (h : a = b) : bV a = bV b := by rw [h]
theorem frz_win {own : List Ent} {js : List Nat} {i ver o n sz : Nat} {e : TypeId} {l : List (List Dat)} (ho : own[i]? = some (.row ver sz e l)) (hj : plc js i = none) : AV.frz own js (.win i ver o n) = .d (.sl sz ((l.drop o).take n)) := by
  simp [AV.frz, frzSl, ho, hj]
attribute [local irreducible] Quiet Eff OpOk AWPG ACont ABlock ACalls AGoto
theorem A_serves {inn : List Bool} {d : Int} : ACalls Tryz.prog 74 [bools inn, iV d] [] (bV (srvB inn d)) [] := by
  refine acalls_of_body Tryz.func74 rfl (Nat.le_of_ble_eq_true rfl) ?_
  have hm : (inn.map tD).length = inn.length := List.length_map _
  unfold srvB
  by_cases h : 0 ≤ d ∧ d < (inn.length : Int)
  · obtain ⟨D, rfl⟩ := Int.eq_ofNat_of_zero_le h.1
    have hd : D < inn.length := by omega
    have e : inn.getD D false = inn[D] := by rw [List.getD_eq_getElem?_getD, List.getElem?_eq_getElem hd]; rfl
    rw [decide_eq_true h.1, decide_eq_true h.2, Int.toNat_natCast, e, Bool.true_and, Bool.true_and]
    generalize hq : inn[D] = b at *
    (repeat' (first
  | (apply yFb; exact rfl; exact rfl)
  | (apply W.qd; (first
    | (apply q_mv; (conv => lhs; whnf))|(apply q_as; (conv => lhs; whnf))|(apply q_lss; exact rfl; exact rfl)|(apply q_geq; exact rfl; exact rfl)|(apply yV; exact rfl; exact rfl)|(apply yX; (iterate 3 exact rfl); (first | omega | (focus (simp; done))))|(apply yGb; (iterate 4 exact rfl); (first | (with_reducible exact rfl) | exact natI_spec rfl | assumption | exact (Int.toNat_of_nonneg (by omega)).symm); (first | omega | (focus (simp only [List.length_map]; omega)) | (focus (simp; done)) | (focus (simp; omega))))
    | (apply (yEb (u := .d _)); exact rfl; exact rfl)))|(apply yA)|(apply yB)|(apply yC; kernel_rfl)|(apply yE)|(apply yJ)
  | (refine W.gT _ _ rfl rfl (fun hb => ?_) (fun hb => ?_) <;> ((try simp only [hb, zA, zB]) <;> (try simp only [zC, zD, zE, zF, zG, zH, zI, zJ] at hb) <;> (try (exfalso; omega))))))
    all_goals first | (exfalso; omega) | exact Ends.b rfl rfl | (refine Ends.b rfl ?_; rw [← hq])
  · have hx : (decide (0 ≤ d) && (decide (d < (inn.length : Int)) && inn.getD d.toNat false)) = false := by
      rcases Int.lt_or_le d 0 with h1 | h1
      · rw [decide_eq_false (by omega), Bool.false_and]
      · rw [decide_eq_false (show ¬ d < (inn.length : Int) from fun h2 => h ⟨h1, h2⟩), Bool.false_and, Bool.and_false]
    rw [hx]
    (repeat' (first
  | (apply yFb; exact rfl; exact rfl)
  | (apply W.qd; (first
    | (apply q_mv; (conv => lhs; whnf))|(apply q_as; (conv => lhs; whnf))|(apply q_lss; exact rfl; exact rfl)|(apply q_geq; exact rfl; exact rfl)|(apply yV; exact rfl; exact rfl)|(apply (yEb (u := .d _)); exact rfl; exact rfl)
    | (apply (yDb (u := .d _)); exact rfl; exact rfl)))|(refine W.gOff _ _ rfl rfl (by intro h; cases h) ?_)|(apply yA)|(apply yB)|(apply yC; kernel_rfl)|(apply yE)|(apply yJ)
  | (refine W.gT _ _ rfl rfl (fun hb => ?_) (fun hb => ?_) <;> ((try simp only [hb, zA, zB]) <;> (try simp only [zC, zD, zE, zF, zG, zH, zI, zJ] at hb) <;> (try (exfalso; omega))))))
    all_goals first | (exfalso; omega) | exact Ends.b rfl rfl
theorem A_ixS {O : List Ent} {g : FuncId} {caps : List AV} (q : Se → Bool) (l : List Se) (hl : l.length ≤ 9223372036854775807) (hgf : isFn Tryz.prog g = true) (hg : ∀ x ∈ l, ACalls Tryz.prog g (seA x :: caps) O (bV (q x)) O) : ACalls Tryz.prog 71 [ses l, .fn g caps] O (iV (idxA q l)) O := by
  refine acalls_of_bodyS Tryz.func71 rfl (Nat.le_of_ble_eq_true rfl) ?_
  have hm : (l.map seD).length = l.length := List.length_map _
  (repeat (first
  | (apply W.qd; (first
    | (apply q_mv; (conv => lhs; whnf))|(apply q_as; (conv => lhs; whnf))
    | (apply yV; exact rfl; exact rfl)))|(apply yA)|(apply yB)|(apply yC; kernel_rfl)|(apply yE)
  | (apply yG)))
  refine AWP.loopE (α := Nat) (fun k => k ≤ l.length ∧ ∀ x ∈ l.take k, q x = false) (fun k => ⟨[(8, iV k), (7, iV l.length), (0, ses l), (1, .fn g caps)], O⟩) (fun k => l.length - k) 0 ⟨by omega, by simp⟩ ⟨rfl, rfl, iV_eq (by rw [hm]), rfl, rfl, trivial⟩ fun k hk => ?_
  by_cases hkl : k < l.length
  · have hx := hg l[k] (List.getElem_mem hkl)
    (repeat' (first
  | (apply W.qd; (first
    | (apply q_mv; (conv => lhs; whnf))|(apply q_as; (conv => lhs; whnf))|(apply q_lss; exact rfl; exact rfl)|(apply q_add; exact rfl; exact rfl; omega)|(apply yY; (iterate 3 exact rfl); (first | omega | (focus (simp; done))))
    | (apply yGb; (iterate 4 exact rfl); (first | (with_reducible exact rfl) | exact natI_spec rfl | assumption | exact (Int.toNat_of_nonneg (by omega)).symm); (first | omega | (focus (simp only [List.length_map]; omega)) | (focus (simp; done)) | (focus (simp; omega))))))|(apply W.ed; (apply (e_callS (hx)); exact rfl; exact rfl; (first | assumption | kernel_rfl)))|(apply yA)|(apply yB)|(apply yC; kernel_rfl)|(apply yE)|(apply yG)|(apply yH)|(apply yJ)|(apply yP)|(apply yL)|(apply yN)
  | (refine W.cond _ rfl (fun hb => ?_) (fun hb => ?_) <;> ((try simp only [hb, zA, zB]) <;> (try simp only [zC, zD, zE, zF, zG, zH, zI, zJ] at hb) <;> (try (exfalso; omega))))))
    · exact EndsS.i rfl (idxA_hit hkl hb hk.2).symm
    · refine ⟨k + 1, ⟨by omega, fun x hx => ?_⟩, by omega, ⟨rfl, by (repeat (first | exact trivial | refine ⟨rfl, ?_⟩))⟩⟩
      rw [List.take_succ_eq_append_getElem hkl] at hx
      rcases List.mem_append.1 hx with hx | hx
      · exact hk.2 x hx
      · rw [List.mem_singleton.1 hx]; exact hb
  · (repeat' (first
  | (apply W.qd; (first
    | (apply q_as; (conv => lhs; whnf))
    | (apply q_lss; exact rfl; exact rfl)))|(apply yA)|(apply yB)|(apply yC; kernel_rfl)|(apply yE)|(apply yI)|(apply yJ)|(apply yK)|(apply yM)
  | (refine W.cond _ rfl (fun hb => ?_) (fun hb => ?_) <;> ((try simp only [hb, zA, zB]) <;> (try simp only [zC, zD, zE, zF, zG, zH, zI, zJ] at hb) <;> (try (exfalso; omega))))))
    refine EndsS.i rfl (idxA_miss fun x hx => hk.2 x ?_).symm
    rwa [List.take_of_length_le (by omega)]
theorem A_hasS {O : List Ent} {g : FuncId} {caps : List AV} (q : Se → Bool) (l : List Se) (hl : l.length ≤ 9223372036854775807) (hgf : isFn Tryz.prog g = true) (hg : ∀ x ∈ l, ACalls Tryz.prog g (seA x :: caps) O (bV (q x)) O) : ACalls Tryz.prog 86 [ses l, .fn g caps] O (bV (decide (0 ≤ idxA q l))) O := by
  refine acalls_of_bodyS Tryz.func86 rfl (Nat.le_of_ble_eq_true rfl) ?_
  have hi := A_ixS q l hl hgf hg
  (repeat' (first
  | (apply W.qd; (first
    | (apply q_mv; (conv => lhs; whnf))|(apply q_as; (conv => lhs; whnf))
    | (apply q_geq; exact rfl; exact rfl)))|(apply W.ed; (apply (e_callS (hi)); exact rfl; exact rfl; (first | assumption | kernel_rfl)))|(apply yA)|(apply yB)|(apply yC; kernel_rfl)|(apply yE)
  | (apply yJ)))
  exact EndsS.b rfl rfl
abbrev untO (a g u : Int) : List Ent := [.box [iV a, iV g, iV u]]
theorem A_seatF (x : Se) {a g u : Int} : ACalls Tryz.prog 72 [seA x, .opt 0 0] (untO a g u) (bV (atB a g u x)) (untO a g u) := by
  refine acalls_of_bodyO Tryz.func72 rfl (Nat.le_of_ble_eq_true rfl) ?_
  (repeat' (first
  | (apply W.qd; (first
    | ((apply (q_eqT fi_unit); (iterate 5 exact rfl); exact (show _ = atB a g u x by unfold atB; rw [Bool.eq_iff_iff]; simp)))|(apply q_as; (conv => lhs; whnf))|(apply yS; (iterate 3 exact rfl))
    | (apply yU; (iterate 4 exact rfl))))|(apply W.ed; (apply yBb; (iterate 3 exact rfl); kernel_rfl; kernel_rfl))|(apply yA)|(apply yB)|(apply yC; kernel_rfl)|(apply yE)
  | (apply yJ)))
  exact ⟨.inl rfl, [0], [bV (atB a g u x)], rfl, rfl, ⟨rfl, trivial⟩, AVle.of_eq rfl, rfl⟩
theorem A_seats {d r n s l i wd a g : Int} {mv : List Se} (hm : mv.length ≤ 1000000) : ACalls Tryz.prog 32 [cfgA d r n s l i, iV wd, .agg [iV a, iV g], ses mv] [] (ints (seatsN (plcI d r n s l i a wd g) mv a g)) [] := by
  have hmm : (mv.map seD).length = mv.length := List.length_map _
  refine acalls_of_body Tryz.func32 rfl (Nat.le_of_ble_eq_true rfl) ?_
  by_cases h : plcI d r n s l i a wd g = []
  · have hp := A_lplace d r n s l i a wd g
    rw [h] at hp ⊢
    (repeat' (first
  | (apply W.qd; (first
    | (apply (yW (hp)); exact rfl; exact rfl; (iterate 3 kernel_rfl))|(apply q_mv; (conv => lhs; whnf))|(apply q_as; (conv => lhs; whnf))|(apply yS; (iterate 3 exact rfl))|(apply yT; (iterate 4 exact rfl))|(apply yU; (iterate 4 exact rfl))
    | (apply yV; exact rfl; exact rfl)))|(apply W.ed; (apply yBb; (iterate 3 exact rfl); kernel_rfl; kernel_rfl))|(apply yA)|(apply yB)|(apply (W.regionS 3); exact rfl; kernel_rfl)|(apply yE)
  | (apply yG)))
    refine AWP.loopW (α := Nat) (fun u => u ≤ 0) (fun u => ⟨[(22, iV u), (21, iV 0), (9, ints [])], []⟩) (fun u => 0 - u) 0 (Nat.zero_le _) ⟨[], rfl, rfl, rfl, by (repeat (first | exact trivial | refine ⟨rfl, ?_⟩))⟩ fun u hu => ?_
    obtain rfl : u = 0 := by omega
    (repeat' (first
  | (apply W.qd; (first
    | (apply q_mv; (conv => lhs; whnf))|(apply q_as; (conv => lhs; whnf))
    | (apply q_lss; exact rfl; exact rfl)))|(apply yA)|(apply yB)|(apply yC; kernel_rfl)|(apply yE)|(apply yI)|(apply yJ)|(apply yK)|(apply yM)
  | (apply yR; exact rfl)))
    all_goals first | (exfalso; omega) | exact Ends.sl rfl rfl
  have hp := A_lplaceO h
  have hle := plcI_len d r n s l i a wd g
  obtain ⟨P, S, F, V, hP, hV, hF, hVw, hor⟩ : ∃ P S : List Int, ∃ F V : Nat, P.length = F ∧ (plcI d r n s l i a wd g).length = V ∧ (g * wd).toNat = F ∧ wd.toNat = V ∧ ordI d r n s l i a = P ++ (plcI d r n s l i a wd g ++ S) := by
    have h0 : 0 ≤ g ∧ g < grpI d r n s l i wd := by
      unfold plcI at h
      split at h
      · assumption
      · exact absurd rfl h
    have hne : (ordI d r n s l i a).length ≠ 0 := fun e => by
      have e2 := List.eq_nil_of_length_eq_zero e
      unfold plcI at h
      rw [if_pos h0, e2] at h
      simp at h
    have hb := plc_bd hne h0.1 h0.2
    refine ⟨(ordI d r n s l i a).take (g * wd).toNat, ((ordI d r n s l i a).drop (g * wd).toNat).drop wd.toNat, (g * wd).toNat, wd.toNat, ?_, ?_, rfl, rfl, ?_⟩
    · rw [List.length_take]; omega
    · unfold plcI
      rw [if_pos h0, List.length_take, List.length_drop]; omega
    · unfold plcI
      rw [if_pos h0, List.take_append_drop, List.take_append_drop]
  rw [hF, hVw, hor] at hp
  generalize plcI d r n s l i a wd g = L at *
  clear h hor hF hVw
  have hz := seatTo_zero L mv a g
  have hfull := seatTo_all L mv a g
  rw [hV] at hfull
  (repeat' (first
  | (apply W.qd; (first
    | ((apply q_len_win; (iterate 3 exact rfl)))
    | ((apply q_mv; exact Eq.refl (AV.win _ _ _ _)))
    | ((apply q_as; exact Eq.refl (AV.win _ _ _ _)))|(apply q_mv; (conv => lhs; whnf))|(apply q_as; (conv => lhs; whnf))|(apply yS; (iterate 3 exact rfl))|(apply yT; (iterate 4 exact rfl))
    | (apply yU; (iterate 4 exact rfl))))
  | (apply W.ed; (first
    | (apply (e_callJ (js := []) (hp)); (iterate 5 exact rfl); kernel_rfl; kernel_rfl)
    | (apply yBb; (iterate 3 exact rfl); kernel_rfl; kernel_rfl)))|(apply yA)|(apply yB)|(apply (W.regionS 3); exact rfl; kernel_rfl)|(apply yE)
  | (apply yG)))
  refine AWP.loopW (α := Nat) (fun u => u ≤ V) (fun u => ⟨[(22, iV u), (21, iV V), (9, .win 2 0 F V), (6, .opt 1 0), (3, ses mv)], [.box [iV d, iV r, iV n, iV s, iV l, iV i], .box [iV a, iV g], .row 0 1 3 ((P ++ (seatTo L mv a g u ++ S)).map iD)]⟩) (fun u => V - u) 0 (Nat.zero_le _) ?wkA fun u hu => ?_
  case wkA => rw [hz]; exact ⟨[0, 1, 2], rfl, rfl, rfl, rfl, rfl, rfl, rfl, rfl, trivial⟩
  by_cases hul : u < V
  · have hi := A_ixS (O := untO a g u) (g := 72) (caps := [.opt 0 0]) (atB a g u) mv (by omega) (by kernel_rfl) (fun x _ => A_seatF x)
    have hs := seatTo_set (L := L) (mv := mv) (a := a) (g := g) (show u < L.length by omega)
    have hk := seatTo_keep (L := L) (mv := mv) (a := a) (g := g) (show u < L.length by omega)
    have hzl := seatTo_len L mv a g (u := u) (by omega)
    have hsn : seatN mv a g L[u] u = if 0 ≤ idxA (atB a g u) mv then (mv.getD (idxA (atB a g u) mv).toNat se0).2.2.2 else L[u] := rfl
    by_cases h0 : 0 ≤ idxA (atB a g u) mv
    · obtain ⟨j, hj, e⟩ := idxA_ge0 h0
      rw [if_pos h0] at hsn
      rw [e, Int.toNat_natCast, List.getD_eq_getElem?_getD, List.getElem?_eq_getElem hj, Option.getD_some] at hsn
      rw [hsn] at hs
      rw [e] at hi
      clear hk h0 hsn e
      generalize seatTo L mv a g u = Z at *
      have hset := set_midI (S := S) (v := mv[j].2.2.2) hP (show u < Z.length by omega)
      have hFl : F + u < (P ++ (Z ++ S)).length := by simp; omega
      generalize hR : P ++ (Z ++ S) = R at *
      (repeat' (first
  | (apply W.qd; (first
    | ((apply q_ix_win; (iterate 5 exact rfl); omega))
    | ((apply q_mv; exact Eq.refl (AV.win _ _ _ _)))|(apply q_mv; (conv => lhs; whnf))|(apply q_as; (conv => lhs; whnf))|(apply yU; (iterate 4 exact rfl))|(apply q_lss; exact rfl; exact rfl)|(apply q_geq; exact rfl; exact rfl)|(apply q_add; exact rfl; exact rfl; omega)|(apply yX; (iterate 3 exact rfl); (first | omega | (focus (simp; done))))|(apply q_fld_fptF; (iterate 3 exact rfl))|(apply yZ; exact rfl; exact rfl; kernel_rfl)|(apply q_makeFunc)
    | (apply yGb; (iterate 4 exact rfl); (first | (with_reducible exact rfl) | exact natI_spec rfl | assumption | exact (Int.toNat_of_nonneg (by omega)).symm); (first | omega | (focus (simp only [List.length_map]; omega)) | (focus (simp; done)) | (focus (simp; omega))))))
  | (apply W.ed; (first
    | (apply (e_callJ (js := [3]) (hi)); (iterate 5 exact rfl); kernel_rfl; kernel_rfl)
    | (apply yCb; (iterate 3 exact rfl); kernel_rfl)))
  | (apply W.ln; (first
    | (apply l_st_box; (iterate 6 exact rfl); (iterate 3 kernel_rfl))
    | (apply l_st_rpt; (iterate 7 exact rfl); exact fun _ => rfl; (first | omega | (focus (simp only [List.length_map]; omega)) | (focus (simp; omega))))))|(apply yA)|(apply yB)|(apply yC; kernel_rfl)|(apply yE)|(apply yG)|(apply yH)|(apply yL)|(apply yQ; exact rfl)
  | (refine W.cond _ rfl (fun hb => ?_) (fun hb => ?_) <;> ((try simp only [hb, zA, zB]) <;> (try simp only [zC, zD, zE, zF, zG, zH, zI, zJ] at hb) <;> (try (exfalso; omega))))))
      all_goals first
        | (exfalso; omega)|(refine ⟨u + 1, by omega, by omega, ?_⟩; rw [← hs, ← hset]; exact ⟨[0, 1, 2], rfl, rfl, rfl, iV_eq (by omega), rfl, rfl, rfl, rfl, trivial⟩)
    · rw [if_neg h0] at hsn
      have hk2 := hk hsn
      have hi0 : idxA (atB a g u) mv < 0 := by omega
      generalize idxA (atB a g u) mv = ix at *
      clear hk hsn hs
      generalize seatTo L mv a g u = Z at *
      (repeat' (first
  | (apply W.qd; (first
    | (apply q_mv; (conv => lhs; whnf))|(apply q_as; (conv => lhs; whnf))|(apply yU; (iterate 4 exact rfl))|(apply q_lss; exact rfl; exact rfl)|(apply q_geq; exact rfl; exact rfl)|(apply q_add; exact rfl; exact rfl; omega)|(apply yZ; exact rfl; exact rfl; kernel_rfl)
    | (apply q_makeFunc)))
  | (apply W.ed; (first
    | (apply (e_callJ (js := [3]) (hi)); (iterate 5 exact rfl); kernel_rfl; kernel_rfl)
    | (apply yCb; (iterate 3 exact rfl); kernel_rfl)))|(apply W.ln; (apply l_st_box; (iterate 6 exact rfl); (iterate 3 kernel_rfl)))|(apply yA)|(apply yB)|(apply yC; kernel_rfl)|(apply yE)|(apply yG)|(apply yH)|(apply yL)
  | (refine W.cond _ rfl (fun hb => ?_) (fun hb => ?_) <;> ((try simp only [hb, zA, zB]) <;> (try simp only [zC, zD, zE, zF, zG, zH, zI, zJ] at hb) <;> (try (exfalso; omega))))))
      all_goals first
        | (exfalso; omega)|(refine ⟨u + 1, by omega, by omega, ?_⟩; rw [hk2]; exact ⟨[0, 1, 2], rfl, rfl, rfl, iV_eq (by omega), rfl, rfl, rfl, rfl, trivial⟩)
  · obtain rfl : u = V := by omega
    rw [hfull]
    have hsl := seatsN_len L mv a g
    generalize seatsN L mv a g = Z at *
    have hfin : (((P ++ (Z ++ S)).map iD).drop F).take u = Z.map iD := by
      rw [← List.map_drop, ← List.map_take, List.drop_append_of_le_length (by omega), List.drop_eq_nil_of_le (by omega), List.nil_append, List.take_append_of_le_length (by omega), List.take_of_length_le (by omega)]
    (repeat' (first
  | (apply W.qd; (first
    | ((apply q_mv; exact Eq.refl (AV.win _ _ _ _)))
    | ((apply q_as; exact Eq.refl (AV.win _ _ _ _)))
    | (apply q_lss; exact rfl; exact rfl)))|(apply yA)|(apply yB)|(apply yC; kernel_rfl)|(apply yE)|(apply yI)|(apply yJ)|(apply yK)|(apply yM)
  | (refine W.cond _ rfl (fun hb => ?_) (fun hb => ?_) <;> ((try simp only [hb, zA, zB]) <;> (try simp only [zC, zD, zE, zF, zG, zH, zI, zJ] at hb) <;> (try (exfalso; omega))))))
    exact ⟨.inl rfl, [], [.win 2 0 F u], rfl, ⟨rfl, trivial⟩, AVle.of_eq ((frz_win rfl rfl).trans (by rw [hfin])), rfl⟩
theorem A_spareG (x : Se) {row dk : Int} : ACalls Tryz.prog 87 [seA x, .opt 0 0, .opt 1 0] [.box [iV row], .box [iV dk]] (bV (atDisk row dk x)) [.box [iV row], .box [iV dk]] := by
  refine acalls_of_bodyO Tryz.func87 rfl (Nat.le_of_ble_eq_true rfl) ?_
  (repeat' (first
  | (apply yFb; exact rfl; exact rfl)
  | (apply W.qd; (first
    | (apply q_mv; (conv => lhs; whnf))|(apply q_as; (conv => lhs; whnf))|(apply yS; (iterate 3 exact rfl))|(apply yT; (iterate 4 exact rfl))|(apply q_eql; exact rfl; exact rfl)|(apply (yEb (u := .d _)); exact rfl; exact rfl)
    | (apply (yDb (u := .d _)); exact rfl; exact rfl)))|(apply W.ed; (apply yBb; (iterate 3 exact rfl); kernel_rfl; kernel_rfl))|(refine W.gOff _ _ rfl rfl (by intro h; cases h) ?_)|(apply yA)|(apply yB)|(apply yC; kernel_rfl)|(apply yE)|(apply yJ)
  | (refine W.gT _ _ rfl rfl (fun hb => ?_) (fun hb => ?_) <;> ((try simp only [hb, zA, zB]) <;> (try simp only [zC, zD, zE, zF, zG, zH, zI, zJ] at hb) <;> (try (exfalso; omega))))))
  all_goals (refine ⟨.inl rfl, [0, 1], [_], rfl, rfl, ⟨rfl, trivial⟩, AVle.of_eq (Eq.trans (b := bV _) rfl (bV_eq ?_)), rfl⟩; unfold atDisk; rw [Bool.eq_iff_iff]; simp <;> omega)
abbrev spO (inn : List Bool) (mv : List Se) (row : Int) : List Ent := [.box [bools inn], .box [ses mv], .box [iV row]]
theorem A_spareF {inn : List Bool} {mv : List Se} {row : Int} (dk : Int) (hm : mv.length ≤ 1000000) : ACalls Tryz.prog 85 [iV dk, .opt 0 0, .opt 1 0, .opt 2 0] (spO inn mv row) (bV (freeB mv inn row dk)) (spO inn mv row) := by
  have hs := A_serves (inn := inn) (d := dk)
  have hh := A_hasS (O := [.box [iV row], .box [iV dk]]) (g := 87) (caps := [.opt 0 0, .opt 1 0]) (atDisk row dk) mv (by omega) (by kernel_rfl) (fun x _ => A_spareG x)
  refine acalls_of_bodyO Tryz.func85 rfl (Nat.le_of_ble_eq_true rfl) ?_
  unfold freeB
  cases hsv : srvB inn dk with
  | false =>
    rw [hsv] at hs
    (repeat' (first
  | (apply W.qd; (first
    | (apply (yW (hs)); exact rfl; exact rfl; (iterate 3 kernel_rfl))|(apply q_mv; (conv => lhs; whnf))|(apply q_as; (conv => lhs; whnf))|(apply yT; (iterate 4 exact rfl))
    | (apply (yDb (u := .d _)); exact rfl; exact rfl)))|(apply W.ed; (apply yBb; (iterate 3 exact rfl); kernel_rfl; kernel_rfl))|(refine W.gOff _ _ rfl rfl (by intro h; cases h) ?_)|(apply yA)|(apply yB)|(apply yC; kernel_rfl)|(apply yE)
  | (apply yJ)))
    all_goals exact ⟨.inl rfl, [0, 1, 2], [bV false], rfl, rfl, ⟨rfl, trivial⟩, AVle.of_eq rfl, rfl⟩
  | true =>
    rw [hsv] at hs
    generalize decide (0 ≤ idxA (atDisk row dk) mv) = b at *
    (repeat' (first
  | (apply yFb; exact rfl; exact rfl)
  | (apply W.qd; (first
    | (apply (yW (hs)); exact rfl; exact rfl; (iterate 3 kernel_rfl))|(apply q_mv; (conv => lhs; whnf))|(apply q_as; (conv => lhs; whnf))|(apply yT; (iterate 4 exact rfl))|(apply q_not; exact rfl)|(apply q_makeFunc)
    | (apply (yEb (u := .d _)); exact rfl; exact rfl)))
  | (apply W.ed; (first
    | (apply (e_callJ (js := [2, 3]) (hh)); (iterate 5 exact rfl); kernel_rfl; kernel_rfl)
    | (apply yBb; (iterate 3 exact rfl); kernel_rfl; kernel_rfl)))|(apply yA)|(apply yB)|(apply yC; kernel_rfl)|(apply yE)
  | (apply yJ)))
    all_goals exact ⟨.inl rfl, [0, 1, 2], [bV (!b)], rfl, rfl, ⟨rfl, trivial⟩, AVle.of_eq rfl, rfl⟩
theorem A_filterSp {inn : List Bool} {mv : List Se} {row : Int} {L : List Int} (hl : L.length ≤ 1000000) (hm : mv.length ≤ 1000000) : ACalls Tryz.prog 75 [ints L, .fn 85 [.opt 0 0, .opt 1 0, .opt 2 0]] (spO inn mv row) (ints (L.filter (freeB mv inn row))) (spO inn mv row) := by
  refine acalls_of_bodyO Tryz.func75 rfl (Nat.le_of_ble_eq_true rfl) ?_
  have hc := fun dk => A_spareF (inn := inn) (mv := mv) (row := row) dk hm
  have hmL : (L.map iD).length = L.length := List.length_map _
  generalize freeB mv inn row = q at *
  (repeat' (first
  | (apply W.qd; (apply q_as; (conv => lhs; whnf)))|(apply yA)|(apply yB)|(apply (W.regionS 2); exact rfl; kernel_rfl)
  | (apply yE)))
  refine AWP.nilRow 5 1 3 rfl (by omega) ?_
  (repeat' (first
  | (apply W.qd; (first
    | (apply q_mv; (conv => lhs; whnf))
    | (apply yV; exact rfl; exact rfl)))|(apply yB)|(apply (W.regionS 3); exact rfl; kernel_rfl)|(apply yE)
  | (apply yG)))
  refine AWP.loopW (α := Nat) (fun k => k ≤ L.length) (fun k => ⟨[(10, iV k), (9, iV L.length), (8, ints L), (5, .osl 3 ((L.take k).filter q).length 0 ((L.take k).filter q).length), (1, .fn 85 [.opt 0 0, .opt 1 0, .opt 2 0])], spO inn mv row ++ [.row ((L.take k).filter q).length 1 3 (((L.take k).filter q).map iD)]⟩) (fun k => L.length - k) 0 (Nat.zero_le _) ?wkA fun k hk => ?_
  case wkA => exact ⟨[0, 1, 2, 3], rfl, rfl, rfl, rfl, iV_eq (by rw [hmL]), rfl, rfl, rfl, trivial⟩
  have hfl : ((L.take k).filter q).length ≤ k := Nat.le_trans (List.length_filter_le _ _) (by rw [List.length_take]; omega)
  by_cases hkl : k < L.length
  · have hx := hc L[k]
    have hst : (L.take (k + 1)).filter q = (L.take k).filter q ++ (if q L[k] = true then [L[k]] else []) := by
      rw [List.take_succ_eq_append_getElem hkl, List.filter_append]
      congr 1
      cases hq : q L[k] <;> simp [hq]
    generalize (L.take k).filter q = A at *
    cases hq : q L[k] with
    | false =>
      rw [hq] at hx hst
      rw [if_neg (by simp), List.append_nil] at hst
      (repeat' (first
  | (apply W.qd; (first
    | (apply q_mv; (conv => lhs; whnf))|(apply q_as; (conv => lhs; whnf))|(apply q_lss; exact rfl; exact rfl)|(apply q_add; exact rfl; exact rfl; omega)|(apply yX; (iterate 3 exact rfl); (first | omega | (focus (simp; done))))
    | (apply yGb; (iterate 4 exact rfl); (first | (with_reducible exact rfl) | exact natI_spec rfl | assumption | exact (Int.toNat_of_nonneg (by omega)).symm); (first | omega | (focus (simp only [List.length_map]; omega)) | (focus (simp; done)) | (focus (simp; omega))))))|(apply W.ed; (apply (e_callJ (js := [0, 1, 2]) (hx)); (iterate 5 exact rfl); kernel_rfl; kernel_rfl))|(apply yA)|(apply yB)|(apply yC; kernel_rfl)|(apply yE)|(apply yG)|(apply yH)|(apply yL)|(apply yR; exact rfl)
  | (refine W.cond _ rfl (fun hb => ?_) (fun hb => ?_) <;> ((try simp only [hb, zA, zB]) <;> (try simp only [zC, zD, zE, zF, zG, zH, zI, zJ] at hb) <;> (try (exfalso; omega))))))
      all_goals (refine ⟨k + 1, by omega, by omega, ?_⟩; rw [hst]; exact ⟨[0, 1, 2, 3], rfl, rfl, rfl, iV_eq (by omega), rfl, rfl, rfl, rfl, trivial⟩)
    | true =>
      rw [hq] at hx hst
      rw [if_pos rfl] at hst
      have el : (A ++ [L[k]]).length = A.length + 1 := by simp
      (repeat' (first
  | (apply W.qd; (first
    | (apply q_mv; (conv => lhs; whnf))|(apply q_as; (conv => lhs; whnf))|(apply q_lss; exact rfl; exact rfl)|(apply q_add; exact rfl; exact rfl; omega)|(apply yX; (iterate 3 exact rfl); (first | omega | (focus (simp; done))))|(apply q_litF; (iterate 5 exact rfl); kernel_rfl; kernel_rfl; exact rfl)
    | (apply yGb; (iterate 4 exact rfl); (first | (with_reducible exact rfl) | exact natI_spec rfl | assumption | exact (Int.toNat_of_nonneg (by omega)).symm); (first | omega | (focus (simp only [List.length_map]; omega)) | (focus (simp; done)) | (focus (simp; omega))))))|(apply W.ld; (apply l_app1; (iterate 8 exact rfl); (first | omega | (focus (simp; omega)) | (focus (simp; done)))))|(apply W.ed; (apply (e_callJ (js := [0, 1, 2]) (hx)); (iterate 5 exact rfl); kernel_rfl; kernel_rfl))|(apply yA)|(apply yB)|(apply yC; kernel_rfl)|(apply yE)|(apply yG)|(apply yH)|(apply yL)|(apply yQ; exact rfl)
  | (refine W.cond _ rfl (fun hb => ?_) (fun hb => ?_) <;> ((try simp only [hb, zA, zB]) <;> (try simp only [zC, zD, zE, zF, zG, zH, zI, zJ] at hb) <;> (try (exfalso; omega))))))
      all_goals (refine ⟨k + 1, by omega, by omega, ?_⟩; rw [hst, el]; exact ⟨[0, 1, 2, 3], rfl, rfl, rfl, iV_eq (by omega), rfl, rfl, congrArg (AV.osl 3 (A.length + 1) 0) (by simp), rfl, trivial⟩)
  · obtain rfl : k = L.length := by omega
    rw [List.take_length] at *
    generalize L.filter q = A at *
    (repeat' (first
  | (apply W.qd; (first
    | (apply q_mv; (conv => lhs; whnf))|(apply q_as; (conv => lhs; whnf))
    | (apply q_lss; exact rfl; exact rfl)))|(apply yA)|(apply yB)|(apply yC; kernel_rfl)|(apply yE)|(apply yI)|(apply yJ)|(apply yK)|(apply yM)
  | (refine W.cond _ rfl (fun hb => ?_) (fun hb => ?_) <;> ((try simp only [hb, zA, zB]) <;> (try simp only [zC, zD, zE, zF, zG, zH, zI, zJ] at hb) <;> (try (exfalso; omega))))))
    exact ⟨.inl rfl, [0, 1, 2], [.osl 3 A.length 0 A.length], rfl, rfl, ⟨rfl, trivial⟩, AVle.of_eq (frz_rowJ rfl rfl (by simp)), rfl⟩
theorem sprI_len (d r n s l i row w : Int) : (sprI d r n s l i row w).length ≤ 64 := by
  have := (ordI_len d r n s l i row).1
  unfold sprI; split
  · rw [List.length_drop]; omega
  · simp
theorem A_spare {d r n s l i wd row : Int} {mv : List Se} {inn : List Bool} (hm : mv.length ≤ 1000000) : ACalls Tryz.prog 36 [cfgA d r n s l i, iV wd, iV row, ses mv, bools inn] [] (ints (spareN (sprI d r n s l i row wd) mv inn row)) [] := by
  have hp := A_lspares d r n s l i row wd
  have hle := sprI_len d r n s l i row wd
  generalize sprI d r n s l i row wd = L at *
  have hf := A_filterSp (inn := inn) (mv := mv) (row := row) (L := L) (by omega) hm
  refine acalls_of_body Tryz.func36 rfl (Nat.le_of_ble_eq_true rfl) ?_
  unfold spareN
  (repeat' (first
  | (apply W.qd; (first
    | (apply (yW (hp)); exact rfl; exact rfl; (iterate 3 kernel_rfl))|(apply q_mv; (conv => lhs; whnf))|(apply q_as; (conv => lhs; whnf))|(apply yT; (iterate 4 exact rfl))|(apply yU; (iterate 4 exact rfl))
    | (apply q_makeFunc)))
  | (apply W.ed; (first
    | (apply (e_callJ (js := [3, 2, 1]) (hf)); (iterate 5 exact rfl); kernel_rfl; kernel_rfl)
    | (apply yBb; (iterate 3 exact rfl); kernel_rfl; kernel_rfl)))|(apply yA)|(apply yB)|(apply yC; kernel_rfl)|(apply yE)
  | (apply yJ)))
  all_goals exact Ends.sl rfl rfl
end Go.Proofs.YtcljokdiblnhiaaGreatDoor
end
section
namespace Go.Proofs.YtcljokdiblnhiaaGreatDoor
open Go.RowKit
set_option maxHeartbeats 4000000
set_option maxRecDepth 100000
def ltS (c : Se → Se → Int) (x y : Se) : Bool := decide (c x y < 0)
structure CmpS (cf : FuncId) (caps : List AV) (B : Ent) (c : Se → Se → Int) : Prop where
  isf : isFn Tryz.prog cf = true
  call : ∀ (x y : Se) (ver : Nat) (rows : List (List Dat)), ACalls Tryz.prog cf (.agg ((seD x).map .d) :: .agg ((seD y).map .d) :: caps) [B, .row ver 4 94 rows] (iV (c x y)) [B, .row ver 4 94 rows]
  weak : Weak (ltS c)
attribute [local irreducible] Quiet Eff OpOk AWPG ACont ABlock ACalls AGoto
section
variable {B : Ent} {cf : FuncId} {caps : List AV} {c : Se → Se → Int} {ver N : Nat}
abbrev srtS (B : Ent) (ver : Nat) (L : List Se) : List Ent := [B, .row ver 4 94 (L.map seD)]
theorem A_swapRangeS {a b n : Nat} {L : List Se} (hN : N ≤ L.length) (hL : L.length ≤ 1000000) (ha : a + n ≤ N) (hb : b + n ≤ N) :
    ACalls Tryz.prog 230 [.osl 1 ver 0 N, iV a, iV b, iV n, .fn cf caps] (srtS B ver L) (.tup []) (srtS B ver (swpF se0 n L a b)) := by
  refine acalls_of_bodyS Tryz.func230 rfl (Nat.le_of_ble_eq_true rfl) ?_
  generalize hR : swpF se0 n L a b = R
  (repeat' (first
  | (apply W.qd; (apply q_as; (conv => lhs; whnf)))|(apply yA)|(apply yB)|(apply yC; kernel_rfl)|(apply yE)
  | (apply yG)))
  refine AWP.loopE (α := List Se × Nat) (fun p => p.2 ≤ n ∧ p.1.length = L.length ∧ swpF se0 (n - p.2) p.1 (a + p.2) (b + p.2) = R) (fun p => ⟨[(10, iV p.2), (0, .osl 1 ver 0 N), (1, iV a), (2, iV b), (3, iV n)], srtS B ver p.1⟩) (fun p => n - p.2) (L, 0) ⟨Nat.zero_le _, rfl, hR⟩ ⟨rfl, by (repeat (first | exact trivial | refine ⟨rfl, ?_⟩))⟩ fun p hp => ?_
  obtain ⟨K, i⟩ := p
  obtain ⟨h1, h2, h3⟩ := hp
  dsimp only at h1 h2 h3 ⊢
  by_cases hin : i < n
  · rw [show n - i = (n - (i + 1)) + 1 by omega, swpF] at h3
    have e1 : K.getD (a + i) se0 = K[a + i]'(by omega) := by rw [List.getD_eq_getElem?_getD, List.getElem?_eq_getElem (by omega)]; rfl
    have e2 : K.getD (b + i) se0 = K[b + i]'(by omega) := by rw [List.getD_eq_getElem?_getD, List.getElem?_eq_getElem (by omega)]; rfl
    unfold swpN at h3
    rw [e1, e2] at h3
    (repeat' (first
  | (apply W.qd; (first
    | (apply q_mv; (conv => lhs; whnf))|(apply q_as; (conv => lhs; whnf))|(apply q_lss; exact rfl; exact rfl)|(apply q_add; exact rfl; exact rfl; omega)|(apply q_ix_osl0; (iterate 4 exact rfl); (first | (with_reducible exact rfl) | exact natI_spec rfl | assumption | exact (Int.toNat_of_nonneg (by omega)).symm); (first | omega | (focus (simp only [List.length_map]; omega)) | (focus (simp; done)) | (focus (simp; omega))))
    | (apply q_ld_rptsm; (iterate 4 exact rfl); (first | omega | (focus (simp only [List.length_map]; omega)) | (focus (simp; done)) | (focus (simp; omega))))))|(apply W.en; ((apply (e_st_rptM _); (iterate 9 exact rfl))))|(apply yA)|(apply yB)|(apply yC; kernel_rfl)|(apply yD; exact rfl; kernel_rfl)|(apply yE)|(apply yF; kernel_rfl)|(apply yG)|(apply yH)|(apply yL)
  | (refine W.cond _ rfl (fun hb => ?_) (fun hb => ?_) <;> ((try simp only [hb, zA, zB]) <;> (try simp only [zC, zD, zE, zF, zG, zH, zI, zJ] at hb) <;> (try (exfalso; omega))))))
    exact ⟨(_, i + 1), ⟨by omega, by simp [h2], h3⟩, by dsimp only; omega, rfl, iV_eq (by omega), rfl, rfl, rfl, rfl, trivial⟩
  · rw [show n - i = 0 by omega, swpF] at h3
    subst h3
    (repeat' (first
  | (apply W.qd; (first
    | (apply q_mv; (conv => lhs; whnf))
    | (apply q_lss; exact rfl; exact rfl)))|(apply yA)|(apply yB)|(apply yC; kernel_rfl)|(apply yE)|(apply yI)|(apply yK)|(apply yM)
  | (refine W.cond _ rfl (fun hb => ?_) (fun hb => ?_) <;> ((try simp only [hb, zA, zB]) <;> (try simp only [zC, zD, zE, zF, zG, zH, zI, zJ] at hb) <;> (try (exfalso; omega))))))
    exact ⟨.inr rfl, [], trivial, AVle.of_eq rfl, rfl⟩
theorem A_rotateS {a m b : Nat} {P U V S : List Se} (hN : N ≤ (P ++ (U ++ (V ++ S))).length) (hL : (P ++ (U ++ (V ++ S))).length ≤ 1000000) (ha : P.length = a) (hm : P.length + U.length = m) (hb : m + V.length = b) (hbN : b ≤ N) (hU : 0 < U.length) (hV : 0 < V.length) :
    ACalls Tryz.prog 213 [.osl 1 ver 0 N, iV a, iV m, iV b, .fn cf caps] (srtS B ver (P ++ (U ++ (V ++ S)))) (.tup []) (srtS B ver (P ++ (V ++ (U ++ S)))) := by
  refine acalls_of_bodyS Tryz.func213 rfl (Nat.le_of_ble_eq_true rfl) ?_
  generalize hR : P ++ (V ++ (U ++ S)) = R
  generalize hT : (P ++ (U ++ (V ++ S))).length = T at *
  (repeat' (first
  | (apply W.qd; (first
    | (apply q_mv; (conv => lhs; whnf))|(apply q_as; (conv => lhs; whnf))
    | (apply q_sub; exact rfl; exact rfl; omega)))|(apply yA)|(apply yB)|(apply yC; kernel_rfl)|(apply yE)
  | (apply yG)))
  refine AWP.loopE (α := List Se × Nat × Nat) (fun p => p.1.length = T ∧ ∃ P U V S : List Se, p.1 = P ++ (U ++ (V ++ S)) ∧ P ++ (V ++ (U ++ S)) = R ∧ P.length + U.length = m ∧ U.length = p.2.1 ∧ V.length = p.2.2 ∧ 0 < U.length ∧ 0 < V.length ∧ m + V.length ≤ N) (fun p => ⟨[(10, iV p.2.1), (11, iV p.2.2), (0, .osl 1 ver 0 N), (2, iV m), (4, .fn cf caps)], srtS B ver p.1⟩) (fun p => p.2.1 + p.2.2) (P ++ (U ++ (V ++ S)), U.length, V.length) ⟨hT, P, U, V, S, rfl, hR, hm, rfl, rfl, hU, hV, by omega⟩ ?w0 fun p hp => ?_
  case w0 => exact ⟨rfl, iV_eq (by dsimp only; omega), iV_eq (by dsimp only; omega), rfl, rfl, rfl, trivial⟩
  obtain ⟨K, i, j⟩ := p
  obtain ⟨h0, P, U, V, S, h1, h2, h3, h4, h5, h6, h7, h8⟩ := hp
  dsimp only at h0 h1 h4 h5 ⊢
  clear hU hV ha hb hm hT hR
  have em : ((m : Int) - (i : Int)) = ((m - i : Nat) : Int) := by omega
  rcases Nat.lt_trichotomy i j with hij | hij | hij
  · have hcall := A_swapRangeS (B := B) (ver := ver) (N := N) (a := m - i) (b := m + j - i) (n := i) (L := K) (cf := cf) (caps := caps) (by omega) (by omega) (by omega) (by omega)
    have e2 : iV (((m : Int) + (j : Int)) - (i : Int)) = iV ((m + j - i : Nat) : Int) := iV_eq (by omega)
    rw [← e2, ← em] at hcall
    have hblk := swpF_block se0 U (V.drop (j - i)) P (V.take (j - i)) S (by rw [List.length_drop]; omega)
    have eK : P ++ (U ++ (V.take (j - i) ++ (V.drop (j - i) ++ S))) = K := by rw [h1, ← List.append_assoc (V.take _), List.take_append_drop]
    rw [eK, h4, show P.length = m - i by omega, show m - i + i + (V.take (j - i)).length = m + j - i by rw [List.length_take]; omega] at hblk
    rw [hblk] at hcall
    have hlen : (P ++ (V.drop (j - i) ++ (V.take (j - i) ++ (U ++ S)))).length = K.length := by rw [← eK]; simp; omega
    (repeat' (first
  | (apply W.qd; (first
    | (apply q_mv; (conv => lhs; whnf))|(apply q_as; (conv => lhs; whnf))|(apply q_gtr; exact rfl; exact rfl)|(apply q_neq; exact rfl; exact rfl)|(apply q_add; exact rfl; exact rfl; omega)
    | (apply q_sub; exact rfl; exact rfl; omega)))|(apply W.ed; ((exact e_callA hcall rfl rfl rfl)))|(apply yA)|(apply yB)|(apply yC; kernel_rfl)|(apply yE)|(apply yG)|(apply yH)|(apply yL)
  | (refine W.cond _ rfl (fun hb => ?_) (fun hb => ?_) <;> ((try simp only [hb, zA, zB]) <;> (try simp only [zC, zD, zE, zF, zG, zH, zI, zJ] at hb) <;> (try (exfalso; omega))))))
    refine ⟨(P ++ (V.drop (j - i) ++ (V.take (j - i) ++ (U ++ S))), i, j - i), ⟨by dsimp only; omega, P, V.drop (j - i), V.take (j - i), U ++ S, rfl, ?_, by rw [List.length_drop]; omega, by rw [List.length_drop]; dsimp only; omega, by rw [List.length_take]; dsimp only; omega, by rw [List.length_drop]; omega, by rw [List.length_take]; omega, by rw [List.length_take]; omega⟩, by dsimp only; omega, rfl, rfl, iV_eq (by dsimp only; omega), rfl, rfl, rfl, trivial⟩
    rw [← h2, ← List.append_assoc (V.take _), List.take_append_drop]
  · subst hij
    have hcall := A_swapRangeS (B := B) (ver := ver) (N := N) (a := m - i) (b := m) (n := i) (L := K) (cf := cf) (caps := caps) (by omega) (by omega) (by omega) (by omega)
    rw [← em] at hcall
    have hblk := swpF_block se0 U V P [] S (by omega)
    rw [show P ++ (U ++ ([] ++ (V ++ S))) = K by rw [h1]; simp, h4, show P.length = m - i by omega, show m - i + i + ([] : List Se).length = m by simp; omega] at hblk
    rw [hblk, show P ++ (V ++ ([] ++ (U ++ S))) = R by rw [← h2]; simp] at hcall
    (repeat' (first
  | (apply W.qd; (first
    | (apply q_mv; (conv => lhs; whnf))|(apply q_neq; exact rfl; exact rfl)
    | (apply q_sub; exact rfl; exact rfl; omega)))|(apply W.ed; ((exact e_callA hcall rfl rfl rfl)))|(apply yA)|(apply yB)|(apply yC; kernel_rfl)|(apply yE)|(apply yI)|(apply yK)|(apply yM)
  | (refine W.cond _ rfl (fun hb => ?_) (fun hb => ?_) <;> ((try simp only [hb, zA, zB]) <;> (try simp only [zC, zD, zE, zF, zG, zH, zI, zJ] at hb) <;> (try (exfalso; omega))))))
    exact ⟨.inr rfl, [], trivial, AVle.of_eq rfl, rfl⟩
  · have hcall := A_swapRangeS (B := B) (ver := ver) (N := N) (a := m - i) (b := m) (n := j) (L := K) (cf := cf) (caps := caps) (by omega) (by omega) (by omega) (by omega)
    rw [← em] at hcall
    have hblk := swpF_block se0 (U.take j) V P (U.drop j) S (by rw [List.length_take]; omega)
    have eK : P ++ (U.take j ++ (U.drop j ++ (V ++ S))) = K := by rw [h1, ← List.append_assoc (U.take _), List.take_append_drop]
    have eTj : (U.take j).length = j := by rw [List.length_take]; omega
    rw [eK, eTj, show P.length = m - i by omega, show m - i + j + (U.drop j).length = m by rw [List.length_drop]; omega] at hblk
    rw [hblk] at hcall
    have hlen : (P ++ (V ++ (U.drop j ++ (U.take j ++ S)))).length = K.length := by rw [← eK]; simp; omega
    (repeat' (first
  | (apply W.qd; (first
    | (apply q_mv; (conv => lhs; whnf))|(apply q_as; (conv => lhs; whnf))|(apply q_gtr; exact rfl; exact rfl)|(apply q_neq; exact rfl; exact rfl)
    | (apply q_sub; exact rfl; exact rfl; omega)))|(apply W.ed; ((exact e_callA hcall rfl rfl rfl)))|(apply yA)|(apply yB)|(apply yC; kernel_rfl)|(apply yE)|(apply yG)|(apply yH)|(apply yL)
  | (refine W.cond _ rfl (fun hb => ?_) (fun hb => ?_) <;> ((try simp only [hb, zA, zB]) <;> (try simp only [zC, zD, zE, zF, zG, zH, zI, zJ] at hb) <;> (try (exfalso; omega))))))
    refine ⟨(P ++ (V ++ (U.drop j ++ (U.take j ++ S))), i - j, j), ⟨by dsimp only; omega, P ++ V, U.drop j, U.take j, S, by simp, ?_, by rw [List.length_drop, List.length_append]; omega, by rw [List.length_drop]; dsimp only; omega, by rw [eTj], by rw [List.length_drop]; omega, by omega, by omega⟩, by dsimp only; omega, rfl, iV_eq (by dsimp only; omega), rfl, rfl, rfl, rfl, trivial⟩
    rw [← h2, List.append_assoc, ← List.append_assoc (U.take _), List.take_append_drop]
end
end Go.Proofs.YtcljokdiblnhiaaGreatDoor
end
