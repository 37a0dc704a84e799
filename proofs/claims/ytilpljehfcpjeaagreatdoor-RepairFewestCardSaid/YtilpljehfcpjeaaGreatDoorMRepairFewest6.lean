import Derived.Test.YtilpljehfcpjeaaGreatDoorMRepairFewest5
/- Joined texts: Rp10 Rp11 Xp1 Xp2 Xp3 Xp4 Xp5 Xp6 Xp7 Rp14 Rp15 Rp18. -/
set_option linter.unusedVariables false
set_option linter.unusedSimpArgs false
section
/- Package repair over the machine of abstract values: All on a list that is the caller's own. Printed by gen_rp10.py. -/
namespace Go.Proofs.YtilpljehfcpjeaaGreatDoor
open Go.RowKit
set_option maxHeartbeats 4000000
set_option maxRecDepth 100000
attribute [local irreducible] Quiet Eff OpOk AWPG ACont ABlock ACalls AGoto
theorem A_missIterO {v : Nat} {hv : List Bool} {E0 E1 E2 E3 L : Ent} {e4 e5 : Nat → Ent} (hl : hv.length ≤ 1000000)
    (h1 : ∀ k, k < hv.length → hv.getD k false = true → e4 (k + 1) = e4 k ∧ e5 (k + 1) = e5 k)
    (h2 : ∀ k, k < hv.length → hv.getD k false = false → YAt Tryz.prog 8 [.row v 1 4 (hv.map tD), E0, E1, E2, E3, e4 k, e5 k, .box [.osl 0 v 0 hv.length], L] [iV (k : Nat)] true [.row v 1 4 (hv.map tD), E0, E1, E2, E3, e4 (k + 1), e5 (k + 1), .box [.osl 0 v 0 hv.length], L]) :
    ACalls Tryz.prog 65 [.yl 8, .opt 7 0] [.row v 1 4 (hv.map tD), E0, E1, E2, E3, e4 0, e5 0, .box [.osl 0 v 0 hv.length], L] (.tup []) [.row v 1 4 (hv.map tD), E0, E1, E2, E3, e4 hv.length, e5 hv.length, .box [.osl 0 v 0 hv.length], L] := by
  refine acalls_of_bodyS Tryz.func65 rfl (Nat.le_of_ble_eq_true rfl) ?_
  have hmh : (hv.map tD).length = hv.length := List.length_map _
  (repeat' (first
  | (apply W.qd; (first
    | (apply q_mv; (first|exact vD|exact vO|exact vP|exact vA|exact vF|exact vR|exact vN|exact vY|exact vT|exact vX))|(apply q_ld_box; exact rfl; exact rfl; exact rfl; exact rfl)
    | (apply q_len_osl; exact rfl; exact rfl; exact rfl)))|(apply AWP.seq)|(apply ACont_normal)|(apply (W.regionS 5); exact rfl; kernel_rfl)|(apply Walk.nil)
  | (apply AWP.block)))
  refine AWP.loopE (α := Nat) (fun k => k ≤ hv.length) (fun k => ⟨[(7, iV (k : Nat)), (6, iV hv.length), (5, .osl 0 v 0 hv.length), (0, .yl 8), (1, .opt 7 0)], [.row v 1 4 (hv.map tD), E0, E1, E2, E3, e4 k, e5 k, .box [.osl 0 v 0 hv.length], L]⟩) (fun k => hv.length - k) 0 (by omega) ⟨rfl, rfl, rfl, rfl, rfl, rfl, trivial⟩ fun k hk => ?_
  by_cases hkl : k < hv.length
  · have eg : hv.getD k false = hv[k] := by rw [List.getD_eq_getElem?_getD, List.getElem?_eq_getElem hkl]; rfl
    have q1 := h1 k hkl
    have q2 := h2 k hkl
    rw [eg] at q1 q2
    (repeat' (first
  | (apply W.gOn; exact rfl; exact rfl)
  | (apply W.qd; (first
    | (apply q_mv; (first|exact vD|exact vO|exact vP|exact vA|exact vF|exact vR|exact vN|exact vY|exact vT|exact vX))|(apply q_as; (first|exact vD|exact vO|exact vP|exact vA|exact vF|exact vR|exact vN|exact vY|exact vT|exact vX))|(apply q_lss; exact rfl; exact rfl)|(apply q_not; exact rfl)|(apply q_add; exact rfl; exact rfl; omega)|(apply (q_pickT (u := .d _)); exact rfl; exact rfl)|(apply (q_pickF (u := .d _)); exact rfl; exact rfl)|(apply q_ix_osl0; exact rfl; exact rfl; exact rfl; exact rfl; (first | (with_reducible exact rfl) | exact natI_spec rfl | assumption | exact (Int.toNat_of_nonneg (by omega)).symm); (first | omega | (focus (simp only [List.length_map]; omega)) | (focus (simp; done)) | (focus (simp; omega))))
    | (apply q_ld_rptm; exact rfl; exact rfl; exact rfl; exact rfl; (first | omega | (focus (simp only [List.length_map]; omega)) | (focus (simp; done)) | (focus (simp; omega))))))|(apply W.ed; ((exact e_yield (q2 hb) rfl rfl)))|(refine W.gOff _ _ rfl rfl (by intro h; cases h) ?_)|(apply AWP.seq)|(apply ACont_normal)|(apply W.region; kernel_rfl)|(apply Walk.nil)|(apply AWP.block)|(apply AWP.skip)|(apply ABlock_normal)|(apply W.condF; exact rfl)|(refine W.gT _ _ rfl rfl (fun hb => ?_) (fun hb => ?_) <;> ((try simp only [hb, Bool.not_true, Bool.not_false]) <;> (try simp only [decide_eq_true_eq, decide_eq_false_iff_not, Bool.not_eq_true', Bool.not_eq_false', Int.not_lt, Int.not_le, List.length_map, not_true_eq_false] at hb) <;> (try (exfalso; omega))))
  | (refine W.cond _ rfl (fun hb => ?_) (fun hb => ?_) <;> ((try simp only [hb, Bool.not_true, Bool.not_false]) <;> (try simp only [decide_eq_true_eq, decide_eq_false_iff_not, Bool.not_eq_true', Bool.not_eq_false', Int.not_lt, Int.not_le, List.length_map, not_true_eq_false] at hb) <;> (try (exfalso; omega))))))
    · exact ⟨k + 1, by omega, by omega, rfl, iV_eq (by omega), rfl, rfl, rfl, rfl, trivial⟩
    · refine ⟨k + 1, by omega, by omega, ?_⟩
      rw [(q1 hb).1, (q1 hb).2]
      exact ⟨rfl, iV_eq (by omega), rfl, rfl, rfl, rfl, trivial⟩
  · have : k = hv.length := by omega
    subst this
    (repeat' (first
  | (apply W.qd; (apply q_lss; exact rfl; exact rfl))|(apply AWP.seq)|(apply ACont_normal)|(apply W.region; kernel_rfl)|(apply Walk.nil)|(apply AWP.exit)|(apply ACont_exit)|(apply ABlock_exit)
  | (refine W.cond _ rfl (fun hb => ?_) (fun hb => ?_) <;> ((try simp only [hb, Bool.not_true, Bool.not_false]) <;> (try simp only [decide_eq_true_eq, decide_eq_false_iff_not, Bool.not_eq_true', Bool.not_eq_false', Int.not_lt, Int.not_le, List.length_map, not_true_eq_false] at hb) <;> (try (exfalso; omega))))))
    exact ⟨.inr rfl, [], trivial, AVle.of_eq rfl, rfl⟩
theorem A_missing0O {v : Nat} {hv : List Bool} : ACalls Tryz.prog 44 [.osl 0 v 0 hv.length] [.row v 1 4 (hv.map tD)] (.fn 65 [.opt 1 0]) [.row v 1 4 (hv.map tD), .box [.osl 0 v 0 hv.length]] := by
  refine acalls_of_bodyO Tryz.func44 rfl (Nat.le_of_ble_eq_true rfl) ?_
  (repeat' (first
  | (apply W.qd; (first
    | (apply q_as; (first|exact vD|exact vO|exact vP|exact vA|exact vF|exact vR|exact vN|exact vY|exact vT|exact vX))
    | (apply q_makeFunc)))|(apply W.ed; (apply e_boxF; exact rfl; exact rfl; exact rfl; kernel_rfl; kernel_rfl))|(apply AWP.seq)|(apply ACont_normal)|(apply W.region; kernel_rfl)|(apply Walk.nil)
  | (apply AWP.ret)))
  exact ⟨.inl rfl, [0, 1], [.fn 65 [.opt 1 0]], rfl, rfl, ⟨rfl, trivial⟩, AVle.of_eq rfl, rfl⟩
theorem A_allO {M D v : Nat} {ps : List (List Nat)} {hv : List Bool} (h : CodeOk M D ps) (hl : hv.length = D + ps.length) (hall : ∀ k, k < hv.length → hv.getD k false = false → (planN M D ps hv k).isSome = true) :
    ACalls Tryz.prog 16 [cdN M D ps, .osl 0 v 0 hv.length] [.row v 1 4 (hv.map tD)] (.tup [plsA (plansTo M D ps hv hv.length), iV 0]) [.row v 1 4 (hv.map tD)] := by
  have h1 := h.d
  have h2 := h.w
  have hfit := A_fitsO (v := v) (M := M) (D := D) (hv := hv) (code_in h)
  have hpl : (toZ ps).length = ps.length := List.length_map _
  rw [valid_ok h, hpl, decide_eq_true (show (hv.length : Int) = D + (ps.length : Int) by omega), ← cdN_A] at hfit
  have hmis := A_missing0O (v := v) (hv := hv)
  have hplan := fun k (hk : k < D + ps.length) => A_planO (v := v) (u := k) h hl hk
  have hs := fun k => Lib.hid (plansTo_succ M D ps hv k)
  have hle := plansTo_le M D ps hv
  have hP0 : plansTo M D ps hv 0 = [] := rfl
  generalize hPN : planN M D ps hv = PN at *
  generalize plansTo M D ps hv = PL at *
  refine acalls_of_bodyO Tryz.func16 rfl (Nat.le_of_ble_eq_true rfl) ?_
  (repeat' (first
  | (apply W.qd; (first
    | (apply (q_callR (js := [0]) (hfit)); exact rfl; exact rfl; exact rfl; exact fun _ => rfl; exact fun _ => rfl; kernel_rfl; kernel_rfl)|(apply q_ld_box; exact rfl; exact rfl; exact rfl; exact rfl)|(apply q_ld_boxF; exact rfl; exact rfl; exact rfl; exact rfl)
    | (apply q_not; exact rfl)))
  | (apply W.ed; (first
    | (apply e_boxF; exact rfl; exact rfl; exact rfl; kernel_rfl; kernel_rfl)
    | (apply e_allocF; exact rfl; exact rfl; exact rfl; kernel_rfl)))|(apply AWP.seq)|(apply ACont_normal)|(apply (W.regionS 4); exact rfl; kernel_rfl)|(apply Walk.nil)|(apply AWP.skip)
  | (apply W.condF; exact rfl)))
  refine AWP.nilBox (l' := [.osl 6 0 0 0]) 5 0 2 30 rfl rfl (by omega) rfl rfl rfl rfl ?_
  (repeat' (first
  | (apply W.qd; (apply q_ld_box; exact rfl; exact rfl; exact rfl; exact rfl))|(apply W.ed; (apply (e_callJ (js := [0]) (hmis)); exact rfl; exact rfl; exact rfl; exact rfl; exact rfl; kernel_rfl; kernel_rfl))|(apply ACont_normal)|(apply W.region; kernel_rfl)|(apply Walk.nil)
  | (apply AWP.block)))
  refine AWP.wk ⟨[(15, .fn 65 [.opt 7 0]), (2, .opt 1 0), (3, .opt 2 0), (4, .opt 3 0), (5, .opt 4 0), (6, .opt 5 0)], [.row v 1 4 (hv.map tD), .box [.d .any, iV M, iV D, rowsN ps, .d .any], .box [.osl 0 v 0 hv.length], .box [.d (.v (.slice none 0 0))], .box [iV 0], .box [.osl 6 (PL 0).length 0 (PL 0).length], .row (PL 0).length 2 30 ((PL 0).map plD), .box [.osl 0 v 0 hv.length]]⟩ (by rw [hP0]; exact ⟨[0, 1, 2, 3, 4, 5, 6, 7], rfl, rfl, rfl, by (repeat (first | exact trivial | refine ⟨rfl, ?_⟩))⟩) ?_
  refine AWP.range (s2 := ⟨[(4, .opt 3 0), (5, .opt 4 0), (6, .opt 5 0)], [.row v 1 4 (hv.map tD), .box [.d .any, iV M, iV D, rowsN ps, .d .any], .box [.osl 0 v 0 hv.length], .box [.d (.v (.slice none 0 0))], .box [iV 0], .box [.osl 6 (PL hv.length).length 0 (PL hv.length).length], .row (PL hv.length).length 2 30 ((PL hv.length).map plD)]⟩) rfl (by kernel_rfl) (A_missIterO (e4 := fun k => .box [.osl 6 (PL k).length 0 (PL k).length]) (e5 := fun k => .row (PL k).length 2 30 ((PL k).map plD)) (by omega) (fun k hk hb => ?_) (fun k hk hb => ?_)) rfl (by decide) ⟨[0, 1, 2, 3, 4, 5, 6], rfl, rfl, rfl, by (repeat (first | exact trivial | refine ⟨rfl, ?_⟩))⟩ ?_
  · have e := (hs k).out
    rw [if_pos hb] at e
    rw [e]
    exact ⟨rfl, rfl⟩
  · have hk2 := hplan k (by omega)
    obtain ⟨l, hl2⟩ := Option.isSome_iff_exists.1 (hall k hk hb)
    have hs2 : PL (k + 1) = PL k ++ [(k, l)] := by rw [(hs k).out, if_neg (by rw [hb]; simp), hl2]; rfl
    have hle2 := hle k
    rw [hl2] at hk2
    have e9 : (PL k ++ [(k, l)]).length = (PL k).length + 1 := by simp
    refine YAt.ok (own1 := [.row v 1 4 (hv.map tD), .box [.d .any, iV M, iV D, rowsN ps, .d .any], .box [.osl 0 v 0 hv.length], .box [.d (.v (.slice none 0 0))], .box [iV 0], .box [.osl 6 ((PL k).length + 1) 0 (PL k ++ [(k, l)]).length], .row ((PL k).length + 1) 2 30 ((PL k ++ [(k, l)]).map plD), .box [.osl 0 v 0 hv.length], .lp .busy none #[16] _ _ _]) (s2 := ⟨[(7, iV k), (2, .opt 1 0), (3, .opt 2 0), (4, .opt 3 0), (5, .opt 4 0), (6, .opt 5 0)], _⟩) rfl rfl rfl rfl (fun g => ?_) rfl (fun g => ?_) rfl (by rw [hs2, e9]; rfl)
    · refine AWP.toW ?_
      (repeat' (first
  | (apply W.qd; (apply q_as; (first|exact vD|exact vO|exact vP|exact vA|exact vF|exact vR|exact vN|exact vY|exact vT|exact vX)))|(apply W.region; kernel_rfl)
  | (apply Walk.nil)))
      exact ⟨rfl, ⟨[0, 1, 2, 3, 4, 5, 6, 7, 8], rfl, rfl, rfl, by (repeat (first | exact trivial | refine ⟨rfl, ?_⟩))⟩⟩
    · refine AWP.toO ?_
      generalize PL k = A at *
      unfold planA at hk2
      dsimp only at hk2
      (repeat' (first
  | (apply W.qd; (first
    | (apply q_mv; (first|exact vD|exact vO|exact vP|exact vA|exact vF|exact vR|exact vN|exact vY|exact vT|exact vX))|(apply q_as; (first|exact vD|exact vO|exact vP|exact vA|exact vF|exact vR|exact vN|exact vY|exact vT|exact vX))|(apply q_ld_box; exact rfl; exact rfl; exact rfl; exact rfl)|(apply q_ld_boxF; exact rfl; exact rfl; exact rfl; exact rfl)|(apply q_neq; exact rfl; exact rfl)|(apply q_extract; exact rfl; exact rfl)
    | (apply q_litF; exact rfl; exact rfl; exact rfl; exact rfl; exact rfl; kernel_rfl; kernel_rfl; exact rfl)))
  | (apply W.ed; (first
    | (apply (e_callJ (js := [0]) (hk2)); exact rfl; exact rfl; exact rfl; exact rfl; exact rfl; kernel_rfl; kernel_rfl)
    | ((apply (e_app1F (f := plD) (k, l)); exact rfl; exact rfl; exact rfl; exact rfl; exact rfl; exact rfl; exact rfl; exact rfl; omega))
    | (apply e_allocF; exact rfl; exact rfl; exact rfl; kernel_rfl)))|(apply W.ln; (apply l_st_box; exact rfl; exact rfl; exact rfl; exact rfl; exact rfl; exact rfl; kernel_rfl; kernel_rfl; kernel_rfl))|(apply AWP.seq)|(apply ACont_normal)|(apply W.region; kernel_rfl)|(apply Walk.nil)|(apply AWP.block)|(apply AWP.skip)|(apply ABlock_normal)
  | (apply W.condF; exact rfl)))
      exact ⟨rfl, ⟨[0, 1, 2, 3, 4, 5, 6, 7, 8], rfl, rfl, rfl, by (repeat (first | exact trivial | refine ⟨rfl, ?_⟩))⟩⟩
  dsimp only
  generalize PL hv.length = A at *
  (repeat' (first
  | (apply W.qd; (apply q_ld_box; exact rfl; exact rfl; exact rfl; exact rfl))|(apply W.ln; (apply l_st_box; exact rfl; exact rfl; exact rfl; exact rfl; exact rfl; exact rfl; kernel_rfl; kernel_rfl; kernel_rfl))|(apply AWP.seq)|(apply ACont_normal)|(apply W.region; kernel_rfl)|(apply Walk.nil)|(apply AWP.ret)
  | (apply ABlock_normal)))
  exact ⟨.inl rfl, [0], [.osl 6 A.length 0 A.length, iV 0], rfl, rfl, ⟨⟨3, [.osl 6 A.length 0 A.length], false, rfl, rfl, rfl, rfl⟩, ⟨4, [iV 0], false, rfl, rfl, rfl, rfl⟩, trivial⟩, AVle.tup2 (AVle.of_eq (frz_rowJ rfl rfl (by simp))) (AVle.of_eq rfl), rfl⟩
end Go.Proofs.YtilpljehfcpjeaaGreatDoor
end
section
/- The example of layer 10: sanity. -/
namespace Go.Proofs.YtilpljehfcpjeaaGreatDoor
open Go.RowKit
set_option maxHeartbeats 4000000
set_option maxRecDepth 100000
theorem AVle.any {x : Value} (h : x.oneCell' = true) : AVle (.d (.v x)) (.d .any) := fun F own κ w u hs => by
  rw [sat_v] at hs
  subst hs
  rw [AV.sat, Dat.sat]
  exact h
def hv1 : List Bool := [true, true, false, true, true, true, true]
def hv2 : List Bool := [true, true, false, false, true, true, true]
def hv3 : List Bool := [true, true, false, false, true, false, true]
def usE : List (List Nat) := [[], [], [], [5], [], [6], []]
theorem lrc_chk : ((chkZ 4 lrcP 2 lrcP.length).map fun i => checkN 4 i (lrcP.getD i [])) = [[2, 3, 5], [0, 1, 2, 3, 6]] := by kernel_rfl
theorem lrc_all : (plansTo 8 4 lrcP hv2 hv2.length).length = 2 := by kernel_rfl
theorem lrc_sum : combM 8 1 [1, 1] [[5], [6]] (List.replicate 1 0) = [3] := by kernel_rfl
theorem lrc_some : ∀ k, k < hv2.length → hv2.getD k false = false → (planN 8 4 lrcP hv2 k).isSome = true := fun k hk => by
  have h : ((List.range 7).all fun k => hv2.getD k false || (planN 8 4 lrcP hv2 k).isSome) = true := by kernel_rfl
  have := List.all_eq_true.1 h k (List.mem_range.2 hk)
  intro h2
  rw [h2] at this
  simpa using this
attribute [local irreducible] Quiet Eff OpOk AWPG ACont ABlock ACalls AGoto
theorem A_lrc : ACalls Tryz.prog 22 [] [] (cdN 8 4 lrcP) [] := by
  refine ACalls.leR (r := .agg [.d (.v (.string ⟨#[108, 114, 99]⟩)), iV 8, iV 4, rowsN lrcP, iV 7]) ?_ (AVle.agg ⟨AVle.any rfl, AVle.refl _, AVle.refl _, AVle.refl _, AVle.any rfl, trivial⟩)
  refine acalls_of_body Tryz.func22 rfl (Nat.le_of_ble_eq_true rfl) ?_
  (repeat' (first
  | (apply W.qd; (first
    | (apply q_buildF; exact rfl; exact rfl; kernel_rfl)
    | (apply q_litF; exact rfl; exact rfl; exact rfl; exact rfl; exact rfl; kernel_rfl; kernel_rfl; exact rfl)))|(apply W.ed; (apply e_allocF; exact rfl; exact rfl; exact rfl; kernel_rfl))|(apply W.ln; (apply l_st_box; exact rfl; exact rfl; exact rfl; exact rfl; exact rfl; exact rfl; kernel_rfl; kernel_rfl; kernel_rfl))|(apply AWP.seq)|(apply ACont_normal)|(apply W.region; kernel_rfl)|(apply Walk.nil)
  | (apply AWP.ret)))
  exact Ends.cell1 rfl rfl rfl rfl
theorem lrc_apply : ACalls Tryz.prog 23 [cdN 8 4 lrcP, .agg [iV 2, tmsA [(3, 1), (5, 1)]], strs usE] [] (.tup [bS [3], iV 0]) [] := by
  have hc := A_fcombine (M := 8) (n := 1) (cs := [1, 1]) (us := [[5], [6]]) (.inl rfl) (fun h => by cases h) rfl (by decide) (by decide) (fun u hu => by
    have : u = [5] ∨ u = [6] := by simpa using hu
    rcases this with rfl | rfl <;> exact ⟨fun x hx => by simp at hx; omega, rfl⟩) (by decide) (by decide)
  rw [lrc_sum] at hc
  have := A_applyOk (M := 8) (D := 4) (u := 2) (e := 0) (par := toZ lrcP) (us := usE) (l := [(3, 1), (5, 1)]) (s := [3]) (code_in lrc_ok) (valid_ok lrc_ok) rfl (by decide) (by decide) (by decide) (by decide) hc
  exact this
theorem lrc_nil : ACalls Tryz.prog 8 [cdN 8 4 lrcP, .d (.v (.slice none 0 0)), iV 2] [] (.tup [pl0, iV 1]) [] := by
  have := A_plan_bad (M := 8) (D := 4) (u := 2) (par := toZ lrcP) (hv := []) (code_in lrc_ok) (fun h => by have := h.2.2.2; simp at this)
  refine ACalls.le this fun F κ w vs h => AVleL.sat (xs := [cdN 8 4 lrcP, .d (.v (.slice none 0 0)), iV 2]) (ys := [cdA 8 4 (toZ lrcP), bools [], iV 2]) ⟨AVle.of_eq rfl, AVle.nil 1, AVle.refl _, trivial⟩ F [] κ w vs h
theorem A_sanity10 : ACalls Tryz.prog 7 [] [] (bV true) [] := by
  have hchk := A_checks (u := 2) lrc_ok
  rw [lrc_chk] at hchk
  have hp1 := A_planO (v := 0) (u := 2) (hv := hv1) lrc_ok rfl (by decide)
  rw [show planN 8 4 lrcP hv1 2 = some [(3, 1), (5, 1)] from lrc_p1] at hp1
  obtain ⟨l2, e2, e3⟩ := Option.map_eq_some_iff.1 lrc_p2
  have hp2 := A_planO (v := 0) (u := 2) (hv := hv2) lrc_ok rfl (by decide)
  rw [show planN 8 4 lrcP hv2 2 = some l2 from e2] at hp2
  have hp3 := A_planO (v := 0) (u := 2) (hv := hv3) lrc_ok rfl (by decide)
  rw [show planN 8 4 lrcP hv3 2 = none from lrc_p3] at hp3
  have hall := A_allO (v := 0) (hv := hv2) lrc_ok rfl lrc_some
  have hll := lrc_all
  obtain ⟨a1, a2, ea⟩ : ∃ a1 a2, plansTo 8 4 lrcP hv2 hv2.length = [a1, a2] := by
    generalize plansTo 8 4 lrcP hv2 hv2.length = L at hll
    match L, hll with
    | [a1, a2], _ => exact ⟨a1, a2, rfl⟩
  rw [ea] at hall
  have hl2 : l2.length = 4 := by have := congrArg List.length e3; simpa using this
  have hrd := A_reads (u := 2) (l := l2) (by omega)
  rw [e3] at hrd
  have hsm := A_samePlan (u := 2) (v := 2) (a := [(3, 1), (5, 1)]) (b := [(3, 1), (5, 1)]) (by decide) (by decide)
  have hs1 := A_same_ints (a := [2, 3, 5]) (b := [2, 3, 5]) (by decide) (by decide)
  have hs2 := A_same_ints (a := [0, 1, 2, 3, 6]) (b := [0, 1, 2, 3, 6]) (by decide) (by decide)
  have hs3 := A_same_ints (a := [0, 1, 5, 6]) (b := [0, 1, 5, 6]) (by decide) (by decide)
  rw [decide_eq_true rfl] at hs1 hs2 hs3
  rw [decide_eq_true rfl, decide_eq_true rfl, Bool.true_and] at hsm
  have hlrc := A_lrc
  have hap := lrc_apply
  have hnil := lrc_nil
  unfold planA at hp1 hp2 hp3
  dsimp only at hp1 hp2 hp3
  refine acalls_of_body Tryz.func7 rfl (Nat.le_of_ble_eq_true rfl) ?_
  have hv1l : (hv1.map tD).length = 7 := rfl
  have hv1k : hv1.length = 7 := rfl
  have hv2k : hv2.length = 7 := rfl
  have hv3k : hv3.length = 7 := rfl
  have hv2l : (hv2.map tD).length = 7 := rfl
  have hv3l : (hv3.map tD).length = 7 := rfl
  (repeat' (first
  | (apply W.qd; (first
    | (apply (q_callC (hlrc)); exact rfl; exact rfl; kernel_rfl; kernel_rfl; kernel_rfl)
    | (apply q_as; (first|exact vD|exact vO|exact vP|exact vA|exact vF|exact vR|exact vN|exact vY|exact vT|exact vX))))|(apply W.ed; (apply e_allocF; exact rfl; exact rfl; exact rfl; kernel_rfl))|(apply W.ln; (apply l_st_box; exact rfl; exact rfl; exact rfl; exact rfl; exact rfl; exact rfl; kernel_rfl; kernel_rfl; kernel_rfl))|(apply AWP.seq)|(apply ACont_normal)|(apply (W.regionS 2); exact rfl; kernel_rfl)
  | (apply Walk.nil)))
  (repeat' (first
  | (apply W.ed; (apply e_litO; exact rfl; exact rfl; exact rfl; exact rfl; exact rfl; exact rfl; kernel_rfl; exact rfl; exact rfl))|(apply W.qd; (apply q_as; (first|exact vD|exact vO|exact vP|exact vA|exact vF|exact vR|exact vN|exact vY|exact vT|exact vX)))|(apply AWP.seq)|(apply ACont_normal)|(apply (W.regionS 3); exact rfl; kernel_rfl)
  | (apply Walk.nil)))
  refine AWP.wk ⟨[(1, .opt 0 0), (2, .osl 1 0 0 7)], [.box [.d .any, iV 8, iV 4, rowsN lrcP, .d .any], .row 0 1 4 (hv1.map tD)]⟩ ⟨[0, 1], rfl, rfl, rfl, by (repeat (first | exact trivial | refine ⟨rfl, ?_⟩))⟩ ?_
  (repeat' (first
  | (apply W.qd; (first
    | (apply (q_callC (hchk)); exact rfl; exact rfl; kernel_rfl; kernel_rfl; kernel_rfl)|(apply (q_callC (hap)); exact rfl; exact rfl; kernel_rfl; kernel_rfl; kernel_rfl)|(apply q_mv; (first|exact vD|exact vO|exact vP|exact vA|exact vF|exact vR|exact vN|exact vY|exact vT|exact vX))|(apply q_as; (first|exact vD|exact vO|exact vP|exact vA|exact vF|exact vR|exact vN|exact vY|exact vT|exact vX))|(apply q_ld_boxF; exact rfl; exact rfl; exact rfl; exact rfl)|(apply q_extract; exact rfl; exact rfl)
    | (apply q_litF; exact rfl; exact rfl; exact rfl; exact rfl; exact rfl; kernel_rfl; kernel_rfl; exact rfl)))
  | (apply W.ed; (first
    | (apply (e_callJ (js := [1]) (hp1)); exact rfl; exact rfl; exact rfl; exact rfl; exact rfl; kernel_rfl; kernel_rfl)
    | (apply e_allocF; exact rfl; exact rfl; exact rfl; kernel_rfl)))|(apply W.ln; (apply l_st_box; exact rfl; exact rfl; exact rfl; exact rfl; exact rfl; exact rfl; kernel_rfl; kernel_rfl; kernel_rfl))|(apply AWP.seq)|(apply ACont_normal)|(apply (W.regionS 6); exact rfl; kernel_rfl)
  | (apply Walk.nil)))
  refine AWP.wk ⟨[(1, .opt 0 0), (2, .osl 1 0 0 7), (3, rowsN [[2, 3, 5], [0, 1, 2, 3, 6]]), (4, .opt 2 0), (5, iV 0), (6, bS [3]), (7, iV 0)], [.box [.d .any, iV 8, iV 4, rowsN lrcP, .d .any], .row 0 1 4 (hv1.map tD), .box [iV 2, tmsA [(3, 1), (5, 1)]]]⟩ ⟨[0, 1, 2], rfl, rfl, rfl, by (repeat (first | exact trivial | refine ⟨rfl, ?_⟩))⟩ ?_
  (repeat' (first
  | (apply W.qd; (first
    | (apply q_mv; (first|exact vD|exact vO|exact vP|exact vA|exact vF|exact vR|exact vN|exact vY|exact vT|exact vX))
    | (apply q_ix_osl0; exact rfl; exact rfl; exact rfl; exact rfl; (first | (with_reducible exact rfl) | exact natI_spec rfl | assumption | exact (Int.toNat_of_nonneg (by omega)).symm); (first | omega | (focus (simp only [List.length_map]; omega)) | (focus (simp; done)) | (focus (simp; omega))))))|(apply W.ln; (apply l_st_rpt; exact rfl; exact rfl; exact rfl; exact rfl; exact rfl; exact rfl; exact rfl; exact fun _ => rfl; (first | omega | (focus (simp only [List.length_map]; omega)) | (focus (simp; omega)))))|(apply AWP.seq)|(apply ACont_normal)|(apply (W.regionS 7); exact rfl; kernel_rfl)
  | (apply Walk.nil)))
  refine AWP.wk ⟨[(1, .opt 0 0), (2, .osl 1 0 0 7), (3, rowsN [[2, 3, 5], [0, 1, 2, 3, 6]]), (4, .opt 2 0), (5, iV 0), (6, bS [3]), (7, iV 0)], [.box [.d .any, iV 8, iV 4, rowsN lrcP, .d .any], .row 0 1 4 (hv2.map tD), .box [iV 2, tmsA [(3, 1), (5, 1)]]]⟩ ⟨[0, 1, 2], rfl, rfl, rfl, by (repeat (first | exact trivial | refine ⟨rfl, ?_⟩))⟩ ?_
  (repeat' (first
  | (apply W.qd; (first
    | (apply q_mv; (first|exact vD|exact vO|exact vP|exact vA|exact vF|exact vR|exact vN|exact vY|exact vT|exact vX))|(apply q_as; (first|exact vD|exact vO|exact vP|exact vA|exact vF|exact vR|exact vN|exact vY|exact vT|exact vX))|(apply q_ld_boxF; exact rfl; exact rfl; exact rfl; exact rfl)
    | (apply q_extract; exact rfl; exact rfl)))
  | (apply W.ed; (first
    | (apply (e_callJ (js := [1]) (hp2)); exact rfl; exact rfl; exact rfl; exact rfl; exact rfl; kernel_rfl; kernel_rfl)|(apply (e_callJ (js := [1]) (hall)); exact rfl; exact rfl; exact rfl; exact rfl; exact rfl; kernel_rfl; kernel_rfl)
    | (apply e_allocF; exact rfl; exact rfl; exact rfl; kernel_rfl)))|(apply W.ln; (apply l_st_box; exact rfl; exact rfl; exact rfl; exact rfl; exact rfl; exact rfl; kernel_rfl; kernel_rfl; kernel_rfl))|(apply AWP.seq)|(apply ACont_normal)|(apply (W.regionS 9); exact rfl; kernel_rfl)
  | (apply Walk.nil)))
  refine AWP.wk ⟨[(1, .opt 0 0), (2, .osl 1 0 0 7), (3, rowsN [[2, 3, 5], [0, 1, 2, 3, 6]]), (4, .opt 2 0), (5, iV 0), (6, bS [3]), (7, iV 0), (8, .opt 3 0), (9, iV 0), (10, plsA [a1, a2]), (11, iV 0)], [.box [.d .any, iV 8, iV 4, rowsN lrcP, .d .any], .row 0 1 4 (hv2.map tD), .box [iV 2, tmsA [(3, 1), (5, 1)]], .box [iV 2, tmsA l2]]⟩ ⟨[0, 1, 2, 3], rfl, rfl, rfl, by (repeat (first | exact trivial | refine ⟨rfl, ?_⟩))⟩ ?_
  (repeat' (first
  | (apply W.qd; (first
    | (apply q_mv; (first|exact vD|exact vO|exact vP|exact vA|exact vF|exact vR|exact vN|exact vY|exact vT|exact vX))
    | (apply q_ix_osl0; exact rfl; exact rfl; exact rfl; exact rfl; (first | (with_reducible exact rfl) | exact natI_spec rfl | assumption | exact (Int.toNat_of_nonneg (by omega)).symm); (first | omega | (focus (simp only [List.length_map]; omega)) | (focus (simp; done)) | (focus (simp; omega))))))|(apply W.ln; (apply l_st_rpt; exact rfl; exact rfl; exact rfl; exact rfl; exact rfl; exact rfl; exact rfl; exact fun _ => rfl; (first | omega | (focus (simp only [List.length_map]; omega)) | (focus (simp; omega)))))|(apply AWP.seq)|(apply ACont_normal)|(apply (W.regionS 10); exact rfl; kernel_rfl)
  | (apply Walk.nil)))
  refine AWP.wk ⟨[(1, .opt 0 0), (2, .osl 1 0 0 7), (3, rowsN [[2, 3, 5], [0, 1, 2, 3, 6]]), (4, .opt 2 0), (5, iV 0), (6, bS [3]), (7, iV 0), (8, .opt 3 0), (9, iV 0), (10, plsA [a1, a2]), (11, iV 0)], [.box [.d .any, iV 8, iV 4, rowsN lrcP, .d .any], .row 0 1 4 (hv3.map tD), .box [iV 2, tmsA [(3, 1), (5, 1)]], .box [iV 2, tmsA l2]]⟩ ⟨[0, 1, 2, 3], rfl, rfl, rfl, by (repeat (first | exact trivial | refine ⟨rfl, ?_⟩))⟩ ?_
  (repeat' (first
  | (apply W.qd; (first
    | (apply (q_callC (hnil)); exact rfl; exact rfl; kernel_rfl; kernel_rfl; kernel_rfl)|(apply q_mv; (first|exact vD|exact vO|exact vP|exact vA|exact vF|exact vR|exact vN|exact vY|exact vT|exact vX))|(apply q_as; (first|exact vD|exact vO|exact vP|exact vA|exact vF|exact vR|exact vN|exact vY|exact vT|exact vX))|(apply q_ld_boxF; exact rfl; exact rfl; exact rfl; exact rfl)
    | (apply q_extract; exact rfl; exact rfl)))
  | (apply W.ed; (first
    | (apply (e_callJ (js := [1]) (hp3)); exact rfl; exact rfl; exact rfl; exact rfl; exact rfl; kernel_rfl; kernel_rfl)
    | (apply e_allocF; exact rfl; exact rfl; exact rfl; kernel_rfl)))|(apply W.ln; (apply l_st_box; exact rfl; exact rfl; exact rfl; exact rfl; exact rfl; exact rfl; kernel_rfl; kernel_rfl; kernel_rfl))|(apply AWP.seq)|(apply ACont_normal)|(apply (W.regionS 12); exact rfl; kernel_rfl)
  | (apply Walk.nil)))
  refine AWP.wk ⟨[(3, rowsN [[2, 3, 5], [0, 1, 2, 3, 6]]), (4, .opt 0 0), (5, iV 0), (6, bS [3]), (7, iV 0), (8, .opt 1 0), (9, iV 0), (10, plsA [a1, a2]), (11, iV 0), (13, iV 11), (15, iV 1)], [.box [iV 2, tmsA [(3, 1), (5, 1)]], .box [iV 2, tmsA l2]]⟩ ⟨[2, 3], rfl, rfl, rfl, by (repeat (first | exact trivial | refine ⟨rfl, ?_⟩))⟩ ?_
  have hB3 : isB [3] := fun x hx => by simp at hx; omega
  (repeat' (first
  | (apply W.gOn; exact rfl; exact rfl)
  | (apply W.qd; (first
    | (apply (q_callC (hs1)); exact rfl; exact rfl; kernel_rfl; kernel_rfl; kernel_rfl)|(apply (q_callC (hs2)); exact rfl; exact rfl; kernel_rfl; kernel_rfl; kernel_rfl)|(apply (q_callC (hs3)); exact rfl; exact rfl; kernel_rfl; kernel_rfl; kernel_rfl)|(apply (q_callC (hsm)); exact rfl; exact rfl; kernel_rfl; kernel_rfl; kernel_rfl)|(apply (q_callC (hrd)); exact rfl; exact rfl; kernel_rfl; kernel_rfl; kernel_rfl)
    | ((apply q_eqlS (l := [3]) (l' := [3]); exact rfl; exact rfl; exact hB3; exact hB3))|(apply q_mv; (first|exact vD|exact vO|exact vP|exact vA|exact vF|exact vR|exact vN|exact vY|exact vT|exact vX))|(apply q_as; (first|exact vD|exact vO|exact vP|exact vA|exact vF|exact vR|exact vN|exact vY|exact vT|exact vX))|(apply q_ld_boxF; exact rfl; exact rfl; exact rfl; exact rfl)|(apply q_eql; exact rfl; exact rfl)|(apply q_len_sl; exact rfl; exact rfl)|(apply q_ld_map; exact rfl; exact rfl; exact rfl; (first | omega | (focus (simp; done))))|(apply q_buildF; exact rfl; exact rfl; kernel_rfl)|(apply q_litF; exact rfl; exact rfl; exact rfl; exact rfl; exact rfl; kernel_rfl; kernel_rfl; exact rfl)|(apply q_ix_slF; exact rfl; exact rfl; exact rfl; exact rfl; (first | (with_reducible exact rfl) | exact natI_spec rfl | assumption | exact (Int.toNat_of_nonneg (by omega)).symm); (first | omega | (focus (simp only [List.length_map]; omega)) | (focus (simp; done)) | (focus (simp; omega))))
    | (apply (q_pickT (u := .d _)); exact rfl; exact rfl)))|(apply ACont_normal)|(apply W.region; kernel_rfl)|(apply Walk.nil)
  | (apply AWP.ret)))
  exact Ends.b rfl rfl
end Go.Proofs.YtilpljehfcpjeaaGreatDoor
end
section
/- The reference's elimination: what Express answers. Plain law. -/
namespace Go.Proofs.YtilpljehfcpjeaaGreatDoor
open Go.RowKit
set_option linter.unusedSectionVars false
def exCol (rows : List (List Nat)) (t : List Nat) (c : Nat) : Nat → Nat := fun x => if c < rows.length then (rows.getD c []).getD x 0 else t.getD x 0
def exM (D : Nat) (rows : List (List Nat)) (t : List Nat) : List Nat := ((List.range D).map fun x => (List.range (rows.length + 1)).map fun c => exCol rows t c x).flatten
def exR (M D : Nat) (rows : List (List Nat)) (t : List Nat) (k : Nat) : List Nat × List Nat := red M D (rows.length + 1) (exM D rows t) k
def exprN (M D : Nat) (rows : List (List Nat)) (t : List Nat) : Option (List Nat) :=
  let s := exR M D rows t rows.length
  if s.2.length = rows.length ∧ ∀ q, q < D → rows.length ≤ q → gt (rows.length + 1) s.1 q rows.length = 0 then some ((List.range rows.length).map fun k => gt (rows.length + 1) s.1 k rows.length) else none
theorem flat_len' {C : Nat} : ∀ {l : List (List Nat)}, (∀ r ∈ l, r.length = C) → l.flatten.length = l.length * C
  | [], _ => by simp
  | r :: l, h => by
    rw [List.flatten_cons, List.length_append, flat_len' fun x hx => h x (by simp [hx]), h r (by simp), List.length_cons, Nat.succ_mul]; omega
theorem exM_row (D : Nat) (rows : List (List Nat)) (t : List Nat) : ∀ r ∈ ((List.range D).map fun x => (List.range (rows.length + 1)).map fun c => exCol rows t c x), r.length = rows.length + 1 := fun r hr => by
  obtain ⟨x, _, rfl⟩ := List.mem_map.1 hr
  simp
theorem exM_length (D : Nat) (rows : List (List Nat)) (t : List Nat) : (exM D rows t).length = D * (rows.length + 1) := by
  unfold exM
  rw [flat_len' (exM_row D rows t)]
  simp
theorem exM_gt {D : Nat} (rows : List (List Nat)) (t : List Nat) {x c : Nat} (hx : x < D) (hc : c < rows.length + 1) : gt (rows.length + 1) (exM D rows t) x c = exCol rows t c x := by
  unfold gt exM
  rw [flat_get hc (exM_row D rows t) x (by simpa using hx)]
  have e : (((List.range D).map fun x => (List.range (rows.length + 1)).map fun c => exCol rows t c x).getD x []) = (List.range (rows.length + 1)).map fun c => exCol rows t c x := by
    rw [List.getD_eq_getElem?_getD, List.getElem?_map, List.getElem?_range hx]; rfl
  rw [e, List.getD_eq_getElem?_getD, List.getElem?_map, List.getElem?_range hc]; rfl
section
variable {M D : Nat} {rows : List (List Nat)} {t : List Nat} (hM : FldM M) (hr : ∀ r ∈ rows, ∀ x ∈ r, x < 2 ^ M) (ht : ∀ x ∈ t, x < 2 ^ M)
include hM hr ht
theorem exCol_lt (c x : Nat) : exCol rows t c x < 2 ^ M := by
  unfold exCol
  by_cases h : c < rows.length
  · rw [if_pos h]
    refine getD_lt (fun y hy => ?_) x
    rw [List.getD_eq_getElem?_getD, List.getElem?_eq_getElem h] at hy
    exact hr _ (List.getElem_mem h) y hy
  · rw [if_neg h]; exact getD_lt ht x
theorem exM_lt : ∀ x ∈ exM D rows t, x < 2 ^ M := fun x hx => by
  unfold exM at hx
  obtain ⟨r, h1, h2⟩ := List.mem_flatten.1 hx
  obtain ⟨y, _, rfl⟩ := List.mem_map.1 h1
  obtain ⟨c, _, rfl⟩ := List.mem_map.1 h2
  exact exCol_lt hM hr ht c y
theorem ex_to {k : Nat} (hk : k ≤ rows.length + 1) : ∃ T S, RedTo M D (rows.length + 1) k (exM D rows t) (exR M D rows t k).1 (exR M D rows t k).2 T S :=
  red_to hM (exM_length D rows t) (exM_lt hM hr ht) k hk
def Indep (M D : Nat) (rows : List (List Nat)) : Prop := ∀ j, j < rows.length → ¬ Sp M D (WS (fun q x => (rows.getD q []).getD x 0) j) (fun x => (rows.getD j []).getD x 0)
theorem rowV {q : Nat} (hq : q < rows.length) : Vc M D (fun x => (rows.getD q []).getD x 0) := fun x _ => by
  have := exCol_lt (rows := rows) (t := t) hM hr ht q x
  unfold exCol at this
  rwa [if_pos hq] at this
theorem ex_sum {k : Nat} (hk : k ≤ rows.length) {T S : (Nat → Nat) → Nat → Nat} {A pv : List Nat} (h : RedTo M D (rows.length + 1) k (exM D rows t) A pv T S) (hpl : pv.length ≤ D) {v : Nat → Nat} (hv : Vc M D v) (hz : ∀ r, r < D → pv.length ≤ r → T v r = 0) :
    ∀ x, x < D → v x = sg (fun q => mu M (T v q) ((rows.getD (pv.getD q 0) []).getD x 0)) pv.length := by
  have hw : ∀ q, q < pv.length → T v q < 2 ^ M ∧ Vc M D (fun x => (rows.getD (pv.getD q 0) []).getD x 0) := fun q hq => ⟨h.iso.lt v hv q (by omega), rowV hM hr ht (by have := (h.piv q hq).1; omega)⟩
  have hTu : ∀ q, q < pv.length → ∀ r, r < D → T (fun x => (rows.getD (pv.getD q 0) []).getD x 0) r = if r = q then 1 else 0 := fun q hq r hr' => by
    obtain ⟨p1, p2⟩ := h.piv q hq
    rw [← p2 r hr', h.col _ (by omega) r hr']
    refine h.iso.congr _ _ (fun i hi => ?_) r hr'
    rw [exM_gt rows t hi (by omega)]
    unfold exCol
    rw [if_pos (show pv.getD q 0 < rows.length by omega)]
  have hS : ∀ s, WS (fun q x => (rows.getD (pv.getD q 0) []).getD x 0) pv.length s → Vc M D s := fun s ⟨q, hq, e⟩ => by rw [e]; exact (hw q hq).2
  have hsum : Vc M D (fun x => sg (fun q => mu M (T v q) ((rows.getD (pv.getD q 0) []).getD x 0)) pv.length) :=
    (Sp.sum (M := M) (D := D) (S := WS (fun q x => (rows.getD (pv.getD q 0) []).getD x 0) pv.length) hM hS (c := fun q => T v q) (w := fun q x => (rows.getD (pv.getD q 0) []).getD x 0) pv.length fun q hq => ⟨(hw q hq).1, Sp.of hM hS ⟨q, hq, rfl⟩⟩).vc hM hS
  refine h.iso.inj hv hsum fun i hi => ?_
  rw [h.iso.sum pv.length hw i hi]
  rw [sg_congr pv.length (fun q hq => show mu M (T v q) (T (fun x => (rows.getD (pv.getD q 0) []).getD x 0) i) = if q = i then T v i else 0 by
    rw [hTu q hq i hi]
    by_cases e : i = q
    · subst e; rw [if_pos rfl, if_pos rfl, mu_one hM (h.iso.lt v hv i hi)]
    · rw [if_neg e, if_neg (fun e2 => e e2.symm), mu_zero])]
  rw [sg_one (k := i) pv.length (fun q _ hne => if_neg hne), if_pos rfl]
  by_cases e : i < pv.length
  · rw [if_pos e]
  · rw [if_neg e, hz i hi (by omega)]
theorem ex_full (hI : Indep M D rows) : ∀ k, k ≤ rows.length → (exR M D rows t k).2.length = k
  | 0, _ => rfl
  | k + 1, hk => by
    have ih := ex_full hI k (by omega)
    obtain ⟨T0, S0, h0⟩ := ex_to hM hr ht (D := D) (k := k) (by omega)
    obtain ⟨T, S, h⟩ := ex_to hM hr ht (D := D) (k := k + 1) (by omega)
    have hok := red_ok hM (exM_length D rows t) (exM_lt hM hr ht) (k + 1)
    have hpr := hok.pr
    have hstep : (exR M D rows t (k + 1)).2 = (exR M D rows t k).2 ∨ (exR M D rows t (k + 1)).2 = (exR M D rows t k).2 ++ [k] := by
      show (redStep M D (rows.length + 1) k (exR M D rows t k)).2 = _ ∨ (redStep M D (rows.length + 1) k (exR M D rows t k)).2 = _
      generalize exR M D rows t k = s
      unfold redStep
      dsimp only
      split
      · exact .inl rfl
      · exact .inr rfl
    rcases hstep with e | e
    · exfalso
      change (exR M D rows t (k + 1)).2.length ≤ D at hpr
      rw [e] at h hpr
      refine hI k (by omega) ?_
      have hv : Vc M D (fun x => (rows.getD k []).getD x 0) := rowV hM hr ht (by omega)
      have hTk : ∀ r, r < D → gt (rows.length + 1) (exR M D rows t (k + 1)).1 r k = T (fun x => (rows.getD k []).getD x 0) r := fun r hr' => by
        rw [h.col _ (by omega) r hr']
        refine h.iso.congr _ _ (fun i hi => ?_) r hr'
        rw [exM_gt rows t hi (by omega)]
        unfold exCol
        rw [if_pos (show k < rows.length by omega)]
      have hs := ex_sum hM hr ht (k := k + 1) (by omega) h hpr hv fun r hr' hle => by
        rw [← hTk r hr']
        by_cases e2 : gt (rows.length + 1) (exR M D rows t (k + 1)).1 r k = 0
        · exact e2
        · have := (h.low k (by omega) r hr' e2).1; omega
      have hS : ∀ s, WS (fun q x => (rows.getD q []).getD x 0) k s → Vc M D s := fun s ⟨q, hq, e⟩ => by rw [e]; exact rowV hM hr ht (by omega)
      refine Sp.congr (Sp.sum (M := M) (D := D) hM hS (c := fun q => T (fun x => (rows.getD k []).getD x 0) q) (w := fun q x => (rows.getD ((exR M D rows t k).2.getD q 0) []).getD x 0) (exR M D rows t k).2.length fun q hq => ⟨h.iso.lt _ hv q (by omega), Sp.of hM hS ⟨_, (h0.piv q hq).1, rfl⟩⟩) hs
    · rw [e, List.length_append, ih]; rfl
theorem ex_pv (hI : Indep M D rows) {q : Nat} (hq : q < rows.length) : (exR M D rows t rows.length).2.getD q 0 = q := by
  obtain ⟨T, S, h⟩ := ex_to hM hr ht (D := D) (k := rows.length) (by omega)
  have hl := ex_full hM hr ht hI rows.length (Nat.le_refl _)
  have lo : ∀ q, q < rows.length → q ≤ (exR M D rows t rows.length).2.getD q 0 := by
    intro q
    induction q with
    | zero => intro _; omega
    | succ q ih =>
      intro hq
      have h1 := ih (by omega)
      have h2 := h.inc q (q + 1) (by omega) (by omega)
      omega
  have hi : ∀ d q, q + d + 1 = rows.length → (exR M D rows t rows.length).2.getD q 0 ≤ q := by
    intro d
    induction d with
    | zero => intro q hq; have := (h.piv q (by omega)).1; omega
    | succ d ih =>
      intro q hq
      have h1 := ih (q + 1) (by omega)
      have h2 := h.inc q (q + 1) (by omega) (by omega)
      omega
  have h1 := lo q hq
  have h2 := hi (rows.length - q - 1) q (by omega)
  omega
def Sums (M D : Nat) (rows : List (List Nat)) (t : List Nat) (K : List Nat) : Prop := K.length = rows.length ∧ (∀ x ∈ K, x < 2 ^ M) ∧ ∀ x, x < D → t.getD x 0 = sg (fun q => mu M (K.getD q 0) ((rows.getD q []).getD x 0)) rows.length
theorem tgV : Vc M D (fun x => t.getD x 0) := fun x _ => getD_lt ht x
theorem ex_tgt {k : Nat} {T S : (Nat → Nat) → Nat → Nat} {A pv : List Nat} (h : RedTo M D (rows.length + 1) k (exM D rows t) A pv T S) {r : Nat} (hr' : r < D) : gt (rows.length + 1) A r rows.length = T (fun x => t.getD x 0) r := by
  rw [h.col _ (by omega) r hr']
  refine h.iso.congr _ _ (fun i hi => ?_) r hr'
  rw [exM_gt rows t hi (by omega)]
  unfold exCol
  rw [if_neg (by omega)]
theorem expr_some (hn : rows.length ≤ D) {K : List Nat} (hI : Indep M D rows) (he : exprN M D rows t = some K) : Sums M D rows t K := by
  obtain ⟨T, S, h⟩ := ex_to hM hr ht (D := D) (k := rows.length) (by omega)
  have hl := ex_full hM hr ht hI rows.length (Nat.le_refl _)
  have hp := fun q hq => ex_pv hM hr ht hI (q := q) hq
  unfold exprN at he
  dsimp only at he
  by_cases hc : (exR M D rows t rows.length).2.length = rows.length ∧ ∀ q, q < D → rows.length ≤ q → gt (rows.length + 1) (exR M D rows t rows.length).1 q rows.length = 0
  · rw [if_pos hc] at he
    obtain rfl := Option.some.inj he
    have hg := fun r hr' => ex_tgt hM hr ht h (r := r) hr'
    have hs := ex_sum hM hr ht (k := rows.length) (Nat.le_refl _) h (by omega) (tgV (D := D) hM hr ht) fun r hr' hle => by
      rw [← hg r hr']; exact hc.2 r hr' (by omega)
    have gk : ∀ q, q < rows.length → ((List.range rows.length).map fun k => gt (rows.length + 1) (exR M D rows t rows.length).1 k rows.length).getD q 0 = T (fun x => t.getD x 0) q := fun q hq => by
      rw [List.getD_eq_getElem?_getD, List.getElem?_map, List.getElem?_range hq]
      exact hg q (by omega)
    refine ⟨by simp, fun x hx => ?_, fun x hx => ?_⟩
    · obtain ⟨q, hq, rfl⟩ := List.mem_map.1 hx
      have hq := List.mem_range.1 hq
      rw [hg q (by omega)]
      exact h.iso.lt _ (tgV (D := D) hM hr ht) q (by omega)
    · have := hs x hx
      try dsimp only at this
      rw [this, hl]
      refine sg_congr _ fun q hq => ?_
      rw [gk q hq, hp q hq]
  · rw [if_neg hc] at he; cases he
theorem expr_eq (hn : rows.length ≤ D) {K : List Nat} (hI : Indep M D rows) (hK : Sums M D rows t K) : exprN M D rows t = some K := by
  obtain ⟨T, S, h⟩ := ex_to hM hr ht (D := D) (k := rows.length) (by omega)
  have hl := ex_full hM hr ht hI rows.length (Nat.le_refl _)
  have hp := fun q hq => ex_pv hM hr ht hI (q := q) hq
  obtain ⟨k1, k2, k3⟩ := hK
  have hKl : ∀ q, K.getD q 0 < 2 ^ M := fun q => getD_lt k2 q
  have hTu : ∀ q, q < rows.length → ∀ r, r < D → T (fun x => (rows.getD q []).getD x 0) r = if r = q then 1 else 0 := fun q hq r hr' => by
    obtain ⟨p1, p2⟩ := h.piv q (by omega)
    rw [hp q hq] at p2
    rw [← p2 r hr', h.col _ (by omega) r hr']
    refine h.iso.congr _ _ (fun i hi => ?_) r hr'
    rw [exM_gt rows t hi (by omega)]
    unfold exCol
    rw [if_pos hq]
  have hT : ∀ r, r < D → T (fun x => t.getD x 0) r = if r < rows.length then K.getD r 0 else 0 := fun r hr' => by
    rw [h.iso.congr (fun x => t.getD x 0) _ k3 r hr', h.iso.sum rows.length (fun q hq => ⟨hKl q, rowV hM hr ht hq⟩) r hr']
    rw [sg_congr rows.length (fun q hq => show mu M (K.getD q 0) (T (fun x => (rows.getD q []).getD x 0) r) = if q = r then K.getD r 0 else 0 by
      rw [hTu q hq r hr']
      by_cases e : r = q
      · subst e; rw [if_pos rfl, if_pos rfl, mu_one hM (hKl r)]
      · rw [if_neg e, if_neg (fun e2 => e e2.symm), mu_zero])]
    rw [sg_one (k := r) rows.length (fun q _ hne => if_neg hne), if_pos rfl]
  unfold exprN
  dsimp only
  rw [if_pos ⟨hl, fun q hq hle => by rw [ex_tgt hM hr ht h hq, hT q hq, if_neg (by omega)]⟩]
  congr 1
  refine List.ext_getElem (by simp [k1]) fun q h1 h2 => ?_
  have hq : q < rows.length := by simpa using h1
  rw [List.getElem_map, List.getElem_range, ex_tgt hM hr ht h (by omega), hT q (by omega), if_pos hq, List.getD_eq_getElem?_getD, List.getElem?_eq_getElem h2]
  rfl
end
end Go.Proofs.YtilpljehfcpjeaaGreatDoor
end
section
/- The reference's basis is the basis: a unit is taken if its row is not spanned by those taken before. Plain law. -/
namespace Go.Proofs.YtilpljehfcpjeaaGreatDoor
open Go.RowKit
set_option linter.unusedSectionVars false
set_option maxRecDepth 100000
def takeR (D : Nat) (ps : List (List Nat)) (B : List Nat) (m : Nat) : List (List Nat) := (B.take m).map (rowN D ps)
theorem takeR_length {D : Nat} {ps : List (List Nat)} {B : List Nat} {m : Nat} (hm : m ≤ B.length) : (takeR D ps B m).length = m := by
  unfold takeR
  rw [List.length_map, List.length_take]; omega
theorem rowN_get {D : Nat} {ps : List (List Nat)} {u x : Nat} (hx : x < D) : (rowN D ps u).getD x 0 = U D (genN D ps) u x := by
  unfold rowN
  rw [List.getD_eq_getElem?_getD, List.getElem?_map, List.getElem?_range hx]; rfl
theorem takeR_row {D : Nat} {ps : List (List Nat)} {B : List Nat} {m q : Nat} (hm : m ≤ B.length) (hq : q < m) : (takeR D ps B m).getD q [] = rowN D ps (B.getD q 0) := by
  unfold takeR
  rw [List.getD_eq_getElem?_getD, List.getElem?_map, List.getElem?_take_of_lt hq, List.getD_eq_getElem?_getD]
  have : q < B.length := by omega
  rw [List.getElem?_eq_getElem this]; rfl
theorem takeR_get {D : Nat} {ps : List (List Nat)} {B : List Nat} {m q x : Nat} (hm : m ≤ B.length) (hq : q < m) (hx : x < D) : ((takeR D ps B m).getD q []).getD x 0 = U D (genN D ps) (B.getD q 0) x := by
  rw [takeR_row hm hq, rowN_get hx]
theorem takeR_succ {D : Nat} {ps : List (List Nat)} {B : List Nat} {m : Nat} (hm : m < B.length) : takeR D ps B (m + 1) = takeR D ps B m ++ [rowN D ps (B.getD m 0)] := by
  unfold takeR
  rw [List.take_succ_eq_append_getElem hm, List.map_append]
  have : B.getD m 0 = B[m] := by rw [List.getD_eq_getElem?_getD, List.getElem?_eq_getElem hm]; rfl
  rw [this]; rfl
section
variable {M D : Nat} {gen : List Nat} {hv : List Bool} {B : List Nat} {T S : (Nat → Nat) → Nat → Nat}
theorem Bas.lowJ (hg : ∀ u, Vc M D (U D gen u)) (h : Bas M D gen hv B T S) {j : Nat} (hj : j ≤ B.length) {v : Nat → Nat} (hsp : Sp M D (WS (fun q => U D gen (B.getD q 0)) j) v) : ∀ r, r < D → j ≤ r → T v r = 0 := by
  induction hsp with
  | zero h0 => exact fun r hr _ => h.iso.zero h0 r hr
  | step h1 hs hc h2 ih =>
    obtain ⟨q, hq, rfl⟩ := hs
    intro r hr hle
    rename_i u v c
    have hUv : T (U D gen (B.getD q 0)) r = 0 := by rw [h.unit q (by omega) r hr, if_neg (by omega)]
    rw [h.iso.congr _ _ h2 r hr, h.iso.add u (fun x => mu M c (U D gen (B.getD q 0) x)) r hr, ih r hr hle, Nat.zero_xor]
    rw [h.iso.smul c _ hc (hg _) r hr, hUv, mu_zero]
end
section
variable {M D : Nat} {ps : List (List Nat)} {hv : List Bool} (h : CodeOk M D ps) (hl : hv.length = D + ps.length)
include h hl
theorem rowN_lt (u : Nat) : ∀ x ∈ rowN D ps u, x < 2 ^ M := fun x hx => by
  unfold rowN at hx
  obtain ⟨y, hy, rfl⟩ := List.mem_map.1 hx
  exact U_all h u y (List.mem_range.1 hy)
theorem takeR_lt (B : List Nat) (m : Nat) : ∀ r ∈ takeR D ps B m, ∀ x ∈ r, x < 2 ^ M := fun r hr => by
  unfold takeR at hr
  obtain ⟨u, _, rfl⟩ := List.mem_map.1 hr
  exact rowN_lt h hl u
theorem takeR_ws {B : List Nat} {m j : Nat} (hm : m ≤ B.length) (hj : j ≤ m) {v : Nat → Nat} : Sp M D (WS (fun q x => ((takeR D ps B m).getD q []).getD x 0) j) v ↔ Sp M D (WS (fun q => U D (genN D ps) (B.getD q 0)) j) v := by
  constructor
  · refine Sp.trans h.f (fun s ⟨q, hq, e⟩ => by rw [e]; exact U_all h _) fun s ⟨q, hq, e⟩ => ?_
    rw [e]
    exact (Sp.of h.f (fun s ⟨q, hq, e⟩ => by rw [e]; exact U_all h _) ⟨q, hq, rfl⟩).congr fun x hx => takeR_get hm (by omega) hx
  · have hV : ∀ s, WS (fun q x => ((takeR D ps B m).getD q []).getD x 0) j s → Vc M D s := fun s ⟨q, hq, e⟩ x hx => by
      rw [e]
      show ((takeR D ps B m).getD q []).getD x 0 < 2 ^ M
      rw [takeR_get hm (by omega) hx]; exact U_all h _ x hx
    refine Sp.trans h.f hV fun s ⟨q, hq, e⟩ => ?_
    rw [e]
    exact (Sp.of h.f hV ⟨q, hq, rfl⟩).congr fun x hx => (takeR_get hm (by omega) hx).symm
theorem ind_take {m : Nat} (hm : m ≤ (basisN M D ps hv).length) : Indep M D (takeR D ps (basisN M D ps hv) m) := fun j hj hsp => by
  obtain ⟨T, S, hB⟩ := basis_to h hl
  rw [takeR_length hm] at hj
  have h1 := (takeR_ws h hl hm (by omega)).1 hsp
  have h2 := hB.lowJ (U_all h) (by omega) h1 j (by have := hB.le; omega) (Nat.le_refl _)
  rw [hB.iso.congr _ (U D (genN D ps) ((basisN M D ps hv).getD j 0)) (fun x hx => takeR_get hm hj hx) j (by have := hB.le; omega), hB.unit j (by omega) j (by have := hB.le; omega), if_pos rfl] at h2
  cases h2
theorem bas_le : (basisN M D ps hv).length ≤ D := by
  obtain ⟨T, S, hB⟩ := basis_to h hl
  exact hB.le
theorem sums_sp {B : List Nat} {m u : Nat} {K : List Nat} (hm : m ≤ B.length) (hs : Sums M D (takeR D ps B m) (rowN D ps u) K) : Sp M D (WS (fun q => U D (genN D ps) (B.getD q 0)) m) (U D (genN D ps) u) := by
  obtain ⟨k1, k2, k3⟩ := hs
  rw [takeR_length hm] at k3
  refine Sp.congr (Sp.sum (M := M) (D := D) h.f (fun s ⟨q, hq, e⟩ => by rw [e]; exact U_all h _) (c := fun q => K.getD q 0) (w := fun q => U D (genN D ps) (B.getD q 0)) m fun q hq => ⟨getD_lt k2 q, Sp.of h.f (fun s ⟨q, hq, e⟩ => by rw [e]; exact U_all h _) ⟨q, hq, rfl⟩⟩) fun x hx => ?_
  rw [← rowN_get hx, k3 x hx]
  exact sg_congr _ fun q hq => by rw [takeR_get hm hq hx]
theorem step_none {m : Nat} (hm : m < (basisN M D ps hv).length) : exprN M D (takeR D ps (basisN M D ps hv) m) (rowN D ps ((basisN M D ps hv).getD m 0)) = none := by
  cases he : exprN M D (takeR D ps (basisN M D ps hv) m) (rowN D ps ((basisN M D ps hv).getD m 0)) with
  | none => rfl
  | some K =>
    exfalso
    have hbl := bas_le h hl
    have hs := expr_some h.f (takeR_lt h hl _ _) (rowN_lt h hl _) (by rw [takeR_length (by omega)]; omega) (ind_take h hl (by omega)) he
    obtain ⟨T, S, hB⟩ := basis_to h hl
    have h2 := hB.lowJ (U_all h) (by omega) (sums_sp h hl (by omega) hs) m (by omega) (Nat.le_refl _)
    rw [hB.unit m hm m (by omega), if_pos rfl] at h2
    cases h2
theorem step_some {m i : Nat} (hi : hv.getD i false = true) (hm : m ≤ (basisN M D ps hv).length) (hge : ∀ q, m ≤ q → q < (basisN M D ps hv).length → i < (basisN M D ps hv).getD q 0) : (exprN M D (takeR D ps (basisN M D ps hv) m) (rowN D ps i)).isSome = true := by
  have hbl := bas_le h hl
  obtain ⟨T, S, hB⟩ := basis_to h hl
  have hlow : ∀ r, r < D → m ≤ r → T (U D (genN D ps) i) r = 0 := fun r hr hle => by
    by_cases e : T (U D (genN D ps) i) r = 0
    · exact e
    · have := hB.low i hi r hr e
      have := hge r hle this.1
      omega
  have hK : Sums M D (takeR D ps (basisN M D ps hv) m) (rowN D ps i) ((List.range m).map fun q => T (U D (genN D ps) i) q) := by
    have gk : ∀ q, q < m → ((List.range m).map fun q => T (U D (genN D ps) i) q).getD q 0 = T (U D (genN D ps) i) q := fun q hq => by
      rw [List.getD_eq_getElem?_getD, List.getElem?_map, List.getElem?_range hq]; rfl
    refine ⟨by simp [takeR_length hm], fun x hx => ?_, fun x hx => ?_⟩
    · obtain ⟨q, hq, rfl⟩ := List.mem_map.1 hx
      exact hB.iso.lt _ (U_all h i) q (by have := List.mem_range.1 hq; omega)
    · rw [rowN_get hx, takeR_length hm]
      have hS : ∀ s, WS (fun q => U D (genN D ps) ((basisN M D ps hv).getD q 0)) m s → Vc M D s := fun s ⟨q, hq, e⟩ => by rw [e]; exact U_all h _
      have hsum := (Sp.sum (M := M) (D := D) h.f hS (c := fun q => T (U D (genN D ps) i) q) (w := fun q => U D (genN D ps) ((basisN M D ps hv).getD q 0)) m fun q hq => ⟨hB.iso.lt _ (U_all h i) q (by omega), Sp.of h.f hS ⟨q, hq, rfl⟩⟩).vc h.f hS
      have key := hB.iso.inj (U_all h i) hsum fun r hr => by
        rw [hB.iso.sum m (fun q hq => ⟨hB.iso.lt _ (U_all h i) q (by omega), U_all h _⟩) r hr]
        rw [sg_congr m (fun q hq => show mu M (T (U D (genN D ps) i) q) (T (U D (genN D ps) ((basisN M D ps hv).getD q 0)) r) = if q = r then T (U D (genN D ps) i) r else 0 by
          rw [hB.unit q (by omega) r hr]
          by_cases e : r = q
          · subst e; rw [if_pos rfl, if_pos rfl, mu_one h.f (hB.iso.lt _ (U_all h i) r hr)]
          · rw [if_neg e, if_neg (fun e2 => e e2.symm), mu_zero])]
        rw [sg_one (k := r) m (fun q _ hne => if_neg hne), if_pos rfl]
        by_cases e : r < m
        · rw [if_pos e]
        · rw [if_neg e, hlow r hr (by omega)]
      have := key x hx
      try dsimp only at this
      rw [this]
      refine sg_congr _ fun q hq => ?_
      rw [gk q hq, takeR_get hm hq hx]
  rw [expr_eq h.f (takeR_lt h hl _ _) (rowN_lt h hl _) (by rw [takeR_length hm]; omega) (ind_take h hl hm) hK]
  rfl
theorem expr_comb {u : Nat} (hu : u < D + ps.length) : (∀ l, combN M D ps hv u = some l → ∃ K, K.length = (basisN M D ps hv).length ∧ (∀ x ∈ K, x < 2 ^ M) ∧ exprN M D (takeR D ps (basisN M D ps hv) (basisN M D ps hv).length) (rowN D ps u) = some K ∧ l = tmsAt (basisN M D ps hv) K (basisN M D ps hv).length) ∧ (combN M D ps hv u = none → exprN M D (takeR D ps (basisN M D ps hv) (basisN M D ps hv).length) (rowN D ps u) = none) := by
  have hbl := bas_le h hl
  refine ⟨fun l hc => ?_, fun hc => ?_⟩
  · obtain ⟨K, k1, k2, k3, k4⟩ := comb_some h hl hu hc
    refine ⟨K, k1, k2, expr_eq h.f (takeR_lt h hl _ _) (rowN_lt h hl _) (by rw [takeR_length (Nat.le_refl _)]; omega) (ind_take h hl (Nat.le_refl _)) ⟨by rw [takeR_length (Nat.le_refl _)]; exact k1, k2, fun x hx => ?_⟩, k3⟩
    rw [rowN_get hx, takeR_length (Nat.le_refl _)]
    have e := k4 x hx
    first
      | (rw [← e]; exact sg_congr _ fun q hq => by rw [takeR_get (Nat.le_refl _) hq hx])
      | (rw [e]; exact sg_congr _ fun q hq => by rw [takeR_get (Nat.le_refl _) hq hx])
  · cases he : exprN M D (takeR D ps (basisN M D ps hv) (basisN M D ps hv).length) (rowN D ps u) with
    | none => rfl
    | some K =>
      exfalso
      have hs := expr_some h.f (takeR_lt h hl _ _) (rowN_lt h hl _) (by rw [takeR_length (Nat.le_refl _)]; omega) (ind_take h hl (Nat.le_refl _)) he
      have hsp := sums_sp h hl (Nat.le_refl _) hs
      have hBS : Sp M D (BS D (genN D ps) (basisN M D ps hv)) (U D (genN D ps) u) := hsp
      have := (comb_iff h hl hu).2 ((sp_BP h hl).1 hBS)
      rw [hc] at this; cases this
end
end Go.Proofs.YtilpljehfcpjeaaGreatDoor
end
section
/- The reference's elimination over the machine of abstract values: eliminate. -/
namespace Go.Proofs.YtilpljehfcpjeaaGreatDoor
open Go.RowKit
set_option maxHeartbeats 4000000
set_option maxRecDepth 100000
def findL (pm : List Nat) (Bl : List (List Nat)) (k : Nat) : Nat → Nat → Nat
  | 0, p => p
  | n + 1, p => if (Bl.getD (pm.getD p 0) []).getD k 0 = 0 then findL pm Bl k n (p + 1) else p
theorem findL_le (pm : List Nat) (Bl : List (List Nat)) (k : Nat) : ∀ n p, p ≤ findL pm Bl k n p ∧ findL pm Bl k n p ≤ p + n
  | 0, p => ⟨Nat.le_refl _, Nat.le_refl _⟩
  | n + 1, p => by
    rw [findL]
    split
    · have := findL_le pm Bl k n (p + 1); omega
    · omega
def scV (M f : Nat) (l : List Nat) : Nat → List Nat
  | 0 => l
  | k + 1 => (scV M f l k).set k (mu M f ((scV M f l k).getD k 0))
theorem scV_length (M f : Nat) (l : List Nat) (k : Nat) : (scV M f l k).length = l.length := by
  induction k with
  | zero => rfl
  | succ k ih => rw [scV, List.length_set, ih]
theorem scV_lt {M f : Nat} (hM : FldM M) (hf : f < 2 ^ M) {l : List Nat} (h : ∀ x ∈ l, x < 2 ^ M) (k : Nat) : ∀ x ∈ scV M f l k, x < 2 ^ M := by
  induction k with
  | zero => exact h
  | succ k ih =>
    intro x hx
    rw [scV] at hx
    rcases List.mem_or_eq_of_mem_set hx with hx | rfl
    · exact ih x hx
    · exact mu_lt hM hf _
theorem addV_zero (M : Nat) (T l : List Nat) (k : Nat) : addV M 0 T l k = T := by
  induction k with
  | zero => rfl
  | succ k ih =>
    rw [addV, ih]
    have e : Gf.mul M (modN M) 0 (l.getD k 0) = 0 := zero_mu _
    rw [e, Nat.xor_zero]
    by_cases h : k < T.length
    · rw [List.getD_eq_getElem?_getD, List.getElem?_eq_getElem h]
      exact List.set_getElem_self h
    · exact List.set_eq_of_length_le (by omega)
def clB (M C k r : Nat) (pm : List Nat) (Bl : List (List Nat)) : Nat → List (List Nat)
  | 0 => Bl
  | q + 1 => if q = r then clB M C k r pm Bl q else (clB M C k r pm Bl q).set (pm.getD q 0) (addV M (((clB M C k r pm Bl q).getD (pm.getD q 0) []).getD k 0) ((clB M C k r pm Bl q).getD (pm.getD q 0) []) (Bl.getD (pm.getD r 0) []) C)
def swp (pm : List Nat) (p r : Nat) : List Nat := (pm.set p (pm.getD r 0)).set r (pm.getD p 0)
structure SysOk (M D C : Nat) (pm : List Nat) (Bl : List (List Nat)) : Prop where
  pl : pm.length = D
  nd : ∀ q q', q < D → q' < D → pm.getD q 0 = pm.getD q' 0 → q = q'
  lt : ∀ q, q < D → pm.getD q 0 < D
  bl : Bl.length = D
  rl : ∀ l ∈ Bl, l.length = C
  rx : ∀ l ∈ Bl, ∀ x ∈ l, x < 2 ^ M
theorem getDB_mem {Bl : List (List Nat)} {a : Nat} (h : a < Bl.length) : Bl.getD a [] ∈ Bl := by
  rw [List.getD_eq_getElem?_getD, List.getElem?_eq_getElem h]; exact List.getElem_mem h
theorem getDB_set {Bl : List (List Nat)} {a : Nat} (l : List Nat) (h : a < Bl.length) : (Bl.set a l).getD a [] = l := by
  rw [List.getD_eq_getElem?_getD, List.getElem?_set_self h]; rfl
theorem getDB_ne {Bl : List (List Nat)} {a b : Nat} (l : List Nat) (h : a ≠ b) : (Bl.set a l).getD b [] = Bl.getD b [] := by
  rw [List.getD_eq_getElem?_getD, List.getElem?_set_ne h, List.getD_eq_getElem?_getD]
theorem setB_self {Bl : List (List Nat)} {a : Nat} (h : a < Bl.length) : Bl.set a (Bl.getD a []) = Bl := by
  have e : Bl.getD a [] = Bl[a] := by rw [List.getD_eq_getElem?_getD, List.getElem?_eq_getElem h]; rfl
  rw [e]
  exact List.set_getElem_self h
theorem SysOk.set {M D C : Nat} {pm : List Nat} {Bl : List (List Nat)} (h : SysOk M D C pm Bl) (a : Nat) {l : List Nat} (h1 : l.length = C) (h2 : ∀ x ∈ l, x < 2 ^ M) : SysOk M D C pm (Bl.set a l) :=
  ⟨h.pl, h.nd, h.lt, by rw [List.length_set]; exact h.bl, fun x hx => (List.mem_or_eq_of_mem_set hx).elim (h.rl x) fun e => e ▸ h1, fun x hx => (List.mem_or_eq_of_mem_set hx).elim (h.rx x) fun e => e ▸ h2⟩
theorem swp_get {pm : List Nat} {p r q : Nat} (hp : p < pm.length) (hr : r < pm.length) : (swp pm p r).getD q 0 = if q = r then pm.getD p 0 else if q = p then pm.getD r 0 else pm.getD q 0 := by
  unfold swp
  rw [List.getD_eq_getElem?_getD]
  by_cases h1 : q = r
  · subst h1; rw [if_pos rfl, List.getElem?_set_self (by rw [List.length_set]; exact hr)]; rfl
  · rw [if_neg h1, List.getElem?_set_ne (Ne.symm h1)]
    by_cases h2 : q = p
    · subst h2; rw [if_pos rfl, List.getElem?_set_self hp]; rfl
    · rw [if_neg h2, List.getElem?_set_ne (Ne.symm h2), List.getD_eq_getElem?_getD]
theorem SysOk.swp {M D C p r : Nat} {pm : List Nat} {Bl : List (List Nat)} (h : SysOk M D C pm Bl) (hp : p < D) (hr : r < D) : SysOk M D C (swp pm p r) Bl := by
  have hg := fun q => swp_get (pm := pm) (p := p) (r := r) (q := q) (by rw [h.pl]; exact hp) (by rw [h.pl]; exact hr)
  refine ⟨by unfold Go.Proofs.YtilpljehfcpjeaaGreatDoor.swp; rw [List.length_set, List.length_set]; exact h.pl, fun q q' hq hq' e => ?_, fun q hq => ?_, h.bl, h.rl, h.rx⟩
  · rw [hg, hg] at e
    by_cases h1 : q = r <;> by_cases h2 : q' = r <;> by_cases h3 : q = p <;> by_cases h4 : q' = p <;> simp only [h1, h2, h3, h4, if_true, if_false] at e <;> first
      | omega
      | (have := h.nd _ _ (by omega) (by omega) e; omega)
      | (rw [if_neg (by omega)] at e; have := h.nd _ _ (by omega) (by omega) e; omega)
      | (split at e <;> first | omega | (have := h.nd _ _ (by omega) (by omega) e; omega))
  · rw [hg]
    split
    · exact h.lt p hp
    · split
      · exact h.lt r hr
      · exact h.lt q hq
theorem clB_ok {M D C k r : Nat} {pm : List Nat} {Bl : List (List Nat)} (hM : FldM M) (h : SysOk M D C pm Bl) (hr : r < D) : ∀ q, q ≤ D → SysOk M D C pm (clB M C k r pm Bl q) ∧ (clB M C k r pm Bl q).getD (pm.getD r 0) [] = Bl.getD (pm.getD r 0) []
  | 0, _ => ⟨h, rfl⟩
  | q + 1, hq => by
    obtain ⟨i1, i2⟩ := clB_ok hM h hr q (by omega)
    rw [clB]
    by_cases e : q = r
    · rw [if_pos e]; exact ⟨i1, i2⟩
    · rw [if_neg e]
      have hm := getDB_mem (Bl := clB M C k r pm Bl q) (a := pm.getD q 0) (by rw [i1.bl]; exact h.lt q (by omega))
      refine ⟨i1.set _ (by rw [addV_length]; exact i1.rl _ hm) (addV_lt hM (getD_lt (i1.rx _ hm) _) (i1.rx _ hm) _), ?_⟩
      rw [getDB_ne _ fun e2 => e (h.nd q r (by omega) hr e2)]
      exact i2
attribute [local irreducible] Quiet Eff OpOk AWPG ACont ABlock ACalls AGoto
theorem A_r8times {M a b : Nat} (hM : FldM M) (ha : a < 2 ^ M) (hb : b < 2 ^ M) : ACalls Tryz.prog 103 [iV M, iV a, iV b] [] (iV (mu M a b : Nat)) [] := by
  refine acalls_of_body Tryz.func103 rfl (Nat.le_of_ble_eq_true rfl) ?_
  have h := A_rmul hM ha hb
  (repeat' (first
  | (apply W.qd; (first
    | (apply (q_callC (h)); exact rfl; exact rfl; kernel_rfl; kernel_rfl; kernel_rfl)|(apply q_mv; (first|exact vD|exact vO|exact vP|exact vA|exact vF|exact vR|exact vN|exact vY|exact vT|exact vX))|(apply q_as; (first|exact vD|exact vO|exact vP|exact vA|exact vF|exact vR|exact vN|exact vY|exact vT|exact vX))
    | (apply q_extract; exact rfl; exact rfl)))|(apply AWP.seq)|(apply ACont_normal)|(apply W.region; kernel_rfl)|(apply Walk.nil)
  | (apply AWP.ret)))
  exact Ends.i rfl rfl
theorem A_r8inverse {M a : Nat} (hM : FldM M) (ha : a < 2 ^ M) (h0 : a ≠ 0) : ACalls Tryz.prog 102 [iV M, iV a] [] (iV (invN M a : Nat)) [] := by
  refine acalls_of_body Tryz.func102 rfl (Nat.le_of_ble_eq_true rfl) ?_
  have h := A_rinv hM ha h0
  (repeat' (first
  | (apply W.qd; (first
    | (apply (q_callC (h)); exact rfl; exact rfl; kernel_rfl; kernel_rfl; kernel_rfl)|(apply q_mv; (first|exact vD|exact vO|exact vP|exact vA|exact vF|exact vR|exact vN|exact vY|exact vT|exact vX))|(apply q_as; (first|exact vD|exact vO|exact vP|exact vA|exact vF|exact vR|exact vN|exact vY|exact vT|exact vX))
    | (apply q_extract; exact rfl; exact rfl)))|(apply AWP.seq)|(apply ACont_normal)|(apply W.region; kernel_rfl)|(apply Walk.nil)
  | (apply AWP.ret)))
  exact Ends.i rfl rfl
theorem A_elim_no {M D C v c k r : Nat} {pm : List Nat} {Bl : List (List Nat)} (hs : SysOk M D C pm Bl) (hk : k < C) (hr : r ≤ D) (hC : C ≤ 1000) (hD : D ≤ 1000) (hp : findL pm Bl k (D - r) r = D) :
    ACalls Tryz.prog 87 [.opt 0 0, iV k, iV r] (sysO 3 M v C c D pm Bl) (bV false) (sysO 3 M v C c D pm Bl) := by
  refine acalls_of_bodyS Tryz.func87 rfl (Nat.le_of_ble_eq_true rfl) ?_
  unfold sysO
  (repeat' (first
  | (apply W.qd; (first
    | (apply q_mv; (first|exact vD|exact vO|exact vP|exact vA|exact vF|exact vR|exact vN|exact vY|exact vT|exact vX))
    | (apply q_as; (first|exact vD|exact vO|exact vP|exact vA|exact vF|exact vR|exact vN|exact vY|exact vT|exact vX))))|(apply AWP.seq)|(apply ACont_normal)|(apply (W.regionS 2); exact rfl; kernel_rfl)|(apply Walk.nil)
  | (apply AWP.block)))
  refine AWP.loopE (α := Nat) (fun p => r ≤ p ∧ p ≤ D ∧ findL pm Bl k (D - p) p = D) (fun p => ⟨[(7, iV p), (0, .opt 0 0), (1, iV k), (2, iV r)], .box [iV M, .bsl 1 D c] :: .box (pm.map (ptrS v C)) :: Bl.map (rowE 3 v)⟩) (fun p => D - p) r ⟨Nat.le_refl _, hr, hp⟩ ⟨rfl, by (repeat (first | exact trivial | refine ⟨rfl, ?_⟩))⟩ fun p hp => ?_
  obtain ⟨h1, h2, h3⟩ := hp
  by_cases hpD : p < D
  · have hpm := sys_ld (v := v) (C := C) (p := p) (pm := pm) (by rw [hs.pl]; exact hpD)
    have ha := hs.lt p hpD
    have hget := sys_get (t := 3) (v := v) (E0 := .box [iV M, .bsl 1 D c]) (E1 := .box (pm.map (ptrS v C))) (Bl := Bl) (p := pm.getD p 0) (by rw [hs.bl]; exact ha)
    have hll := hs.rl _ (getDB_mem (Bl := Bl) (a := pm.getD p 0) (by rw [hs.bl]; exact ha))
    rw [show D - p = (D - (p + 1)) + 1 by omega, findL] at h3
    have hx : (Bl.getD (pm.getD p 0) []).getD k 0 = 0 := by
      by_cases e : (Bl.getD (pm.getD p 0) []).getD k 0 = 0
      · exact e
      · rw [if_neg e] at h3; omega
    rw [if_pos hx] at h3
    generalize Bl.getD (pm.getD p 0) [] = l at *
    have hx2 : l[k]'(by omega) = 0 := by rw [List.getD_eq_getElem?_getD, List.getElem?_eq_getElem (show k < l.length by omega)] at hx; exact hx
    generalize pm.getD p 0 = a at *
    (repeat' (first
  | (apply W.gOn; exact rfl; exact rfl)
  | (apply W.qd; (first
    | ((apply s_ld; exact rfl; exact rfl; assumption; exact rfl))
    | ((apply s_ix; exact rfl; assumption; exact rfl; exact rfl; exact rfl; omega))
    | ((apply s_ldr; exact rfl; assumption; exact rfl; exact rfl; omega))
    | ((apply q_len_bsl; exact rfl; exact rfl))
    | ((apply q_ix_bsl; exact rfl; exact rfl; exact rfl; exact rfl; omega))|(apply q_mv; (first|exact vD|exact vO|exact vP|exact vA|exact vF|exact vR|exact vN|exact vY|exact vT|exact vX))|(apply q_as; (first|exact vD|exact vO|exact vP|exact vA|exact vF|exact vR|exact vN|exact vY|exact vT|exact vX))|(apply q_fld_optF; exact rfl; exact rfl; exact rfl)|(apply q_ld_box; exact rfl; exact rfl; exact rfl; exact rfl)|(apply q_lss; exact rfl; exact rfl)|(apply q_eql; exact rfl; exact rfl)|(apply q_add; exact rfl; exact rfl; omega)|(apply q_nil_opt; exact rfl)
    | (apply (q_pickT (u := .d _)); exact rfl; exact rfl)))|(apply AWP.seq)|(apply ACont_normal)|(apply W.region; kernel_rfl)|(apply Walk.nil)|(apply AWP.block)|(apply AWP.skip)|(apply ABlock_normal)|(refine W.gT _ _ rfl rfl (fun hb => ?_) (fun hb => ?_) <;> ((try simp only [hb, Bool.not_true, Bool.not_false]) <;> (try simp only [decide_eq_true_eq, decide_eq_false_iff_not, Bool.not_eq_true', Bool.not_eq_false', Int.not_lt, Int.not_le, List.length_map, not_true_eq_false] at hb) <;> (try (exfalso; omega))))
  | (refine W.cond _ rfl (fun hb => ?_) (fun hb => ?_) <;> ((try simp only [hb, Bool.not_true, Bool.not_false]) <;> (try simp only [decide_eq_true_eq, decide_eq_false_iff_not, Bool.not_eq_true', Bool.not_eq_false', Int.not_lt, Int.not_le, List.length_map, not_true_eq_false] at hb) <;> (try (exfalso; omega))))))
    -- @1
    exact ⟨p + 1, ⟨by omega, by omega, h3⟩, by omega, rfl, iV_eq (by omega), rfl, rfl, rfl, trivial⟩
  · (repeat' (first
  | (apply W.qd; (first
    | ((apply q_len_bsl; exact rfl; exact rfl))|(apply q_mv; (first|exact vD|exact vO|exact vP|exact vA|exact vF|exact vR|exact vN|exact vY|exact vT|exact vX))|(apply q_as; (first|exact vD|exact vO|exact vP|exact vA|exact vF|exact vR|exact vN|exact vY|exact vT|exact vX))|(apply q_fld_optF; exact rfl; exact rfl; exact rfl)|(apply q_ld_box; exact rfl; exact rfl; exact rfl; exact rfl)|(apply q_lss; exact rfl; exact rfl)|(apply q_eql; exact rfl; exact rfl)|(apply q_nil_opt; exact rfl)
    | (apply (q_pickF (u := .d _)); exact rfl; exact rfl)))|(refine W.gOff _ _ rfl rfl (by intro h; cases h) ?_)|(apply AWP.seq)|(apply ACont_normal)|(apply W.region; kernel_rfl)|(apply Walk.nil)|(apply AWP.exit)|(apply AWP.ret)|(apply ACont_exit)|(apply ACont_ret)|(apply ABlock_exit)|(apply W.condF; exact rfl)|(refine W.gT _ _ rfl rfl (fun hb => ?_) (fun hb => ?_) <;> ((try simp only [hb, Bool.not_true, Bool.not_false]) <;> (try simp only [decide_eq_true_eq, decide_eq_false_iff_not, Bool.not_eq_true', Bool.not_eq_false', Int.not_lt, Int.not_le, List.length_map, not_true_eq_false] at hb) <;> (try (exfalso; omega))))
  | (refine W.cond _ rfl (fun hb => ?_) (fun hb => ?_) <;> ((try simp only [hb, Bool.not_true, Bool.not_false]) <;> (try simp only [decide_eq_true_eq, decide_eq_false_iff_not, Bool.not_eq_true', Bool.not_eq_false', Int.not_lt, Int.not_le, List.length_map, not_true_eq_false] at hb) <;> (try (exfalso; omega))))))
    exact EndsS.b rfl rfl
theorem A_elim {M D C v c k r P : Nat} {pm : List Nat} {Bl : List (List Nat)} (hM : FldM M) (hs : SysOk M D C pm Bl) (hk : k < C) (hr : r < D) (hC : C ≤ 1000) (hD : D ≤ 1000) (hp : findL pm Bl k (D - r) r = P) (hPD : P < D) :
    ACalls Tryz.prog 87 [.opt 0 0, iV k, iV r] (sysO 3 M v C c D pm Bl) (bV true)
      (sysO 3 M v C c D (swp pm P r) (clB M C k r (swp pm P r) (Bl.set (pm.getD P 0) (scV M (invN M ((Bl.getD (pm.getD P 0) []).getD k 0)) (Bl.getD (pm.getD P 0) []) C)) D)) := by
  refine acalls_of_bodyS Tryz.func87 rfl (Nat.le_of_ble_eq_true rfl) ?_
  have hsL : (sysO 3 M v C c D pm Bl).length = D + 2 := by rw [sys_len, hs.bl]
  unfold sysO
  (repeat' (first
  | (apply W.qd; (first
    | (apply q_mv; (first|exact vD|exact vO|exact vP|exact vA|exact vF|exact vR|exact vN|exact vY|exact vT|exact vX))
    | (apply q_as; (first|exact vD|exact vO|exact vP|exact vA|exact vF|exact vR|exact vN|exact vY|exact vT|exact vX))))|(apply AWP.seq)|(apply ACont_normal)|(apply (W.regionS 2); exact rfl; kernel_rfl)|(apply Walk.nil)
  | (apply AWP.block)))
  refine AWP.loopE (α := Nat) (fun p => r ≤ p ∧ p ≤ P ∧ findL pm Bl k (D - p) p = P) (fun p => ⟨[(7, iV p), (0, .opt 0 0), (1, iV k), (2, iV r)], .box [iV M, .bsl 1 D c] :: .box (pm.map (ptrS v C)) :: Bl.map (rowE 3 v)⟩) (fun p => D - p) r ⟨Nat.le_refl _, by have := findL_le pm Bl k (D - r) r; omega, hp⟩ ⟨rfl, by (repeat (first | exact trivial | refine ⟨rfl, ?_⟩))⟩ fun p hp => ?_
  obtain ⟨h1, h2, h3⟩ := hp
  have hpD : p < D := by omega
  have hpm := sys_ld (v := v) (C := C) (p := p) (pm := pm) (by rw [hs.pl]; exact hpD)
  have ha := hs.lt p hpD
  have hget := sys_get (t := 3) (v := v) (E0 := .box [iV M, .bsl 1 D c]) (E1 := .box (pm.map (ptrS v C))) (Bl := Bl) (p := pm.getD p 0) (by rw [hs.bl]; exact ha)
  have hmem := getDB_mem (Bl := Bl) (a := pm.getD p 0) (by rw [hs.bl]; exact ha)
  have hll := hs.rl _ hmem
  have hlx := hs.rx _ hmem
  rw [show D - p = (D - (p + 1)) + 1 by omega, findL] at h3
  by_cases hx : (Bl.getD (pm.getD p 0) []).getD k 0 = 0
  · rw [if_pos hx] at h3
    have hle := (findL_le pm Bl k (D - (p + 1)) (p + 1)).1
    generalize Bl.getD (pm.getD p 0) [] = l at *
    have hx2 : l[k]'(by omega) = 0 := by rw [List.getD_eq_getElem?_getD, List.getElem?_eq_getElem (show k < l.length by omega)] at hx; exact hx
    generalize pm.getD p 0 = a at *
    (repeat' (first
  | (apply W.gOn; exact rfl; exact rfl)
  | (apply W.qd; (first
    | ((apply s_ld; exact rfl; exact rfl; assumption; exact rfl))
    | ((apply s_ix; exact rfl; assumption; exact rfl; exact rfl; exact rfl; omega))
    | ((apply s_ldr; exact rfl; assumption; exact rfl; exact rfl; omega))
    | ((apply q_len_bsl; exact rfl; exact rfl))
    | ((apply q_ix_bsl; exact rfl; exact rfl; exact rfl; exact rfl; omega))|(apply q_mv; (first|exact vD|exact vO|exact vP|exact vA|exact vF|exact vR|exact vN|exact vY|exact vT|exact vX))|(apply q_as; (first|exact vD|exact vO|exact vP|exact vA|exact vF|exact vR|exact vN|exact vY|exact vT|exact vX))|(apply q_fld_optF; exact rfl; exact rfl; exact rfl)|(apply q_ld_box; exact rfl; exact rfl; exact rfl; exact rfl)|(apply q_lss; exact rfl; exact rfl)|(apply q_eql; exact rfl; exact rfl)|(apply q_add; exact rfl; exact rfl; omega)|(apply q_nil_opt; exact rfl)
    | (apply (q_pickT (u := .d _)); exact rfl; exact rfl)))|(apply AWP.seq)|(apply ACont_normal)|(apply W.region; kernel_rfl)|(apply Walk.nil)|(apply AWP.block)|(apply AWP.skip)|(apply ABlock_normal)|(refine W.gT _ _ rfl rfl (fun hb => ?_) (fun hb => ?_) <;> ((try simp only [hb, Bool.not_true, Bool.not_false]) <;> (try simp only [decide_eq_true_eq, decide_eq_false_iff_not, Bool.not_eq_true', Bool.not_eq_false', Int.not_lt, Int.not_le, List.length_map, not_true_eq_false] at hb) <;> (try (exfalso; omega))))
  | (refine W.cond _ rfl (fun hb => ?_) (fun hb => ?_) <;> ((try simp only [hb, Bool.not_true, Bool.not_false]) <;> (try simp only [decide_eq_true_eq, decide_eq_false_iff_not, Bool.not_eq_true', Bool.not_eq_false', Int.not_lt, Int.not_le, List.length_map, not_true_eq_false] at hb) <;> (try (exfalso; omega))))))
    exact ⟨p + 1, ⟨by omega, by omega, h3⟩, by omega, rfl, iV_eq (by omega), rfl, rfl, rfl, trivial⟩
  · rw [if_neg hx] at h3
    subst h3
    have hpm2 := sys_ld (v := v) (C := C) (p := r) (pm := pm) (by rw [hs.pl]; exact hr)
    have hsw := hs.swp hpD hr
    have hbk : (swp pm p r).getD r 0 = pm.getD p 0 := by rw [swp_get (by rw [hs.pl]; exact hpD) (by rw [hs.pl]; exact hr), if_pos rfl]
    have hpl := hs.pl
    have hbl := hs.bl
    have hswd : (pm.set p (pm.getD r 0)).set r (pm.getD p 0) = swp pm p r := rfl
    obtain ⟨l, hl⟩ : ∃ l, Bl.getD (pm.getD p 0) [] = l := ⟨_, rfl⟩
    rw [hl] at hget hll hlx hx ⊢
    have hx2 : l[k]'(by omega) ≠ 0 := by rw [List.getD_eq_getElem?_getD, List.getElem?_eq_getElem (show k < l.length by omega)] at hx; exact hx
    have hxe : l.getD k 0 = l[k]'(by omega) := by rw [List.getD_eq_getElem?_getD, List.getElem?_eq_getElem (show k < l.length by omega)]; rfl
    have hxl := hlx _ (List.getElem_mem (show k < l.length by omega))
    rw [hxe]
    have hinv := A_r8inverse hM hxl hx2
    have hfl : invN M (l[k]'(by omega)) < 2 ^ M := invN_lt _
    generalize invN M (l[k]'(by omega)) = f at *
    have hBs := fun j => hsw.set (pm.getD p 0) (l := scV M f l j) (by rw [scV_length]; exact hll) (scV_lt hM hfl hlx j)
    have hB1 := hBs C
    have hgB := fun j => getDB_set (Bl := Bl) (a := pm.getD p 0) (scV M f l j) (by omega)
    have hcl := fun q hq => clB_ok (k := k) hM hB1 hr q hq
    rw [hbk, hgB C] at hcl
    have hcs : ∀ q, clB M C k r (swp pm p r) (Bl.set (pm.getD p 0) (scV M f l C)) (q + 1) = if q = r then clB M C k r (swp pm p r) (Bl.set (pm.getD p 0) (scV M f l C)) q else (clB M C k r (swp pm p r) (Bl.set (pm.getD p 0) (scV M f l C)) q).set ((swp pm p r).getD q 0) (addV M (((clB M C k r (swp pm p r) (Bl.set (pm.getD p 0) (scV M f l C)) q).getD ((swp pm p r).getD q 0) []).getD k 0) ((clB M C k r (swp pm p r) (Bl.set (pm.getD p 0) (scV M f l C)) q).getD ((swp pm p r).getD q 0) []) (scV M f l C) C) := fun q => by
      rw [clB, hbk, hgB C]
    have hc0 : clB M C k r (swp pm p r) (Bl.set (pm.getD p 0) (scV M f l C)) 0 = Bl.set (pm.getD p 0) (scV M f l C) := rfl
    generalize clB M C k r (swp pm p r) (Bl.set (pm.getD p 0) (scV M f l C)) = CB at *
    have hnd := hsw.nd
    have hslt := hsw.lt
    have hspl := hsw.pl
    have hldS := fun q (hq : q < D) => sys_ld (v := v) (C := C) (p := q) (pm := swp pm p r) (by rw [hspl]; exact hq)
    generalize hSW : swp pm p r = SW at *
    generalize pm.getD p 0 = a at *
    generalize pm.getD r 0 = ar at *
    (repeat' (first
  | (apply W.gOn; exact rfl; exact rfl)
  | (apply W.qd; (first
    | (apply (q_callC (hinv)); exact rfl; exact rfl; kernel_rfl; kernel_rfl; kernel_rfl)
    | ((apply s_ld; exact rfl; exact rfl; assumption; exact rfl))
    | ((apply s_ix; exact rfl; assumption; exact rfl; exact rfl; exact rfl; omega))
    | ((apply s_ldr; exact rfl; assumption; exact rfl; exact rfl; omega))
    | ((apply q_len_bsl; exact rfl; exact rfl))
    | ((apply q_ix_bsl; exact rfl; exact rfl; exact rfl; exact rfl; omega))|(apply q_mv; (first|exact vD|exact vO|exact vP|exact vA|exact vF|exact vR|exact vN|exact vY|exact vT|exact vX))|(apply q_as; (first|exact vD|exact vO|exact vP|exact vA|exact vF|exact vR|exact vN|exact vY|exact vT|exact vX))|(apply q_fld_optF; exact rfl; exact rfl; exact rfl)|(apply q_ld_box; exact rfl; exact rfl; exact rfl; exact rfl)|(apply q_lss; exact rfl; exact rfl)|(apply q_eql; exact rfl; exact rfl)|(apply q_nil_opt; exact rfl)
    | (apply (q_pickT (u := .d _)); exact rfl; exact rfl)))|(apply W.en; ((apply s_stb; exact rfl; exact rfl; exact rfl; exact rfl; exact sys_set1; (simp only [List.length_map, List.length_set]; omega))))|(apply AWP.seq)|(apply ACont_normal)|(apply (W.regionS 10); exact rfl; kernel_rfl)|(apply (W.regionDS 10); exact rfl; exact rfl; kernel_rfl)|(apply Walk.nil)|(apply W.chk; kernel_rfl)|(apply AWP.skip)|(apply AWP.exit)|(apply ACont_exit)|(apply ABlock_exit)|(refine W.gT _ _ rfl rfl (fun hb => ?_) (fun hb => ?_) <;> ((try simp only [hb, Bool.not_true, Bool.not_false]) <;> (try simp only [decide_eq_true_eq, decide_eq_false_iff_not, Bool.not_eq_true', Bool.not_eq_false', Int.not_lt, Int.not_le, List.length_map, not_true_eq_false] at hb) <;> (try (exfalso; omega))))
  | (refine W.cond _ rfl (fun hb => ?_) (fun hb => ?_) <;> ((try simp only [hb, Bool.not_true, Bool.not_false]) <;> (try simp only [decide_eq_true_eq, decide_eq_false_iff_not, Bool.not_eq_true', Bool.not_eq_false', Int.not_lt, Int.not_le, List.length_map, not_true_eq_false] at hb) <;> (try (exfalso; omega))))))
    rw [hswd]
    have hset0 : Bl.set a (scV M f l 0) = Bl := by
      rw [scV, ← hl]; exact setB_self (by omega)
    (repeat' (first
  | (apply W.qd; (apply q_as; (first|exact vD|exact vO|exact vP|exact vA|exact vF|exact vR|exact vN|exact vY|exact vT|exact vX)))|(apply ACont_normal)|(apply (W.regionS 11); exact rfl; kernel_rfl)|(apply Walk.nil)
  | (apply AWP.block)))
    refine AWP.loopE (α := Nat) (fun j => j ≤ C) (fun j => ⟨[(10, iV j), (8, .osl (a + 2) v 0 C), (9, iV f), (0, .opt 0 0), (1, iV k), (2, iV r)], .box [iV M, .bsl 1 D c] :: .box (SW.map (ptrS v C)) :: (Bl.set a (scV M f l j)).map (rowE 3 v)⟩) (fun j => C - j) 0 (by omega) ⟨by rw [hset0], by (repeat (first | exact trivial | refine ⟨rfl, ?_⟩))⟩ fun j hj => ?_
    have hlj : (scV M f l j).length = C := by rw [scV_length]; exact hll
    have hxj := scV_lt hM hfl hlx j
    have hst : ∀ h, scV M f l (j + 1) = (scV M f l j).set j (mu M f ((scV M f l j)[j]'h)) := fun h => by
      rw [scV, List.getD_eq_getElem?_getD, List.getElem?_eq_getElem h]; rfl
    by_cases hjC : j < C
    · have hgj := (sys_get (t := 3) (v := v) (E0 := .box [iV M, .bsl 1 D c]) (E1 := .box (SW.map (ptrS v C))) (Bl := Bl.set a (scV M f l j)) (p := a) (by rw [List.length_set]; omega)).trans (by rw [hgB j])
      have hst2 := Lib.hid (hst (by omega))
      clear hcs hc0 hcl hB1 hBs hst
      have htm := A_r8times hM hfl (hxj _ (List.getElem_mem (show j < (scV M f l j).length by omega)))
      (repeat' (first
  | (apply W.qd; (first
    | (apply (q_callC (htm)); exact rfl; exact rfl; kernel_rfl; kernel_rfl; kernel_rfl)
    | ((apply s_ix; exact rfl; assumption; exact rfl; exact rfl; exact rfl; omega))
    | ((apply s_ldr; exact rfl; assumption; exact rfl; exact rfl; omega))
    | ((apply s_len; exact rfl; assumption; exact rfl))|(apply q_mv; (first|exact vD|exact vO|exact vP|exact vA|exact vF|exact vR|exact vN|exact vY|exact vT|exact vX))|(apply q_as; (first|exact vD|exact vO|exact vP|exact vA|exact vF|exact vR|exact vN|exact vY|exact vT|exact vX))|(apply q_fld_optF; exact rfl; exact rfl; exact rfl)|(apply q_ld_box; exact rfl; exact rfl; exact rfl; exact rfl)|(apply q_lss; exact rfl; exact rfl)|(apply q_add; exact rfl; exact rfl; omega)
    | (apply q_nil_opt; exact rfl)))|(apply W.en; ((apply s_str; exact rfl; assumption; exact rfl; exact rfl; exact rfl; exact sys_set _; exact rfl; exact fun _ => rfl; omega)))|(apply AWP.seq)|(apply ACont_normal)|(apply W.region; kernel_rfl)|(apply W.regionD; exact rfl; kernel_rfl)|(apply Walk.nil)|(apply W.chk; kernel_rfl)|(apply AWP.block)|(apply AWP.skip)|(apply ABlock_normal)
  | (refine W.cond _ rfl (fun hb => ?_) (fun hb => ?_) <;> ((try simp only [hb, Bool.not_true, Bool.not_false]) <;> (try simp only [decide_eq_true_eq, decide_eq_false_iff_not, Bool.not_eq_true', Bool.not_eq_false', Int.not_lt, Int.not_le, List.length_map, not_true_eq_false] at hb) <;> (try (exfalso; omega))))))
      refine ⟨j + 1, by omega, by omega, ?_, iV_eq (by omega), rfl, rfl, rfl, rfl, rfl, trivial⟩
      show _ :: _ :: List.map _ (Bl.set a (scV M f l (j + 1))) = _ :: _ :: List.map _ ((Bl.set a (scV M f l j)).set a _)
      rw [hst2.out, List.set_set]
    have hjC' : j = C := by omega
    subst hjC'
    clear hst
    have hgj := (sys_get (t := 3) (v := v) (E0 := .box [iV M, .bsl 1 D c]) (E1 := .box (SW.map (ptrS v j))) (Bl := Bl.set a (scV M f l j)) (p := a) (by rw [List.length_set]; omega)).trans (by rw [hgB j])
    generalize scV M f l j = x at *
    (repeat' (first
  | (apply W.qd; (first
    | ((apply s_len; exact rfl; assumption; exact rfl))|(apply q_mv; (first|exact vD|exact vO|exact vP|exact vA|exact vF|exact vR|exact vN|exact vY|exact vT|exact vX))|(apply q_as; (first|exact vD|exact vO|exact vP|exact vA|exact vF|exact vR|exact vN|exact vY|exact vT|exact vX))
    | (apply q_lss; exact rfl; exact rfl)))|(apply AWP.seq)|(apply ACont_normal)|(apply (W.regionS 15); exact rfl; kernel_rfl)|(apply Walk.nil)|(apply AWP.block)|(apply AWP.exit)|(apply ACont_exit)|(apply ABlock_exit)
  | (refine W.cond _ rfl (fun hb => ?_) (fun hb => ?_) <;> ((try simp only [hb, Bool.not_true, Bool.not_false]) <;> (try simp only [decide_eq_true_eq, decide_eq_false_iff_not, Bool.not_eq_true', Bool.not_eq_false', Int.not_lt, Int.not_le, List.length_map, not_true_eq_false] at hb) <;> (try (exfalso; omega))))))
    clear hgj
    refine AWP.loopE (α := Nat) (fun q => q ≤ D) (fun q => ⟨[(11, iV q), (8, .osl (a + 2) v 0 j), (0, .opt 0 0), (1, iV k), (2, iV r)], .box [iV M, .bsl 1 D c] :: .box (SW.map (ptrS v j)) :: (CB q).map (rowE 3 v)⟩) (fun q => D - q) 0 (by omega) ⟨by rw [hc0], by (repeat (first | exact trivial | refine ⟨rfl, ?_⟩))⟩ fun q hq => ?_
    by_cases hqD : q < D
    · have hld := hldS q hqD
      have hb := hslt q hqD
      obtain ⟨i1, i2⟩ := hcl q hq
      have ibl := i1.bl
      have hgT := sys_get (t := 3) (v := v) (E0 := .box [iV M, .bsl 1 D c]) (E1 := .box (SW.map (ptrS v j))) (Bl := CB q) (p := SW.getD q 0) (by omega)
      have hTm := getDB_mem (Bl := CB q) (a := SW.getD q 0) (by omega)
      have hTl := i1.rl _ hTm
      have hTx := i1.rx _ hTm
      have hstep := hcs q
      have hba : q ≠ r → SW.getD q 0 ≠ a := fun e1 e2 => e1 (hnd q r hqD hr (by rw [e2, hbk]))
      have hsetT : (CB q).set (SW.getD q 0) ((CB q).getD (SW.getD q 0) []) = CB q := setB_self (by omega)
      clear hcs hcl hBs hB1 hgB
      generalize hT : (CB q).getD (SW.getD q 0) [] = T at *
      generalize SW.getD q 0 = b at *
      have hTk : T.getD k 0 = T[k]'(by omega) := by rw [List.getD_eq_getElem?_getD, List.getElem?_eq_getElem (show k < T.length by omega)]; rfl
      have hTkx := hTx _ (List.getElem_mem (show k < T.length by omega))
      by_cases hqr : q = r
      · rw [if_pos hqr] at hstep
        (repeat' (first
  | (apply W.qd; (first
    | ((apply s_ld; exact rfl; exact rfl; assumption; exact rfl))
    | ((apply s_ix; exact rfl; assumption; exact rfl; exact rfl; exact rfl; omega))
    | ((apply s_ldr; exact rfl; assumption; exact rfl; exact rfl; omega))
    | ((apply q_len_bsl; exact rfl; exact rfl))
    | ((apply q_ix_bsl; exact rfl; exact rfl; exact rfl; exact rfl; omega))|(apply q_mv; (first|exact vD|exact vO|exact vP|exact vA|exact vF|exact vR|exact vN|exact vY|exact vT|exact vX))|(apply q_as; (first|exact vD|exact vO|exact vP|exact vA|exact vF|exact vR|exact vN|exact vY|exact vT|exact vX))|(apply q_fld_optF; exact rfl; exact rfl; exact rfl)|(apply q_ld_box; exact rfl; exact rfl; exact rfl; exact rfl)|(apply q_lss; exact rfl; exact rfl)|(apply q_eql; exact rfl; exact rfl)|(apply q_add; exact rfl; exact rfl; omega)|(apply q_nil_opt; exact rfl)
    | (apply (q_pickT (u := .d _)); exact rfl; exact rfl)))|(refine W.gOff _ _ rfl rfl (by intro h; cases h) ?_)|(apply AWP.seq)|(apply ACont_normal)|(apply W.region; kernel_rfl)|(apply Walk.nil)|(apply AWP.block)|(apply AWP.skip)|(apply AWP.exit)|(apply ACont_exit)|(apply ABlock_exit)|(apply W.condT; exact rfl)|(refine W.gF _ _ rfl rfl (fun hb => ?_) (fun hb => ?_) <;> ((try simp only [hb, Bool.not_true, Bool.not_false]) <;> (try simp only [decide_eq_true_eq, decide_eq_false_iff_not, Bool.not_eq_true', Bool.not_eq_false', Int.not_lt, Int.not_le, List.length_map, not_true_eq_false] at hb) <;> (try (exfalso; omega))))
  | (refine W.cond _ rfl (fun hb => ?_) (fun hb => ?_) <;> ((try simp only [hb, Bool.not_true, Bool.not_false]) <;> (try simp only [decide_eq_true_eq, decide_eq_false_iff_not, Bool.not_eq_true', Bool.not_eq_false', Int.not_lt, Int.not_le, List.length_map, not_true_eq_false] at hb) <;> (try (exfalso; omega))))))
        refine ⟨q + 1, by omega, by omega, ?_, iV_eq (by omega), rfl, rfl, rfl, rfl, trivial⟩
        show _ :: _ :: List.map _ (CB (q + 1)) = _
        rw [hstep]
      · rw [if_neg hqr, hTk] at hstep
        have hba := hba hqr
        by_cases hz : T[k]'(by omega) = 0
        · rw [hz, addV_zero, hsetT] at hstep
          (repeat' (first
  | (apply W.gOn; exact rfl; exact rfl)
  | (apply W.qd; (first
    | ((apply s_ld; exact rfl; exact rfl; assumption; exact rfl))
    | ((apply s_ix; exact rfl; assumption; exact rfl; exact rfl; exact rfl; omega))
    | ((apply s_ldr; exact rfl; assumption; exact rfl; exact rfl; omega))
    | ((apply q_len_bsl; exact rfl; exact rfl))
    | ((apply q_ix_bsl; exact rfl; exact rfl; exact rfl; exact rfl; omega))|(apply q_mv; (first|exact vD|exact vO|exact vP|exact vA|exact vF|exact vR|exact vN|exact vY|exact vT|exact vX))|(apply q_as; (first|exact vD|exact vO|exact vP|exact vA|exact vF|exact vR|exact vN|exact vY|exact vT|exact vX))|(apply q_fld_optF; exact rfl; exact rfl; exact rfl)|(apply q_ld_box; exact rfl; exact rfl; exact rfl; exact rfl)|(apply q_lss; exact rfl; exact rfl)|(apply q_eql; exact rfl; exact rfl)|(apply q_add; exact rfl; exact rfl; omega)|(apply q_nil_opt; exact rfl)
    | (apply (q_pickF (u := .d _)); exact rfl; exact rfl)))|(apply AWP.seq)|(apply ACont_normal)|(apply W.region; kernel_rfl)|(apply Walk.nil)|(apply AWP.block)|(apply AWP.skip)|(apply AWP.exit)|(apply ACont_exit)|(apply ABlock_exit)|(refine W.gF _ _ rfl rfl (fun hb => ?_) (fun hb => ?_) <;> ((try simp only [hb, Bool.not_true, Bool.not_false]) <;> (try simp only [decide_eq_true_eq, decide_eq_false_iff_not, Bool.not_eq_true', Bool.not_eq_false', Int.not_lt, Int.not_le, List.length_map, not_true_eq_false] at hb) <;> (try (exfalso; omega))))
  | (refine W.cond _ rfl (fun hb => ?_) (fun hb => ?_) <;> ((try simp only [hb, Bool.not_true, Bool.not_false]) <;> (try simp only [decide_eq_true_eq, decide_eq_false_iff_not, Bool.not_eq_true', Bool.not_eq_false', Int.not_lt, Int.not_le, List.length_map, not_true_eq_false] at hb) <;> (try (exfalso; omega))))))
          refine ⟨q + 1, by omega, by omega, ?_, iV_eq (by omega), rfl, rfl, rfl, rfl, trivial⟩
          show _ :: _ :: List.map _ (CB (q + 1)) = _
          rw [hstep]
        · (repeat' (first
  | (apply W.gOn; exact rfl; exact rfl)
  | (apply W.qd; (first
    | ((apply s_ld; exact rfl; exact rfl; assumption; exact rfl))
    | ((apply s_ix; exact rfl; assumption; exact rfl; exact rfl; exact rfl; omega))
    | ((apply s_ldr; exact rfl; assumption; exact rfl; exact rfl; omega))
    | ((apply q_len_bsl; exact rfl; exact rfl))
    | ((apply q_ix_bsl; exact rfl; exact rfl; exact rfl; exact rfl; omega))|(apply q_mv; (first|exact vD|exact vO|exact vP|exact vA|exact vF|exact vR|exact vN|exact vY|exact vT|exact vX))|(apply q_as; (first|exact vD|exact vO|exact vP|exact vA|exact vF|exact vR|exact vN|exact vY|exact vT|exact vX))|(apply q_fld_optF; exact rfl; exact rfl; exact rfl)|(apply q_ld_box; exact rfl; exact rfl; exact rfl; exact rfl)|(apply q_lss; exact rfl; exact rfl)|(apply q_eql; exact rfl; exact rfl)|(apply q_nil_opt; exact rfl)
    | (apply (q_pickF (u := .d _)); exact rfl; exact rfl)))|(apply AWP.seq)|(apply ACont_normal)|(apply (W.regionS 20); exact rfl; kernel_rfl)|(apply Walk.nil)|(apply AWP.block)|(apply AWP.skip)|(refine W.gF _ _ rfl rfl (fun hb => ?_) (fun hb => ?_) <;> ((try simp only [hb, Bool.not_true, Bool.not_false]) <;> (try simp only [decide_eq_true_eq, decide_eq_false_iff_not, Bool.not_eq_true', Bool.not_eq_false', Int.not_lt, Int.not_le, List.length_map, not_true_eq_false] at hb) <;> (try (exfalso; omega))))
  | (refine W.cond _ rfl (fun hb => ?_) (fun hb => ?_) <;> ((try simp only [hb, Bool.not_true, Bool.not_false]) <;> (try simp only [decide_eq_true_eq, decide_eq_false_iff_not, Bool.not_eq_true', Bool.not_eq_false', Int.not_lt, Int.not_le, List.length_map, not_true_eq_false] at hb) <;> (try (exfalso; omega))))))
          have hgT0 := hgT
          clear hgT
          generalize hg : T[k]'(by omega) = g at *
          refine AWP.loopE (α := Nat) (fun i => i ≤ j) (fun i => ⟨[(13, iV i), (12, iV g), (11, iV q), (8, .osl (a + 2) v 0 j), (0, .opt 0 0), (1, iV k), (2, iV r)], .box [iV M, .bsl 1 D c] :: .box (SW.map (ptrS v j)) :: ((CB q).set b (addV M g T x i)).map (rowE 3 v)⟩) (fun i => j - i) 0 (by omega) ⟨by rw [addV, hsetT], by (repeat (first | exact trivial | refine ⟨rfl, ?_⟩))⟩ fun i hi => ?_
          have hli : (addV M g T x i).length = j := by rw [addV_length]; exact hTl
          have hxi := addV_lt hM hTkx hTx i (l := x)
          have hgA : (.box [iV M, .bsl 1 D c] :: .box (SW.map (ptrS v j)) :: ((CB q).set b (addV M g T x i)).map (rowE 3 v))[a + 2]? = some (Ent.row v 1 3 (x.map kD)) :=
            (sys_get (by rw [List.length_set]; omega)).trans (by rw [getDB_ne _ hba, i2])
          have hgI : (.box [iV M, .bsl 1 D c] :: .box (SW.map (ptrS v j)) :: ((CB q).set b (addV M g T x i)).map (rowE 3 v))[b + 2]? = some (Ent.row v 1 3 ((addV M g T x i).map kD)) :=
            (sys_get (by rw [List.length_set]; omega)).trans (by rw [getDB_set _ (by omega)])
          have hst : ∀ h h', addV M g T x (i + 1) = (addV M g T x i).set i ((addV M g T x i)[i]'h ^^^ mu M g (x[i]'h')) := fun h h' => by
            rw [addV, List.getD_eq_getElem?_getD, List.getElem?_eq_getElem h, List.getD_eq_getElem?_getD, List.getElem?_eq_getElem h']; rfl
          by_cases hij : i < j
          · have hst2 := Lib.hid (hst (by omega) (by omega))
            clear hst
            have hxm := hxj _ (List.getElem_mem (show i < x.length by omega))
            have htm := A_r8times hM hTkx hxm
            have hc1 := hM.cap (hxi _ (List.getElem_mem (show i < (addV M g T x i).length by omega)))
            have hc2 := hM.cap (mu_lt hM hTkx (x[i]'(by omega)))
            (repeat' (first
  | (apply W.qd; (first
    | (apply (q_callC (htm)); exact rfl; exact rfl; kernel_rfl; kernel_rfl; kernel_rfl)
    | ((apply s_ld; exact rfl; exact rfl; assumption; exact rfl))
    | ((apply s_ix; exact rfl; assumption; exact rfl; exact rfl; exact rfl; omega))
    | ((apply s_ldr; exact rfl; assumption; exact rfl; exact rfl; omega))
    | ((apply s_len; exact rfl; assumption; exact rfl))
    | ((apply q_ix_bsl; exact rfl; exact rfl; exact rfl; exact rfl; omega))|(apply q_mv; (first|exact vD|exact vO|exact vP|exact vA|exact vF|exact vR|exact vN|exact vY|exact vT|exact vX))|(apply q_as; (first|exact vD|exact vO|exact vP|exact vA|exact vF|exact vR|exact vN|exact vY|exact vT|exact vX))|(apply q_fld_optF; exact rfl; exact rfl; exact rfl)|(apply q_ld_box; exact rfl; exact rfl; exact rfl; exact rfl)|(apply q_lss; exact rfl; exact rfl)|(apply q_add; exact rfl; exact rfl; omega)|(apply q_nil_opt; exact rfl)
    | (apply q_xorN; exact rfl; exact rfl; (first | (with_reducible exact rfl) | exact natI_spec rfl | assumption | exact (Int.toNat_of_nonneg (by omega)).symm); (first | (with_reducible exact rfl) | exact natI_spec rfl | assumption | exact (Int.toNat_of_nonneg (by omega)).symm); (first | (apply hcap1; omega) | (apply hcap2; omega) | (apply hcap3; omega) | (apply hcap4; omega) | (focus (show _ < 9223372036854775808; omega)) | (focus (show _ < 256; omega)) | assumption); (first | (apply hcap1; omega) | (apply hcap2; omega) | (apply hcap3; omega) | (apply hcap4; omega) | (focus (show _ < 9223372036854775808; omega)) | (focus (show _ < 256; omega)) | assumption))))|(apply W.en; ((apply s_str; exact rfl; assumption; exact rfl; exact rfl; exact rfl; exact sys_set _; exact rfl; exact fun _ => rfl; omega)))|(apply AWP.seq)|(apply ACont_normal)|(apply W.region; kernel_rfl)|(apply W.regionD; exact rfl; kernel_rfl)|(apply Walk.nil)|(apply W.chk; kernel_rfl)|(apply AWP.block)|(apply AWP.skip)|(apply ABlock_normal)
  | (refine W.cond _ rfl (fun hb => ?_) (fun hb => ?_) <;> ((try simp only [hb, Bool.not_true, Bool.not_false]) <;> (try simp only [decide_eq_true_eq, decide_eq_false_iff_not, Bool.not_eq_true', Bool.not_eq_false', Int.not_lt, Int.not_le, List.length_map, not_true_eq_false] at hb) <;> (try (exfalso; omega))))))
            refine ⟨i + 1, by omega, by omega, ?_, iV_eq (by omega), rfl, rfl, rfl, rfl, rfl, rfl, trivial⟩
            show _ :: _ :: List.map _ ((CB q).set b (addV M g T x (i + 1))) = _ :: _ :: List.map _ (((CB q).set b (addV M g T x i)).set b _)
            rw [hst2.out, List.set_set]
          · have hij' : i = j := by omega
            subst hij'
            clear hst hgI
            (repeat' (first
  | (apply W.qd; (first
    | ((apply s_len; exact rfl; assumption; exact rfl))|(apply q_mv; (first|exact vD|exact vO|exact vP|exact vA|exact vF|exact vR|exact vN|exact vY|exact vT|exact vX))|(apply q_as; (first|exact vD|exact vO|exact vP|exact vA|exact vF|exact vR|exact vN|exact vY|exact vT|exact vX))|(apply q_lss; exact rfl; exact rfl)
    | (apply q_add; exact rfl; exact rfl; omega)))|(apply AWP.seq)|(apply ACont_normal)|(apply W.region; kernel_rfl)|(apply Walk.nil)|(apply AWP.exit)|(apply ACont_exit)|(apply ABlock_normal)|(apply ABlock_exit)
  | (refine W.cond _ rfl (fun hb => ?_) (fun hb => ?_) <;> ((try simp only [hb, Bool.not_true, Bool.not_false]) <;> (try simp only [decide_eq_true_eq, decide_eq_false_iff_not, Bool.not_eq_true', Bool.not_eq_false', Int.not_lt, Int.not_le, List.length_map, not_true_eq_false] at hb) <;> (try (exfalso; omega))))))
            refine ⟨q + 1, by omega, by omega, ?_, iV_eq (by omega), rfl, rfl, rfl, rfl, trivial⟩
            show _ :: _ :: List.map _ (CB (q + 1)) = _
            rw [hstep]
    · have hqD' : q = D := by omega
      subst hqD'
      (repeat' (first
  | (apply W.qd; (first
    | ((apply q_len_bsl; exact rfl; exact rfl))|(apply q_mv; (first|exact vD|exact vO|exact vP|exact vA|exact vF|exact vR|exact vN|exact vY|exact vT|exact vX))|(apply q_as; (first|exact vD|exact vO|exact vP|exact vA|exact vF|exact vR|exact vN|exact vY|exact vT|exact vX))|(apply q_fld_optF; exact rfl; exact rfl; exact rfl)|(apply q_ld_box; exact rfl; exact rfl; exact rfl; exact rfl)|(apply q_lss; exact rfl; exact rfl)
    | (apply q_nil_opt; exact rfl)))|(apply AWP.seq)|(apply ACont_normal)|(apply W.region; kernel_rfl)|(apply Walk.nil)|(apply AWP.exit)|(apply AWP.ret)|(apply ACont_exit)|(apply ABlock_exit)
  | (refine W.cond _ rfl (fun hb => ?_) (fun hb => ?_) <;> ((try simp only [hb, Bool.not_true, Bool.not_false]) <;> (try simp only [decide_eq_true_eq, decide_eq_false_iff_not, Bool.not_eq_true', Bool.not_eq_false', Int.not_lt, Int.not_le, List.length_map, not_true_eq_false] at hb) <;> (try (exfalso; omega))))))
      exact EndsS.b rfl rfl
end Go.Proofs.YtilpljehfcpjeaaGreatDoor
end
section
/- The reference's elimination does to its equations what reduce does to a matrix. Plain law. -/
namespace Go.Proofs.YtilpljehfcpjeaaGreatDoor
open Go.RowKit
set_option linter.unusedSectionVars false
set_option maxRecDepth 100000
theorem scV_get (M f : Nat) (l : List Nat) : ∀ n, n ≤ l.length → ∀ i, i < l.length → (scV M f l n).getD i 0 = if i < n then mu M f (l.getD i 0) else l.getD i 0
  | 0, _, i, _ => by rw [scV, if_neg (by omega)]
  | n + 1, hn, i, hi => by
    have ih := scV_get M f l n (by omega)
    rw [scV]
    by_cases e : n = i
    · subst e
      rw [getD_set_eq (by rw [scV_length]; exact hi), ih n hi, if_neg (by omega), if_pos (by omega)]
    · rw [getD_set_ne' e, ih i hi]
      by_cases h : i < n
      · rw [if_pos h, if_pos (by omega)]
      · rw [if_neg h, if_neg (by omega)]
def lgN (pm : List Nat) (Bl : List (List Nat)) (q j : Nat) : Nat := (Bl.getD (pm.getD q 0) []).getD j 0
theorem clB_get {M D C k r : Nat} {pm : List Nat} {Bl : List (List Nat)} (hM : FldM M) (h : SysOk M D C pm Bl) (hr : r < D) : ∀ q, q ≤ D → ∀ q' j, q' < D → j < C → lgN pm (clB M C k r pm Bl q) q' j = if q' < q ∧ q' ≠ r then lgN pm Bl q' j ^^^ mu M (lgN pm Bl q' k) (lgN pm Bl r j) else lgN pm Bl q' j
  | 0, _, q', j, _, _ => by rw [clB, if_neg (by omega)]
  | q + 1, hq, q', j, hq', hj => by
    have ih0 := clB_get (k := k) hM h hr q (by omega)
    have ih := fun j hq' hj => ih0 q' j hq' hj
    obtain ⟨i1, _⟩ := clB_ok (k := k) hM h hr q (by omega)
    rw [clB]
    by_cases e : q = r
    · rw [if_pos e, ih j hq' hj]
      by_cases h1 : q' < q ∧ q' ≠ r
      · rw [if_pos h1, if_pos ⟨by omega, h1.2⟩]
      · rw [if_neg h1, if_neg (by omega)]
    · rw [if_neg e]
      by_cases e2 : q' = q
      · subst e2
        have hb := h.lt q' hq'
        have hm := getDB_mem (Bl := clB M C k r pm Bl q') (a := pm.getD q' 0) (by rw [i1.bl]; exact hb)
        have hl := i1.rl _ hm
        rw [if_pos ⟨by omega, e⟩]
        have hT : ∀ j, j < C → ((clB M C k r pm Bl q').getD (pm.getD q' 0) []).getD j 0 = lgN pm Bl q' j := fun j hj => by
          have := ih0 q' j hq' hj
          rw [if_neg (by omega)] at this
          exact this
        unfold lgN at hT ⊢
        rw [getDB_set _ (by rw [i1.bl]; exact hb), addV_get M _ _ _ C (by omega) j (by omega), if_pos hj, hT j hj]
        by_cases hk : k < C
        · rw [hT k hk]
        · have z1 : ((clB M C k r pm Bl q').getD (pm.getD q' 0) []).getD k 0 = 0 := by
            rw [List.getD_eq_getElem?_getD, List.getElem?_eq_none (by omega)]; rfl
          have hm2 := getDB_mem (Bl := Bl) (a := pm.getD q' 0) (by rw [h.bl]; exact hb)
          have z2 : (Bl.getD (pm.getD q' 0) []).getD k 0 = 0 := by
            rw [List.getD_eq_getElem?_getD, List.getElem?_eq_none (by rw [h.rl _ hm2]; omega)]; rfl
          rw [z1, z2]
      · have hne : pm.getD q 0 ≠ pm.getD q' 0 := fun e3 => e2 (h.nd q q' (by omega) hq' e3).symm
        have hs : ∀ l j, lgN pm ((clB M C k r pm Bl q).set (pm.getD q 0) l) q' j = lgN pm (clB M C k r pm Bl q) q' j := fun l j => by
          unfold lgN; rw [getDB_ne _ hne]
        rw [hs, ih j hq' hj]
        by_cases h1 : q' < q ∧ q' ≠ r
        · rw [if_pos h1, if_pos ⟨by omega, h1.2⟩]
        · rw [if_neg h1, if_neg (by omega)]
def RelL (D C : Nat) (pm : List Nat) (Bl : List (List Nat)) (A : List Nat) : Prop := ∀ q, q < D → ∀ j, j < C → lgN pm Bl q j = gt C A q j
theorem find_rel {D C k : Nat} {pm : List Nat} {Bl : List (List Nat)} {A : List Nat} (h : RelL D C pm Bl A) (hk : k < C) : ∀ n p, p + n ≤ D → findL pm Bl k n p = findP C k A n p
  | 0, p, _ => rfl
  | n + 1, p, hp => by
    rw [findL, findP]
    have h1 := h p (by omega) k hk
    unfold lgN gt at h1
    rw [h1, find_rel h hk n (p + 1) (by omega)]
theorem elim_rel {M D C k r P : Nat} {pm : List Nat} {Bl : List (List Nat)} {A pv : List Nat} (hM : FldM M) (hs : SysOk M D C pm Bl) (h : RelL D C pm Bl A) (hA : A.length = D * C) (hpv : pv.length = r) (hk : k < C) (hr : r < D) (hP : findL pm Bl k (D - r) r = P) (hPD : P < D) :
    (redStep M D C k (A, pv)).2 = pv ++ [k] ∧
    SysOk M D C (swp pm P r) (clB M C k r (swp pm P r) (Bl.set (pm.getD P 0) (scV M (invN M ((Bl.getD (pm.getD P 0) []).getD k 0)) (Bl.getD (pm.getD P 0) []) C)) D) ∧
    RelL D C (swp pm P r) (clB M C k r (swp pm P r) (Bl.set (pm.getD P 0) (scV M (invN M ((Bl.getD (pm.getD P 0) []).getD k 0)) (Bl.getD (pm.getD P 0) []) C)) D) (redStep M D C k (A, pv)).1 := by
  have hPr := (findL_le pm Bl k (D - r) r).1
  have hf := find_rel h hk (D - r) r (by omega)
  rw [hP] at hf
  have hsw := hs.swp hPD hr
  have hsg := fun q => swp_get (pm := pm) (p := P) (r := r) (q := q) (by rw [hs.pl]; exact hPD) (by rw [hs.pl]; exact hr)
  have ha := hs.lt P hPD
  have hm := getDB_mem (Bl := Bl) (a := pm.getD P 0) (by rw [hs.bl]; exact ha)
  have hll := hs.rl _ hm
  have hlx := hs.rx _ hm
  have hxk : ((Bl.getD (pm.getD P 0) []).getD k 0) = gt C A P k := h P hPD k hk
  have hfl : invN M ((Bl.getD (pm.getD P 0) []).getD k 0) < 2 ^ M := invN_lt _
  have hB1 := hsw.set (pm.getD P 0) (l := scV M (invN M ((Bl.getD (pm.getD P 0) []).getD k 0)) (Bl.getD (pm.getD P 0) []) C) (by rw [scV_length]; exact hll) (scV_lt hM hfl hlx C)
  unfold redStep
  dsimp only
  rw [hpv, ← hf, if_neg (by omega)]
  refine ⟨rfl, (clB_ok hM hB1 hr D (Nat.le_refl _)).1, fun q hq j hj => ?_⟩
  rw [clB_get hM hB1 hr D (Nat.le_refl _) q j hq hj]
  have s1 : ∀ q c, c < C → gt C (swapAt (P * C) (r * C) A C) q c = if q = P then gt C A r c else if q = r then gt C A P c else gt C A q c := fun q c hc => gt_swap hA hPD hr hc
  have l1 : (swapAt (P * C) (r * C) A C).length = D * C := by rw [swapAt_length]; exact hA
  have hxe : (swapAt (P * C) (r * C) A C).getD (r * C + k) 0 = gt C A P k := by
    show gt C (swapAt (P * C) (r * C) A C) r k = _
    rw [s1 r k hk]
    by_cases e : r = P
    · rw [if_pos e, e]
    · rw [if_neg e, if_pos rfl]
  rw [hxe, hxk]
  generalize swapAt (P * C) (r * C) A C = L1 at *
  generalize invN M (gt C A P k) = f at *
  have s2 : ∀ q c, c < C → gt C (scaleAt M f (r * C) L1 C) q c = if q = r then mu M f (gt C L1 r c) else gt C L1 q c := fun q c hc => gt_scale l1 hr hc
  have l2 : (scaleAt M f (r * C) L1 C).length = D * C := by rw [scaleAt_length]; exact l1
  generalize scaleAt M f (r * C) L1 C = L2 at *
  have key : ∀ q, q < D → ∀ c, c < C → lgN (swp pm P r) (Bl.set (pm.getD P 0) (scV M f (Bl.getD (pm.getD P 0) []) C)) q c = gt C L2 q c := fun q hq c hc => by
    rw [s2 q c hc]
    unfold lgN
    rw [hsg q]
    by_cases e1 : q = r
    · rw [if_pos e1, if_pos e1, getDB_set _ (by rw [hs.bl]; exact ha), scV_get M f _ C (by omega) c (by omega), if_pos hc, s1 r c hc]
      have := h P hPD c hc
      unfold lgN at this
      rw [this]
      by_cases e : r = P
      · rw [if_pos e, e]
      · rw [if_neg e, if_pos rfl]
    · rw [if_neg e1, if_neg e1, s1 q c hc]
      by_cases e2 : q = P
      · rw [if_pos e2, if_pos e2, getDB_ne _ (fun e3 => e1 (by rw [e2]; exact hs.nd P r hPD hr e3))]
        exact h r hr c hc
      · rw [if_neg e2, if_neg e2, if_neg e1, getDB_ne _ (fun e3 => e2 (hs.nd P q hPD hq e3).symm)]
        exact h q hq c hc
  rw [gt_clear l2 hk hq hj, key q hq j hj, key q hq k hk, key r hr j hj]
  by_cases e : q = r
  · rw [if_neg (by omega), if_pos e, e]
  · rw [if_pos ⟨hq, e⟩, if_neg e]
end Go.Proofs.YtilpljehfcpjeaaGreatDoor
end
section
/- The reference's Express over the machine of abstract values. -/
namespace Go.Proofs.YtilpljehfcpjeaaGreatDoor
open Go.RowKit
set_option maxHeartbeats 4000000
set_option maxRecDepth 100000
def eqA (rows : List (List Nat)) (t : List Nat) (k i : Nat) : List Nat := (List.range k).map fun c => exCol rows t c i
theorem eqA_length (rows : List (List Nat)) (t : List Nat) (k i : Nat) : (eqA rows t k i).length = k := by simp [eqA]
theorem eqA_succ (rows : List (List Nat)) (t : List Nat) (k i : Nat) : eqA rows t (k + 1) i = eqA rows t k i ++ [exCol rows t k i] := by
  unfold eqA; rw [List.range_succ, List.map_append]; rfl
def blA (rows : List (List Nat)) (t : List Nat) (C j : Nat) : List (List Nat) := (List.range j).map (eqA rows t C)
theorem blA_length (rows : List (List Nat)) (t : List Nat) (C j : Nat) : (blA rows t C j).length = j := by simp [blA]
theorem blA_succ (rows : List (List Nat)) (t : List Nat) (C j : Nat) : blA rows t C (j + 1) = blA rows t C j ++ [eqA rows t C j] := by
  unfold blA; rw [List.range_succ, List.map_append]; rfl
theorem range_getD {D q : Nat} (h : q < D) : (List.range D).getD q 0 = q := by
  rw [List.getD_eq_getElem?_getD, List.getElem?_range h]; rfl
theorem blA_getD {rows : List (List Nat)} {t : List Nat} {C D q : Nat} (h : q < D) : (blA rows t C D).getD q [] = eqA rows t C q := by
  unfold blA
  rw [List.getD_eq_getElem?_getD, List.getElem?_map, List.getElem?_range h]; rfl
theorem blA_ok {M D : Nat} {rows : List (List Nat)} {t : List Nat} (hM : FldM M) (hr : ∀ r ∈ rows, ∀ x ∈ r, x < 2 ^ M) (ht : ∀ x ∈ t, x < 2 ^ M) (C : Nat) : SysOk M D C (List.range D) (blA rows t C D) := by
  refine ⟨List.length_range, fun q q' h h' e => by rw [range_getD h, range_getD h'] at e; exact e, fun q h => by rw [range_getD h]; exact h, blA_length .., fun l hl => ?_, fun l hl x hx => ?_⟩
  · obtain ⟨i, _, rfl⟩ := List.mem_map.1 hl
    exact eqA_length ..
  · obtain ⟨i, _, rfl⟩ := List.mem_map.1 hl
    obtain ⟨c, _, rfl⟩ := List.mem_map.1 hx
    exact exCol_lt hM hr ht c i
theorem blA_rel {D : Nat} (rows : List (List Nat)) (t : List Nat) : RelL D (rows.length + 1) (List.range D) (blA rows t (rows.length + 1) D) (exM D rows t) := fun q hq j hj => by
  rw [exM_gt rows t hq hj]
  unfold lgN
  rw [range_getD hq, blA_getD hq]
  unfold eqA
  rw [List.getD_eq_getElem?_getD, List.getElem?_map, List.getElem?_range hj]; rfl
def exprA : Option (List Nat) → AV
  | some K => .tup [nats K, bV true]
  | none => .tup [nats [], bV false]
theorem AVle.gh0 : AVle .top (.gh [] []) := fun F own κ w u _ => by rw [AV.sat, AV.satL]; trivial
theorem exR_len_mono (M D : Nat) (rows : List (List Nat)) (t : List Nat) (k : Nat) : ∀ d, (exR M D rows t (k + d)).2.length ≤ (exR M D rows t k).2.length + d
  | 0 => Nat.le_refl _
  | d + 1 => by
    have ih := exR_len_mono M D rows t k d
    have : (exR M D rows t (k + (d + 1))).2.length ≤ (exR M D rows t (k + d)).2.length + 1 := by
      show (redStep M D (rows.length + 1) (k + d) (exR M D rows t (k + d))).2.length ≤ _
      generalize exR M D rows t (k + d) = s
      unfold redStep
      dsimp only
      split
      · omega
      · rw [List.length_append]; exact Nat.le_refl _
    omega
attribute [local irreducible] Quiet Eff OpOk AWPG ACont ABlock ACalls AGoto
theorem A_express {M D : Nat} {rows : List (List Nat)} {t : List Nat} (hM : FldM M) (hD0 : 0 < D) (hD : D ≤ 32) (hn : rows.length ≤ 32) (hrl : ∀ r ∈ rows, r.length = D) (htl : t.length = D) (hr : ∀ r ∈ rows, ∀ x ∈ r, x < 2 ^ M) (ht : ∀ x ∈ t, x < 2 ^ M) :
    ACalls Tryz.prog 69 [iV M, rowsN rows, nats t] [] (exprA (exprN M D rows t)) [] := by
  refine acalls_of_bodyO Tryz.func69 rfl (Nat.le_of_ble_eq_true rfl) ?_
  have hmr : (rows.map rnD).length = rows.length := List.length_map _
  have hmt : (t.map kD).length = t.length := List.length_map _
  obtain ⟨C, hC⟩ : ∃ C, rows.length + 1 = C := ⟨_, rfl⟩
  (repeat' (first
  | (apply W.qd; (first
    | (apply q_mv; (first|exact vD|exact vO|exact vP|exact vA|exact vF|exact vR|exact vN|exact vY|exact vT|exact vX))|(apply q_as; (first|exact vD|exact vO|exact vP|exact vA|exact vF|exact vR|exact vN|exact vY|exact vT|exact vX))
    | (apply q_buildF; exact rfl; exact rfl; kernel_rfl)))|(apply W.ed; (apply e_boxF; exact rfl; exact rfl; exact rfl; kernel_rfl; kernel_rfl))|(apply AWP.seq)|(apply ACont_normal)|(apply (W.regionS 2); exact rfl; kernel_rfl)
  | (apply Walk.nil)))
  refine AWP.nilBox (l' := [iV M, .osl 1 0 0 0]) 0 1 1 36 rfl rfl (by omega) rfl rfl rfl rfl ?_
  refine AWP.le 999 (.gh [] []) rfl AVle.gh0 ?_
  (repeat' (first
  | (apply W.qd; (apply q_as; (first|exact vD|exact vO|exact vP|exact vA|exact vF|exact vR|exact vN|exact vY|exact vT|exact vX)))|(apply ACont_normal)|(apply (W.regionS 3); exact rfl; kernel_rfl)|(apply Walk.nil)
  | (apply AWP.block)))
  refine AWP.loopE (α := Nat × List Value) (fun s => s.1 ≤ D ∧ s.1 = s.2.length) (fun s => ⟨[(9, iV s.1), (8, .opt 0 0), (0, iV M), (1, rowsN rows), (2, nats t), (999, .gh ((List.range s.1).map (ptrS C C)) s.2)], .box [iV M, .osl 1 s.1 0 s.1] :: .row s.1 1 36 (s.2.map xD) :: (blA rows t C s.1).map (rowE 3 C)⟩) (fun s => D - s.1) (0, []) ⟨Nat.zero_le _, rfl⟩ ⟨rfl, by (repeat (first | exact trivial | refine ⟨rfl, ?_⟩))⟩ fun s hs => ?_
  obtain ⟨j, vs⟩ := s
  obtain ⟨hj, hvs⟩ := hs
  dsimp only at hj hvs ⊢
  have hLl : ((blA rows t C j).map (rowE 3 C)).length = j := by rw [List.length_map, blA_length]
  have hbs : (blA rows t C (j + 1)).map (rowE 3 C) = (blA rows t C j).map (rowE 3 C) ++ [.row C 1 3 ((eqA rows t C j).map kD)] := by rw [blA_succ, List.map_append]; rfl
  by_cases hjD : j < D
  · (repeat' (first
  | (apply W.qd; (first
    | (apply q_mv; (first|exact vD|exact vO|exact vP|exact vA|exact vF|exact vR|exact vN|exact vY|exact vT|exact vX))|(apply q_as; (first|exact vD|exact vO|exact vP|exact vA|exact vF|exact vR|exact vN|exact vY|exact vT|exact vX))|(apply q_lss; exact rfl; exact rfl)
    | (apply q_len_sl; exact rfl; exact rfl)))|(apply AWP.seq)|(apply ACont_normal)|(apply (W.regionS 6); exact rfl; kernel_rfl)|(apply Walk.nil)|(apply AWP.block)|(apply AWP.skip)
  | (refine W.cond _ rfl (fun hb => ?_) (fun hb => ?_) <;> ((try simp only [hb, Bool.not_true, Bool.not_false]) <;> (try simp only [decide_eq_true_eq, decide_eq_false_iff_not, Bool.not_eq_true', Bool.not_eq_false', Int.not_lt, Int.not_le, List.length_map, not_true_eq_false] at hb) <;> (try (exfalso; omega))))))
    refine AWP.nilRow 10 1 3 rfl (by omega) ?_
    generalize (blA rows t C j).map (rowE 3 C) = L at *
    refine AWP.wkE ⟨[(10, .osl (j + 2) 0 0 0), (9, iV j), (8, .opt 0 0), (0, iV M), (1, rowsN rows), (2, nats t), (999, .gh ((List.range j).map (ptrS C C)) vs)], .box [iV M, .osl 1 j 0 j] :: .row j 1 36 (vs.map xD) :: (L ++ [.row 0 1 3 []])⟩ ⟨rfl, congrArg (fun n => AV.osl n 0 0 0) (by simp [hLl]), rfl, rfl, rfl, rfl, rfl, rfl, trivial⟩ ?_
    (repeat' (first
  | (apply W.qd; (apply q_as; (first|exact vD|exact vO|exact vP|exact vA|exact vF|exact vR|exact vN|exact vY|exact vT|exact vX)))|(apply ACont_normal)|(apply (W.regionS 7); exact rfl; kernel_rfl)|(apply Walk.nil)
  | (apply AWP.block)))
    refine AWP.loopE (α := Nat) (fun k => k ≤ rows.length) (fun k => ⟨[(11, iV k), (10, .osl (j + 2) k 0 k), (9, iV j), (8, .opt 0 0), (0, iV M), (1, rowsN rows), (2, nats t), (999, .gh ((List.range j).map (ptrS C C)) vs)], .box [iV M, .osl 1 j 0 j] :: .row j 1 36 (vs.map xD) :: (L ++ [.row k 1 3 ((eqA rows t k j).map kD)])⟩) (fun k => rows.length - k) 0 (Nat.zero_le _) ⟨rfl, by (repeat (first | exact trivial | refine ⟨rfl, ?_⟩))⟩ fun k hk => ?_
    have hes := eqA_succ rows t k j
    have hel := eqA_length rows t k j
    have hp : ((.box [iV M, .osl 1 j 0 j] :: .row j 1 36 (vs.map xD) :: (L ++ [.row k 1 3 ((eqA rows t k j).map kD)])) : List Ent)[j + 2]? = some (.row k 1 3 ((eqA rows t k j).map kD)) := dyn_last hLl
    by_cases hkn : k < rows.length
    · have hrk := hrl _ (List.getElem_mem hkn)
      have hex : exCol rows t k j = (rows[k])[j]'(by omega) := by
        unfold exCol
        rw [if_pos hkn, List.getD_eq_getElem?_getD, List.getD_eq_getElem?_getD, List.getElem?_eq_getElem hkn]
        show (rows[k])[j]?.getD 0 = _
        rw [List.getElem?_eq_getElem (show j < rows[k].length by omega)]; rfl
      rw [hex] at hes
      replace hes := Lib.hid hes
      (repeat' (first
  | (apply W.qd; (first
    | (apply q_mv; (first|exact vD|exact vO|exact vP|exact vA|exact vF|exact vR|exact vN|exact vY|exact vT|exact vX))|(apply q_as; (first|exact vD|exact vO|exact vP|exact vA|exact vF|exact vR|exact vN|exact vY|exact vT|exact vX))|(apply q_lss; exact rfl; exact rfl)|(apply q_add; exact rfl; exact rfl; omega)|(apply q_len_sl; exact rfl; exact rfl)|(apply q_ld_map; exact rfl; exact rfl; exact rfl; (first | omega | (focus (simp; done))))|(apply q_litF; exact rfl; exact rfl; exact rfl; exact rfl; exact rfl; kernel_rfl; kernel_rfl; exact rfl)
    | (apply q_ix_slF; exact rfl; exact rfl; exact rfl; exact rfl; (first | (with_reducible exact rfl) | exact natI_spec rfl | assumption | exact (Int.toNat_of_nonneg (by omega)).symm); (first | omega | (focus (simp only [List.length_map]; omega)) | (focus (simp; done)) | (focus (simp; omega))))))|(apply W.ed; ((apply (s_app1 (f := kD) ((rows[k])[j]'(by omega))); exact rfl; assumption; exact rfl; exact dyn_setl hLl; exact rfl; exact rfl; exact rfl; exact hel.symm; omega)))|(apply AWP.seq)|(apply ACont_normal)|(apply W.region; kernel_rfl)|(apply Walk.nil)|(apply AWP.block)|(apply AWP.skip)|(apply ABlock_normal)
  | (refine W.cond _ rfl (fun hb => ?_) (fun hb => ?_) <;> ((try simp only [hb, Bool.not_true, Bool.not_false]) <;> (try simp only [decide_eq_true_eq, decide_eq_false_iff_not, Bool.not_eq_true', Bool.not_eq_false', Int.not_lt, Int.not_le, List.length_map, not_true_eq_false] at hb) <;> (try (exfalso; omega))))))
      refine ⟨k + 1, by omega, by omega, ?_, iV_eq (by omega), rfl, rfl, rfl, rfl, rfl, rfl, rfl, trivial⟩
      rw [hes.out]
    · have hkn' : k = rows.length := by omega
      subst hkn'
      have hex : exCol rows t rows.length j = t[j]'(by omega) := by
        unfold exCol
        rw [if_neg (by omega), List.getD_eq_getElem?_getD, List.getElem?_eq_getElem (show j < t.length by omega)]; rfl
      rw [hex, hC] at hes
      replace hes := Lib.hid hes
      (repeat' (first
  | (apply W.qd; (first
    | (apply q_mv; (first|exact vD|exact vO|exact vP|exact vA|exact vF|exact vR|exact vN|exact vY|exact vT|exact vX))|(apply q_as; (first|exact vD|exact vO|exact vP|exact vA|exact vF|exact vR|exact vN|exact vY|exact vT|exact vX))|(apply q_lss; exact rfl; exact rfl)|(apply q_len_sl; exact rfl; exact rfl)|(apply q_ld_map; exact rfl; exact rfl; exact rfl; (first | omega | (focus (simp; done))))|(apply q_litF; exact rfl; exact rfl; exact rfl; exact rfl; exact rfl; kernel_rfl; kernel_rfl; exact rfl)
    | (apply q_ix_slF; exact rfl; exact rfl; exact rfl; exact rfl; (first | (with_reducible exact rfl) | exact natI_spec rfl | assumption | exact (Int.toNat_of_nonneg (by omega)).symm); (first | omega | (focus (simp only [List.length_map]; omega)) | (focus (simp; done)) | (focus (simp; omega))))))|(apply W.ed; ((apply (s_app1 (f := kD) (t[j]'(by omega))); exact rfl; assumption; exact rfl; exact dyn_setl hLl; exact rfl; exact rfl; exact rfl; exact hel.symm; omega)))|(apply AWP.seq)|(apply ACont_normal)|(apply (W.regionS 11); exact rfl; kernel_rfl)|(apply Walk.nil)|(apply AWP.exit)|(apply ACont_exit)|(apply ABlock_exit)
  | (refine W.cond _ rfl (fun hb => ?_) (fun hb => ?_) <;> ((try simp only [hb, Bool.not_true, Bool.not_false]) <;> (try simp only [decide_eq_true_eq, decide_eq_false_iff_not, Bool.not_eq_true', Bool.not_eq_false', Int.not_lt, Int.not_le, List.length_map, not_true_eq_false] at hb) <;> (try (exfalso; omega))))))
      rw [hC, ← hes.out]
      refine AWP.name 10 999 (j + 2) rfl (dyn_last hLl) rfl (by omega) fun g cc => ?_
      (repeat' (first
  | (apply W.qd; (first
    | (apply q_mv; (first|exact vD|exact vO|exact vP|exact vA|exact vF|exact vR|exact vN|exact vY|exact vT|exact vX))|(apply q_as; (first|exact vD|exact vO|exact vP|exact vA|exact vF|exact vR|exact vN|exact vY|exact vT|exact vX))|(apply q_fld_optF; exact rfl; exact rfl; exact rfl)|(apply q_ld_box; exact rfl; exact rfl; exact rfl; exact rfl)|(apply q_add; exact rfl; exact rfl; omega)|(apply q_nil_opt; exact rfl)
    | (apply q_litF; exact rfl; exact rfl; exact rfl; exact rfl; exact rfl; kernel_rfl; kernel_rfl; exact rfl)))|(apply W.ed; ((apply (s_app1 (f := xD) (.slice (some ⟨g, 0, none⟩) C cc)); exact rfl; exact rfl; exact rfl; exact rfl; exact rfl; exact rfl; exact rfl; exact hvs; omega)))|(apply W.ln; (apply l_st_box; exact rfl; exact rfl; exact rfl; exact rfl; exact rfl; exact rfl; kernel_rfl; kernel_rfl; kernel_rfl))|(apply ACont_normal)|(apply W.region; kernel_rfl)|(apply Walk.nil)
  | (apply ABlock_normal)))
      refine ⟨(j + 1, vs ++ [.slice (some ⟨g, 0, none⟩) C cc]), ⟨by show j + 1 ≤ D; omega, by show j + 1 = _; simp [hvs]⟩, by show D - (j + 1) < D - j; omega, ?_, iV_eq (by show ((j + 1 : Nat) : Int) = _; omega), rfl, rfl, rfl, rfl, ?_, trivial⟩
      · show _ = _
        dsimp only
        rw [hbs]
        rfl
      · show AV.gh _ _ = AV.gh _ _
        dsimp only
        rw [List.range_succ, List.map_append]; rfl
  · have hjD' : j = D := by omega
    subst hjD'
    clear hbs hLl
    (repeat' (first
  | (apply W.qd; (first
    | (apply q_mv; (first|exact vD|exact vO|exact vP|exact vA|exact vF|exact vR|exact vN|exact vY|exact vT|exact vX))|(apply q_lss; exact rfl; exact rfl)
    | (apply q_len_sl; exact rfl; exact rfl)))|(apply AWP.seq)|(apply ACont_normal)|(apply (W.regionS 12); exact rfl; kernel_rfl)|(apply Walk.nil)|(apply AWP.exit)|(apply ACont_exit)|(apply ABlock_exit)
  | (refine W.cond _ rfl (fun hb => ?_) (fun hb => ?_) <;> ((try simp only [hb, Bool.not_true, Bool.not_false]) <;> (try simp only [decide_eq_true_eq, decide_eq_false_iff_not, Bool.not_eq_true', Bool.not_eq_false', Int.not_lt, Int.not_le, List.length_map, not_true_eq_false] at hb) <;> (try (exfalso; omega))))))
    refine AWP.recast (α := Nat) (fun c => ⟨[(8, .opt 0 0), (0, iV M), (1, rowsN rows)], sysO 3 M C C c j (List.range j) (blA rows t C j)⟩) rfl (fun F κ w a he ho => ?_) fun c => ?_
    · have hg := he 999
      change AV.sat F _ κ w (.gh ((List.range j).map (ptrS C C)) vs) _ at hg
      rw [AV.sat] at hg
      obtain ⟨c, hc⟩ := sys_thaw hD0 (blA_length rows t C j) hvs.symm ho hg
      refine ⟨c, env_of fun p hp => ?_, hc⟩
      have h0 := he 0
      have h1 := he 1
      have h8 := he 8
      change AV.sat F _ κ w (iV M) _ at h0
      change AV.sat F _ κ w (rowsN rows) _ at h1
      change AV.sat F _ κ w (.opt 0 0) _ at h8
      simp only [List.mem_cons, List.not_mem_nil, or_false] at hp
      rcases hp with rfl | rfl | rfl
      · rw [AV.sat] at h8 ⊢
        obtain ⟨g, l, q1, q2, q3⟩ := h8
        exact ⟨g, _, rfl, q2, q3⟩
      · rw [AV.sat] at h0 ⊢; exact h0
      · rw [AV.sat] at h1 ⊢; exact h1
    clear hvs
    have hok0 := blA_ok (D := j) hM hr ht C
    have hrel0 := blA_rel (D := j) rows t
    rw [hC] at hrel0
    generalize blA rows t C j = Bl0 at *
    have hAl := fun k => (red_ok hM (exM_length j rows t) (exM_lt hM hr ht) k).len
    have hApr := fun k => (red_ok hM (exM_length j rows t) (exM_lt hM hr ht) k).pr
    have hmono := exR_len_mono M j rows t
    have hst : ∀ k, exR M j rows t (k + 1) = redStep M j C k (exR M j rows t k) := fun k => by rw [← hC]; rfl
    have hst0 : exR M j rows t 0 = (exM j rows t, []) := rfl
    change ∀ k, (exR M j rows t k).1.length = _ at hAl
    change ∀ k, (exR M j rows t k).2.length ≤ j at hApr
    have hEx : exprN M j rows t = if (exR M j rows t rows.length).2.length = rows.length ∧ ∀ q, q < j → rows.length ≤ q → gt C (exR M j rows t rows.length).1 q rows.length = 0 then some ((List.range rows.length).map fun k => gt C (exR M j rows t rows.length).1 k rows.length) else none := by unfold exprN; rw [hC]
    rw [hC] at hAl
    generalize exprN M j rows t = EX at *
    generalize exR M j rows t = XR at *
    (repeat' (first
  | (apply W.qd; (apply q_as; (first|exact vD|exact vO|exact vP|exact vA|exact vF|exact vR|exact vN|exact vY|exact vT|exact vX)))|(apply ACont_normal)|(apply (W.regionS 13); exact rfl; kernel_rfl)|(apply Walk.nil)
  | (apply AWP.block)))
    refine AWP.loopE (α := Nat × List Nat × List (List Nat)) (fun s => s.1 ≤ rows.length ∧ SysOk M j C s.2.1 s.2.2 ∧ RelL j C s.2.1 s.2.2 (XR s.1).1 ∧ (XR s.1).2.length = s.1) (fun s => ⟨[(12, iV s.1), (8, .opt 0 0), (0, iV M), (1, rowsN rows)], sysO 3 M C C c j s.2.1 s.2.2⟩) (fun s => rows.length - s.1) (0, List.range j, Bl0) ⟨Nat.zero_le _, hok0, by rw [hst0]; exact hrel0, by rw [hst0]; rfl⟩ ⟨rfl, by (repeat (first | exact trivial | refine ⟨rfl, ?_⟩))⟩ fun s hs => ?_
    obtain ⟨k, pm, Bl⟩ := s
    obtain ⟨hk, hok, hrel, hXl⟩ := hs
    dsimp only at hk hok hrel hXl ⊢
    clear hok0 hrel0
    by_cases hkn : k < rows.length
    · have hkj := hApr k
      rw [hXl] at hkj
      have hf := find_rel hrel (k := k) (by omega) (j - k) k (by omega)
      have hfl := findL_le pm Bl k (j - k) k
      by_cases hP : findL pm Bl k (j - k) k = j
      · have hno := A_elim_no (M := M) (v := C) (c := c) hok (by omega) hkj (by omega) (by omega) hP
        have hstk := hst k
        have hXk1 : (XR (k + 1)).2.length = k := by
          rw [hstk, redStep]
          dsimp only
          rw [hXl, ← hf, if_pos hP]; exact hXl
        have hnone : EX = none := by
          rw [hEx, if_neg]
          intro hh
          have := hmono (k + 1) (rows.length - (k + 1))
          rw [show k + 1 + (rows.length - (k + 1)) = rows.length by omega, hXk1, hh.1] at this
          omega
        rw [hnone]
        unfold exprA
        clear hEx hst hmono hAl hApr hf hrel
        (repeat' (first
  | (apply W.qd; (first
    | (apply q_mv; (first|exact vD|exact vO|exact vP|exact vA|exact vF|exact vR|exact vN|exact vY|exact vT|exact vX))|(apply q_as; (first|exact vD|exact vO|exact vP|exact vA|exact vF|exact vR|exact vN|exact vY|exact vT|exact vX))|(apply q_lss; exact rfl; exact rfl)|(apply q_not; exact rfl)
    | (apply q_len_sl; exact rfl; exact rfl)))|(apply W.ed; ((apply (e_callA hno); exact rfl; exact rfl; kernel_rfl)))|(apply AWP.seq)|(apply ACont_normal)|(apply W.region; kernel_rfl)|(apply Walk.nil)|(apply AWP.block)|(apply AWP.skip)|(apply AWP.ret)|(apply ACont_ret)|(apply ABlock_ret)|(apply W.condT; exact rfl)
  | (refine W.cond _ rfl (fun hb => ?_) (fun hb => ?_) <;> ((try simp only [hb, Bool.not_true, Bool.not_false]) <;> (try simp only [decide_eq_true_eq, decide_eq_false_iff_not, Bool.not_eq_true', Bool.not_eq_false', Int.not_lt, Int.not_le, List.length_map, not_true_eq_false] at hb) <;> (try (exfalso; omega))))))
        exact ⟨.inl rfl, [], [.d (.v (.slice none 0 0)), bV false], rfl, rfl, ⟨rfl, rfl, trivial⟩, AVle.tup2 (AVle.nil 1) (AVle.refl _), rfl⟩
      · have hPD : findL pm Bl k (j - k) k < j := by omega
        have hkj2 : k < j := by have := hfl.1; omega
        have hel := A_elim (M := M) (v := C) (c := c) hM hok (by omega) hkj2 (by omega) (by omega) rfl hPD
        obtain ⟨r1, r2, r3⟩ := elim_rel (pv := (XR k).2) hM hok hrel (hAl k) hXl (by omega) hkj2 rfl hPD
        have hstk := hst k
        have e2 : (XR k) = ((XR k).1, (XR k).2) := rfl
        rw [← e2, ← hstk] at r1 r3
        generalize clB M C k k (swp pm (findL pm Bl k (j - k) k) k) (Bl.set (pm.getD (findL pm Bl k (j - k) k) 0) (scV M (invN M ((Bl.getD (pm.getD (findL pm Bl k (j - k) k) 0) []).getD k 0)) (Bl.getD (pm.getD (findL pm Bl k (j - k) k) 0) []) C)) j = Bl' at *
        generalize swp pm (findL pm Bl k (j - k) k) k = pm' at *
        clear hEx hst hmono hAl hApr hf hrel hstk
        (repeat' (first
  | (apply W.qd; (first
    | (apply q_mv; (first|exact vD|exact vO|exact vP|exact vA|exact vF|exact vR|exact vN|exact vY|exact vT|exact vX))|(apply q_as; (first|exact vD|exact vO|exact vP|exact vA|exact vF|exact vR|exact vN|exact vY|exact vT|exact vX))|(apply q_lss; exact rfl; exact rfl)|(apply q_not; exact rfl)|(apply q_add; exact rfl; exact rfl; omega)
    | (apply q_len_sl; exact rfl; exact rfl)))|(apply W.ed; ((apply (e_callA hel); exact rfl; exact rfl; kernel_rfl)))|(apply AWP.seq)|(apply ACont_normal)|(apply W.region; kernel_rfl)|(apply Walk.nil)|(apply AWP.block)|(apply AWP.skip)|(apply ABlock_normal)|(apply W.condF; exact rfl)
  | (refine W.cond _ rfl (fun hb => ?_) (fun hb => ?_) <;> ((try simp only [hb, Bool.not_true, Bool.not_false]) <;> (try simp only [decide_eq_true_eq, decide_eq_false_iff_not, Bool.not_eq_true', Bool.not_eq_false', Int.not_lt, Int.not_le, List.length_map, not_true_eq_false] at hb) <;> (try (exfalso; omega))))))
        exact ⟨(k + 1, pm', Bl'), ⟨by show k + 1 ≤ _; omega, r2, r3, by rw [r1, List.length_append, hXl]; rfl⟩, by show rows.length - (k + 1) < _; omega, rfl, iV_eq (by show ((k + 1 : Nat) : Int) = _; omega), rfl, rfl, rfl, trivial⟩
    have hk' : k = rows.length := by omega
    subst hk'
    have hnj : rows.length ≤ j := by have := hApr rows.length; omega
    have hXA := hrel
    generalize hA : (XR rows.length).1 = A at *
    have hEx2 : EX = if ∀ q, q < j → rows.length ≤ q → gt C A q rows.length = 0 then some ((List.range rows.length).map fun k => gt C A k rows.length) else none := by
      rw [hEx]
      by_cases h : ∀ q, q < j → rows.length ≤ q → gt C A q rows.length = 0
      · rw [if_pos h, if_pos ⟨hXl, h⟩]
      · rw [if_neg h, if_neg fun h2 => h h2.2]
    clear hEx hst hmono hAl hApr hrel hXl
    have hbl := hok.bl
    have hpl := hok.pl
    -- an equation's element
    have hget : ∀ q (L : List Ent), q < j → (((.box [iV M, .bsl 1 j c] :: .box (pm.map (ptrS C C)) :: (Bl.map (rowE 3 C) ++ L)) : List Ent)[pm.getD q 0 + 2]? = some (.row C 1 3 ((Bl.getD (pm.getD q 0) []).map kD))) := fun q L hq => by
      have h1 := hok.lt q hq
      have h2 := sys_get (t := 3) (v := C) (E0 := .box [iV M, .bsl 1 j c]) (E1 := .box (pm.map (ptrS C C))) (Bl := Bl) (p := pm.getD q 0) (by omega)
      rw [← h2]
      show (Bl.map (rowE 3 C) ++ L)[pm.getD q 0]? = (Bl.map (rowE 3 C))[pm.getD q 0]?
      rw [List.getElem?_append_left (by rw [List.length_map]; omega)]
    have hpm := fun q (hq : q < j) => sys_ld (v := C) (C := C) (p := q) (pm := pm) (by omega)
    have hbq : ∀ q, q < j → (Bl.getD (pm.getD q 0) []).length = C := fun q hq => hok.rl _ (getDB_mem (by have := hok.lt q hq; omega))
    have hel : ∀ q, q < j → ∀ h, (Bl.getD (pm.getD q 0) [])[rows.length]'h = gt C A q rows.length := fun q hq h => by
      rw [← hXA q hq rows.length (by omega)]
      unfold lgN
      rw [List.getD_eq_getElem?_getD (l := Bl.getD (pm.getD q 0) []), List.getElem?_eq_getElem h]; rfl
    unfold sysO
    (repeat' (first
  | (apply W.qd; (first
    | (apply q_mv; (first|exact vD|exact vO|exact vP|exact vA|exact vF|exact vR|exact vN|exact vY|exact vT|exact vX))|(apply q_as; (first|exact vD|exact vO|exact vP|exact vA|exact vF|exact vR|exact vN|exact vY|exact vT|exact vX))|(apply q_lss; exact rfl; exact rfl)
    | (apply q_len_sl; exact rfl; exact rfl)))|(apply AWP.seq)|(apply ACont_normal)|(apply (W.regionS 19); exact rfl; kernel_rfl)|(apply Walk.nil)|(apply AWP.block)|(apply AWP.exit)|(apply ACont_exit)|(apply ABlock_exit)
  | (refine W.cond _ rfl (fun hb => ?_) (fun hb => ?_) <;> ((try simp only [hb, Bool.not_true, Bool.not_false]) <;> (try simp only [decide_eq_true_eq, decide_eq_false_iff_not, Bool.not_eq_true', Bool.not_eq_false', Int.not_lt, Int.not_le, List.length_map, not_true_eq_false] at hb) <;> (try (exfalso; omega))))))
    refine AWP.loopE (α := Nat) (fun q => rows.length ≤ q ∧ q ≤ j ∧ ∀ q', q' < q → rows.length ≤ q' → gt C A q' rows.length = 0) (fun q => ⟨[(14, iV q), (8, .opt 0 0), (1, rowsN rows)], .box [iV M, .bsl 1 j c] :: .box (pm.map (ptrS C C)) :: Bl.map (rowE 3 C)⟩) (fun q => j - q) rows.length ⟨Nat.le_refl _, hnj, fun q' h1 h2 => by omega⟩ ⟨rfl, iV_eq (by rw [hmr]), rfl, rfl, trivial⟩ fun q hq => ?_
    obtain ⟨hq1, hq2, hq3⟩ := hq
    by_cases hqj : q < j
    · have g1 := hget q [] hqj
      rw [List.append_nil] at g1
      have g2 := hpm q hqj
      have g3 := hbq q hqj
      have g4 := hel q hqj
      obtain ⟨l, hl⟩ : ∃ l, Bl.getD (pm.getD q 0) [] = l := ⟨_, rfl⟩
      rw [hl] at g1 g3 g4
      replace g4 := g4 (by omega)
      clear hget hpm hbq hel
      clear hl
      generalize pm.getD q 0 = a at *
      have hCn : rows.length < C := by omega
      by_cases hz : gt C A q rows.length = 0
      · rw [hz] at g4
        (repeat' (first
  | (apply W.qd; (first
    | ((apply s_ld; exact rfl; exact rfl; assumption; exact rfl))
    | ((apply s_ix; exact rfl; assumption; exact rfl; exact rfl; exact rfl; omega))
    | ((apply s_ldr; exact rfl; assumption; exact rfl; exact rfl; omega))
    | ((apply q_len_bsl; exact rfl; exact rfl))
    | ((apply q_ix_bsl; exact rfl; exact rfl; exact rfl; exact rfl; omega))|(apply q_mv; (first|exact vD|exact vO|exact vP|exact vA|exact vF|exact vR|exact vN|exact vY|exact vT|exact vX))|(apply q_as; (first|exact vD|exact vO|exact vP|exact vA|exact vF|exact vR|exact vN|exact vY|exact vT|exact vX))|(apply q_fld_optF; exact rfl; exact rfl; exact rfl)|(apply q_ld_box; exact rfl; exact rfl; exact rfl; exact rfl)|(apply q_lss; exact rfl; exact rfl)|(apply q_neq; exact rfl; exact rfl)|(apply q_add; exact rfl; exact rfl; omega)|(apply q_len_sl; exact rfl; exact rfl)
    | (apply q_nil_opt; exact rfl)))|(apply AWP.seq)|(apply ACont_normal)|(apply W.region; kernel_rfl)|(apply Walk.nil)|(apply AWP.block)|(apply AWP.skip)|(apply ABlock_normal)
  | (refine W.cond _ rfl (fun hb => ?_) (fun hb => ?_) <;> ((try simp only [hb, Bool.not_true, Bool.not_false]) <;> (try simp only [decide_eq_true_eq, decide_eq_false_iff_not, Bool.not_eq_true', Bool.not_eq_false', Int.not_lt, Int.not_le, List.length_map, not_true_eq_false] at hb) <;> (try (exfalso; omega))))))
        exact ⟨q + 1, ⟨by omega, by omega, fun q' h1 h2 => by
          by_cases e : q' = q
          · rw [e]; exact hz
          · exact hq3 q' (by omega) h2⟩, by omega, rfl, iV_eq (by omega), rfl, rfl, trivial⟩
      · rw [hEx2, if_neg fun h => hz (h q hqj hq1)]
        unfold exprA
        have g5 : l[rows.length]'(by omega) ≠ 0 := by rw [g4]; exact hz
        (repeat' (first
  | (apply W.qd; (first
    | ((apply s_ld; exact rfl; exact rfl; assumption; exact rfl))
    | ((apply s_ix; exact rfl; assumption; exact rfl; exact rfl; exact rfl; omega))
    | ((apply s_ldr; exact rfl; assumption; exact rfl; exact rfl; omega))
    | ((apply q_len_bsl; exact rfl; exact rfl))
    | ((apply q_ix_bsl; exact rfl; exact rfl; exact rfl; exact rfl; omega))|(apply q_mv; (first|exact vD|exact vO|exact vP|exact vA|exact vF|exact vR|exact vN|exact vY|exact vT|exact vX))|(apply q_as; (first|exact vD|exact vO|exact vP|exact vA|exact vF|exact vR|exact vN|exact vY|exact vT|exact vX))|(apply q_fld_optF; exact rfl; exact rfl; exact rfl)|(apply q_ld_box; exact rfl; exact rfl; exact rfl; exact rfl)|(apply q_lss; exact rfl; exact rfl)|(apply q_neq; exact rfl; exact rfl)|(apply q_len_sl; exact rfl; exact rfl)
    | (apply q_nil_opt; exact rfl)))|(apply AWP.seq)|(apply ACont_normal)|(apply W.region; kernel_rfl)|(apply Walk.nil)|(apply AWP.block)|(apply AWP.skip)|(apply AWP.ret)|(apply ACont_ret)|(apply ABlock_ret)
  | (refine W.cond _ rfl (fun hb => ?_) (fun hb => ?_) <;> ((try simp only [hb, Bool.not_true, Bool.not_false]) <;> (try simp only [decide_eq_true_eq, decide_eq_false_iff_not, Bool.not_eq_true', Bool.not_eq_false', Int.not_lt, Int.not_le, List.length_map, not_true_eq_false] at hb) <;> (try (exfalso; omega))))))
        exact ⟨.inl rfl, [], [.d (.v (.slice none 0 0)), bV false], rfl, rfl, ⟨rfl, rfl, trivial⟩, AVle.tup2 (AVle.nil 1) (AVle.refl _), rfl⟩
    · have hqj' : q = j := by omega
      subst hqj'
      rw [hEx2, if_pos hq3]
      unfold exprA
      clear hEx2
      (repeat' (first
  | (apply W.qd; (first
    | ((apply q_len_bsl; exact rfl; exact rfl))|(apply q_mv; (first|exact vD|exact vO|exact vP|exact vA|exact vF|exact vR|exact vN|exact vY|exact vT|exact vX))|(apply q_as; (first|exact vD|exact vO|exact vP|exact vA|exact vF|exact vR|exact vN|exact vY|exact vT|exact vX))|(apply q_fld_optF; exact rfl; exact rfl; exact rfl)|(apply q_ld_box; exact rfl; exact rfl; exact rfl; exact rfl)|(apply q_lss; exact rfl; exact rfl)
    | (apply q_nil_opt; exact rfl)))|(apply AWP.seq)|(apply ACont_normal)|(apply (W.regionS 24); exact rfl; kernel_rfl)|(apply Walk.nil)|(apply AWP.exit)|(apply ACont_exit)|(apply ABlock_exit)
  | (refine W.cond _ rfl (fun hb => ?_) (fun hb => ?_) <;> ((try simp only [hb, Bool.not_true, Bool.not_false]) <;> (try simp only [decide_eq_true_eq, decide_eq_false_iff_not, Bool.not_eq_true', Bool.not_eq_false', Int.not_lt, Int.not_le, List.length_map, not_true_eq_false] at hb) <;> (try (exfalso; omega))))))
      refine AWP.nilRow 15 1 3 rfl (by omega) ?_
      refine AWP.wkE ⟨[(15, .osl (q + 2) 0 0 0), (8, .opt 0 0), (1, rowsN rows)], .box [iV M, .bsl 1 q c] :: .box (pm.map (ptrS C C)) :: (Bl.map (rowE 3 C) ++ [.row 0 1 3 []])⟩ ⟨rfl, congrArg (fun n => AV.osl n 0 0 0) (by simp [hbl]), rfl, rfl, trivial⟩ ?_
      have hLl : (Bl.map (rowE 3 C)).length = q := by rw [List.length_map]; exact hbl
      (repeat' (first
  | (apply W.qd; (apply q_as; (first|exact vD|exact vO|exact vP|exact vA|exact vF|exact vR|exact vN|exact vY|exact vT|exact vX)))|(apply ACont_normal)|(apply (W.regionS 25); exact rfl; kernel_rfl)|(apply Walk.nil)
  | (apply AWP.block)))
      refine AWP.loopE (α := Nat) (fun k => k ≤ rows.length) (fun k => ⟨[(16, iV k), (15, .osl (q + 2) k 0 k), (8, .opt 0 0), (1, rowsN rows)], .box [iV M, .bsl 1 q c] :: .box (pm.map (ptrS C C)) :: (Bl.map (rowE 3 C) ++ [.row k 1 3 (((List.range k).map fun k => gt C A k rows.length).map kD)])⟩) (fun k => rows.length - k) 0 (Nat.zero_le _) ⟨rfl, by (repeat (first | exact trivial | refine ⟨rfl, ?_⟩))⟩ fun k hk => ?_
      have hp : ((.box [iV M, .bsl 1 q c] :: .box (pm.map (ptrS C C)) :: (Bl.map (rowE 3 C) ++ [.row k 1 3 (((List.range k).map fun k => gt C A k rows.length).map kD)])) : List Ent)[q + 2]? = some (.row k 1 3 (((List.range k).map fun k => gt C A k rows.length).map kD)) := dyn_last hLl
      by_cases hkn : k < rows.length
      · have g1 := hget k [.row k 1 3 (((List.range k).map fun k => gt C A k rows.length).map kD)] (by omega)
        have g2 := hpm k (by omega)
        have g3 := hbq k (by omega)
        have g4 := hel k (by omega)
        obtain ⟨l, hl⟩ : ∃ l, Bl.getD (pm.getD k 0) [] = l := ⟨_, rfl⟩
        rw [hl] at g1 g3 g4
        replace g4 := g4 (by omega)
        have hls : ((List.range (k + 1)).map fun k => gt C A k rows.length) = ((List.range k).map fun k => gt C A k rows.length) ++ [gt C A k rows.length] := by rw [List.range_succ, List.map_append]; rfl
        have hll : ((List.range k).map fun k => gt C A k rows.length).length = k := by simp
        have g5 : l[(rows.map rnD).length]'(by omega) = gt C A k rows.length := by simp only [hmr]; exact g4
        rw [← g5] at hls
        replace hls := Lib.hid hls
        clear hget hpm hbq hel
        clear hl
        generalize pm.getD k 0 = a at *
        have hCn : rows.length < C := by omega
        (repeat' (first
  | (apply W.qd; (first
    | ((apply s_ld; exact rfl; exact rfl; assumption; exact rfl))
    | ((apply s_ix; exact rfl; assumption; exact rfl; exact rfl; exact rfl; omega))
    | ((apply s_ldr; exact rfl; assumption; exact rfl; exact rfl; omega))
    | ((apply q_ix_bsl; exact rfl; exact rfl; exact rfl; exact rfl; omega))|(apply q_mv; (first|exact vD|exact vO|exact vP|exact vA|exact vF|exact vR|exact vN|exact vY|exact vT|exact vX))|(apply q_as; (first|exact vD|exact vO|exact vP|exact vA|exact vF|exact vR|exact vN|exact vY|exact vT|exact vX))|(apply q_fld_optF; exact rfl; exact rfl; exact rfl)|(apply q_ld_box; exact rfl; exact rfl; exact rfl; exact rfl)|(apply q_lss; exact rfl; exact rfl)|(apply q_add; exact rfl; exact rfl; omega)|(apply q_len_sl; exact rfl; exact rfl)|(apply q_nil_opt; exact rfl)
    | (apply q_litF; exact rfl; exact rfl; exact rfl; exact rfl; exact rfl; kernel_rfl; kernel_rfl; exact rfl)))|(apply W.ed; ((apply (s_app1 (f := kD) (l[(rows.map rnD).length]'(by omega))); exact rfl; assumption; exact rfl; exact dyn_setl hLl; exact rfl; exact rfl; exact rfl; exact hll.symm; omega)))|(apply AWP.seq)|(apply ACont_normal)|(apply W.region; kernel_rfl)|(apply Walk.nil)|(apply AWP.block)|(apply AWP.skip)|(apply ABlock_normal)
  | (refine W.cond _ rfl (fun hb => ?_) (fun hb => ?_) <;> ((try simp only [hb, Bool.not_true, Bool.not_false]) <;> (try simp only [decide_eq_true_eq, decide_eq_false_iff_not, Bool.not_eq_true', Bool.not_eq_false', Int.not_lt, Int.not_le, List.length_map, not_true_eq_false] at hb) <;> (try (exfalso; omega))))))
        refine ⟨k + 1, by omega, by omega, ?_, iV_eq (by omega), rfl, rfl, rfl, trivial⟩
        rw [hls.out]
      · have hkn' : k = rows.length := by omega
        subst hkn'
        refine AWP.wk ⟨[(16, iV rows.length), (15, nats ((List.range rows.length).map fun k => gt C A k rows.length)), (1, rowsN rows)], []⟩ ⟨[], rfl, rfl, rfl, rfl, (frz_rowJ hp rfl (by simp)).symm, rfl, trivial⟩ ?_
        (repeat' (first
  | (apply W.qd; (first
    | (apply q_mv; (first|exact vD|exact vO|exact vP|exact vA|exact vF|exact vR|exact vN|exact vY|exact vT|exact vX))|(apply q_as; (first|exact vD|exact vO|exact vP|exact vA|exact vF|exact vR|exact vN|exact vY|exact vT|exact vX))|(apply q_lss; exact rfl; exact rfl)
    | (apply q_len_sl; exact rfl; exact rfl)))|(apply AWP.seq)|(apply ACont_normal)|(apply W.region; kernel_rfl)|(apply Walk.nil)|(apply AWP.exit)|(apply AWP.ret)|(apply ACont_exit)|(apply ABlock_exit)
  | (refine W.cond _ rfl (fun hb => ?_) (fun hb => ?_) <;> ((try simp only [hb, Bool.not_true, Bool.not_false]) <;> (try simp only [decide_eq_true_eq, decide_eq_false_iff_not, Bool.not_eq_true', Bool.not_eq_false', Int.not_lt, Int.not_le, List.length_map, not_true_eq_false] at hb) <;> (try (exfalso; omega))))))
        exact ⟨.inl rfl, [], [nats ((List.range rows.length).map fun k => gt C A k rows.length), bV true], rfl, rfl, ⟨rfl, rfl, trivial⟩, AVle.of_eq rfl, rfl⟩
end Go.Proofs.YtilpljehfcpjeaaGreatDoor
end
section
/- The reference of layer 8 over the machine of abstract values: Basis, Combination, Recoverable. -/
namespace Go.Proofs.YtilpljehfcpjeaaGreatDoor
open Go.RowKit
set_option maxHeartbeats 4000000
set_option maxRecDepth 100000
theorem frz_rowS {own own' : List Ent} {i ver n sz : Nat} {e : TypeId} {l : List (List Dat)} (ho : own[i]? = some (.row ver sz e l)) (hs : own'[i]? = own[i]?) (hn : n = l.length) : AV.frz own' [] (.osl i ver 0 n) = .d (.sl sz l) := frz_rowJ (hs.trans ho) rfl hn
theorem takeB_succ {B : List Nat} {m : Nat} (hm : m < B.length) : B.take (m + 1) = B.take m ++ [B.getD m 0] := by
  have : B.getD m 0 = B[m] := by rw [List.getD_eq_getElem?_getD, List.getElem?_eq_getElem hm]; rfl
  rw [List.take_succ_eq_append_getElem hm, this]
theorem bas_pres {M D : Nat} {ps : List (List Nat)} {hv : List Bool} (h : CodeOk M D ps) (hl : hv.length = D + ps.length) {q : Nat} (hq : q < (basisN M D ps hv).length) : hv.getD ((basisN M D ps hv).getD q 0) false = true := by
  obtain ⟨T, S, hB⟩ := basis_to h hl
  exact hB.mem q hq
theorem bas_inc {M D : Nat} {ps : List (List Nat)} {hv : List Bool} (h : CodeOk M D ps) (hl : hv.length = D + ps.length) {q q' : Nat} (hqq : q < q') (hq : q' < (basisN M D ps hv).length) : (basisN M D ps hv).getD q 0 < (basisN M D ps hv).getD q' 0 := by
  obtain ⟨T, S, hB⟩ := basis_to h hl
  exact hB.inc q q' hqq hq
attribute [local irreducible] Quiet Eff OpOk AWPG ACont ABlock ACalls AGoto
theorem A_r8basis {M D : Nat} {ps : List (List Nat)} {hv : List Bool} (h : CodeOk M D ps) (hl : hv.length = D + ps.length) : ACalls Tryz.prog 67 [cdN M D ps, bools hv] [] (.tup [nats (basisN M D ps hv), iV 0]) [] := by
  refine acalls_of_bodyO Tryz.func67 rfl (Nat.le_of_ble_eq_true rfl) ?_
  have hM := h.f
  have h1 := h.d
  have h2 := h.w
  have hw := A_r8widthN h
  have hmh : (hv.map tD).length = hv.length := List.length_map _
  have hbl := bas_le h hl
  have hpres := fun q hq => bas_pres h hl (q := q) hq
  have hinc := fun q q' hqq hq => bas_inc h hl (q := q) (q' := q') hqq hq
  have hnone := fun m hm => step_none h hl (m := m) hm
  have hsome := fun m i hi hm hge => step_some h hl (m := m) (i := i) hi hm hge
  have hrow := fun i (hi : i < D + ps.length) => A_r8row h hi
  have hexp := fun m i (hm : m ≤ (basisN M D ps hv).length) => A_express (M := M) (D := D) (rows := takeR D ps (basisN M D ps hv) m) (t := rowN D ps i) hM (by omega) (by omega) (by rw [takeR_length hm]; omega) (fun r hr => by
    obtain ⟨u, _, rfl⟩ := List.mem_map.1 hr; exact rowN_length ..) (rowN_length ..) (takeR_lt h hl _ _) (rowN_lt h hl i)
  generalize basisN M D ps hv = B at *
  have htl := fun m (hm : m ≤ B.length) => takeR_length (D := D) (ps := ps) (B := B) hm
  have hts := fun m (hm : m < B.length) => Lib.hid (takeR_succ (D := D) (ps := ps) (B := B) hm)
  have hbs := fun m (hm : m < B.length) => Lib.hid (takeB_succ (B := B) hm)
  have ht0 : takeR D ps B 0 = [] := rfl
  obtain ⟨Wd, hW⟩ : ∃ Wd, D + ps.length = Wd := ⟨_, rfl⟩
  rw [hW] at hw hl hrow
  (repeat' (first
  | (apply W.gOn; exact rfl; exact rfl)
  | (apply W.qd; (first
    | (apply (q_callC (hw)); exact rfl; exact rfl; kernel_rfl; kernel_rfl; kernel_rfl)|(apply q_mv; (first|exact vD|exact vO|exact vP|exact vA|exact vF|exact vR|exact vN|exact vY|exact vT|exact vX))|(apply q_as; (first|exact vD|exact vO|exact vP|exact vA|exact vF|exact vR|exact vN|exact vY|exact vT|exact vX))|(apply q_ld_boxF; exact rfl; exact rfl; exact rfl; exact rfl)|(apply q_eql; exact rfl; exact rfl)|(apply q_neq; exact rfl; exact rfl)|(apply q_len_sl; exact rfl; exact rfl)
    | (apply (q_pickF (u := .d _)); exact rfl; exact rfl)))|(apply W.ed; (apply e_boxF; exact rfl; exact rfl; exact rfl; kernel_rfl; kernel_rfl))|(apply AWP.seq)|(apply ACont_normal)|(apply (W.regionS 6); exact rfl; kernel_rfl)|(apply Walk.nil)|(apply AWP.skip)|(refine W.gF _ _ rfl rfl (fun hb => ?_) (fun hb => ?_) <;> ((try simp only [hb, Bool.not_true, Bool.not_false]) <;> (try simp only [decide_eq_true_eq, decide_eq_false_iff_not, Bool.not_eq_true', Bool.not_eq_false', Int.not_lt, Int.not_le, List.length_map, not_true_eq_false] at hb) <;> (try (exfalso; omega))))
  | (refine W.cond _ rfl (fun hb => ?_) (fun hb => ?_) <;> ((try simp only [hb, Bool.not_true, Bool.not_false]) <;> (try simp only [decide_eq_true_eq, decide_eq_false_iff_not, Bool.not_eq_true', Bool.not_eq_false', Int.not_lt, Int.not_le, List.length_map, not_true_eq_false] at hb) <;> (try (exfalso; omega))))))
  refine AWP.nilRow 7 1 3 rfl (by omega) ?_
  refine AWP.nilRow 8 1 36 rfl (by omega) ?_
  (repeat' (first
  | (apply W.qd; (apply q_as; (first|exact vD|exact vO|exact vP|exact vA|exact vF|exact vR|exact vN|exact vY|exact vT|exact vX)))|(apply ACont_normal)|(apply (W.regionS 7); exact rfl; kernel_rfl)|(apply Walk.nil)
  | (apply AWP.block)))
  refine AWP.loopW (α := Nat × Nat) (fun s => s.1 ≤ Wd ∧ s.2 ≤ B.length ∧ (∀ q, q < s.2 → B.getD q 0 < s.1) ∧ ∀ q, s.2 ≤ q → q < B.length → s.1 ≤ B.getD q 0) (fun s => ⟨[(9, iV s.1), (6, iV Wd), (7, .osl 1 s.2 0 s.2), (8, .osl 2 s.2 0 s.2), (1, bools hv), (2, .opt 0 0)], [.box [.d .any, iV M, iV D, rowsN ps, .d .any], .row s.2 1 3 ((B.take s.2).map kD), .row s.2 1 36 ((takeR D ps B s.2).map rnD)]⟩) (fun s => Wd - s.1) (0, 0) ⟨Nat.zero_le _, Nat.zero_le _, fun q hq => by omega, fun q _ _ => Nat.zero_le _⟩ ⟨[0, 1, 2], rfl, rfl, rfl, by (repeat (first | exact trivial | refine ⟨rfl, ?_⟩))⟩ fun s hs => ?_
  obtain ⟨i, m⟩ := s
  obtain ⟨p1, p2, p3, p4⟩ := hs
  dsimp only at p1 p2 p3 p4 ⊢
  by_cases hiW : i < Wd
  · have eg : hv.getD i false = hv[i]'(by omega) := by rw [List.getD_eq_getElem?_getD, List.getElem?_eq_getElem (show i < hv.length by omega)]; rfl
    have hr := hrow i hiW
    have he := hexp m i p2
    have hl2 := htl m p2
    have hfz : ∀ own own' : List Ent, own[2]? = some (.row m 1 36 ((takeR D ps B m).map rnD)) → same [2] own own' → AV.frzL own' [] [iV M, .osl 2 m 0 m, nats (rowN D ps i)] = [iV M, rowsN (takeR D ps B m), nats (rowN D ps i)] := fun own own' h1 h2 =>
      congrArg (fun z => [iV M, z, nats (rowN D ps i)]) (frz_rowS h1 (h2 2 (by simp)) (by rw [List.length_map]; exact hl2.symm))
    have hbt : (B.take m).length = m := by rw [List.length_take]; omega
    cases hb0 : hv[i]'(by omega) with
    | false =>
      have hne : ∀ q, m ≤ q → q < B.length → i + 1 ≤ B.getD q 0 := fun q h5 h6 => by
        have h7 := p4 q h5 h6
        by_cases e : B.getD q 0 = i
        · have := hpres q h6; rw [e, eg, hb0] at this; cases this
        · omega
      clear he hexp hr hrow hnone hsome hts hbs
      (repeat' (first
  | (apply W.qd; (first
    | (apply q_mv; (first|exact vD|exact vO|exact vP|exact vA|exact vF|exact vR|exact vN|exact vY|exact vT|exact vX))|(apply q_as; (first|exact vD|exact vO|exact vP|exact vA|exact vF|exact vR|exact vN|exact vY|exact vT|exact vX))|(apply q_fld_optF; exact rfl; exact rfl; exact rfl)|(apply q_ld_box; exact rfl; exact rfl; exact rfl; exact rfl)|(apply q_ld_boxF; exact rfl; exact rfl; exact rfl; exact rfl)|(apply q_lss; exact rfl; exact rfl)|(apply q_not; exact rfl)|(apply q_add; exact rfl; exact rfl; omega)|(apply q_ld_map; exact rfl; exact rfl; exact rfl; (first | omega | (focus (simp; done))))
    | (apply q_ix_slF; exact rfl; exact rfl; exact rfl; exact rfl; (first | (with_reducible exact rfl) | exact natI_spec rfl | assumption | exact (Int.toNat_of_nonneg (by omega)).symm); (first | omega | (focus (simp only [List.length_map]; omega)) | (focus (simp; done)) | (focus (simp; omega))))))|(apply AWP.seq)|(apply ACont_normal)|(apply W.region; kernel_rfl)|(apply W.regionD; exact rfl; kernel_rfl)|(apply Walk.nil)|(apply AWP.block)|(apply AWP.skip)|(apply AWP.exit)|(apply ACont_exit)|(apply ABlock_exit)
  | (refine W.cond _ rfl (fun hb => ?_) (fun hb => ?_) <;> ((try simp only [hb, Bool.not_true, Bool.not_false]) <;> (try simp only [decide_eq_true_eq, decide_eq_false_iff_not, Bool.not_eq_true', Bool.not_eq_false', Int.not_lt, Int.not_le, List.length_map, not_true_eq_false] at hb) <;> (try (exfalso; omega))))))
      (all_goals (try (exfalso; exact absurd ((‹hv[i] = true› : hv[i] = true).symm.trans (‹hv[i] = false› : hv[i] = false)) (by decide))))
      all_goals exact ⟨(i + 1, m), ⟨by show i + 1 ≤ Wd; omega, p2, fun q hq => Nat.lt_succ_of_lt (p3 q hq), hne⟩, by show Wd - (i + 1) < _; omega, [0, 1, 2], rfl, rfl, rfl, iV_eq (by show ((i + 1 : Nat) : Int) = _; omega), rfl, rfl, rfl, rfl, rfl, trivial⟩
    | true =>
      by_cases hcase : ∃ hm : m < B.length, B.getD m 0 = i
      · obtain ⟨hm, hBm⟩ := hcase
        have hno := hnone m hm
        rw [hBm] at hno
        rw [hno] at he
        unfold exprA at he
        dsimp only at he
        have hts2 := hts m hm
        have hbs2 := hbs m hm
        rw [hBm] at hts2 hbs2
        have hn1 : ∀ q, q < m + 1 → B.getD q 0 < i + 1 := fun q hq => by
          by_cases e : q = m
          · rw [e, hBm]; omega
          · have := p3 q (by omega); omega
        have hn2 : ∀ q, m + 1 ≤ q → q < B.length → i + 1 ≤ B.getD q 0 := fun q h5 h6 => by have := hinc m q (by omega) h6; omega
        clear hexp hrow hnone hsome hts hbs p3 p4
        generalize takeR D ps B m = R at *
        generalize B.take m = T at *
        generalize rowN D ps i = rw0 at *
        (repeat' (first
  | (apply W.qd; (first
    | (apply (q_callC (hr)); exact rfl; exact rfl; kernel_rfl; kernel_rfl; kernel_rfl)
    | ((apply (q_callF (js := [2]) he); exact rfl; exact fun own' hh => hfz _ own' rfl hh; exact rfl; kernel_rfl))|(apply q_mv; (first|exact vD|exact vO|exact vP|exact vA|exact vF|exact vR|exact vN|exact vY|exact vT|exact vX))|(apply q_as; (first|exact vD|exact vO|exact vP|exact vA|exact vF|exact vR|exact vN|exact vY|exact vT|exact vX))|(apply q_fld_optF; exact rfl; exact rfl; exact rfl)|(apply q_ld_box; exact rfl; exact rfl; exact rfl; exact rfl)|(apply q_ld_boxF; exact rfl; exact rfl; exact rfl; exact rfl)|(apply q_lss; exact rfl; exact rfl)|(apply q_not; exact rfl)|(apply q_add; exact rfl; exact rfl; omega)|(apply q_extract; exact rfl; exact rfl)|(apply q_ld_map; exact rfl; exact rfl; exact rfl; (first | omega | (focus (simp; done))))|(apply q_litF; exact rfl; exact rfl; exact rfl; exact rfl; exact rfl; kernel_rfl; kernel_rfl; exact rfl)
    | (apply q_ix_slF; exact rfl; exact rfl; exact rfl; exact rfl; (first | (with_reducible exact rfl) | exact natI_spec rfl | assumption | exact (Int.toNat_of_nonneg (by omega)).symm); (first | omega | (focus (simp only [List.length_map]; omega)) | (focus (simp; done)) | (focus (simp; omega))))))
  | (apply W.ed; (first
    | ((apply (s_app1 (f := kD) i); exact rfl; exact rfl; exact rfl; exact rfl; exact rfl; exact rfl; exact rfl; exact hbt.symm; omega))
    | ((apply (s_app1 (f := rnD) rw0); exact rfl; exact rfl; exact rfl; exact rfl; exact rfl; exact rfl; exact rfl; exact hl2.symm; omega))))|(apply AWP.seq)|(apply ACont_normal)|(apply W.region; kernel_rfl)|(apply W.regionD; exact rfl; kernel_rfl)|(apply Walk.nil)|(apply W.chk; kernel_rfl)|(apply AWP.block)|(apply AWP.skip)|(apply AWP.exit)|(apply ACont_exit)|(apply ABlock_normal)|(apply ABlock_exit)|(apply W.condT; exact rfl)
  | (refine W.cond _ rfl (fun hb => ?_) (fun hb => ?_) <;> ((try simp only [hb, Bool.not_true, Bool.not_false]) <;> (try simp only [decide_eq_true_eq, decide_eq_false_iff_not, Bool.not_eq_true', Bool.not_eq_false', Int.not_lt, Int.not_le, List.length_map, not_true_eq_false] at hb) <;> (try (exfalso; omega))))))
        (all_goals (try (exfalso; exact absurd ((‹hv[i] = true› : hv[i] = true).symm.trans (‹hv[i] = false› : hv[i] = false)) (by decide))))
        all_goals refine ⟨(i + 1, m + 1), ⟨by show i + 1 ≤ Wd; omega, by show m + 1 ≤ _; omega, hn1, hn2⟩, by show Wd - (i + 1) < _; omega, [0, 1, 2], rfl, rfl, ?_, iV_eq (by show ((i + 1 : Nat) : Int) = _; omega), rfl, rfl, rfl, rfl, rfl, trivial⟩
        all_goals (show [_, Ent.row (m + 1) 1 _ ((B.take (m + 1)).map kD), Ent.row (m + 1) 1 _ ((takeR D ps B (m + 1)).map rnD)] = _; rw [hts2.out, hbs2.out]; rfl)
      · have hne : ∀ q, m ≤ q → q < B.length → i < B.getD q 0 := fun q h5 h6 => by
          have h7 := p4 q h5 h6
          by_cases e : B.getD q 0 = i
          · exfalso
            by_cases e2 : q = m
            · exact hcase ⟨by omega, by rw [← e2]; exact e⟩
            · have h8 := hinc m q (by omega) h6
              have h9 := p4 m (Nat.le_refl _) (by omega)
              omega
          · omega
        have hso := hsome m i (by rw [eg, hb0]) p2 hne
        obtain ⟨K, hK⟩ := Option.isSome_iff_exists.1 hso
        rw [hK] at he
        unfold exprA at he
        dsimp only at he
        clear hexp hrow hnone hsome hts hbs p4 hso
        (repeat' (first
  | (apply W.qd; (first
    | (apply (q_callC (hr)); exact rfl; exact rfl; kernel_rfl; kernel_rfl; kernel_rfl)
    | ((apply (q_callF (js := [2]) he); exact rfl; exact fun own' hh => hfz _ own' rfl hh; exact rfl; kernel_rfl))|(apply q_mv; (first|exact vD|exact vO|exact vP|exact vA|exact vF|exact vR|exact vN|exact vY|exact vT|exact vX))|(apply q_as; (first|exact vD|exact vO|exact vP|exact vA|exact vF|exact vR|exact vN|exact vY|exact vT|exact vX))|(apply q_fld_optF; exact rfl; exact rfl; exact rfl)|(apply q_ld_box; exact rfl; exact rfl; exact rfl; exact rfl)|(apply q_ld_boxF; exact rfl; exact rfl; exact rfl; exact rfl)|(apply q_lss; exact rfl; exact rfl)|(apply q_not; exact rfl)|(apply q_add; exact rfl; exact rfl; omega)|(apply q_extract; exact rfl; exact rfl)|(apply q_ld_map; exact rfl; exact rfl; exact rfl; (first | omega | (focus (simp; done))))
    | (apply q_ix_slF; exact rfl; exact rfl; exact rfl; exact rfl; (first | (with_reducible exact rfl) | exact natI_spec rfl | assumption | exact (Int.toNat_of_nonneg (by omega)).symm); (first | omega | (focus (simp only [List.length_map]; omega)) | (focus (simp; done)) | (focus (simp; omega))))))|(apply AWP.seq)|(apply ACont_normal)|(apply W.region; kernel_rfl)|(apply W.regionD; exact rfl; kernel_rfl)|(apply Walk.nil)|(apply W.chk; kernel_rfl)|(apply AWP.block)|(apply AWP.skip)|(apply AWP.exit)|(apply ACont_exit)|(apply ABlock_normal)|(apply ABlock_exit)|(apply W.condF; exact rfl)
  | (refine W.cond _ rfl (fun hb => ?_) (fun hb => ?_) <;> ((try simp only [hb, Bool.not_true, Bool.not_false]) <;> (try simp only [decide_eq_true_eq, decide_eq_false_iff_not, Bool.not_eq_true', Bool.not_eq_false', Int.not_lt, Int.not_le, List.length_map, not_true_eq_false] at hb) <;> (try (exfalso; omega))))))
        (all_goals (try (exfalso; exact absurd ((‹hv[i] = true› : hv[i] = true).symm.trans (‹hv[i] = false› : hv[i] = false)) (by decide))))
        all_goals exact ⟨(i + 1, m), ⟨by show i + 1 ≤ Wd; omega, p2, fun q hq => Nat.lt_succ_of_lt (p3 q hq), fun q h5 h6 => hne q h5 h6⟩, by show Wd - (i + 1) < _; omega, [0, 1, 2], rfl, rfl, rfl, iV_eq (by show ((i + 1 : Nat) : Int) = _; omega), rfl, rfl, rfl, rfl, rfl, trivial⟩
  · have hmB : m = B.length := by
      by_cases e : m < B.length
      · exfalso
        have h5 := p4 m (Nat.le_refl _) e
        have h6 := hpres m e
        rw [List.getD_eq_getElem?_getD, List.getElem?_eq_none (by omega)] at h6
        cases h6
      · omega
    subst hmB
    clear hexp hrow hnone hsome hts hbs
    have e1 : B.take B.length = B := List.take_length
    refine AWP.wk ⟨[(9, iV i), (6, iV Wd), (7, nats B), (2, .opt 0 0)], [.box [.d .any, iV M, iV D, rowsN ps, .d .any]]⟩ ⟨[0], rfl, rfl, rfl, rfl, rfl, (congrArg (fun l => nats l) e1.symm).trans (frz_rowJ rfl rfl (by simp)).symm, rfl, trivial⟩ ?_
    (repeat' (first
  | (apply W.qd; (first
    | (apply q_mv; (first|exact vD|exact vO|exact vP|exact vA|exact vF|exact vR|exact vN|exact vY|exact vT|exact vX))|(apply q_as; (first|exact vD|exact vO|exact vP|exact vA|exact vF|exact vR|exact vN|exact vY|exact vT|exact vX))
    | (apply q_lss; exact rfl; exact rfl)))|(apply AWP.seq)|(apply ACont_normal)|(apply W.region; kernel_rfl)|(apply Walk.nil)|(apply AWP.exit)|(apply AWP.ret)|(apply ACont_exit)|(apply ABlock_exit)
  | (refine W.cond _ rfl (fun hb => ?_) (fun hb => ?_) <;> ((try simp only [hb, Bool.not_true, Bool.not_false]) <;> (try simp only [decide_eq_true_eq, decide_eq_false_iff_not, Bool.not_eq_true', Bool.not_eq_false', Int.not_lt, Int.not_le, List.length_map, not_true_eq_false] at hb) <;> (try (exfalso; omega))))))
    exact ⟨.inl rfl, [], [nats B, iV 0], rfl, rfl, ⟨rfl, rfl, trivial⟩, AVle.of_eq rfl, rfl⟩
end Go.Proofs.YtilpljehfcpjeaaGreatDoor
end
section
/- Layer 8, package and reference, over the machine of abstract values: Combination and Recoverable, for all arguments. -/
namespace Go.Proofs.YtilpljehfcpjeaaGreatDoor
open Go.RowKit
set_option maxHeartbeats 4000000
set_option maxRecDepth 100000
attribute [local irreducible] Quiet Eff OpOk AWPG ACont ABlock ACalls AGoto
def coefA (B : List Nat) : Option (List Nat) → AV
  | some K => .tup [nats B, nats K, iV 0]
  | none => .tup [nats [], nats [], iV 11]
theorem A_r8coef {M D u : Nat} {ps : List (List Nat)} {hv : List Bool} (h : CodeOk M D ps) (hl : hv.length = D + ps.length) (hu : u < D + ps.length) : ACalls Tryz.prog 46 [cdN M D ps, bools hv, iV u] [] (coefA (basisN M D ps hv) (exprN M D (takeR D ps (basisN M D ps hv) (basisN M D ps hv).length) (rowN D ps u))) [] := by
  refine acalls_of_bodyO Tryz.func46 rfl (Nat.le_of_ble_eq_true rfl) ?_
  have hM := h.f
  have h1 := h.d
  have h2 := h.w
  have hb := A_r8basis h hl
  have hmh : (hv.map tD).length = hv.length := List.length_map _
  have hbl := bas_le h hl
  have hblt : ∀ q, q < (basisN M D ps hv).length → (basisN M D ps hv).getD q 0 < D + ps.length := fun q hq => hv_lt h hl (bas_pres h hl hq)
  have hrow := fun i (hi : i < D + ps.length) => A_r8row h hi
  have hr := hrow u hu
  have he := A_express (M := M) (D := D) (rows := takeR D ps (basisN M D ps hv) (basisN M D ps hv).length) (t := rowN D ps u) hM (by omega) (by omega) (by rw [takeR_length (Nat.le_refl _)]; omega) (fun r hr => by
    obtain ⟨u, _, rfl⟩ := List.mem_map.1 hr; exact rowN_length ..) (rowN_length ..) (takeR_lt h hl _ _) (rowN_lt h hl u)
  generalize basisN M D ps hv = B at *
  have htl := fun m (hm : m ≤ B.length) => takeR_length (D := D) (ps := ps) (B := B) hm
  have hts := fun m (hm : m < B.length) => Lib.hid (takeR_succ (D := D) (ps := ps) (B := B) hm)
  have ht0 : takeR D ps B 0 = [] := rfl
  have hmB : (B.map kD).length = B.length := List.length_map _
  (repeat' (first
  | (apply W.gOn; exact rfl; exact rfl)
  | (apply W.qd; (first
    | (apply (q_callC (hb)); exact rfl; exact rfl; kernel_rfl; kernel_rfl; kernel_rfl)|(apply q_mv; (first|exact vD|exact vO|exact vP|exact vA|exact vF|exact vR|exact vN|exact vY|exact vT|exact vX))|(apply q_as; (first|exact vD|exact vO|exact vP|exact vA|exact vF|exact vR|exact vN|exact vY|exact vT|exact vX))|(apply q_ld_boxF; exact rfl; exact rfl; exact rfl; exact rfl)|(apply q_lss; exact rfl; exact rfl)|(apply q_geq; exact rfl; exact rfl)|(apply q_neq; exact rfl; exact rfl)|(apply q_extract; exact rfl; exact rfl)|(apply q_len_sl; exact rfl; exact rfl)
    | (apply (q_pickF (u := .d _)); exact rfl; exact rfl)))|(apply W.ed; (apply e_boxF; exact rfl; exact rfl; exact rfl; kernel_rfl; kernel_rfl))|(apply AWP.seq)|(apply ACont_normal)|(apply (W.regionS 5); exact rfl; kernel_rfl)|(apply Walk.nil)|(apply AWP.skip)
  | (refine W.cond _ rfl (fun hb => ?_) (fun hb => ?_) <;> ((try simp only [hb, Bool.not_true, Bool.not_false]) <;> (try simp only [decide_eq_true_eq, decide_eq_false_iff_not, Bool.not_eq_true', Bool.not_eq_false', Int.not_lt, Int.not_le, List.length_map, not_true_eq_false] at hb) <;> (try (exfalso; omega))))))
  refine AWP.nilRow 11 1 36 rfl (by omega) ?_
  (repeat' (first
  | (apply W.qd; (apply q_as; (first|exact vD|exact vO|exact vP|exact vA|exact vF|exact vR|exact vN|exact vY|exact vT|exact vX)))|(apply ACont_normal)|(apply (W.regionS 6); exact rfl; kernel_rfl)|(apply Walk.nil)
  | (apply AWP.block)))
  refine AWP.loopW (α := Nat) (fun m => m ≤ B.length) (fun m => ⟨[(12, iV m), (9, nats B), (11, .osl 1 m 0 m), (2, iV u), (3, .opt 0 0)], [.box [.d .any, iV M, iV D, rowsN ps, .d .any], .row m 1 36 ((takeR D ps B m).map rnD)]⟩) (fun m => B.length - m) 0 (Nat.zero_le _) ⟨[0, 1], rfl, rfl, rfl, by (repeat (first | exact trivial | refine ⟨rfl, ?_⟩))⟩ fun m hm => ?_
  by_cases hmB2 : m < B.length
  · have hbm : B.getD m 0 = B[m] := by rw [List.getD_eq_getElem?_getD, List.getElem?_eq_getElem hmB2]; rfl
    have hts2 := hts m hmB2
    have hlt := hblt m hmB2
    rw [hbm] at hts2 hlt
    have hr2 := hrow (B[m]) hlt
    have hl2 := htl m hm
    clear hrow he hblt hts
    generalize takeR D ps B m = R at *
    generalize rowN D ps B[m] = rw0 at *
    (repeat' (first
  | (apply W.qd; (first
    | (apply (q_callC (hr2)); exact rfl; exact rfl; kernel_rfl; kernel_rfl; kernel_rfl)|(apply q_mv; (first|exact vD|exact vO|exact vP|exact vA|exact vF|exact vR|exact vN|exact vY|exact vT|exact vX))|(apply q_as; (first|exact vD|exact vO|exact vP|exact vA|exact vF|exact vR|exact vN|exact vY|exact vT|exact vX))|(apply q_ld_boxF; exact rfl; exact rfl; exact rfl; exact rfl)|(apply q_lss; exact rfl; exact rfl)|(apply q_add; exact rfl; exact rfl; omega)|(apply q_len_sl; exact rfl; exact rfl)|(apply q_ld_map; exact rfl; exact rfl; exact rfl; (first | omega | (focus (simp; done))))|(apply q_litF; exact rfl; exact rfl; exact rfl; exact rfl; exact rfl; kernel_rfl; kernel_rfl; exact rfl)
    | (apply q_ix_slF; exact rfl; exact rfl; exact rfl; exact rfl; (first | (with_reducible exact rfl) | exact natI_spec rfl | assumption | exact (Int.toNat_of_nonneg (by omega)).symm); (first | omega | (focus (simp only [List.length_map]; omega)) | (focus (simp; done)) | (focus (simp; omega))))))|(apply W.ed; ((apply (s_app1 (f := rnD) rw0); exact rfl; exact rfl; exact rfl; exact rfl; exact rfl; exact rfl; exact rfl; exact hl2.symm; omega)))|(apply AWP.seq)|(apply ACont_normal)|(apply W.region; kernel_rfl)|(apply W.regionD; exact rfl; kernel_rfl)|(apply Walk.nil)|(apply W.chk; kernel_rfl)|(apply AWP.block)|(apply AWP.skip)|(apply ABlock_normal)
  | (refine W.cond _ rfl (fun hb => ?_) (fun hb => ?_) <;> ((try simp only [hb, Bool.not_true, Bool.not_false]) <;> (try simp only [decide_eq_true_eq, decide_eq_false_iff_not, Bool.not_eq_true', Bool.not_eq_false', Int.not_lt, Int.not_le, List.length_map, not_true_eq_false] at hb) <;> (try (exfalso; omega))))))
    refine ⟨m + 1, by omega, by omega, [0, 1], rfl, rfl, ?_, iV_eq (by omega), rfl, rfl, rfl, rfl, trivial⟩
    rw [hts2.out]; rfl
  · have hmB3 : m = B.length := by omega
    subst hmB3
    have hl2 := htl B.length (Nat.le_refl _)
    clear hrow hblt hts ht0
    generalize takeR D ps B B.length = R at *
    refine AWP.wk ⟨[(12, iV B.length), (9, nats B), (11, rowsN R), (2, iV u), (3, .opt 0 0)], [.box [.d .any, iV M, iV D, rowsN ps, .d .any]]⟩ ⟨[0], rfl, rfl, rfl, rfl, rfl, (frz_rowJ rfl rfl (by rw [List.length_map]; exact hl2.symm)).symm, rfl, rfl, trivial⟩ ?_
    cases hE : exprN M D R (rowN D ps u) with
    | none =>
      rw [hE] at he
      unfold exprA at he
      dsimp only at he
      generalize rowN D ps u = rw0 at *
      (repeat' (first
  | (apply W.qd; (first
    | (apply (q_callC (hr)); exact rfl; exact rfl; kernel_rfl; kernel_rfl; kernel_rfl)|(apply (q_callC (he)); exact rfl; exact rfl; kernel_rfl; kernel_rfl; kernel_rfl)|(apply q_mv; (first|exact vD|exact vO|exact vP|exact vA|exact vF|exact vR|exact vN|exact vY|exact vT|exact vX))|(apply q_as; (first|exact vD|exact vO|exact vP|exact vA|exact vF|exact vR|exact vN|exact vY|exact vT|exact vX))|(apply q_fld_optF; exact rfl; exact rfl; exact rfl)|(apply q_ld_box; exact rfl; exact rfl; exact rfl; exact rfl)|(apply q_ld_boxF; exact rfl; exact rfl; exact rfl; exact rfl)|(apply q_lss; exact rfl; exact rfl)|(apply q_not; exact rfl)|(apply q_extract; exact rfl; exact rfl)
    | (apply q_len_sl; exact rfl; exact rfl)))|(apply AWP.seq)|(apply ACont_normal)|(apply W.region; kernel_rfl)|(apply W.regionD; exact rfl; kernel_rfl)|(apply Walk.nil)|(apply W.chk; kernel_rfl)|(apply AWP.exit)|(apply AWP.ret)|(apply ACont_exit)|(apply ACont_ret)|(apply ABlock_exit)|(apply W.condT; exact rfl)
  | (refine W.cond _ rfl (fun hb => ?_) (fun hb => ?_) <;> ((try simp only [hb, Bool.not_true, Bool.not_false]) <;> (try simp only [decide_eq_true_eq, decide_eq_false_iff_not, Bool.not_eq_true', Bool.not_eq_false', Int.not_lt, Int.not_le, List.length_map, not_true_eq_false] at hb) <;> (try (exfalso; omega))))))
      exact ⟨.inl rfl, [], [.d (.v (.slice none 0 0)), .d (.v (.slice none 0 0)), iV 11], rfl, rfl, ⟨rfl, rfl, rfl, trivial⟩, AVle.tup ⟨AVle.nil 1, AVle.nil 1, AVle.refl _, trivial⟩, rfl⟩
    | some K =>
      rw [hE] at he
      unfold exprA at he
      dsimp only at he
      generalize rowN D ps u = rw0 at *
      (repeat' (first
  | (apply W.qd; (first
    | (apply (q_callC (hr)); exact rfl; exact rfl; kernel_rfl; kernel_rfl; kernel_rfl)|(apply (q_callC (he)); exact rfl; exact rfl; kernel_rfl; kernel_rfl; kernel_rfl)|(apply q_mv; (first|exact vD|exact vO|exact vP|exact vA|exact vF|exact vR|exact vN|exact vY|exact vT|exact vX))|(apply q_as; (first|exact vD|exact vO|exact vP|exact vA|exact vF|exact vR|exact vN|exact vY|exact vT|exact vX))|(apply q_fld_optF; exact rfl; exact rfl; exact rfl)|(apply q_ld_box; exact rfl; exact rfl; exact rfl; exact rfl)|(apply q_ld_boxF; exact rfl; exact rfl; exact rfl; exact rfl)|(apply q_lss; exact rfl; exact rfl)|(apply q_not; exact rfl)|(apply q_extract; exact rfl; exact rfl)
    | (apply q_len_sl; exact rfl; exact rfl)))|(apply AWP.seq)|(apply ACont_normal)|(apply W.region; kernel_rfl)|(apply W.regionD; exact rfl; kernel_rfl)|(apply Walk.nil)|(apply W.chk; kernel_rfl)|(apply AWP.skip)|(apply AWP.exit)|(apply AWP.ret)|(apply ACont_exit)|(apply ABlock_exit)|(apply W.condF; exact rfl)
  | (refine W.cond _ rfl (fun hb => ?_) (fun hb => ?_) <;> ((try simp only [hb, Bool.not_true, Bool.not_false]) <;> (try simp only [decide_eq_true_eq, decide_eq_false_iff_not, Bool.not_eq_true', Bool.not_eq_false', Int.not_lt, Int.not_le, List.length_map, not_true_eq_false] at hb) <;> (try (exfalso; omega))))))
      exact ⟨.inl rfl, [], [nats B, nats K, iV 0], rfl, rfl, ⟨rfl, rfl, rfl, trivial⟩, AVle.of_eq rfl, rfl⟩
theorem A_r8comb {M D u : Nat} {ps : List (List Nat)} {hv : List Bool} (h : CodeOk M D ps) (hl : hv.length = D + ps.length) (hu : u < D + ps.length) : ACalls Tryz.prog 21 [cdN M D ps, bools hv, iV u] [] (termsA (combN M D ps hv u)) [] := by
  refine acalls_of_bodyO Tryz.func21 rfl (Nat.le_of_ble_eq_true rfl) ?_
  have hc := A_r8coef h hl hu
  obtain ⟨e1, e2⟩ := expr_comb h hl hu
  have hbl := bas_le h hl
  have h2 := h.w
  cases hC : combN M D ps hv u with
  | none =>
    rw [e2 hC] at hc
    unfold coefA at hc
    dsimp only at hc
    unfold termsA
    (repeat' (first
  | (apply W.qd; (first
    | (apply (q_callC (hc)); exact rfl; exact rfl; kernel_rfl; kernel_rfl; kernel_rfl)|(apply q_mv; (first|exact vD|exact vO|exact vP|exact vA|exact vF|exact vR|exact vN|exact vY|exact vT|exact vX))|(apply q_as; (first|exact vD|exact vO|exact vP|exact vA|exact vF|exact vR|exact vN|exact vY|exact vT|exact vX))|(apply q_ld_boxF; exact rfl; exact rfl; exact rfl; exact rfl)|(apply q_neq; exact rfl; exact rfl)
    | (apply q_extract; exact rfl; exact rfl)))|(apply W.ed; (apply e_boxF; exact rfl; exact rfl; exact rfl; kernel_rfl; kernel_rfl))|(apply AWP.seq)|(apply ACont_normal)|(apply W.region; kernel_rfl)|(apply Walk.nil)|(apply AWP.ret)|(apply ACont_ret)
  | (apply W.condT; exact rfl)))
    all_goals exact ⟨.inl rfl, [], [.d (.v (.slice none 0 0)), iV 11], rfl, rfl, ⟨rfl, rfl, trivial⟩, AVle.tup2 (AVle.nil 2) (AVle.refl _), rfl⟩
  | some l =>
    obtain ⟨K, k1, k2, k3, k4⟩ := e1 l hC
    rw [k3] at hc
    unfold coefA at hc
    dsimp only at hc
    unfold termsA
    dsimp only
    rw [k4]
    clear k3 k4 e1 e2 hC
    generalize basisN M D ps hv = B at *
    have hmB : (B.map kD).length = B.length := List.length_map _
    have hmK : (K.map kD).length = K.length := List.length_map _
    have hs := fun i => Lib.hid (tmsAt_succ B K i)
    have hle := tmsAt_length B K
    have ht0 : tmsAt B K 0 = [] := rfl
    generalize tmsAt B K = TM at *
    (repeat' (first
  | (apply W.qd; (first
    | (apply (q_callC (hc)); exact rfl; exact rfl; kernel_rfl; kernel_rfl; kernel_rfl)|(apply q_mv; (first|exact vD|exact vO|exact vP|exact vA|exact vF|exact vR|exact vN|exact vY|exact vT|exact vX))|(apply q_as; (first|exact vD|exact vO|exact vP|exact vA|exact vF|exact vR|exact vN|exact vY|exact vT|exact vX))|(apply q_ld_boxF; exact rfl; exact rfl; exact rfl; exact rfl)|(apply q_neq; exact rfl; exact rfl)
    | (apply q_extract; exact rfl; exact rfl)))|(apply W.ed; (apply e_boxF; exact rfl; exact rfl; exact rfl; kernel_rfl; kernel_rfl))|(apply AWP.seq)|(apply ACont_normal)|(apply (W.regionS 5); exact rfl; kernel_rfl)|(apply Walk.nil)|(apply AWP.skip)
  | (apply W.condF; exact rfl)))
    refine AWP.nilRow 11 2 52 rfl (by omega) ?_
    (repeat' (first
  | (apply W.qd; (apply q_as; (first|exact vD|exact vO|exact vP|exact vA|exact vF|exact vR|exact vN|exact vY|exact vT|exact vX)))|(apply ACont_normal)|(apply (W.regionS 6); exact rfl; kernel_rfl)|(apply Walk.nil)
  | (apply AWP.block)))
    refine AWP.loopW (α := Nat) (fun i => i ≤ B.length) (fun i => ⟨[(12, iV i), (8, nats B), (9, nats K), (11, .osl 1 (TM i).length 0 (TM i).length), (3, .opt 0 0)], [.box [.d .any, iV M, iV D, rowsN ps, .d .any], .row (TM i).length 2 52 ((TM i).map tmD)]⟩) (fun i => B.length - i) 0 (Nat.zero_le _) ?wk0 fun i hi => ?_
    case wk0 =>
      rw [ht0]
      exact ⟨[0, 1], rfl, rfl, rfl, by (repeat (first | exact trivial | refine ⟨rfl, ?_⟩))⟩
    by_cases hiB : i < B.length
    · have hs2 := (hs i).out
      have hbm : B.getD i 0 = B[i] := by rw [List.getD_eq_getElem?_getD, List.getElem?_eq_getElem hiB]; rfl
      have hkm : K.getD i 0 = K[i]'(by omega) := by rw [List.getD_eq_getElem?_getD, List.getElem?_eq_getElem (show i < K.length by omega)]; rfl
      rw [hbm, hkm] at hs2
      have hle2 := hle i
      by_cases hz : K[i]'(by omega) = 0
      · rw [if_pos hz] at hs2
        replace hs2 := Lib.hid hs2
        clear hs hle
        generalize TM i = T at *
        (repeat' (first
  | (apply W.qd; (first
    | (apply q_mv; (first|exact vD|exact vO|exact vP|exact vA|exact vF|exact vR|exact vN|exact vY|exact vT|exact vX))|(apply q_as; (first|exact vD|exact vO|exact vP|exact vA|exact vF|exact vR|exact vN|exact vY|exact vT|exact vX))|(apply q_lss; exact rfl; exact rfl)|(apply q_neq; exact rfl; exact rfl)|(apply q_add; exact rfl; exact rfl; omega)|(apply q_len_sl; exact rfl; exact rfl)|(apply q_ld_map; exact rfl; exact rfl; exact rfl; (first | omega | (focus (simp; done))))
    | (apply q_ix_slF; exact rfl; exact rfl; exact rfl; exact rfl; (first | (with_reducible exact rfl) | exact natI_spec rfl | assumption | exact (Int.toNat_of_nonneg (by omega)).symm); (first | omega | (focus (simp only [List.length_map]; omega)) | (focus (simp; done)) | (focus (simp; omega))))))|(apply AWP.seq)|(apply ACont_normal)|(apply W.region; kernel_rfl)|(apply Walk.nil)|(apply AWP.block)|(apply AWP.skip)|(apply ABlock_normal)
  | (refine W.cond _ rfl (fun hb => ?_) (fun hb => ?_) <;> ((try simp only [hb, Bool.not_true, Bool.not_false]) <;> (try simp only [decide_eq_true_eq, decide_eq_false_iff_not, Bool.not_eq_true', Bool.not_eq_false', Int.not_lt, Int.not_le, List.length_map, not_true_eq_false] at hb) <;> (try (exfalso; omega))))))
        refine ⟨i + 1, by omega, by omega, ?_⟩
        rw [hs2.out]
        exact ⟨[0, 1], rfl, rfl, rfl, iV_eq (by omega), rfl, rfl, rfl, rfl, trivial⟩
      · rw [if_neg hz] at hs2
        replace hs2 := Lib.hid hs2
        clear hs hle
        generalize TM i = T at *
        (repeat' (first
  | (apply W.qd; (first
    | (apply q_mv; (first|exact vD|exact vO|exact vP|exact vA|exact vF|exact vR|exact vN|exact vY|exact vT|exact vX))|(apply q_as; (first|exact vD|exact vO|exact vP|exact vA|exact vF|exact vR|exact vN|exact vY|exact vT|exact vX))|(apply q_lss; exact rfl; exact rfl)|(apply q_neq; exact rfl; exact rfl)|(apply q_add; exact rfl; exact rfl; omega)|(apply q_len_sl; exact rfl; exact rfl)|(apply q_ld_map; exact rfl; exact rfl; exact rfl; (first | omega | (focus (simp; done))))|(apply q_buildF; exact rfl; exact rfl; kernel_rfl)|(apply q_litF; exact rfl; exact rfl; exact rfl; exact rfl; exact rfl; kernel_rfl; kernel_rfl; exact rfl)
    | (apply q_ix_slF; exact rfl; exact rfl; exact rfl; exact rfl; (first | (with_reducible exact rfl) | exact natI_spec rfl | assumption | exact (Int.toNat_of_nonneg (by omega)).symm); (first | omega | (focus (simp only [List.length_map]; omega)) | (focus (simp; done)) | (focus (simp; omega))))))|(apply W.ed; ((apply (e_app1F (f := tmD) (B[i], K[i]'(by omega))); exact rfl; exact rfl; exact rfl; exact rfl; exact rfl; exact rfl; exact rfl; exact rfl; omega)))|(apply AWP.seq)|(apply ACont_normal)|(apply W.region; kernel_rfl)|(apply W.regionD; exact rfl; kernel_rfl)|(apply Walk.nil)|(apply W.chk; kernel_rfl)|(apply AWP.block)|(apply AWP.skip)|(apply ABlock_normal)
  | (refine W.cond _ rfl (fun hb => ?_) (fun hb => ?_) <;> ((try simp only [hb, Bool.not_true, Bool.not_false]) <;> (try simp only [decide_eq_true_eq, decide_eq_false_iff_not, Bool.not_eq_true', Bool.not_eq_false', Int.not_lt, Int.not_le, List.length_map, not_true_eq_false] at hb) <;> (try (exfalso; omega))))))
        refine ⟨i + 1, by omega, by omega, ?_⟩
        rw [hs2.out, show (T ++ [(B[i], K[i]'(by omega))]).length = T.length + 1 by simp]
        exact ⟨[0, 1], rfl, rfl, rfl, iV_eq (by omega), rfl, rfl, congrArg (AV.osl 1 (T.length + 1) 0) (by simp), rfl, trivial⟩
    · have hiB3 : i = B.length := by omega
      subst hiB3
      clear hs hle
      generalize TM B.length = T at *
      (repeat' (first
  | (apply W.qd; (first
    | (apply q_mv; (first|exact vD|exact vO|exact vP|exact vA|exact vF|exact vR|exact vN|exact vY|exact vT|exact vX))|(apply q_as; (first|exact vD|exact vO|exact vP|exact vA|exact vF|exact vR|exact vN|exact vY|exact vT|exact vX))|(apply q_lss; exact rfl; exact rfl)
    | (apply q_len_sl; exact rfl; exact rfl)))|(apply AWP.seq)|(apply ACont_normal)|(apply W.region; kernel_rfl)|(apply Walk.nil)|(apply AWP.exit)|(apply AWP.ret)|(apply ACont_exit)|(apply ABlock_exit)
  | (refine W.cond _ rfl (fun hb => ?_) (fun hb => ?_) <;> ((try simp only [hb, Bool.not_true, Bool.not_false]) <;> (try simp only [decide_eq_true_eq, decide_eq_false_iff_not, Bool.not_eq_true', Bool.not_eq_false', Int.not_lt, Int.not_le, List.length_map, not_true_eq_false] at hb) <;> (try (exfalso; omega))))))
      exact ⟨.inl rfl, [], [.osl 1 T.length 0 T.length, iV 0], rfl, rfl, ⟨rfl, rfl, trivial⟩, AVle.tup2 (AVle.of_eq (frz_rowJ rfl rfl (by simp))) (AVle.of_eq rfl), rfl⟩
theorem A_r8recov {l : List (Nat × Nat)} {e : Int} {M D : Int} {par : List (List Int)} {hv : List Bool} {u : Int} (hc : ACalls Tryz.prog 21 [cdA M D par, bools hv, iV u] [] (.tup [tmsA l, iV e]) []) : ACalls Tryz.prog 20 [cdA M D par, bools hv, iV u] [] (bV (decide (e = 0))) [] := by
  refine acalls_of_bodyO Tryz.func20 rfl (Nat.le_of_ble_eq_true rfl) ?_
  (repeat' (first
  | (apply W.qd; (first
    | (apply (q_callC (hc)); exact rfl; exact rfl; kernel_rfl; kernel_rfl; kernel_rfl)|(apply q_mv; (first|exact vD|exact vO|exact vP|exact vA|exact vF|exact vR|exact vN|exact vY|exact vT|exact vX))|(apply q_as; (first|exact vD|exact vO|exact vP|exact vA|exact vF|exact vR|exact vN|exact vY|exact vT|exact vX))|(apply q_ld_boxF; exact rfl; exact rfl; exact rfl; exact rfl)|(apply q_eql; exact rfl; exact rfl)
    | (apply q_extract; exact rfl; exact rfl)))|(apply W.ed; (apply e_boxF; exact rfl; exact rfl; exact rfl; kernel_rfl; kernel_rfl))|(apply AWP.seq)|(apply ACont_normal)|(apply W.region; kernel_rfl)|(apply Walk.nil)
  | (apply AWP.ret)))
  all_goals exact ⟨.inl rfl, [], [bV (decide (e = 0))], rfl, rfl, ⟨rfl, trivial⟩, AVle.of_eq rfl, rfl⟩
end Go.Proofs.YtilpljehfcpjeaaGreatDoor
end
section
/- The reference of layer 10 over the machine of abstract values: check, Checks, terms, better, Plan. -/
namespace Go.Proofs.YtilpljehfcpjeaaGreatDoor
open Go.RowKit
set_option maxHeartbeats 4000000
set_option maxRecDepth 100000
attribute [local irreducible] Quiet Eff OpOk AWPG ACont ABlock ACalls AGoto
theorem A_r10check {M D i : Nat} {ps : List (List Nat)} (h : CodeOk M D ps) (hi : i < ps.length) : ACalls Tryz.prog 41 [cdN M D ps, iV i] [] (nats (checkN D i (ps.getD i []))) [] := by
  refine acalls_of_body Tryz.func41 rfl (Nat.le_of_ble_eq_true rfl) ?_
  have h1 := h.d
  have h2 := h.w
  have hr := (h.row _ (List.getElem_mem hi)).1
  have e : ps.getD i [] = ps[i] := by rw [List.getD_eq_getElem?_getD, List.getElem?_eq_getElem hi]; rfl
  rw [e]
  have hmr : (ps[i].map kD).length = D := by rw [List.length_map]; exact hr
  (repeat' (first
  | (apply W.qd; (apply q_as; (first|exact vD|exact vO|exact vP|exact vA|exact vF|exact vR|exact vN|exact vY|exact vT|exact vX)))|(apply W.ed; (apply e_boxF; exact rfl; exact rfl; exact rfl; kernel_rfl; kernel_rfl))|(apply AWP.seq)|(apply ACont_normal)|(apply (W.regionS 2); exact rfl; kernel_rfl)
  | (apply Walk.nil)))
  refine AWP.nilRow 5 1 3 rfl (by omega) ?_
  (repeat' (first
  | (apply W.qd; (apply q_as; (first|exact vD|exact vO|exact vP|exact vA|exact vF|exact vR|exact vN|exact vY|exact vT|exact vX)))|(apply ACont_normal)|(apply (W.regionS 3); exact rfl; kernel_rfl)|(apply Walk.nil)
  | (apply AWP.block)))
  refine AWP.loopW (α := Nat) (fun k => k ≤ D) (fun k => ⟨[(6, iV k), (5, .osl 1 (dataC D ps[i] k).length 0 (dataC D ps[i] k).length), (2, .opt 0 0), (1, iV i)], [.box [.d .any, iV M, iV D, rowsN ps, .d .any], .row (dataC D ps[i] k).length 1 3 ((dataC D ps[i] k).map kD)]⟩) (fun k => D - k) 0 (by omega) ?wk0 fun k hk => ?_
  case wk0 =>
    rw [show dataC D ps[i] 0 = [] from rfl]
    exact ⟨[0, 1], rfl, rfl, rfl, by (repeat (first | exact trivial | refine ⟨rfl, ?_⟩))⟩
  have hlc := dataC_length D ps[i] k
  by_cases hkD : k < D
  · have hs := Lib.hid (dataC_succ D ps[i] k)
    have e2 : ps[i].getD k 0 = ps[i][k]'(by omega) := by rw [List.getD_eq_getElem?_getD, List.getElem?_eq_getElem (show k < ps[i].length by omega)]; rfl
    rw [e2] at hs
    generalize dataC D ps[i] k = A at *
    (repeat' (first
  | (apply W.qd; (first
    | (apply q_mv; (first|exact vD|exact vO|exact vP|exact vA|exact vF|exact vR|exact vN|exact vY|exact vT|exact vX))|(apply q_as; (first|exact vD|exact vO|exact vP|exact vA|exact vF|exact vR|exact vN|exact vY|exact vT|exact vX))|(apply q_fld_optF; exact rfl; exact rfl; exact rfl)|(apply q_ld_box; exact rfl; exact rfl; exact rfl; exact rfl)|(apply q_lss; exact rfl; exact rfl)|(apply q_neq; exact rfl; exact rfl)|(apply q_add; exact rfl; exact rfl; omega)|(apply q_ld_map; exact rfl; exact rfl; exact rfl; (first | omega | (focus (simp; done))))|(apply q_litF; exact rfl; exact rfl; exact rfl; exact rfl; exact rfl; kernel_rfl; kernel_rfl; exact rfl)
    | (apply q_ix_slF; exact rfl; exact rfl; exact rfl; exact rfl; (first | (with_reducible exact rfl) | exact natI_spec rfl | assumption | exact (Int.toNat_of_nonneg (by omega)).symm); (first | omega | (focus (simp only [List.length_map]; omega)) | (focus (simp; done)) | (focus (simp; omega))))))|(apply W.ld; (apply l_app1; exact rfl; exact rfl; exact rfl; exact rfl; exact rfl; exact rfl; exact rfl; exact rfl; (first | omega | (focus (simp; omega)) | (focus (simp; done)))))|(apply AWP.seq)|(apply ACont_normal)|(apply W.region; kernel_rfl)|(apply Walk.nil)|(apply AWP.block)|(apply AWP.skip)|(apply ABlock_normal)
  | (refine W.cond _ rfl (fun hb => ?_) (fun hb => ?_) <;> ((try simp only [hb, Bool.not_true, Bool.not_false]) <;> (try simp only [decide_eq_true_eq, decide_eq_false_iff_not, Bool.not_eq_true', Bool.not_eq_false', Int.not_lt, Int.not_le, List.length_map, not_true_eq_false] at hb) <;> (try (exfalso; omega))))))
    · rw [if_neg (by omega)] at hs
      refine ⟨k + 1, by omega, by omega, ?_⟩
      rw [hs.out, show (A ++ [k]).length = A.length + 1 by simp]
      exact ⟨[0, 1], rfl, rfl, rfl, iV_eq (by omega), congrArg (AV.osl 1 (A.length + 1) 0) (by simp), rfl, rfl, trivial⟩
    · rw [if_pos (by omega)] at hs
      refine ⟨k + 1, by omega, by omega, ?_⟩
      rw [hs.out]
      exact ⟨[0, 1], rfl, rfl, rfl, iV_eq (by omega), rfl, rfl, rfl, trivial⟩
  · have e3 : k = D := by omega
    subst e3
    unfold checkN
    generalize dataC k ps[i] k = A at *
    (repeat' (first
  | (apply W.qd; (first
    | (apply q_mv; (first|exact vD|exact vO|exact vP|exact vA|exact vF|exact vR|exact vN|exact vY|exact vT|exact vX))|(apply q_as; (first|exact vD|exact vO|exact vP|exact vA|exact vF|exact vR|exact vN|exact vY|exact vT|exact vX))|(apply q_fld_optF; exact rfl; exact rfl; exact rfl)|(apply q_ld_box; exact rfl; exact rfl; exact rfl; exact rfl)|(apply q_lss; exact rfl; exact rfl)|(apply q_add; exact rfl; exact rfl; omega)
    | (apply q_litF; exact rfl; exact rfl; exact rfl; exact rfl; exact rfl; kernel_rfl; kernel_rfl; exact rfl)))|(apply W.ld; (apply l_app1; exact rfl; exact rfl; exact rfl; exact rfl; exact rfl; exact rfl; exact rfl; exact rfl; (first | omega | (focus (simp; omega)) | (focus (simp; done)))))|(apply AWP.seq)|(apply ACont_normal)|(apply W.region; kernel_rfl)|(apply Walk.nil)|(apply AWP.exit)|(apply AWP.ret)|(apply ACont_exit)|(apply ABlock_exit)
  | (refine W.cond _ rfl (fun hb => ?_) (fun hb => ?_) <;> ((try simp only [hb, Bool.not_true, Bool.not_false]) <;> (try simp only [decide_eq_true_eq, decide_eq_false_iff_not, Bool.not_eq_true', Bool.not_eq_false', Int.not_lt, Int.not_le, List.length_map, not_true_eq_false] at hb) <;> (try (exfalso; omega))))))
    exact Ends.osl rfl rfl (by simp) rfl
theorem A_r10has {l : List Nat} {u : Int} (hl : l.length ≤ 1000000) : ACalls Tryz.prog 42 [nats l, iV u] [] (bV (l.any fun x => decide (u = (x : Int)))) [] := by
  refine acalls_of_bodyO Tryz.func42 rfl (Nat.le_of_ble_eq_true rfl) ?_
  have hml : (l.map kD).length = l.length := List.length_map _
  (repeat' (first
  | (apply W.qd; (apply q_as; (first|exact vD|exact vO|exact vP|exact vA|exact vF|exact vR|exact vN|exact vY|exact vT|exact vX)))|(apply AWP.seq)|(apply ACont_normal)|(apply (W.regionS 2); exact rfl; kernel_rfl)|(apply Walk.nil)
  | (apply AWP.block)))
  refine AWP.loopW (α := Nat) (fun k => k ≤ l.length ∧ (l.take k).any (fun x => decide (u = (x : Int))) = false) (fun k => ⟨[(5, iV k), (0, nats l), (1, iV u)], []⟩) (fun k => l.length - k) 0 ⟨Nat.zero_le _, rfl⟩ ⟨[], rfl, rfl, rfl, by (repeat (first | exact trivial | refine ⟨rfl, ?_⟩))⟩ fun k hk => ?_
  by_cases hkl : k < l.length
  · by_cases he : (l[k] : Int) = u
    · have hany : l.any (fun x => decide (u = (x : Int))) = true := List.any_eq_true.2 ⟨l[k], List.getElem_mem hkl, by simpa using he.symm⟩
      rw [hany]
      (repeat' (first
  | (apply W.qd; (first
    | (apply q_mv; (first|exact vD|exact vO|exact vP|exact vA|exact vF|exact vR|exact vN|exact vY|exact vT|exact vX))|(apply q_as; (first|exact vD|exact vO|exact vP|exact vA|exact vF|exact vR|exact vN|exact vY|exact vT|exact vX))|(apply q_lss; exact rfl; exact rfl)|(apply q_eql; exact rfl; exact rfl)|(apply q_len_sl; exact rfl; exact rfl)|(apply q_ld_map; exact rfl; exact rfl; exact rfl; (first | omega | (focus (simp; done))))
    | (apply q_ix_slF; exact rfl; exact rfl; exact rfl; exact rfl; (first | (with_reducible exact rfl) | exact natI_spec rfl | assumption | exact (Int.toNat_of_nonneg (by omega)).symm); (first | omega | (focus (simp only [List.length_map]; omega)) | (focus (simp; done)) | (focus (simp; omega))))))|(apply AWP.seq)|(apply ACont_normal)|(apply W.region; kernel_rfl)|(apply Walk.nil)|(apply AWP.block)|(apply AWP.skip)|(apply AWP.ret)|(apply ACont_ret)|(apply ABlock_ret)
  | (refine W.cond _ rfl (fun hb => ?_) (fun hb => ?_) <;> ((try simp only [hb, Bool.not_true, Bool.not_false]) <;> (try simp only [decide_eq_true_eq, decide_eq_false_iff_not, Bool.not_eq_true', Bool.not_eq_false', Int.not_lt, Int.not_le, List.length_map, not_true_eq_false] at hb) <;> (try (exfalso; omega))))))
      exact ⟨.inl rfl, [], [bV true], rfl, rfl, ⟨rfl, trivial⟩, AVle.of_eq rfl, rfl⟩
    · (repeat' (first
  | (apply W.qd; (first
    | (apply q_mv; (first|exact vD|exact vO|exact vP|exact vA|exact vF|exact vR|exact vN|exact vY|exact vT|exact vX))|(apply q_as; (first|exact vD|exact vO|exact vP|exact vA|exact vF|exact vR|exact vN|exact vY|exact vT|exact vX))|(apply q_lss; exact rfl; exact rfl)|(apply q_eql; exact rfl; exact rfl)|(apply q_add; exact rfl; exact rfl; omega)|(apply q_len_sl; exact rfl; exact rfl)|(apply q_ld_map; exact rfl; exact rfl; exact rfl; (first | omega | (focus (simp; done))))
    | (apply q_ix_slF; exact rfl; exact rfl; exact rfl; exact rfl; (first | (with_reducible exact rfl) | exact natI_spec rfl | assumption | exact (Int.toNat_of_nonneg (by omega)).symm); (first | omega | (focus (simp only [List.length_map]; omega)) | (focus (simp; done)) | (focus (simp; omega))))))|(apply AWP.seq)|(apply ACont_normal)|(apply W.region; kernel_rfl)|(apply Walk.nil)|(apply AWP.block)|(apply AWP.skip)|(apply ABlock_normal)
  | (refine W.cond _ rfl (fun hb => ?_) (fun hb => ?_) <;> ((try simp only [hb, Bool.not_true, Bool.not_false]) <;> (try simp only [decide_eq_true_eq, decide_eq_false_iff_not, Bool.not_eq_true', Bool.not_eq_false', Int.not_lt, Int.not_le, List.length_map, not_true_eq_false] at hb) <;> (try (exfalso; omega))))))
      refine ⟨k + 1, ⟨by omega, ?_⟩, by omega, [], rfl, rfl, rfl, iV_eq (by omega), rfl, rfl, trivial⟩
      rw [List.take_succ_eq_append_getElem hkl, List.any_append, hk.2]
      simp only [List.any_cons, List.any_nil, Bool.or_false, Bool.false_or, decide_eq_false_iff_not]
      exact fun e => he e.symm
  · have h2 := hk.2
    rw [List.take_of_length_le (by omega)] at h2
    rw [h2]
    (repeat' (first
  | (apply W.qd; (first
    | (apply q_mv; (first|exact vD|exact vO|exact vP|exact vA|exact vF|exact vR|exact vN|exact vY|exact vT|exact vX))|(apply q_as; (first|exact vD|exact vO|exact vP|exact vA|exact vF|exact vR|exact vN|exact vY|exact vT|exact vX))|(apply q_lss; exact rfl; exact rfl)
    | (apply q_len_sl; exact rfl; exact rfl)))|(apply AWP.seq)|(apply ACont_normal)|(apply W.region; kernel_rfl)|(apply Walk.nil)|(apply AWP.exit)|(apply AWP.ret)|(apply ACont_exit)|(apply ABlock_exit)
  | (refine W.cond _ rfl (fun hb => ?_) (fun hb => ?_) <;> ((try simp only [hb, Bool.not_true, Bool.not_false]) <;> (try simp only [decide_eq_true_eq, decide_eq_false_iff_not, Bool.not_eq_true', Bool.not_eq_false', Int.not_lt, Int.not_le, List.length_map, not_true_eq_false] at hb) <;> (try (exfalso; omega))))))
    exact ⟨.inl rfl, [], [bV false], rfl, rfl, ⟨rfl, trivial⟩, AVle.of_eq rfl, rfl⟩
theorem chkZ_neg {D : Nat} {ps : List (List Nat)} {u : Int} (hu : u < 0) (n : Nat) : chkZ D ps u n = [] := by
  unfold chkZ
  rw [List.filter_eq_nil_iff]
  intro i _
  rw [Bool.not_eq_true, List.any_eq_false]
  intro x _
  simp only [decide_eq_true_eq]
  omega
theorem A_r10checks {M D : Nat} {u : Int} {ps : List (List Nat)} (h : CodeOk M D ps) : ACalls Tryz.prog 11 [cdN M D ps, iV u] [] (rowsN ((chkZ D ps u ps.length).map fun i => checkN D i (ps.getD i []))) [] := by
  refine acalls_of_bodyO Tryz.func11 rfl (Nat.le_of_ble_eq_true rfl) ?_
  have h1 := h.d
  have h2 := h.w
  have hpl : (toZ ps).length = ps.length := List.length_map _
  have h0 := A_r8valid (M := M) (D := D) (par := toZ ps) (by omega) (by omega)
  rw [valid_ok h, ← cdN_A] at h0
  by_cases hu : u < 0
  · rw [chkZ_neg hu]
    (repeat' (first
  | (apply W.gOn; exact rfl; exact rfl)
  | (apply W.qd; (first
    | (apply (q_callC (h0)); exact rfl; exact rfl; kernel_rfl; kernel_rfl; kernel_rfl)|(apply q_mv; (first|exact vD|exact vO|exact vP|exact vA|exact vF|exact vR|exact vN|exact vY|exact vT|exact vX))|(apply q_as; (first|exact vD|exact vO|exact vP|exact vA|exact vF|exact vR|exact vN|exact vY|exact vT|exact vX))|(apply q_ld_boxF; exact rfl; exact rfl; exact rfl; exact rfl)|(apply q_lss; exact rfl; exact rfl)|(apply q_not; exact rfl)
    | (apply (q_pickF (u := .d _)); exact rfl; exact rfl)))|(apply W.ed; (apply e_boxF; exact rfl; exact rfl; exact rfl; kernel_rfl; kernel_rfl))|(apply AWP.seq)|(apply ACont_normal)|(apply W.region; kernel_rfl)|(apply Walk.nil)|(apply AWP.ret)|(apply ACont_ret)
  | (refine W.cond _ rfl (fun hb => ?_) (fun hb => ?_) <;> ((try simp only [hb, Bool.not_true, Bool.not_false]) <;> (try simp only [decide_eq_true_eq, decide_eq_false_iff_not, Bool.not_eq_true', Bool.not_eq_false', Int.not_lt, Int.not_le, List.length_map, not_true_eq_false] at hb) <;> (try (exfalso; omega))))))
    all_goals exact ⟨.inl rfl, [], [.d (.v (.slice none 0 0))], rfl, rfl, ⟨rfl, trivial⟩, AVle.nil 1, rfl⟩
  · have hck := fun i (hi : i < ps.length) => A_r10check h hi
    have hmp : (ps.map rnD).length = ps.length := List.length_map _
    have hs := fun k => Lib.hid (chkZ_succ D ps u k)
    have hl := fun k => chkZ_length D ps u k
    have hz : chkZ D ps u 0 = [] := rfl
    have hcl := fun k => checkN_length D k (ps.getD k [])
    generalize chkZ D ps u = CZ at *
    generalize hC : (fun i => checkN D i (ps.getD i [])) = C
    have hC' : ∀ i, checkN D i (ps.getD i []) = C i := fun i => congrFun hC i
    simp only [hC'] at hck hs hcl
    (repeat' (first
  | (apply W.gOn; exact rfl; exact rfl)
  | (apply W.qd; (first
    | (apply (q_callC (h0)); exact rfl; exact rfl; kernel_rfl; kernel_rfl; kernel_rfl)|(apply q_mv; (first|exact vD|exact vO|exact vP|exact vA|exact vF|exact vR|exact vN|exact vY|exact vT|exact vX))|(apply q_as; (first|exact vD|exact vO|exact vP|exact vA|exact vF|exact vR|exact vN|exact vY|exact vT|exact vX))|(apply q_ld_boxF; exact rfl; exact rfl; exact rfl; exact rfl)|(apply q_lss; exact rfl; exact rfl)|(apply q_not; exact rfl)
    | (apply (q_pickF (u := .d _)); exact rfl; exact rfl)))|(apply W.ed; (apply e_boxF; exact rfl; exact rfl; exact rfl; kernel_rfl; kernel_rfl))|(apply AWP.seq)|(apply ACont_normal)|(apply (W.regionS 4); exact rfl; kernel_rfl)|(apply Walk.nil)|(apply AWP.skip)
  | (refine W.cond _ rfl (fun hb => ?_) (fun hb => ?_) <;> ((try simp only [hb, Bool.not_true, Bool.not_false]) <;> (try simp only [decide_eq_true_eq, decide_eq_false_iff_not, Bool.not_eq_true', Bool.not_eq_false', Int.not_lt, Int.not_le, List.length_map, not_true_eq_false] at hb) <;> (try (exfalso; omega))))))
    refine AWP.nilRow 5 1 36 rfl (by omega) ?_
    (repeat' (first
  | (apply W.qd; (apply q_as; (first|exact vD|exact vO|exact vP|exact vA|exact vF|exact vR|exact vN|exact vY|exact vT|exact vX)))|(apply ACont_normal)|(apply (W.regionS 5); exact rfl; kernel_rfl)|(apply Walk.nil)
  | (apply AWP.block)))
    refine AWP.loopW (α := Nat) (fun k => k ≤ ps.length) (fun k => ⟨[(6, iV k), (5, .osl 1 (CZ k).length 0 (CZ k).length), (2, .opt 0 0), (1, iV u)], [.box [.d .any, iV M, iV D, rowsN ps, .d .any], .row (CZ k).length 1 36 (((CZ k).map C).map rnD)]⟩) (fun k => ps.length - k) 0 (by omega) ?wk0 fun k hk => ?_
    case wk0 =>
      rw [hz]
      exact ⟨[0, 1], rfl, rfl, rfl, by (repeat (first | exact trivial | refine ⟨rfl, ?_⟩))⟩
    have hlc := hl k
    by_cases hkl : k < ps.length
    · have hc := hck k hkl
      have hci := A_r10has (l := C k) (u := u) (by have := hcl k; omega)
      have hs2 := hs k
      clear hs hck hl
      cases hb2 : (C k).any fun x => decide (u = (x : Int)) <;> rw [hb2] at hci hs2
      · replace hs2 := Lib.hid (hs2.out.trans (if_neg (by decide)))
        (repeat' (first
  | (apply W.qd; (first
    | (apply (q_callC (hc)); exact rfl; exact rfl; kernel_rfl; kernel_rfl; kernel_rfl)|(apply (q_callC (hci)); exact rfl; exact rfl; kernel_rfl; kernel_rfl; kernel_rfl)|(apply q_mv; (first|exact vD|exact vO|exact vP|exact vA|exact vF|exact vR|exact vN|exact vY|exact vT|exact vX))|(apply q_as; (first|exact vD|exact vO|exact vP|exact vA|exact vF|exact vR|exact vN|exact vY|exact vT|exact vX))|(apply q_fld_optF; exact rfl; exact rfl; exact rfl)|(apply q_ld_box; exact rfl; exact rfl; exact rfl; exact rfl)|(apply q_ld_boxF; exact rfl; exact rfl; exact rfl; exact rfl)|(apply q_lss; exact rfl; exact rfl)|(apply q_add; exact rfl; exact rfl; omega)
    | (apply q_len_sl; exact rfl; exact rfl)))|(apply AWP.seq)|(apply ACont_normal)|(apply W.region; kernel_rfl)|(apply Walk.nil)|(apply AWP.block)|(apply AWP.skip)|(apply ABlock_normal)|(apply W.condF; exact rfl)
  | (refine W.cond _ rfl (fun hb => ?_) (fun hb => ?_) <;> ((try simp only [hb, Bool.not_true, Bool.not_false]) <;> (try simp only [decide_eq_true_eq, decide_eq_false_iff_not, Bool.not_eq_true', Bool.not_eq_false', Int.not_lt, Int.not_le, List.length_map, not_true_eq_false] at hb) <;> (try (exfalso; omega))))))
        refine ⟨k + 1, by omega, by omega, ?_⟩
        rw [hs2.out]
        exact ⟨[0, 1], rfl, rfl, rfl, iV_eq (by omega), rfl, rfl, rfl, trivial⟩
      · replace hs2 := Lib.hid (hs2.out.trans (if_pos rfl))
        have hln : (CZ k).length = ((CZ k).map C).length := by simp
        rw [hln]
        have hln2 : ((CZ k).map C).length ≤ 1000 := by rw [← hln]; omega
        have hs3 : (CZ (k + 1)).map C = (CZ k).map C ++ [C k] := by rw [hs2.out, List.map_append]; rfl
        have hs4 : (CZ (k + 1)).length = ((CZ k).map C).length + 1 := by rw [hs2.out]; simp
        replace hs3 := Lib.hid hs3
        replace hs4 := Lib.hid hs4
        generalize (CZ k).map C = A at *
        generalize C k = ck at *
        (repeat' (first
  | (apply W.qd; (first
    | (apply (q_callC (hc)); exact rfl; exact rfl; kernel_rfl; kernel_rfl; kernel_rfl)|(apply (q_callC (hci)); exact rfl; exact rfl; kernel_rfl; kernel_rfl; kernel_rfl)|(apply q_mv; (first|exact vD|exact vO|exact vP|exact vA|exact vF|exact vR|exact vN|exact vY|exact vT|exact vX))|(apply q_as; (first|exact vD|exact vO|exact vP|exact vA|exact vF|exact vR|exact vN|exact vY|exact vT|exact vX))|(apply q_fld_optF; exact rfl; exact rfl; exact rfl)|(apply q_ld_box; exact rfl; exact rfl; exact rfl; exact rfl)|(apply q_ld_boxF; exact rfl; exact rfl; exact rfl; exact rfl)|(apply q_lss; exact rfl; exact rfl)|(apply q_add; exact rfl; exact rfl; omega)|(apply q_len_sl; exact rfl; exact rfl)
    | (apply q_litF; exact rfl; exact rfl; exact rfl; exact rfl; exact rfl; kernel_rfl; kernel_rfl; exact rfl)))|(apply W.ld; (apply l_app1; exact rfl; exact rfl; exact rfl; exact rfl; exact rfl; exact rfl; exact rfl; exact rfl; (first | omega | (focus (simp; omega)) | (focus (simp; done)))))|(apply AWP.seq)|(apply ACont_normal)|(apply W.region; kernel_rfl)|(apply Walk.nil)|(apply AWP.block)|(apply AWP.skip)|(apply ABlock_normal)|(apply W.condT; exact rfl)
  | (refine W.cond _ rfl (fun hb => ?_) (fun hb => ?_) <;> ((try simp only [hb, Bool.not_true, Bool.not_false]) <;> (try simp only [decide_eq_true_eq, decide_eq_false_iff_not, Bool.not_eq_true', Bool.not_eq_false', Int.not_lt, Int.not_le, List.length_map, not_true_eq_false] at hb) <;> (try (exfalso; omega))))))
        refine ⟨k + 1, by omega, by omega, ?_⟩
        rw [hs3.out, hs4.out]
        exact ⟨[0, 1], rfl, rfl, rfl, iV_eq (by omega), congrArg (AV.osl 1 (A.length + 1) 0) (by simp), rfl, rfl, trivial⟩
    · have e : k = ps.length := by omega
      subst e
      have hln : (CZ ps.length).length = ((CZ ps.length).map C).length := by simp
      rw [hln]
      generalize (CZ ps.length).map C = A at *
      (repeat' (first
  | (apply W.qd; (first
    | (apply q_mv; (first|exact vD|exact vO|exact vP|exact vA|exact vF|exact vR|exact vN|exact vY|exact vT|exact vX))|(apply q_as; (first|exact vD|exact vO|exact vP|exact vA|exact vF|exact vR|exact vN|exact vY|exact vT|exact vX))|(apply q_fld_optF; exact rfl; exact rfl; exact rfl)|(apply q_ld_box; exact rfl; exact rfl; exact rfl; exact rfl)|(apply q_lss; exact rfl; exact rfl)
    | (apply q_len_sl; exact rfl; exact rfl)))|(apply AWP.seq)|(apply ACont_normal)|(apply W.region; kernel_rfl)|(apply Walk.nil)|(apply AWP.exit)|(apply AWP.ret)|(apply ACont_exit)|(apply ABlock_exit)
  | (refine W.cond _ rfl (fun hb => ?_) (fun hb => ?_) <;> ((try simp only [hb, Bool.not_true, Bool.not_false]) <;> (try simp only [decide_eq_true_eq, decide_eq_false_iff_not, Bool.not_eq_true', Bool.not_eq_false', Int.not_lt, Int.not_le, List.length_map, not_true_eq_false] at hb) <;> (try (exfalso; omega))))))
      exact ⟨.inl rfl, [], [.osl 1 A.length 0 A.length], rfl, rfl, ⟨rfl, trivial⟩, AVle.of_eq (frz_rowJ rfl rfl (by simp)), rfl⟩
end Go.Proofs.YtilpljehfcpjeaaGreatDoor
end
section
/- The reference of layer 10 over the machine of abstract values: better, Plan. -/
namespace Go.Proofs.YtilpljehfcpjeaaGreatDoor
open Go.RowKit
set_option maxHeartbeats 4000000
set_option maxRecDepth 100000
theorem fullC_take {oth : List Bool} {l : List Nat} {u k : Nat} (h : k < l.length) : fullC oth (l.take (k + 1)) u = (fullC oth (l.take k) u && (l[k] == u || oth.getD l[k] false)) := by
  unfold fullC
  rw [List.take_succ_eq_append_getElem h, List.all_append]
  simp
attribute [local irreducible] Quiet Eff OpOk AWPG ACont ABlock ACalls AGoto
end Go.Proofs.YtilpljehfcpjeaaGreatDoor
end
section
/- The law RepairFewest: the walk. -/
namespace Go.Proofs.YtilpljehfcpjeaaGreatDoor
open Go.RowKit
set_option maxHeartbeats 4000000
set_option maxRecDepth 100000
theorem filter_out {u : Nat} : ∀ {L : List Nat}, L.Nodup → u ∈ L → (L.filter fun k => k != u).length = L.length - 1
  | [], _, h => by simp at h
  | a :: L, hn, h => by
    obtain ⟨h1, h2⟩ := List.nodup_cons.1 hn
    by_cases e : a = u
    · subst e
      have e3 : (a :: L).filter (fun k => k != a) = L := by
        rw [List.filter_cons_of_neg (by simp)]
        refine List.filter_eq_self.2 fun b hb => ?_
        have : b ≠ a := fun e2 => h1 (e2 ▸ hb)
        simpa using this
      rw [e3]; simp
    · have h3 : u ∈ L := by
        rcases List.mem_cons.1 h with h | h
        · exact absurd h.symm e
        · exact h
      rw [List.filter_cons_of_pos (by simpa using e), List.length_cons, filter_out h2 h3, List.length_cons]
      have := List.length_pos_of_mem h3
      omega
theorem cterms_len {M D i u : Nat} {row : List Nat} (hu : u ∈ checkN D i row) : (ctermsN M D row (checkN D i row) u).length = (checkN D i row).length - 1 := by
  unfold ctermsN
  rw [List.length_map]
  exact filter_out ((check_inc D i row).imp fun {a b} hab => by omega) hu
attribute [local irreducible] Quiet Eff OpOk AWPG ACont ABlock ACalls AGoto
theorem A_fewest {M D u : Int} {par : List (List Int)} {hv : List Bool} (hpar : ∀ r ∈ par, ∀ x ∈ r, x < 9223372036854775808) (_hu : -9223372036854775808 ≤ u ∧ u < 9223372036854775808) :
    ACalls Tryz.prog 5 [cdA M D par, bools hv, iV u] [] (bV true) [] := by
  refine acalls_of_body Tryz.func5 rfl (Nat.le_of_ble_eq_true rfl) ?_
  have hca : CodeIn par := ⟨hpar⟩
  have hsan := A_sanity10
  have hsm := A_small (M := M) (D := D) (par := par)
  have hmh : (hv.map tD).length = hv.length := List.length_map _
  cases hS : smallB D par <;> rw [hS] at hsm
  · (repeat' (first
  | (apply W.qd; (first
    | (apply (q_callC (hsan)); exact rfl; exact rfl; kernel_rfl; kernel_rfl; kernel_rfl)|(apply (q_callC (hsm)); exact rfl; exact rfl; kernel_rfl; kernel_rfl; kernel_rfl)|(apply q_mv; (first|exact vD|exact vO|exact vP|exact vA|exact vF|exact vR|exact vN|exact vY|exact vT|exact vX))|(apply q_as; (first|exact vD|exact vO|exact vP|exact vA|exact vF|exact vR|exact vN|exact vY|exact vT|exact vX))|(apply q_ld_boxF; exact rfl; exact rfl; exact rfl; exact rfl)|(apply q_not; exact rfl)
    | (apply (q_pickT (u := .d _)); exact rfl; exact rfl)))|(apply W.ed; (apply e_boxF; exact rfl; exact rfl; exact rfl; kernel_rfl; kernel_rfl))|(refine W.gOff _ _ rfl rfl (by intro h; cases h) ?_)|(apply AWP.seq)|(apply ACont_normal)|(apply W.region; kernel_rfl)|(apply Walk.nil)|(apply AWP.ret)|(apply ACont_ret)
  | (apply W.condT; exact rfl)))
    all_goals exact Ends.b rfl rfl
  unfold smallB at hS
  simp only [Bool.and_eq_true, decide_eq_true_eq, List.all_eq_true] at hS
  have hval := A_r8valid (M := M) (D := D) (par := par) (by omega) (by omega)
  have hwid := A_r8width (M := M) (D := D) (par := par) (by omega) (by omega)
  cases hv0 : validC M D par with
  | false =>
    rw [hv0] at hval
    (repeat' (first
  | (apply W.gOn; exact rfl; exact rfl)
  | (apply W.qd; (first
    | (apply (q_callC (hsan)); exact rfl; exact rfl; kernel_rfl; kernel_rfl; kernel_rfl)|(apply (q_callC (hsm)); exact rfl; exact rfl; kernel_rfl; kernel_rfl; kernel_rfl)|(apply (q_callC (hval)); exact rfl; exact rfl; kernel_rfl; kernel_rfl; kernel_rfl)|(apply q_mv; (first|exact vD|exact vO|exact vP|exact vA|exact vF|exact vR|exact vN|exact vY|exact vT|exact vX))|(apply q_as; (first|exact vD|exact vO|exact vP|exact vA|exact vF|exact vR|exact vN|exact vY|exact vT|exact vX))|(apply q_ld_boxF; exact rfl; exact rfl; exact rfl; exact rfl)|(apply q_not; exact rfl)|(apply (q_pickT (u := .d _)); exact rfl; exact rfl)
    | (apply (q_pickF (u := .d _)); exact rfl; exact rfl)))|(apply W.ed; (apply e_boxF; exact rfl; exact rfl; exact rfl; kernel_rfl; kernel_rfl))|(refine W.gOff _ _ rfl rfl (by intro h; cases h) ?_)|(apply AWP.seq)|(apply ACont_normal)|(apply W.region; kernel_rfl)|(apply Walk.nil)|(apply AWP.ret)|(apply ACont_ret)
  | (apply W.condT; exact rfl)))
    all_goals exact Ends.b rfl rfl
  | true =>
  rw [hv0] at hval hwid
  rw [if_pos rfl] at hwid
  by_cases hlen : ¬ (hv.length : Int) = D + (par.length : Int)
  · (repeat' (first
  | (apply W.gOn; exact rfl; exact rfl)
  | (apply W.qd; (first
    | (apply (q_callC (hsan)); exact rfl; exact rfl; kernel_rfl; kernel_rfl; kernel_rfl)|(apply (q_callC (hsm)); exact rfl; exact rfl; kernel_rfl; kernel_rfl; kernel_rfl)|(apply (q_callC (hval)); exact rfl; exact rfl; kernel_rfl; kernel_rfl; kernel_rfl)|(apply (q_callC (hwid)); exact rfl; exact rfl; kernel_rfl; kernel_rfl; kernel_rfl)|(apply q_mv; (first|exact vD|exact vO|exact vP|exact vA|exact vF|exact vR|exact vN|exact vY|exact vT|exact vX))|(apply q_as; (first|exact vD|exact vO|exact vP|exact vA|exact vF|exact vR|exact vN|exact vY|exact vT|exact vX))|(apply q_ld_boxF; exact rfl; exact rfl; exact rfl; exact rfl)|(apply q_neq; exact rfl; exact rfl)|(apply q_not; exact rfl)|(apply q_len_sl; exact rfl; exact rfl)|(apply (q_pickT (u := .d _)); exact rfl; exact rfl)
    | (apply (q_pickF (u := .d _)); exact rfl; exact rfl)))|(apply W.ed; (apply e_boxF; exact rfl; exact rfl; exact rfl; kernel_rfl; kernel_rfl))|(refine W.gOff _ _ rfl rfl (by intro h; cases h) ?_)|(apply AWP.seq)|(apply ACont_normal)|(apply W.region; kernel_rfl)|(apply Walk.nil)|(apply AWP.ret)|(apply ACont_ret)|(apply W.condT; exact rfl)
  | (refine W.gF _ _ rfl rfl (fun hb => ?_) (fun hb => ?_) <;> ((try simp only [hb, Bool.not_true, Bool.not_false]) <;> (try simp only [decide_eq_true_eq, decide_eq_false_iff_not, Bool.not_eq_true', Bool.not_eq_false', Int.not_lt, Int.not_le, List.length_map, not_true_eq_false] at hb) <;> (try (exfalso; omega))))))
    all_goals exact Ends.b rfl rfl
  have hlen := Decidable.of_not_not hlen
  by_cases hu : ¬ (0 ≤ u ∧ u < hv.length)
  · rw [← hlen] at hwid
    (repeat' (first
  | (apply W.gOn; exact rfl; exact rfl)
  | (apply W.qd; (first
    | (apply (q_callC (hsan)); exact rfl; exact rfl; kernel_rfl; kernel_rfl; kernel_rfl)|(apply (q_callC (hsm)); exact rfl; exact rfl; kernel_rfl; kernel_rfl; kernel_rfl)|(apply (q_callC (hval)); exact rfl; exact rfl; kernel_rfl; kernel_rfl; kernel_rfl)|(apply (q_callC (hwid)); exact rfl; exact rfl; kernel_rfl; kernel_rfl; kernel_rfl)|(apply q_mv; (first|exact vD|exact vO|exact vP|exact vA|exact vF|exact vR|exact vN|exact vY|exact vT|exact vX))|(apply q_as; (first|exact vD|exact vO|exact vP|exact vA|exact vF|exact vR|exact vN|exact vY|exact vT|exact vX))|(apply q_ld_boxF; exact rfl; exact rfl; exact rfl; exact rfl)|(apply q_lss; exact rfl; exact rfl)|(apply q_geq; exact rfl; exact rfl)|(apply q_neq; exact rfl; exact rfl)|(apply q_not; exact rfl)|(apply q_len_sl; exact rfl; exact rfl)|(apply (q_pickT (u := .d _)); exact rfl; exact rfl)
    | (apply (q_pickF (u := .d _)); exact rfl; exact rfl)))|(apply W.ed; (apply e_boxF; exact rfl; exact rfl; exact rfl; kernel_rfl; kernel_rfl))|(refine W.gOff _ _ rfl rfl (by intro h; cases h) ?_)|(apply AWP.seq)|(apply ACont_normal)|(apply W.region; kernel_rfl)|(apply Walk.nil)|(apply AWP.ret)|(apply ACont_ret)|(apply W.condT; exact rfl)|(refine W.gF _ _ rfl rfl (fun hb => ?_) (fun hb => ?_) <;> ((try simp only [hb, Bool.not_true, Bool.not_false]) <;> (try simp only [decide_eq_true_eq, decide_eq_false_iff_not, Bool.not_eq_true', Bool.not_eq_false', Int.not_lt, Int.not_le, List.length_map, not_true_eq_false] at hb) <;> (try (exfalso; omega))))
  | (refine W.cond _ rfl (fun hb => ?_) (fun hb => ?_) <;> ((try simp only [hb, Bool.not_true, Bool.not_false]) <;> (try simp only [decide_eq_true_eq, decide_eq_false_iff_not, Bool.not_eq_true', Bool.not_eq_false', Int.not_lt, Int.not_le, List.length_map, not_true_eq_false] at hb) <;> (try (exfalso; omega))))))
    all_goals exact Ends.b rfl rfl
  have hu := Decidable.of_not_not hu
  obtain ⟨k, rfl⟩ := Int.eq_ofNat_of_zero_le hu.1
  obtain ⟨m, d, ps, rfl, rfl, rfl, hok⟩ := ok_valid hv0
  have hpl : (toZ ps).length = ps.length := List.length_map _
  rw [← hlen] at hwid
  rw [hpl] at hlen
  have hl : hv.length = d + ps.length := by omega
  have hk0 : k < hv.length := by omega
  have hk : k < d + ps.length := by omega
  have hl2 : (hv.set k false).length = d + ps.length := by rw [List.length_set]; exact hl
  have hwd := hok.w
  have hd := hok.d
  have hplan := A_plan hok hl hk
  have hcomb := A_r8comb hok hl2 hk
  have hiff := plan_iff hok hl hk
  have hchk := A_r10checks (u := (k : Int)) hok
  rw [chkZ_nat] at hchk
  rw [cdN_A] at hplan hcomb hchk
  have hhv0 : 0 < hv.length := by omega
  cases hpn : planN m d ps hv k with
  | none =>
    rw [hpn] at hplan hiff
    have hcn : combN m d ps (hv.set k false) k = none := by
      cases hc : combN m d ps (hv.set k false) k with
      | none => rfl
      | some x => rw [hc] at hiff; cases hiff
    rw [hcn] at hcomb
    have hrec := A_r8recov (l := []) (e := 11) hcomb
    unfold planA at hplan
    dsimp only at hplan
    (repeat' (first
  | (apply W.gOn; exact rfl; exact rfl)|(apply W.ed; (apply e_lit0F; exact rfl; exact rfl; exact rfl; exact rfl; exact rfl))
  | (apply W.qd; (first
    | (apply (q_callC (hsm)); exact rfl; exact rfl; kernel_rfl; kernel_rfl; kernel_rfl)|(apply (q_callC (hval)); exact rfl; exact rfl; kernel_rfl; kernel_rfl; kernel_rfl)|(apply (q_callC (hwid)); exact rfl; exact rfl; kernel_rfl; kernel_rfl; kernel_rfl)|(apply q_mv; (first|exact vD|exact vO|exact vP|exact vA|exact vF|exact vR|exact vN|exact vY|exact vT|exact vX))|(apply q_as; (first|exact vD|exact vO|exact vP|exact vA|exact vF|exact vR|exact vN|exact vY|exact vT|exact vX))|(apply q_ld_boxF; exact rfl; exact rfl; exact rfl; exact rfl)|(apply q_lss; exact rfl; exact rfl)|(apply q_geq; exact rfl; exact rfl)|(apply q_neq; exact rfl; exact rfl)|(apply q_not; exact rfl)|(apply q_len_sl; exact rfl; exact rfl)|(apply (q_pickF (u := .d _)); exact rfl; exact rfl)
    | (apply q_ix_osl0; exact rfl; exact rfl; exact rfl; exact rfl; (first | (with_reducible exact rfl) | exact natI_spec rfl | assumption | exact (Int.toNat_of_nonneg (by omega)).symm); (first | omega | (focus (simp only [List.length_map]; omega)) | (focus (simp; done)) | (focus (simp; omega))))))
  | (apply W.ed; (first
    | (apply e_boxF; exact rfl; exact rfl; exact rfl; kernel_rfl; kernel_rfl)
    | (apply e_appF; exact rfl; exact rfl; exact rfl; exact rfl; exact rfl; exact rfl; exact rfl; exact rfl; (first | rfl | simp); (first | exact Nat.zero_lt_one | (focus (simp; done)) | omega); (first | (focus (simp; done)) | (focus (simp; omega)) | omega))))|(apply W.ln; (apply l_st_rpt; exact rfl; exact rfl; exact rfl; exact rfl; exact rfl; exact rfl; exact rfl; exact fun _ => rfl; (first | omega | (focus (simp only [List.length_map]; omega)) | (focus (simp; omega)))))|(apply AWP.seq)|(apply ACont_normal)|(apply (W.regionS 5); exact rfl; kernel_rfl)|(apply Walk.nil)|(apply AWP.skip)|(refine W.gF _ _ rfl rfl (fun hb => ?_) (fun hb => ?_) <;> ((try simp only [hb, Bool.not_true, Bool.not_false]) <;> (try simp only [decide_eq_true_eq, decide_eq_false_iff_not, Bool.not_eq_true', Bool.not_eq_false', Int.not_lt, Int.not_le, List.length_map, not_true_eq_false] at hb) <;> (try (exfalso; omega))))
  | (refine W.cond _ rfl (fun hb => ?_) (fun hb => ?_) <;> ((try simp only [hb, Bool.not_true, Bool.not_false]) <;> (try simp only [decide_eq_true_eq, decide_eq_false_iff_not, Bool.not_eq_true', Bool.not_eq_false', Int.not_lt, Int.not_le, List.length_map, not_true_eq_false] at hb) <;> (try (exfalso; omega))))))
    refine AWP.wk ⟨[(3, .opt 0 0), (1, bools hv), (2, iV k), (7, bools (hv.set k false))], [.box [.d .any, iV m, iV d, rowsA (toZ ps), .d .any]]⟩ ⟨[0], rfl, rfl, rfl, rfl, rfl, rfl, (frz_rowJ rfl rfl (by simp)).symm, trivial⟩ ?_
    generalize hv.set k false = OT at *
    (repeat' (first
  | (apply W.gOn; exact rfl; exact rfl)
  | (apply W.qd; (first
    | (apply (q_callC (hsan)); exact rfl; exact rfl; kernel_rfl; kernel_rfl; kernel_rfl)|(apply (q_callC (hplan)); exact rfl; exact rfl; kernel_rfl; kernel_rfl; kernel_rfl)|(apply (q_callC (hrec)); exact rfl; exact rfl; kernel_rfl; kernel_rfl; kernel_rfl)|(apply q_mv; (first|exact vD|exact vO|exact vP|exact vA|exact vF|exact vR|exact vN|exact vY|exact vT|exact vX))|(apply q_as; (first|exact vD|exact vO|exact vP|exact vA|exact vF|exact vR|exact vN|exact vY|exact vT|exact vX))|(apply q_ld_boxF; exact rfl; exact rfl; exact rfl; exact rfl)|(apply q_eql; exact rfl; exact rfl)|(apply q_neq; exact rfl; exact rfl)|(apply q_extract; exact rfl; exact rfl)|(apply (q_pickT (u := .d _)); exact rfl; exact rfl)
    | (apply q_neqB; exact rfl; exact rfl; exact rfl)))|(apply W.ed; (apply e_allocF; exact rfl; exact rfl; exact rfl; kernel_rfl))|(apply W.ln; (apply l_st_box; exact rfl; exact rfl; exact rfl; exact rfl; exact rfl; exact rfl; kernel_rfl; kernel_rfl; kernel_rfl))|(apply AWP.seq)|(apply ACont_normal)|(apply W.region; kernel_rfl)|(apply Walk.nil)|(apply AWP.skip)|(apply AWP.ret)|(apply ACont_ret)|(apply W.condT; exact rfl)
  | (apply W.condF; exact rfl)))
    all_goals exact Ends.b rfl (by first | rfl | (simp; done))
  | some l =>
    rw [hpn] at hplan hiff
    obtain ⟨l2, hl3⟩ := Option.isSome_iff_exists.1 hiff.symm
    obtain ⟨hcand, hmin⟩ := plan_some hok hpn
    have hle := hmin l2 (by unfold candN; rw [hl3]; simp)
    have hchkle : ∀ i ∈ chkI d ps k ps.length, fullC (hv.set k false) (checkN d i (ps.getD i [])) k = true → l.length ≤ (checkN d i (ps.getD i [])).length - 1 := fun i hi hf => by
      obtain ⟨q1, q2⟩ := List.mem_filter.1 hi
      rw [← cterms_len (M := m) (by simpa using q2)]
      exact hmin _ (by
        unfold candN
        exact List.mem_append_right _ (List.mem_map.2 ⟨i, List.mem_filter.2 ⟨hi, hf⟩, rfl⟩))
    have hmem : ∀ i ∈ chkI d ps k ps.length, ∀ x ∈ checkN d i (ps.getD i []), x < d + ps.length := fun i hi x hx => by
      obtain ⟨q1, q2⟩ := List.mem_filter.1 hi
      exact (coef_ok hok (List.mem_range.1 q1) hx).1
    have hcl := fun i => checkN_length d i (ps.getD i [])
    have hcl0 : ∀ i, 0 < (checkN d i (ps.getD i [])).length := fun i => by simp [checkN]
    have hIl : (chkI d ps k ps.length).length ≤ ps.length := by rw [← chkZ_nat]; exact chkZ_length _ _ _ _
    rw [hl3] at hcomb
    have hrec := A_r8recov (l := l2) (e := 0) hcomb
    unfold planA at hplan
    dsimp only at hplan
    unfold termsA at hcomb
    dsimp only at hcomb
    have hll := (plan_le hok hl hk hpn).1
    have hl2l := (comb_ok hok hl2 hk hl3).le
    have hbl := basis_len hok hl2
    generalize hCh : (fun i => checkN d i (ps.getD i [])) = CK at *
    have hCh' : ∀ i, checkN d i (ps.getD i []) = CK i := fun i => congrFun hCh i
    simp only [hCh'] at hmem hcl hcl0 hchkle
    generalize chkI d ps k ps.length = I at *
    clear hmin hcand hl3 hpn hiff
    (repeat' (first
  | (apply W.gOn; exact rfl; exact rfl)|(apply W.ed; (apply e_lit0F; exact rfl; exact rfl; exact rfl; exact rfl; exact rfl))
  | (apply W.qd; (first
    | (apply (q_callC (hsm)); exact rfl; exact rfl; kernel_rfl; kernel_rfl; kernel_rfl)|(apply (q_callC (hval)); exact rfl; exact rfl; kernel_rfl; kernel_rfl; kernel_rfl)|(apply (q_callC (hwid)); exact rfl; exact rfl; kernel_rfl; kernel_rfl; kernel_rfl)|(apply q_mv; (first|exact vD|exact vO|exact vP|exact vA|exact vF|exact vR|exact vN|exact vY|exact vT|exact vX))|(apply q_as; (first|exact vD|exact vO|exact vP|exact vA|exact vF|exact vR|exact vN|exact vY|exact vT|exact vX))|(apply q_ld_boxF; exact rfl; exact rfl; exact rfl; exact rfl)|(apply q_lss; exact rfl; exact rfl)|(apply q_geq; exact rfl; exact rfl)|(apply q_neq; exact rfl; exact rfl)|(apply q_not; exact rfl)|(apply q_len_sl; exact rfl; exact rfl)|(apply (q_pickF (u := .d _)); exact rfl; exact rfl)
    | (apply q_ix_osl0; exact rfl; exact rfl; exact rfl; exact rfl; (first | (with_reducible exact rfl) | exact natI_spec rfl | assumption | exact (Int.toNat_of_nonneg (by omega)).symm); (first | omega | (focus (simp only [List.length_map]; omega)) | (focus (simp; done)) | (focus (simp; omega))))))
  | (apply W.ed; (first
    | (apply e_boxF; exact rfl; exact rfl; exact rfl; kernel_rfl; kernel_rfl)
    | (apply e_appF; exact rfl; exact rfl; exact rfl; exact rfl; exact rfl; exact rfl; exact rfl; exact rfl; (first | rfl | simp); (first | exact Nat.zero_lt_one | (focus (simp; done)) | omega); (first | (focus (simp; done)) | (focus (simp; omega)) | omega))))|(apply W.ln; (apply l_st_rpt; exact rfl; exact rfl; exact rfl; exact rfl; exact rfl; exact rfl; exact rfl; exact fun _ => rfl; (first | omega | (focus (simp only [List.length_map]; omega)) | (focus (simp; omega)))))|(apply AWP.seq)|(apply ACont_normal)|(apply (W.regionS 5); exact rfl; kernel_rfl)|(apply Walk.nil)|(apply AWP.skip)|(refine W.gF _ _ rfl rfl (fun hb => ?_) (fun hb => ?_) <;> ((try simp only [hb, Bool.not_true, Bool.not_false]) <;> (try simp only [decide_eq_true_eq, decide_eq_false_iff_not, Bool.not_eq_true', Bool.not_eq_false', Int.not_lt, Int.not_le, List.length_map, not_true_eq_false] at hb) <;> (try (exfalso; omega))))
  | (refine W.cond _ rfl (fun hb => ?_) (fun hb => ?_) <;> ((try simp only [hb, Bool.not_true, Bool.not_false]) <;> (try simp only [decide_eq_true_eq, decide_eq_false_iff_not, Bool.not_eq_true', Bool.not_eq_false', Int.not_lt, Int.not_le, List.length_map, not_true_eq_false] at hb) <;> (try (exfalso; omega))))))
    refine AWP.wk ⟨[(3, .opt 0 0), (1, bools hv), (2, iV k), (7, bools (hv.set k false))], [.box [.d .any, iV m, iV d, rowsA (toZ ps), .d .any]]⟩ ⟨[0], rfl, rfl, rfl, rfl, rfl, rfl, (frz_rowJ rfl rfl (by simp)).symm, trivial⟩ ?_
    generalize hv.set k false = OT at *
    have hmO : (OT.map tD).length = OT.length := List.length_map _
    have hmi : ((I.map CK).map rnD).length = I.length := by simp
    have hmi2 : (I.map CK).length = I.length := by simp
    have hml : (l.map tmD).length = l.length := List.length_map _
    have hml2 : (l2.map tmD).length = l2.length := List.length_map _
    (repeat' (first
  | (apply W.qd; (first
    | (apply (q_callC (hplan)); exact rfl; exact rfl; kernel_rfl; kernel_rfl; kernel_rfl)|(apply (q_callC (hrec)); exact rfl; exact rfl; kernel_rfl; kernel_rfl; kernel_rfl)|(apply (q_callC (hcomb)); exact rfl; exact rfl; kernel_rfl; kernel_rfl; kernel_rfl)|(apply (q_callC (hchk)); exact rfl; exact rfl; kernel_rfl; kernel_rfl; kernel_rfl)|(apply q_mv; (first|exact vD|exact vO|exact vP|exact vA|exact vF|exact vR|exact vN|exact vY|exact vT|exact vX))|(apply q_as; (first|exact vD|exact vO|exact vP|exact vA|exact vF|exact vR|exact vN|exact vY|exact vT|exact vX))|(apply q_fld_optF; exact rfl; exact rfl; exact rfl)|(apply q_ld_box; exact rfl; exact rfl; exact rfl; exact rfl)|(apply q_ld_boxF; exact rfl; exact rfl; exact rfl; exact rfl)|(apply q_gtr; exact rfl; exact rfl)|(apply q_eql; exact rfl; exact rfl)|(apply q_neq; exact rfl; exact rfl)|(apply q_extract; exact rfl; exact rfl)|(apply q_len_sl; exact rfl; exact rfl)
    | (apply q_neqB; exact rfl; exact rfl; exact rfl)))|(apply W.ed; (apply e_allocF; exact rfl; exact rfl; exact rfl; kernel_rfl))|(apply W.ln; (apply l_st_box; exact rfl; exact rfl; exact rfl; exact rfl; exact rfl; exact rfl; kernel_rfl; kernel_rfl; kernel_rfl))|(apply AWP.seq)|(apply ACont_normal)|(apply (W.regionS 14); exact rfl; kernel_rfl)|(apply Walk.nil)|(apply AWP.block)|(apply AWP.skip)|(apply W.condF; exact rfl)
  | (refine W.cond _ rfl (fun hb => ?_) (fun hb => ?_) <;> ((try simp only [hb, Bool.not_true, Bool.not_false]) <;> (try simp only [decide_eq_true_eq, decide_eq_false_iff_not, Bool.not_eq_true', Bool.not_eq_false', Int.not_lt, Int.not_le, List.length_map, not_true_eq_false] at hb) <;> (try (exfalso; omega))))))
    refine AWP.loopW (α := Nat) (fun i => i ≤ I.length) (fun i => ⟨[(87, iV i), (86, iV I.length), (85, rowsN (I.map CK)), (7, bools OT), (2, iV k), (3, .opt 0 0), (8, .opt 1 0)], [.box [.d .any, iV m, iV d, rowsA (toZ ps), .d .any], .box [iV k, tmsA l]]⟩) (fun i => I.length - i) 0 (Nat.zero_le _) ⟨[0, 1], rfl, rfl, rfl, rfl, iV_eq (by rw [hmi]), rfl, rfl, rfl, rfl, rfl, trivial⟩ fun i hi => ?_
    by_cases hiI : i < I.length
    · have hIi := List.getElem_mem hiI
      have eK : (I.map CK)[i]'(by simpa using hiI) = CK I[i] := List.getElem_map _
      have hmemi := hmem _ hIi
      have hchi := hchkle _ hIi
      have hc0 := hcl0 I[i]
      have hc1 := hcl I[i]
      rw [← eK] at hmemi hchi hc0 hc1
      have hmL : (((I.map CK)[i]'(by simpa using hiI)).map kD).length = ((I.map CK)[i]'(by simpa using hiI)).length := List.length_map _
      have hft := fun x (h : x < ((I.map CK)[i]'(by simpa using hiI)).length) => fullC_take (oth := OT) (u := k) h
      have hf0 : fullC OT (((I.map CK)[i]'(by simpa using hiI)).take 0) k = true := rfl
      clear hmem hchkle hcl hcl0
      (repeat' (first
  | (apply W.qd; (first
    | (apply q_mv; (first|exact vD|exact vO|exact vP|exact vA|exact vF|exact vR|exact vN|exact vY|exact vT|exact vX))|(apply q_as; (first|exact vD|exact vO|exact vP|exact vA|exact vF|exact vR|exact vN|exact vY|exact vT|exact vX))|(apply q_lss; exact rfl; exact rfl)|(apply q_len_sl; exact rfl; exact rfl)|(apply q_ld_map; exact rfl; exact rfl; exact rfl; (first | omega | (focus (simp; done))))
    | (apply q_ix_slF; exact rfl; exact rfl; exact rfl; exact rfl; (first | (with_reducible exact rfl) | exact natI_spec rfl | assumption | exact (Int.toNat_of_nonneg (by omega)).symm); (first | omega | (focus (simp only [List.length_map]; omega)) | (focus (simp; done)) | (focus (simp; omega))))))|(apply AWP.seq)|(apply ACont_normal)|(apply (W.regionS 18); exact rfl; kernel_rfl)|(apply Walk.nil)|(apply AWP.block)|(apply AWP.skip)
  | (refine W.cond _ rfl (fun hb => ?_) (fun hb => ?_) <;> ((try simp only [hb, Bool.not_true, Bool.not_false]) <;> (try simp only [decide_eq_true_eq, decide_eq_false_iff_not, Bool.not_eq_true', Bool.not_eq_false', Int.not_lt, Int.not_le, List.length_map, not_true_eq_false] at hb) <;> (try (exfalso; omega))))))
      refine AWP.loopW (α := Nat) (fun x => x ≤ ((I.map CK)[i]'(by simpa using hiI)).length) (fun x => ⟨[(93, iV x), (92, iV ((I.map CK)[i]'(by simpa using hiI)).length), (91, nats ((I.map CK)[i]'(by simpa using hiI))), (13, nats ((I.map CK)[i]'(by simpa using hiI))), (14, bV (fullC OT (((I.map CK)[i]'(by simpa using hiI)).take x) k)), (87, iV i), (86, iV I.length), (85, rowsN (I.map CK)), (7, bools OT), (2, iV k), (3, .opt 0 0), (8, .opt 1 0)], [.box [.d .any, iV m, iV d, rowsA (toZ ps), .d .any], .box [iV k, tmsA l]]⟩) (fun x => ((I.map CK)[i]'(by simpa using hiI)).length - x) 0 (Nat.zero_le _) ⟨[0, 1], rfl, rfl, rfl, rfl, iV_eq (by rw [hmL]), rfl, rfl, rfl, rfl, rfl, rfl, rfl, rfl, rfl, rfl, trivial⟩ fun x hx => ?_
      by_cases hxL : x < ((I.map CK)[i]'(by simpa using hiI)).length
      · have hf := hft x hxL
        have hxx := hmemi _ (List.getElem_mem hxL)
        have eg : OT.getD (((I.map CK)[i]'(by simpa using hiI))[x]) false = OT[((I.map CK)[i]'(by simpa using hiI))[x]]'(by omega) := by rw [List.getD_eq_getElem?_getD, List.getElem?_eq_getElem (by omega)]; rfl
        rw [eg] at hf
        clear hft
        cases hfk : fullC OT (((I.map CK)[i]'(by simpa using hiI)).take x) k with
        | false =>
          rw [hfk, Bool.false_and] at hf
          (repeat' (first
  | (apply W.qd; (first
    | (apply q_mv; (first|exact vD|exact vO|exact vP|exact vA|exact vF|exact vR|exact vN|exact vY|exact vT|exact vX))|(apply q_as; (first|exact vD|exact vO|exact vP|exact vA|exact vF|exact vR|exact vN|exact vY|exact vT|exact vX))|(apply q_lss; exact rfl; exact rfl)|(apply q_add; exact rfl; exact rfl; omega)|(apply q_ld_map; exact rfl; exact rfl; exact rfl; (first | omega | (focus (simp; done))))|(apply q_ix_slF; exact rfl; exact rfl; exact rfl; exact rfl; (first | (with_reducible exact rfl) | exact natI_spec rfl | assumption | exact (Int.toNat_of_nonneg (by omega)).symm); (first | omega | (focus (simp only [List.length_map]; omega)) | (focus (simp; done)) | (focus (simp; omega))))
    | (apply (q_pickF (u := .d _)); exact rfl; exact rfl)))|(refine W.gOff _ _ rfl rfl (by intro h; cases h) ?_)|(apply AWP.seq)|(apply ACont_normal)|(apply W.region; kernel_rfl)|(apply Walk.nil)|(apply AWP.block)|(apply AWP.skip)|(apply ABlock_normal)
  | (refine W.cond _ rfl (fun hb => ?_) (fun hb => ?_) <;> ((try simp only [hb, Bool.not_true, Bool.not_false]) <;> (try simp only [decide_eq_true_eq, decide_eq_false_iff_not, Bool.not_eq_true', Bool.not_eq_false', Int.not_lt, Int.not_le, List.length_map, not_true_eq_false] at hb) <;> (try (exfalso; omega))))))
          refine ⟨x + 1, by omega, by omega, ?_⟩
          rw [hf]
          exact ⟨[0, 1], rfl, rfl, rfl, iV_eq (by omega), rfl, rfl, rfl, rfl, rfl, rfl, rfl, rfl, rfl, rfl, rfl, trivial⟩
        | true =>
          rw [hfk, Bool.true_and] at hf
          by_cases he : ((I.map CK)[i]'(by simpa using hiI))[x] = k
          · rw [show (((I.map CK)[i]'(by simpa using hiI))[x] == k) = true by simpa using he, Bool.true_or] at hf
            (repeat' (first
  | (apply W.gOn; exact rfl; exact rfl)
  | (apply W.qd; (first
    | (apply q_mv; (first|exact vD|exact vO|exact vP|exact vA|exact vF|exact vR|exact vN|exact vY|exact vT|exact vX))|(apply q_as; (first|exact vD|exact vO|exact vP|exact vA|exact vF|exact vR|exact vN|exact vY|exact vT|exact vX))|(apply q_lss; exact rfl; exact rfl)|(apply q_eql; exact rfl; exact rfl)|(apply q_add; exact rfl; exact rfl; omega)|(apply q_ld_map; exact rfl; exact rfl; exact rfl; (first | omega | (focus (simp; done))))|(apply q_ix_slF; exact rfl; exact rfl; exact rfl; exact rfl; (first | (with_reducible exact rfl) | exact natI_spec rfl | assumption | exact (Int.toNat_of_nonneg (by omega)).symm); (first | omega | (focus (simp only [List.length_map]; omega)) | (focus (simp; done)) | (focus (simp; omega))))
    | (apply (q_pickT (u := .d _)); exact rfl; exact rfl)))|(refine W.gOff _ _ rfl rfl (by intro h; cases h) ?_)|(apply AWP.seq)|(apply ACont_normal)|(apply W.region; kernel_rfl)|(apply Walk.nil)|(apply AWP.block)|(apply AWP.skip)|(apply ABlock_normal)|(refine W.gF _ _ rfl rfl (fun hb => ?_) (fun hb => ?_) <;> ((try simp only [hb, Bool.not_true, Bool.not_false]) <;> (try simp only [decide_eq_true_eq, decide_eq_false_iff_not, Bool.not_eq_true', Bool.not_eq_false', Int.not_lt, Int.not_le, List.length_map, not_true_eq_false] at hb) <;> (try (exfalso; omega))))
  | (refine W.cond _ rfl (fun hb => ?_) (fun hb => ?_) <;> ((try simp only [hb, Bool.not_true, Bool.not_false]) <;> (try simp only [decide_eq_true_eq, decide_eq_false_iff_not, Bool.not_eq_true', Bool.not_eq_false', Int.not_lt, Int.not_le, List.length_map, not_true_eq_false] at hb) <;> (try (exfalso; omega))))))
            refine ⟨x + 1, by omega, by omega, ?_⟩
            rw [hf]
            exact ⟨[0, 1], rfl, rfl, rfl, iV_eq (by omega), rfl, rfl, rfl, rfl, rfl, rfl, rfl, rfl, rfl, rfl, rfl, trivial⟩
          · rw [show (((I.map CK)[i]'(by simpa using hiI))[x] == k) = false by simpa using he, Bool.false_or] at hf
            (repeat' (first
  | (apply W.gOn; exact rfl; exact rfl)
  | (apply W.qd; (first
    | (apply q_mv; (first|exact vD|exact vO|exact vP|exact vA|exact vF|exact vR|exact vN|exact vY|exact vT|exact vX))|(apply q_as; (first|exact vD|exact vO|exact vP|exact vA|exact vF|exact vR|exact vN|exact vY|exact vT|exact vX))|(apply q_lss; exact rfl; exact rfl)|(apply q_eql; exact rfl; exact rfl)|(apply q_add; exact rfl; exact rfl; omega)|(apply q_ld_map; exact rfl; exact rfl; exact rfl; (first | omega | (focus (simp; done))))|(apply q_ix_slF; exact rfl; exact rfl; exact rfl; exact rfl; (first | (with_reducible exact rfl) | exact natI_spec rfl | assumption | exact (Int.toNat_of_nonneg (by omega)).symm); (first | omega | (focus (simp only [List.length_map]; omega)) | (focus (simp; done)) | (focus (simp; omega))))|(apply (q_pickT (u := .d _)); exact rfl; exact rfl)
    | (apply (q_pickF (u := .d _)); exact rfl; exact rfl)))|(apply AWP.seq)|(apply ACont_normal)|(apply W.region; kernel_rfl)|(apply Walk.nil)|(apply AWP.block)|(apply AWP.skip)|(apply ABlock_normal)|(refine W.gF _ _ rfl rfl (fun hb => ?_) (fun hb => ?_) <;> ((try simp only [hb, Bool.not_true, Bool.not_false]) <;> (try simp only [decide_eq_true_eq, decide_eq_false_iff_not, Bool.not_eq_true', Bool.not_eq_false', Int.not_lt, Int.not_le, List.length_map, not_true_eq_false] at hb) <;> (try (exfalso; omega))))
  | (refine W.cond _ rfl (fun hb => ?_) (fun hb => ?_) <;> ((try simp only [hb, Bool.not_true, Bool.not_false]) <;> (try simp only [decide_eq_true_eq, decide_eq_false_iff_not, Bool.not_eq_true', Bool.not_eq_false', Int.not_lt, Int.not_le, List.length_map, not_true_eq_false] at hb) <;> (try (exfalso; omega))))))
            refine ⟨x + 1, by omega, by omega, ?_⟩
            rw [hf]
            exact ⟨[0, 1], rfl, rfl, rfl, iV_eq (by omega), rfl, rfl, rfl, rfl, rfl, rfl, rfl, rfl, rfl, rfl, rfl, trivial⟩
      · have hxL' : x = ((I.map CK)[i]'(by simpa using hiI)).length := by omega
        subst hxL'
        rw [List.take_length]
        clear hft hf0
        cases hfu : fullC OT ((I.map CK)[i]'(by simpa using hiI)) k with
        | false =>
          (repeat' (first
  | (apply W.qd; (first
    | (apply q_mv; (first|exact vD|exact vO|exact vP|exact vA|exact vF|exact vR|exact vN|exact vY|exact vT|exact vX))|(apply q_lss; exact rfl; exact rfl)|(apply q_add; exact rfl; exact rfl; omega)
    | (apply (q_pickF (u := .d _)); exact rfl; exact rfl)))|(refine W.gOff _ _ rfl rfl (by intro h; cases h) ?_)|(apply AWP.seq)|(apply ACont_normal)|(apply W.region; kernel_rfl)|(apply Walk.nil)|(apply AWP.skip)|(apply AWP.exit)|(apply ACont_exit)|(apply ABlock_normal)|(apply ABlock_exit)|(apply W.condF; exact rfl)
  | (refine W.cond _ rfl (fun hb => ?_) (fun hb => ?_) <;> ((try simp only [hb, Bool.not_true, Bool.not_false]) <;> (try simp only [decide_eq_true_eq, decide_eq_false_iff_not, Bool.not_eq_true', Bool.not_eq_false', Int.not_lt, Int.not_le, List.length_map, not_true_eq_false] at hb) <;> (try (exfalso; omega))))))
          exact ⟨i + 1, by omega, by omega, [0, 1], rfl, rfl, rfl, iV_eq (by omega), rfl, rfl, rfl, rfl, rfl, rfl, trivial⟩
        | true =>
          have := hchi hfu
          (repeat' (first
  | (apply W.gOn; exact rfl; exact rfl)
  | (apply W.qd; (first
    | (apply q_mv; (first|exact vD|exact vO|exact vP|exact vA|exact vF|exact vR|exact vN|exact vY|exact vT|exact vX))|(apply q_fld_optF; exact rfl; exact rfl; exact rfl)|(apply q_ld_box; exact rfl; exact rfl; exact rfl; exact rfl)|(apply q_lss; exact rfl; exact rfl)|(apply q_gtr; exact rfl; exact rfl)|(apply q_add; exact rfl; exact rfl; omega)|(apply q_sub; exact rfl; exact rfl; omega)|(apply q_len_sl; exact rfl; exact rfl)
    | (apply (q_pickT (u := .d _)); exact rfl; exact rfl)))|(apply AWP.seq)|(apply ACont_normal)|(apply W.region; kernel_rfl)|(apply Walk.nil)|(apply AWP.skip)|(apply AWP.exit)|(apply ACont_exit)|(apply ABlock_normal)|(apply ABlock_exit)
  | (refine W.cond _ rfl (fun hb => ?_) (fun hb => ?_) <;> ((try simp only [hb, Bool.not_true, Bool.not_false]) <;> (try simp only [decide_eq_true_eq, decide_eq_false_iff_not, Bool.not_eq_true', Bool.not_eq_false', Int.not_lt, Int.not_le, List.length_map, not_true_eq_false] at hb) <;> (try (exfalso; omega))))))
          exact ⟨i + 1, by omega, by omega, [0, 1], rfl, rfl, rfl, iV_eq (by omega), rfl, rfl, rfl, rfl, rfl, rfl, trivial⟩
    · clear hmem hchkle hcl hcl0
      (repeat' (first
  | (apply W.qd; (first
    | (apply (q_callC (hsan)); exact rfl; exact rfl; kernel_rfl; kernel_rfl; kernel_rfl)|(apply q_as; (first|exact vD|exact vO|exact vP|exact vA|exact vF|exact vR|exact vN|exact vY|exact vT|exact vX))
    | (apply q_lss; exact rfl; exact rfl)))|(apply AWP.seq)|(apply ACont_normal)|(apply W.region; kernel_rfl)|(apply Walk.nil)|(apply AWP.exit)|(apply AWP.ret)|(apply ACont_exit)|(apply ABlock_exit)
  | (refine W.cond _ rfl (fun hb => ?_) (fun hb => ?_) <;> ((try simp only [hb, Bool.not_true, Bool.not_false]) <;> (try simp only [decide_eq_true_eq, decide_eq_false_iff_not, Bool.not_eq_true', Bool.not_eq_false', Int.not_lt, Int.not_le, List.length_map, not_true_eq_false] at hb) <;> (try (exfalso; omega))))))
      all_goals exact Ends.b rfl rfl
end Go.Proofs.YtilpljehfcpjeaaGreatDoor
end
