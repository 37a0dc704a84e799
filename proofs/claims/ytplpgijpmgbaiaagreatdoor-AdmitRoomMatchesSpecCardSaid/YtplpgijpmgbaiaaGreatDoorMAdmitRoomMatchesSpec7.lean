import Derived.Test.YtplpgijpmgbaiaaGreatDoorMAdmitRoomMatchesSpec6
/- Joined texts: Ad6 Ad7 Ad8. -/
set_option linter.unusedVariables false
set_option linter.unusedSimpArgs false
namespace Go.Proofs.YtplpgijpmgbaiaaGreatDoor
open Go.RowKit
set_option maxHeartbeats 4000000
set_option maxRecDepth 100000
section
def moreZ (b : Nat → Int) (c m : Int) : Nat → Int := fun j => b j + if (j : Int) = c then m else 0
theorem moreZ_nat (b : Nat → Int) (k : Nat) (m : Int) : moreZ b (k : Int) m = moreB b k m := by
 funext j
 unfold moreZ moreB
 by_cases h : j = k
 ·rw [if_pos h, if_pos (by omega)]
 ·rw [if_neg h, if_neg (by omega)]
theorem moreZ_no (b : Nat → Int) : moreZ b (-1) 0 = b := by
 funext j
 unfold moreZ
 split <;> omega
def rowsZ (d r n s l i : Int) (cs : List Cd) (vs : List Sv) (ts : List Tn) (us : List Ue) (rows : List SRw) (c m : Int) : Int × Int := if val31 d r n s l i cs vs ts us rows = true then totN (codN d r n s l i) cs vs (heldF rows) (moreZ (blkF ts us) c m) else (0, 1)
theorem rowsZ_no (d r n s l i : Int) (cs : List Cd) (vs : List Sv) (ts : List Tn) (us : List Ue) (rows : List SRw) : rowsZ d r n s l i cs vs ts us rows (-1) 0 = rowN31 d r n s l i cs vs ts us rows := by unfold rowsZ rowN31; rw [moreZ_no]
section
variable {P : Program} {m : Nat} {env : List (Nat × AV)} {own : List Ent} {dst : Option Tmp} {ty : TypeId} {pos : String} {af : Array Edge} {gd : Option (Nat × Bool)}
theorem q_addE {t t' : TypeId} {x y : Operand} {a b v : Int} (hx : lookO env x = iV a) (hy : lookO env y = iV b) (h : a + b = v) (hv : -9223372036854775808 ≤ v ∧ v < 9223372036854775808) :
 Quiet P m ⟨dst, .binOp .add t x y t', ty, pos, af, gd⟩ env own [] (iV v) := by
 subst h; exact q_add hx hy hv
end
attribute [local irreducible] Quiet Eff OpOk AWPG ACont ABlock ACalls AGoto
theorem A_rrows {d r n s l i : Int} {cs : List Cd} {vs : List Sv} {ts : List Tn} {us : List Ue} {rows : List SRw} {c mo : Int} (hI : In31 cs vs ts us rows) (hm : 0 ≤ mo ∧ mo ≤ 2000000) : ACalls Tryz.prog 112 [cfgA d r n s l i, lib cs vs, tns ts, ues us, rws rows, iV c, iV mo] [] (.tup [iV (rowsZ d r n s l i cs vs ts us rows c mo).1, iV (rowsZ d r n s l i cs vs ts us rows c mo).2]) [] := by
 have f1 := A_rvalid24 (d := d) (r := r) (n := n) (s := s) (l := l) (i := i) (rows := rows) (by have := hI.rl; omega) hI.ru
 have f2 := A_rvalid30G hI.L
 have f3 := A_rvalid31 (cs := cs) hI.L.vl hI.t hI.u
 unfold rowsZ
 cases hv : val31 d r n s l i cs vs ts us rows with
 | false =>
   rw [if_neg (by simp)]
   refine acalls_of_body Tryz.func112 rfl (zU rfl) ?_
   unfold val31 at hv
   generalize validR d r n s l i rows = b1 at *
   generalize validB cs vs = b2 at *
   generalize tenB vs.length ts us = b3 at *
   cases b1 with
   | false =>
     (repeat' (first
      |(apply W.qd; (first
      |(exact zW (f1))|(exact zM)|(exact zN)|(exact yU rfl rfl rfl rfl)|(exact q_not rfl)
      |(apply (yEb (u := .d _)); exact rfl; exact rfl)))|(apply W.ed; (apply yBb; (iterate 3 exact rfl); kernel_rfl; kernel_rfl))|(refine W.gOff _ _ rfl rfl (by intro h; cases h) ?_)|(apply yA)|(apply yB)|(apply yC; kernel_rfl)|(apply yE)|(apply yJ)|(apply yP)
      |(apply yQ; exact rfl)))
     all_goals exact Ends.two rfl rfl rfl
   | true =>
     cases b2 with
     | false =>
       (repeat' (first
        |(apply yFb; exact rfl; exact rfl)
        |(apply W.qd; (first
        |(exact zW (f1))|(exact zW (f2))|(exact zM)|(exact zN)|(exact yU rfl rfl rfl rfl)|(exact q_not rfl)|(apply (yEb (u := .d _)); exact rfl; exact rfl)
        |(apply (yDb (u := .d _)); exact rfl; exact rfl)))|(apply W.ed; (apply yBb; (iterate 3 exact rfl); kernel_rfl; kernel_rfl))|(refine W.gOff _ _ rfl rfl (by intro h; cases h) ?_)|(apply yA)|(apply yB)|(apply yC; kernel_rfl)|(apply yE)|(apply yJ)|(apply yP)
        |(apply yQ; exact rfl)))
       all_goals exact Ends.two rfl rfl rfl
     | true =>
       obtain rfl : b3 = false := by simpa using hv
       (repeat' (first
        |(apply yFb; exact rfl; exact rfl)
        |(apply W.qd; (first
        |(exact zW (f1))|(exact zW (f2))|(exact zW (f3))|(exact zM)|(exact zN)|(exact yU rfl rfl rfl rfl)|(exact q_not rfl)
        |(apply (yDb (u := .d _)); exact rfl; exact rfl)))|(apply W.ed; (apply yBb; (iterate 3 exact rfl); kernel_rfl; kernel_rfl))|(apply yA)|(apply yB)|(apply yC; kernel_rfl)|(apply yE)|(apply yJ)|(apply yP)
        |(apply yQ; exact rfl)))
       all_goals exact Ends.two rfl rfl rfl
 | true =>
 rw [if_pos rfl]
 unfold val31 at hv
 simp only [Bool.and_eq_true] at hv
 obtain ⟨⟨hv1, hV⟩, hv3⟩ := hv
 rw [hv1] at f1
 rw [hV] at f2
 rw [hv3] at f3
 have hL := hI.L
 have hbd := runJ_bd (cs := cs) (codN_bd d r n s l i) (jobsN vs (moreZ (blkF ts us) c mo) vs.length)
 have hcode := fun (m : Nat) (hm : m < cs.length) (x : Int) => A_rcode (d := d) (r := r) (n := n) (s := s) (l := l) (i := i) (x := x) (hL.cn _ (List.getElem_mem hm)) (hL.cp _ (List.getElem_mem hm))
 have hhe := fun c : Int => A_rheld (rows := rows) (c := c) (by have := hI.rl; omega)
 have hhb := heldF_bd hI.rl
 have hcc := fun k (hk : k < vs.length) => cls_codes hV hk
 obtain ⟨hc8, hv8⟩ := valid_vl hV
 have hmv : (vs.map svD).length = vs.length := List.length_map _
 have hmc : (cs.map cdD).length = cs.length := List.length_map _
 have fb := fun k : Nat => A_rblocks (k := (k : Int)) hv3 hI.u
 have hbb := fun k : Nat => blkN_bd (k := (k : Int)) hv3
 have hjs : ∀ k (hk : k < vs.length), jobsN vs (moreZ (blkF ts us) c mo) (k + 1) = jobsN vs (moreZ (blkF ts us) c mo) k ++ (codesV vs[k]).map fun q => (q, moreZ (blkF ts us) c mo k) := fun k hk => by
  rw [jobsN, getDv hk]
 have hpre := fun k (hk : k ≤ vs.length) => jobs_pre (vs := vs) (b := moreZ (blkF ts us) c mo) (k := k) hk
 have hmz : ∀ k : Nat, moreZ (blkF ts us) c mo k = blkN ts us (k : Int) + if (k : Int) = c then mo else 0 := fun k => rfl
 unfold totN
 generalize codN d r n s l i = F at *
 generalize hJ : jobsN vs (moreZ (blkF ts us) c mo) = J at *
 have hJ0 : J 0 = [] := by rw [← hJ]; rfl
 clear hJ hv1 hv3
 generalize moreZ (blkF ts us) c mo = bz at *
 refine acalls_of_body Tryz.func112 rfl (zU rfl) ?_
 (repeat' (first
  |(apply yFb; exact rfl; exact rfl)
  |(apply W.qd; (first
  |(exact zW (f1))|(exact zW (f2))|(exact zW (f3))|(exact zM)|(exact zN)|(exact yU rfl rfl rfl rfl)|(exact q_not rfl)
  |(apply (yDb (u := .d _)); exact rfl; exact rfl)))
  |(apply W.ed; (first
  |(apply yBb; (iterate 3 exact rfl); kernel_rfl; kernel_rfl)
  |(apply (e_makeG (f := iD) 0); exact rfl; exact rfl; (first | (with_reducible exact rfl) | exact natI_spec rfl | assumption | exact (Int.toNat_of_nonneg (by omega)).symm); (iterate 7 exact rfl); omega)))|(apply yA)|(apply yB)|(apply (W.regionS 5); exact rfl; kernel_rfl)|(apply yE)|(apply yG)|(apply yH)
  |(apply yR; exact rfl)))
 refine AWP.loopW (α := Nat) (fun k => k ≤ vs.length ∧ (runJ F cs (J k)).2 = 0) (fun k => ⟨[(17, iV k), (16, .osl 2 0 0 8), (2, tns ts), (3, ues us), (4, rws rows), (5, iV c), (6, iV mo), (7, .opt 0 0), (8, .opt 1 0)], [.box [iV d, iV r, iV n, iV s, iV l, iV i], .box [cds cs, svs vs], .row 0 1 3 ((runJ F cs (J k)).1.map iD)]⟩) (fun k => vs.length - k) 0 ⟨Nat.zero_le _, by rw [hJ0]; rfl⟩ ?wkA fun k hk => ?_
 case wkA =>
  rw [hJ0]
  exact ⟨[0, 1, 2], rfl, rfl, rfl, by (repeat (first | exact trivial | refine ⟨rfl, ?_⟩))⟩
 obtain ⟨hk1, hk2⟩ := hk
 by_cases hkl : k < vs.length
 ·obtain ⟨⟨m0, hm0, hm0l⟩, hn⟩ := hcc k hkl
  have hjk := hjs k hkl
  have hp1 := hpre (k + 1) hkl
  have fk := fb k
  have hbk := hbb k
  have hz := hmz k
  obtain ⟨X, hX⟩ : ∃ X, bz k = X := ⟨_, rfl⟩
  rw [hX] at hjk hz
  generalize blkN ts us (k : Int) = B at *
  have hfk : ((k : Int) = c ∧ B + mo = X ∧ ACalls Tryz.prog 23 [tns ts, ues us, iV (k : Int)] [] (iV B) []) ∨ ((k : Int) ≠ c ∧ 0 = (0 : Int) ∧ ACalls Tryz.prog 23 [tns ts, ues us, iV (k : Int)] [] (iV X) []) := by
   by_cases hkc : (k : Int) = c
   ·rw [if_pos hkc] at hz
    exact .inl ⟨hkc, hz.symm, fk⟩
   ·rw [if_neg hkc, Int.add_zero] at hz
    rw [← hz] at fk
    exact .inr ⟨hkc, rfl, fk⟩
  have hXb : 0 ≤ X ∧ X ≤ 100000000000 := by
   rw [hz]
   split <;> omega
  clear fk
  rcases hfk with ⟨hkc, hz2, fk⟩ | ⟨hkc, hz2, fk⟩
  all_goals
   have hc0 := hcode m0 hm0l X
   have hrun := runJ_step (x := X) hk2 hm0l
   have h8 := runJ_l8 (F := F) (cs := cs) (J k)
   rcases hn with hn | ⟨m1, hm1, hm1l⟩
   ·have hcv : codesV vs[k] = [(m0 : Int)] := by unfold codesV; rw [hm0, if_neg (by omega), if_pos hn]
    rw [hcv] at hjk
    have hjk : J (k + 1) = J k ++ [((m0 : Int), X)] := hjk
    rw [← hjk] at hrun
    generalize (runJ F cs (J k)).1 = L at *
    clear hcode hbd hhe hhb hcc hjs fb hbb hmz hpre
    (repeat' (first
     |(apply W.ed; (apply e_litO; (iterate 9 exact rfl)))
     |(apply W.qd; (first
     |(exact zW (fk))
     |((apply (q_addE (v := X)); exact rfl; exact rfl; assumption; omega))|(exact zM)|(exact zN)|(exact yS rfl rfl rfl)|(exact yT rfl rfl rfl rfl)|(exact q_lss rfl rfl)|(exact q_geq rfl rfl)|(exact q_eql rfl rfl)|(exact yV rfl rfl)|(apply yX; (iterate 3 exact rfl); (first | omega | (focus (simp; done))))|(apply q_fld_fptF; (iterate 3 exact rfl))
     |(apply yGb; (iterate 4 exact rfl); (first | (with_reducible exact rfl) | exact natI_spec rfl | assumption | exact (Int.toNat_of_nonneg (by omega)).symm); (first | omega | (focus (simp only [List.length_map]; omega)) | (focus (simp; done)) | (focus (simp; omega))))))|(apply yA)|(apply yB)|(apply (W.regionS 14); exact rfl; kernel_rfl)|(apply yE)|(apply yG)|(apply yH)
     |(refine W.cond _ rfl (fun hb => ?_) (fun hb => ?_) <;> ((try simp only [hb, zK]) <;> (try simp only [zL, zI] at hb) <;> (try (exfalso; omega))))))
    all_goals try (exfalso; omega)
    refine AWP.loopW (α := Nat) (fun j => j ≤ 1 ∧ (j = 1 → (F cs[m0] X).2 = 0)) (fun j => ⟨[(20, iV j), (19, .osl 3 0 0 1), (18, iV X), (17, iV k), (16, .osl 2 0 0 8), (2, tns ts), (3, ues us), (4, rws rows), (5, iV c), (6, iV mo), (7, .opt 0 0), (8, .opt 1 0)], [.box [iV d, iV r, iV n, iV s, iV l, iV i], .box [cds cs, svs vs], .row 0 1 3 ((selN j L (L.set m0 (F cs[m0] X).1) []).map iD), .row 0 1 3 [[.v (.int .i64 (m0 : Int))]]]⟩) (fun j => 2 - j) 0 ⟨by omega, fun h => by omega⟩ ?wkB fun j hj => ?_
    case wkB =>
     rw [← hm0]
     exact ⟨[0, 1, 2, 3], rfl, rfl, rfl, by (repeat (first | exact trivial | refine ⟨rfl, ?_⟩))⟩
    by_cases hj0 : j = 0
    ·subst hj0
     show AWPG _ _ _ _ _ _ ⟨_, [_, _, .row 0 1 3 (L.map iD), _]⟩
     by_cases he : (F cs[m0] X).2 = 0
     ·generalize F cs[m0] X = fx at *
      obtain ⟨x, y⟩ := fx
      obtain rfl : y = 0 := he
      (repeat' (first
       |(apply W.qd; (first
       |(exact zW (hc0))
       |((apply q_ld_rpt; (iterate 5 exact rfl)))|(exact zM)|(exact zN)|(exact yS rfl rfl rfl)|(exact yT rfl rfl rfl rfl)|(exact yU rfl rfl rfl rfl)|(exact q_lss rfl rfl)|(exact q_neq rfl rfl)|(exact q_add rfl rfl (by omega))|(exact yAb rfl rfl)|(exact q_len_osl rfl rfl rfl)|(apply yY; (iterate 3 exact rfl); (first | omega | (focus (simp; done))))|(apply yGb; (iterate 4 exact rfl); (first | (with_reducible exact rfl) | exact natI_spec rfl | assumption | exact (Int.toNat_of_nonneg (by omega)).symm); (first | omega | (focus (simp only [List.length_map]; omega)) | (focus (simp; done)) | (focus (simp; omega))))
       |(apply q_ix_osl0; (iterate 4 exact rfl); (first | (with_reducible exact rfl) | exact natI_spec rfl | assumption | exact (Int.toNat_of_nonneg (by omega)).symm); (first | omega | (focus (simp only [List.length_map]; omega)) | (focus (simp; done)) | (focus (simp; omega))))))|(apply W.ln; (apply l_st_rpt; (iterate 7 exact rfl); exact fun _ => rfl; (first | omega | (focus (simp only [List.length_map]; omega)) | (focus (simp; omega)))))|(apply yA)|(apply yB)|(apply yC; kernel_rfl)|(apply yD; exact rfl; kernel_rfl)|(apply yE)|(apply yF; kernel_rfl)|(apply yG)|(apply yH)|(apply yL)|(apply yQ; exact rfl)
       |(apply yR; exact rfl)))
      all_goals first
       |(exfalso; omega)
       |exact ⟨1, ⟨by omega, fun _ => rfl⟩, by omega, ⟨[0, 1, 2, 3], rfl, rfl, rfl, by (repeat (first | exact trivial | refine ⟨rfl, ?_⟩))⟩⟩
     ·obtain ⟨t, ht⟩ := hp1
      have hR : (runJ F cs (J vs.length)).2 = (F cs[m0] X).2 := by
       rw [ht, runJ_err (by rw [hrun]; exact he), hrun]
      rw [hR, if_pos he]
      generalize F cs[m0] X = fx at *
      obtain ⟨x, y⟩ := fx
      have he : y ≠ 0 := he
      (repeat' (first
       |(apply W.qd; (first
       |(exact zW (hc0))
       |((apply q_ld_rpt; (iterate 5 exact rfl)))|(exact zM)|(exact zN)|(exact yS rfl rfl rfl)|(exact yT rfl rfl rfl rfl)|(exact yU rfl rfl rfl rfl)|(exact q_lss rfl rfl)|(exact q_neq rfl rfl)|(exact yAb rfl rfl)|(exact q_len_osl rfl rfl rfl)|(apply yY; (iterate 3 exact rfl); (first | omega | (focus (simp; done))))|(apply yGb; (iterate 4 exact rfl); (first | (with_reducible exact rfl) | exact natI_spec rfl | assumption | exact (Int.toNat_of_nonneg (by omega)).symm); (first | omega | (focus (simp only [List.length_map]; omega)) | (focus (simp; done)) | (focus (simp; omega))))
       |(apply q_ix_osl0; (iterate 4 exact rfl); (first | (with_reducible exact rfl) | exact natI_spec rfl | assumption | exact (Int.toNat_of_nonneg (by omega)).symm); (first | omega | (focus (simp only [List.length_map]; omega)) | (focus (simp; done)) | (focus (simp; omega))))))|(apply yA)|(apply yB)|(apply yC; kernel_rfl)|(apply yD; exact rfl; kernel_rfl)|(apply yE)|(apply yF; kernel_rfl)|(apply yG)|(apply yH)|(apply yJ)|(apply yP)|(apply yN)|(apply yQ; exact rfl)
       |(refine W.cond _ rfl (fun hb => ?_) (fun hb => ?_) <;> ((try simp only [hb, zK]) <;> (try simp only [zL, zI] at hb) <;> (try (exfalso; omega))))))
      all_goals first
       |(exfalso; omega)
       |exact Ends.two rfl rfl rfl
    ·obtain rfl : j = 1 := by omega
     show AWPG _ _ _ _ _ _ ⟨_, [_, _, .row 0 1 3 ((L.set m0 (F cs[m0] X).1).map iD), _]⟩
     have hy := hj.2 rfl
     have hnx : (runJ F cs (J (k + 1))).2 = 0 := by rw [hrun]; exact hy
     have hL8 : (runJ F cs (J (k + 1))).1 = L.set m0 (F cs[m0] X).1 := by rw [hrun]
     (repeat' (first
      |(apply W.qd; (first
      |(exact zM)|(exact zN)|(exact q_lss rfl rfl)|(exact q_add rfl rfl (by omega))
      |(exact q_len_osl rfl rfl rfl)))|(apply yA)|(apply yB)|(apply yC; kernel_rfl)|(apply yE)|(apply yI)|(apply yK)|(apply yL)|(apply yM)
      |(apply yR; exact rfl)))
     all_goals first
      |(exfalso; omega)|(refine ⟨k + 1, ⟨by omega, hnx⟩, by omega, ?_⟩; (try dsimp only); rw [hL8]; exact ⟨[0, 1, 2], rfl, rfl, rfl, iV_eq (by omega), rfl, rfl, rfl, rfl, rfl, rfl, rfl, rfl, trivial⟩)
   ·have hcv : codesV vs[k] = [(m0 : Int), (m1 : Int)] := by unfold codesV; rw [hm0, if_neg (by omega), if_neg (by omega), hm1]
    rw [hcv] at hjk
    have hjk : J (k + 1) = (J k ++ [((m0 : Int), X)]) ++ [((m1 : Int), X)] := by rw [hjk, List.append_assoc]; rfl
    have hc1 := hcode m1 hm1l X
    by_cases he : (F cs[m0] X).2 = 0
    case neg =>
     obtain ⟨t, ht⟩ := hp1
     have hR : (runJ F cs (J vs.length)).2 = (F cs[m0] X).2 := by
      rw [ht, hjk, List.append_assoc, runJ_err (by rw [hrun]; exact he), hrun]
     rw [hR, if_pos he]
     generalize (runJ F cs (J k)).1 = L at *
     clear hcode hbd hhe hhb hcc hjs fb hbb hmz hpre hjk hrun ht
     (repeat' (first
      |(apply W.ed; (apply e_litO; (iterate 9 exact rfl)))
      |(apply W.qd; (first
      |(exact zW (fk))
      |((apply (q_addE (v := X)); exact rfl; exact rfl; assumption; omega))|(exact zM)|(exact zN)|(exact yS rfl rfl rfl)|(exact yT rfl rfl rfl rfl)|(exact q_lss rfl rfl)|(exact q_eql rfl rfl)|(exact yV rfl rfl)|(apply yX; (iterate 3 exact rfl); (first | omega | (focus (simp; done))))|(apply q_fld_fptF; (iterate 3 exact rfl))
      |(apply yGb; (iterate 4 exact rfl); (first | (with_reducible exact rfl) | exact natI_spec rfl | assumption | exact (Int.toNat_of_nonneg (by omega)).symm); (first | omega | (focus (simp only [List.length_map]; omega)) | (focus (simp; done)) | (focus (simp; omega))))))|(apply yA)|(apply yB)|(apply (W.regionS 11); exact rfl; kernel_rfl)|(apply yE)|(apply yG)|(apply yH)
      |(refine W.cond _ rfl (fun hb => ?_) (fun hb => ?_) <;> ((try simp only [hb, zK]) <;> (try simp only [zL, zI] at hb) <;> (try (exfalso; omega))))))
     (repeat' (first
      |(apply W.qd; (first
      |(exact zM)|(exact zN)|(exact yS rfl rfl rfl)|(exact yT rfl rfl rfl rfl)|(exact q_geq rfl rfl)|(apply yX; (iterate 3 exact rfl); (first | omega | (focus (simp; done))))|(apply q_fld_fptF; (iterate 3 exact rfl))|(apply q_litF; (iterate 5 exact rfl); kernel_rfl; kernel_rfl; exact rfl)
      |(apply yGb; (iterate 4 exact rfl); (first | (with_reducible exact rfl) | exact natI_spec rfl | assumption | exact (Int.toNat_of_nonneg (by omega)).symm); (first | omega | (focus (simp only [List.length_map]; omega)) | (focus (simp; done)) | (focus (simp; omega))))))|(apply W.ed; (apply e_appF; (iterate 8 exact rfl); (first | rfl | simp); (first | exact Nat.zero_lt_one | (focus (simp; done)) | omega); (first | (focus (simp; done)) | (focus (simp; omega)) | omega)))|(apply yA)|(apply yB)|(apply (W.regionS 14); exact rfl; kernel_rfl)|(apply yE)|(apply yG)
      |(refine W.cond _ rfl (fun hb => ?_) (fun hb => ?_) <;> ((try simp only [hb, zK]) <;> (try simp only [zL, zI] at hb) <;> (try (exfalso; omega))))))
     all_goals try (exfalso; omega)
     refine AWP.loopW (α := Nat) (fun j => j ≤ 0) (fun j => ⟨[(20, iV j), (19, .osl 3 1 0 2), (18, iV X), (17, iV k), (16, .osl 2 0 0 8), (2, tns ts), (3, ues us), (4, rws rows), (5, iV c), (6, iV mo), (7, .opt 0 0), (8, .opt 1 0)], [.box [iV d, iV r, iV n, iV s, iV l, iV i], .box [cds cs, svs vs], .row 0 1 3 (L.map iD), .row 1 1 3 [[.v (.int .i64 (m0 : Int))], [.v (.int .i64 (m1 : Int))]]]⟩) (fun j => 2 - j) 0 (Nat.le_refl _) ?wkC fun j hj => ?_
     case wkC =>
      rw [← hm0, ← hm1]
      exact ⟨[0, 1, 2, 3], rfl, rfl, rfl, by (repeat (first | exact trivial | refine ⟨rfl, ?_⟩))⟩
     obtain rfl : j = 0 := by omega
     generalize F cs[m0] X = fx at *
     obtain ⟨x, y⟩ := fx
     have he : y ≠ 0 := he
     (repeat' (first
      |(apply W.qd; (first
      |(exact zW (hc0))
      |((apply q_ld_rpt; (iterate 5 exact rfl)))|(exact zM)|(exact zN)|(exact yS rfl rfl rfl)|(exact yT rfl rfl rfl rfl)|(exact yU rfl rfl rfl rfl)|(exact q_lss rfl rfl)|(exact q_neq rfl rfl)|(exact yAb rfl rfl)|(exact q_len_osl rfl rfl rfl)|(apply yY; (iterate 3 exact rfl); (first | omega | (focus (simp; done))))|(apply yGb; (iterate 4 exact rfl); (first | (with_reducible exact rfl) | exact natI_spec rfl | assumption | exact (Int.toNat_of_nonneg (by omega)).symm); (first | omega | (focus (simp only [List.length_map]; omega)) | (focus (simp; done)) | (focus (simp; omega))))
      |(apply q_ix_osl0; (iterate 4 exact rfl); (first | (with_reducible exact rfl) | exact natI_spec rfl | assumption | exact (Int.toNat_of_nonneg (by omega)).symm); (first | omega | (focus (simp only [List.length_map]; omega)) | (focus (simp; done)) | (focus (simp; omega))))))|(apply yA)|(apply yB)|(apply yC; kernel_rfl)|(apply yD; exact rfl; kernel_rfl)|(apply yE)|(apply yF; kernel_rfl)|(apply yG)|(apply yH)|(apply yJ)|(apply yP)|(apply yN)|(apply yQ; exact rfl)
      |(refine W.cond _ rfl (fun hb => ?_) (fun hb => ?_) <;> ((try simp only [hb, zK]) <;> (try simp only [zL, zI] at hb) <;> (try (exfalso; omega))))))
     all_goals first
      |(exfalso; omega)
      |exact Ends.two rfl rfl rfl
    have hrun1 := runJ_step (l := J k ++ [((m0 : Int), X)]) (x := X) (by rw [hrun]; exact he) hm1l
    rw [← hjk, hrun] at hrun1
    generalize (runJ F cs (J k)).1 = L at *
    have h9 : (L.set m0 (F cs[m0] X).1).length = 8 := by rw [List.length_set]; exact h8
    clear hcode hbd hhe hhb hcc hjs fb hbb hmz hpre hjk
    (repeat' (first
     |(apply W.ed; (apply e_litO; (iterate 9 exact rfl)))
     |(apply W.qd; (first
     |(exact zW (fk))
     |((apply (q_addE (v := X)); exact rfl; exact rfl; assumption; omega))|(exact zM)|(exact zN)|(exact yS rfl rfl rfl)|(exact yT rfl rfl rfl rfl)|(exact q_lss rfl rfl)|(exact q_eql rfl rfl)|(exact yV rfl rfl)|(apply yX; (iterate 3 exact rfl); (first | omega | (focus (simp; done))))|(apply q_fld_fptF; (iterate 3 exact rfl))
     |(apply yGb; (iterate 4 exact rfl); (first | (with_reducible exact rfl) | exact natI_spec rfl | assumption | exact (Int.toNat_of_nonneg (by omega)).symm); (first | omega | (focus (simp only [List.length_map]; omega)) | (focus (simp; done)) | (focus (simp; omega))))))|(apply yA)|(apply yB)|(apply (W.regionS 11); exact rfl; kernel_rfl)|(apply yE)|(apply yG)|(apply yH)
     |(refine W.cond _ rfl (fun hb => ?_) (fun hb => ?_) <;> ((try simp only [hb, zK]) <;> (try simp only [zL, zI] at hb) <;> (try (exfalso; omega))))))
    (repeat' (first
     |(apply W.qd; (first
     |(exact zM)|(exact zN)|(exact yS rfl rfl rfl)|(exact yT rfl rfl rfl rfl)|(exact q_geq rfl rfl)|(apply yX; (iterate 3 exact rfl); (first | omega | (focus (simp; done))))|(apply q_fld_fptF; (iterate 3 exact rfl))|(apply q_litF; (iterate 5 exact rfl); kernel_rfl; kernel_rfl; exact rfl)
     |(apply yGb; (iterate 4 exact rfl); (first | (with_reducible exact rfl) | exact natI_spec rfl | assumption | exact (Int.toNat_of_nonneg (by omega)).symm); (first | omega | (focus (simp only [List.length_map]; omega)) | (focus (simp; done)) | (focus (simp; omega))))))|(apply W.ed; (apply e_appF; (iterate 8 exact rfl); (first | rfl | simp); (first | exact Nat.zero_lt_one | (focus (simp; done)) | omega); (first | (focus (simp; done)) | (focus (simp; omega)) | omega)))|(apply yA)|(apply yB)|(apply (W.regionS 14); exact rfl; kernel_rfl)|(apply yE)|(apply yG)
     |(refine W.cond _ rfl (fun hb => ?_) (fun hb => ?_) <;> ((try simp only [hb, zK]) <;> (try simp only [zL, zI] at hb) <;> (try (exfalso; omega))))))
    all_goals try (exfalso; omega)
    refine AWP.loopW (α := Nat) (fun j => j ≤ 2 ∧ (j = 2 → (F cs[m1] X).2 = 0)) (fun j => ⟨[(20, iV j), (19, .osl 3 1 0 2), (18, iV X), (17, iV k), (16, .osl 2 0 0 8), (2, tns ts), (3, ues us), (4, rws rows), (5, iV c), (6, iV mo), (7, .opt 0 0), (8, .opt 1 0)], [.box [iV d, iV r, iV n, iV s, iV l, iV i], .box [cds cs, svs vs], .row 0 1 3 ((selN j L (L.set m0 (F cs[m0] X).1) ((L.set m0 (F cs[m0] X).1).set m1 (F cs[m1] X).1)).map iD), .row 1 1 3 [[.v (.int .i64 (m0 : Int))], [.v (.int .i64 (m1 : Int))]]]⟩) (fun j => 2 - j) 0 ⟨by omega, fun h => by omega⟩ ?wkB fun j hj => ?_
    case wkB =>
     rw [← hm0, ← hm1]
     exact ⟨[0, 1, 2, 3], rfl, rfl, rfl, by (repeat (first | exact trivial | refine ⟨rfl, ?_⟩))⟩
    by_cases hj0 : j = 0
    ·subst hj0
     show AWPG _ _ _ _ _ _ ⟨_, [_, _, .row 0 1 3 (L.map iD), _]⟩
     generalize F cs[m0] X = fx at *
     obtain ⟨x, y⟩ := fx
     obtain rfl : y = 0 := he
     (repeat' (first
      |(apply W.qd; (first
      |(exact zW (hc0))
      |((apply q_ld_rpt; (iterate 5 exact rfl)))|(exact zM)|(exact zN)|(exact yS rfl rfl rfl)|(exact yT rfl rfl rfl rfl)|(exact yU rfl rfl rfl rfl)|(exact q_lss rfl rfl)|(exact q_neq rfl rfl)|(exact q_add rfl rfl (by omega))|(exact yAb rfl rfl)|(exact q_len_osl rfl rfl rfl)|(apply yY; (iterate 3 exact rfl); (first | omega | (focus (simp; done))))|(apply yGb; (iterate 4 exact rfl); (first | (with_reducible exact rfl) | exact natI_spec rfl | assumption | exact (Int.toNat_of_nonneg (by omega)).symm); (first | omega | (focus (simp only [List.length_map]; omega)) | (focus (simp; done)) | (focus (simp; omega))))
      |(apply q_ix_osl0; (iterate 4 exact rfl); (first | (with_reducible exact rfl) | exact natI_spec rfl | assumption | exact (Int.toNat_of_nonneg (by omega)).symm); (first | omega | (focus (simp only [List.length_map]; omega)) | (focus (simp; done)) | (focus (simp; omega))))))|(apply W.ln; (apply l_st_rpt; (iterate 7 exact rfl); exact fun _ => rfl; (first | omega | (focus (simp only [List.length_map]; omega)) | (focus (simp; omega)))))|(apply yA)|(apply yB)|(apply yC; kernel_rfl)|(apply yD; exact rfl; kernel_rfl)|(apply yE)|(apply yF; kernel_rfl)|(apply yG)|(apply yH)|(apply yL)|(apply yQ; exact rfl)
      |(apply yR; exact rfl)))
     all_goals first
      |(exfalso; omega)
      |exact ⟨1, ⟨by omega, fun h => by omega⟩, by omega, ⟨[0, 1, 2, 3], rfl, rfl, rfl, by (repeat (first | exact trivial | refine ⟨rfl, ?_⟩))⟩⟩
    ·by_cases hj1 : j = 1
     ·subst hj1
      show AWPG _ _ _ _ _ _ ⟨_, [_, _, .row 0 1 3 ((L.set m0 (F cs[m0] X).1).map iD), _]⟩
      by_cases he1 : (F cs[m1] X).2 = 0
      ·generalize L.set m0 (F cs[m0] X).1 = L1 at *
       generalize F cs[m1] X = fx at *
       obtain ⟨x, y⟩ := fx
       obtain rfl : y = 0 := he1
       (repeat' (first
        |(apply W.qd; (first
        |(exact zW (hc1))
        |((apply q_ld_rpt; (iterate 5 exact rfl)))|(exact zM)|(exact zN)|(exact yS rfl rfl rfl)|(exact yT rfl rfl rfl rfl)|(exact yU rfl rfl rfl rfl)|(exact q_lss rfl rfl)|(exact q_neq rfl rfl)|(exact q_add rfl rfl (by omega))|(exact yAb rfl rfl)|(exact q_len_osl rfl rfl rfl)|(apply yY; (iterate 3 exact rfl); (first | omega | (focus (simp; done))))|(apply yGb; (iterate 4 exact rfl); (first | (with_reducible exact rfl) | exact natI_spec rfl | assumption | exact (Int.toNat_of_nonneg (by omega)).symm); (first | omega | (focus (simp only [List.length_map]; omega)) | (focus (simp; done)) | (focus (simp; omega))))
        |(apply q_ix_osl0; (iterate 4 exact rfl); (first | (with_reducible exact rfl) | exact natI_spec rfl | assumption | exact (Int.toNat_of_nonneg (by omega)).symm); (first | omega | (focus (simp only [List.length_map]; omega)) | (focus (simp; done)) | (focus (simp; omega))))))|(apply W.ln; (apply l_st_rpt; (iterate 7 exact rfl); exact fun _ => rfl; (first | omega | (focus (simp only [List.length_map]; omega)) | (focus (simp; omega)))))|(apply yA)|(apply yB)|(apply yC; kernel_rfl)|(apply yD; exact rfl; kernel_rfl)|(apply yE)|(apply yF; kernel_rfl)|(apply yG)|(apply yH)|(apply yL)|(apply yQ; exact rfl)
        |(apply yR; exact rfl)))
       all_goals first
        |(exfalso; omega)
        |exact ⟨2, ⟨by omega, fun _ => rfl⟩, by omega, ⟨[0, 1, 2, 3], rfl, rfl, rfl, by (repeat (first | exact trivial | refine ⟨rfl, ?_⟩))⟩⟩
      ·obtain ⟨t, ht⟩ := hp1
       have hR : (runJ F cs (J vs.length)).2 = (F cs[m1] X).2 := by
        rw [ht, runJ_err (by rw [hrun1]; exact he1), hrun1]
       rw [hR, if_pos he1]
       generalize L.set m0 (F cs[m0] X).1 = L1 at *
       generalize F cs[m1] X = fx at *
       obtain ⟨x, y⟩ := fx
       have he1 : y ≠ 0 := he1
       (repeat' (first
        |(apply W.qd; (first
        |(exact zW (hc1))
        |((apply q_ld_rpt; (iterate 5 exact rfl)))|(exact zM)|(exact zN)|(exact yS rfl rfl rfl)|(exact yT rfl rfl rfl rfl)|(exact yU rfl rfl rfl rfl)|(exact q_lss rfl rfl)|(exact q_neq rfl rfl)|(exact yAb rfl rfl)|(exact q_len_osl rfl rfl rfl)|(apply yY; (iterate 3 exact rfl); (first | omega | (focus (simp; done))))|(apply yGb; (iterate 4 exact rfl); (first | (with_reducible exact rfl) | exact natI_spec rfl | assumption | exact (Int.toNat_of_nonneg (by omega)).symm); (first | omega | (focus (simp only [List.length_map]; omega)) | (focus (simp; done)) | (focus (simp; omega))))
        |(apply q_ix_osl0; (iterate 4 exact rfl); (first | (with_reducible exact rfl) | exact natI_spec rfl | assumption | exact (Int.toNat_of_nonneg (by omega)).symm); (first | omega | (focus (simp only [List.length_map]; omega)) | (focus (simp; done)) | (focus (simp; omega))))))|(apply yA)|(apply yB)|(apply yC; kernel_rfl)|(apply yD; exact rfl; kernel_rfl)|(apply yE)|(apply yF; kernel_rfl)|(apply yG)|(apply yH)|(apply yJ)|(apply yP)|(apply yN)|(apply yQ; exact rfl)
        |(refine W.cond _ rfl (fun hb => ?_) (fun hb => ?_) <;> ((try simp only [hb, zK]) <;> (try simp only [zL, zI] at hb) <;> (try (exfalso; omega))))))
       all_goals first
        |(exfalso; omega)
        |exact Ends.two rfl rfl rfl
     ·obtain rfl : j = 2 := by omega
      show AWPG _ _ _ _ _ _ ⟨_, [_, _, .row 0 1 3 (((L.set m0 (F cs[m0] X).1).set m1 (F cs[m1] X).1).map iD), _]⟩
      have hy := hj.2 rfl
      have hnx : (runJ F cs (J (k + 1))).2 = 0 := by rw [hrun1]; exact hy
      have hL8 : (runJ F cs (J (k + 1))).1 = (L.set m0 (F cs[m0] X).1).set m1 (F cs[m1] X).1 := by rw [hrun1]
      (repeat' (first
       |(apply W.qd; (first
       |(exact zM)|(exact zN)|(exact q_lss rfl rfl)|(exact q_add rfl rfl (by omega))
       |(exact q_len_osl rfl rfl rfl)))|(apply yA)|(apply yB)|(apply yC; kernel_rfl)|(apply yE)|(apply yI)|(apply yK)|(apply yL)|(apply yM)
       |(apply yR; exact rfl)))
      all_goals first
       |(exfalso; omega)|(refine ⟨k + 1, ⟨by omega, hnx⟩, by omega, ?_⟩; (try dsimp only); rw [hL8]; exact ⟨[0, 1, 2], rfl, rfl, rfl, iV_eq (by omega), rfl, rfl, rfl, rfl, rfl, rfl, rfl, rfl, trivial⟩)
 ·obtain rfl : k = vs.length := by omega
  rw [if_neg (by simp [hk2])]
  have hsb := sumH_bd hbd hhb
  have h8 := runJ_l8 (F := F) (cs := cs) (J vs.length)
  generalize (runJ F cs (J vs.length)).1 = L at *
  have hmb : ∀ j (hj : j < 8), (0 ≤ mxI (L[j]'(by omega)) (heldF rows j) ∧ mxI (L[j]'(by omega)) (heldF rows j) ≤ 2199023255554) ∧ sumH L (heldF rows) (j + 1) = sumH L (heldF rows) j + mxI (L[j]'(by omega)) (heldF rows j) := fun j hj => by
   have h1 := hbd j
   have h2 := hhb j
   have e : L.getD j 0 = L[j]'(by omega) := by rw [List.getD_eq_getElem?_getD, List.getElem?_eq_getElem (by omega)]; rfl
   rw [e] at h1
   refine ⟨?_, by rw [sumH, e]⟩
   unfold mxI
   split <;> omega
  generalize hS : sumH L (heldF rows) = S at *
  have hS0 : S 0 = 0 := by rw [← hS]; rfl
  clear hS hcode hcc hjs fb hbb hmz hpre hbd hhb
  (repeat' (first
   |(apply W.qd; (first
   |(exact zM)|(exact zN)|(exact yS rfl rfl rfl)|(exact yT rfl rfl rfl rfl)|(exact q_lss rfl rfl)
   |(exact yV rfl rfl)))|(apply yA)|(apply yB)|(apply (W.regionS 22); exact rfl; kernel_rfl)|(apply yE)|(apply yG)|(apply yI)|(apply yK)|(apply yM)
   |(refine W.cond _ rfl (fun hb => ?_) (fun hb => ?_) <;> ((try simp only [hb, zK]) <;> (try simp only [zL, zI] at hb) <;> (try (exfalso; omega))))))
  all_goals try (exfalso; omega)
  refine AWP.loopW (α := Nat) (fun j => j ≤ 8) (fun j => ⟨[(24, iV j), (23, iV (S j)), (16, .osl 0 0 0 8), (4, rws rows)], [.row 0 1 3 (L.map iD)]⟩) (fun j => 8 - j) 0 (Nat.zero_le _) ?wkE fun j hj => ?_
  case wkE =>
   rw [hS0]
   exact ⟨[2], rfl, rfl, rfl, by (repeat (first | exact trivial | refine ⟨rfl, ?_⟩))⟩
  by_cases hjl : j < 8
  ·obtain ⟨hm, hs⟩ := hmb j hjl
   have hsj := hsb j
   have hh := hhe (j : Int)
   have hh : ACalls Tryz.prog 177 [rws rows, iV (j : Int)] [] (iV (heldF rows j)) [] := hh
   generalize heldF rows j = y at *
   clear hmb hsb hhe
   (repeat' (first
    |(apply W.qd; (first
    |(exact zW (hh))
    |((apply q_maxM; exact rfl; exact rfl))|(exact zM)|(exact zN)|(exact q_lss rfl rfl)|(exact q_add rfl rfl (by omega))|(apply q_ix_osl0; (iterate 4 exact rfl); (first | (with_reducible exact rfl) | exact natI_spec rfl | assumption | exact (Int.toNat_of_nonneg (by omega)).symm); (first | omega | (focus (simp only [List.length_map]; omega)) | (focus (simp; done)) | (focus (simp; omega))))
    |(apply q_ld_rptm; (iterate 4 exact rfl); (first | omega | (focus (simp only [List.length_map]; omega)) | (focus (simp; done)) | (focus (simp; omega))))))|(apply yA)|(apply yB)|(apply yC; kernel_rfl)|(apply yD; exact rfl; kernel_rfl)|(apply yE)|(apply yF; kernel_rfl)|(apply yG)|(apply yH)|(apply yL)
    |(refine W.cond _ rfl (fun hb => ?_) (fun hb => ?_) <;> ((try simp only [hb, zK]) <;> (try simp only [zL, zI] at hb) <;> (try (exfalso; omega))))))
   all_goals first
    |(exfalso; omega)|(refine ⟨j + 1, by omega, by omega, ?_⟩; (try dsimp only); rw [hs]; exact ⟨[0], rfl, rfl, rfl, iV_eq (by omega), rfl, rfl, rfl, trivial⟩)
  ·obtain rfl : j = 8 := by omega
   (repeat' (first
    |(apply W.qd; (first
    |(exact zM)|(exact zN)
    |(exact q_lss rfl rfl)))|(apply yA)|(apply yB)|(apply yC; kernel_rfl)|(apply yE)|(apply yI)|(apply yJ)|(apply yK)|(apply yM)
    |(apply yR; exact rfl)))
   all_goals first | (exfalso; omega) | exact Ends.two rfl rfl rfl
def fitZ (n : Int) (x : Int × Int) : Int := if x.2 ≠ 0 then x.2 else if n < x.1 + 1 then refI else 0
theorem tot_bd {F : Cd → Int → Int × Int} {cs : List Cd} {vs : List Sv} {held b : Nat → Int} (hF : BdF F) (hh : ∀ c, 0 ≤ held c ∧ held c ≤ 1000000) : 0 ≤ (totN F cs vs held b).1 ∧ (totN F cs vs held b).1 ≤ 17592186044432 := by
 unfold totN
 split
 ·show (0 : Int) ≤ 0 ∧ (0 : Int) ≤ 17592186044432
  decide
 ·have := sumH_bd (runJ_bd (cs := cs) hF (jobsN vs b vs.length)) hh 8
  exact this
theorem rowsZ_bd {d r n s l i : Int} {cs : List Cd} {vs : List Sv} {ts : List Tn} {us : List Ue} {rows : List SRw} {c m : Int} (hr : rows.length ≤ 64) : 0 ≤ (rowsZ d r n s l i cs vs ts us rows c m).1 ∧ (rowsZ d r n s l i cs vs ts us rows c m).1 ≤ 17592186044432 := by
 unfold rowsZ
 split
 ·exact tot_bd (codN_bd _ _ _ _ _ _) (heldF_bd hr)
 ·decide
theorem A_rfits {d r n s l i : Int} {cs : List Cd} {vs : List Sv} {ts : List Tn} {us : List Ue} {rows : List SRw} {c mo : Int} (hI : In31 cs vs ts us rows) (hm : 0 ≤ mo ∧ mo ≤ 2000000) : ACalls Tryz.prog 62 [cfgA d r n s l i, lib cs vs, tns ts, ues us, rws rows, iV c, iV mo] [] (iV (fitZ n (rowsZ d r n s l i cs vs ts us rows c mo))) [] := by
 refine acalls_of_body Tryz.func62 rfl (zU rfl) ?_
 have hr := A_rrows (d := d) (r := r) (n := n) (s := s) (l := l) (i := i) (c := c) hI hm
 have hb := rowsZ_bd (d := d) (r := r) (n := n) (s := s) (l := l) (i := i) (cs := cs) (vs := vs) (ts := ts) (us := us) (c := c) (m := mo) hI.rl
 unfold fitZ
 generalize rowsZ d r n s l i cs vs ts us rows c mo = T at *
 obtain ⟨t1, t2⟩ := T
 dsimp only at *
 by_cases h1 : t2 ≠ 0
 ·rw [if_pos h1]
  (repeat' (first
   |(apply W.qd; (first
   |(exact zW (hr))|(exact zM)|(exact zN)|(exact yU rfl rfl rfl rfl)|(exact q_neq rfl rfl)
   |(exact yAb rfl rfl)))|(apply W.ed; (apply yBb; (iterate 3 exact rfl); kernel_rfl; kernel_rfl))|(apply yA)|(apply yB)|(apply yC; kernel_rfl)|(apply yE)|(apply yJ)|(apply yP)
   |(refine W.cond _ rfl (fun hb => ?_) (fun hb => ?_) <;> ((try simp only [hb, zK]) <;> (try simp only [zL, zI] at hb) <;> (try (exfalso; omega))))))
  all_goals first | (exfalso; omega) | exact Ends.i rfl rfl
 ·rw [if_neg h1]
  by_cases h2 : n < t1 + 1
  ·rw [if_pos h2]
   (repeat' (first
    |(apply W.qd; (first
    |(exact zW (hr))|(exact zM)|(exact zN)|(exact yS rfl rfl rfl)|(exact yT rfl rfl rfl rfl)|(exact yU rfl rfl rfl rfl)|(exact q_gtr rfl rfl)|(exact q_neq rfl rfl)|(exact q_add rfl rfl (by omega))
    |(exact yAb rfl rfl)))|(apply W.ed; (apply yBb; (iterate 3 exact rfl); kernel_rfl; kernel_rfl))|(apply yA)|(apply yB)|(apply yC; kernel_rfl)|(apply yE)|(apply yH)|(apply yJ)|(apply yP)
    |(refine W.cond _ rfl (fun hb => ?_) (fun hb => ?_) <;> ((try simp only [hb, zK]) <;> (try simp only [zL, zI] at hb) <;> (try (exfalso; omega))))))
   all_goals first | (exfalso; omega) | exact Ends.i rfl rfl
  ·rw [if_neg h2]
   (repeat' (first
    |(apply W.qd; (first
    |(exact zW (hr))|(exact zM)|(exact zN)|(exact yS rfl rfl rfl)|(exact yT rfl rfl rfl rfl)|(exact yU rfl rfl rfl rfl)|(exact q_gtr rfl rfl)|(exact q_neq rfl rfl)|(exact q_add rfl rfl (by omega))
    |(exact yAb rfl rfl)))|(apply W.ed; (apply yBb; (iterate 3 exact rfl); kernel_rfl; kernel_rfl))|(apply yA)|(apply yB)|(apply yC; kernel_rfl)|(apply yE)|(apply yH)|(apply yJ)
    |(refine W.cond _ rfl (fun hb => ?_) (fun hb => ?_) <;> ((try simp only [hb, zK]) <;> (try simp only [zL, zI] at hb) <;> (try (exfalso; omega))))))
   all_goals first | (exfalso; omega) | exact Ends.i rfl rfl
theorem fit_adm (d r n s l i : Int) (cs : List Cd) (vs : List Sv) (ts : List Tn) (us : List Ue) (rows : List SRw) : fitZ n (rowsZ d r n s l i cs vs ts us rows (-1) 0) = admN d r n s l i cs vs ts us rows := by
 rw [rowsZ_no]
 unfold fitZ admN
 generalize rowN31 d r n s l i cs vs ts us rows = T
 obtain ⟨t1, t2⟩ := T
 dsimp only
 by_cases h1 : t2 ≠ 0
 ·rw [if_pos h1, if_neg (by omega)]
 ·have h1 : t2 = 0 := by omega
  subst h1
  rw [if_neg (by simp)]
  by_cases h2 : n < t1 + 1
  ·rw [if_pos h2, if_pos (by omega)]
  ·rw [if_neg h2, if_neg (by omega)]
theorem A_radmit {d r n s l i : Int} {cs : List Cd} {vs : List Sv} {ts : List Tn} {us : List Ue} {rows : List SRw} (hI : In31 cs vs ts us rows) : ACalls Tryz.prog 61 [cfgA d r n s l i, lib cs vs, tns ts, ues us, rws rows] [] (iV (admN d r n s l i cs vs ts us rows)) [] := by
 refine acalls_of_body Tryz.func61 rfl (zU rfl) ?_
 have hf := A_rfits (d := d) (r := r) (n := n) (s := s) (l := l) (i := i) (c := -1) (mo := 0) hI (by omega)
 rw [fit_adm] at hf
 (repeat' (first
  |(apply W.qd; (first
  |(exact zW (hf))|(exact zM)|(exact zN)
  |(exact yU rfl rfl rfl rfl)))|(apply W.ed; (apply yBb; (iterate 3 exact rfl); kernel_rfl; kernel_rfl))|(apply yA)|(apply yB)|(apply yC; kernel_rfl)|(apply yE)
  |(apply yJ)))
 exact Ends.i rfl rfl
end
section
def srchF (q : Nat → Bool) : Nat → Nat → Nat → Nat → Nat × Nat
 | 0, i, _, y => (i, y)
 | f + 1, i, j, y => if i < j then (if q ((i + j) >>> 1) = true then srchF q f i ((i + j) >>> 1) ((i + j) >>> 1 + 1) else srchF q f ((i + j) >>> 1 + 1) j ((i + j) >>> 1 + 1)) else (i, y)
def srchG (q : Nat → Bool) (i j y : Nat) : Nat × Nat := srchF q (j - i) i j y
theorem half_eq (i j : Nat) : (i + j) >>> 1 = (i + j) / 2 := Nat.shiftRight_eq_div_pow _ 1
theorem srchF_more {q : Nat → Bool} : ∀ (f i j y : Nat), j - i ≤ f → srchF q f i j y = srchF q (f + 1) i j y
 | 0, i, j, y, h => by rw [srchF, srchF, if_neg (by omega)]
 | f + 1, i, j, y, h => by
   have hh := half_eq i j
   rw [srchF, srchF]
   by_cases h1 : i < j
   ·rw [if_pos h1, if_pos h1]
    split
    ·exact srchF_more f _ _ _ (by omega)
    ·exact srchF_more f _ _ _ (by omega)
   ·rw [if_neg h1, if_neg h1]
theorem srchF_enough {q : Nat → Bool} {i j y : Nat} : ∀ d, srchF q (j - i + d) i j y = srchG q i j y
 | 0 => rfl
 | d + 1 => by rw [← srchF_enough d, ← Nat.add_assoc]; exact (srchF_more _ _ _ _ (by omega)).symm
theorem srchG_step {q : Nat → Bool} {i j y : Nat} (h : i < j) : srchG q i j y = if q ((i + j) >>> 1) = true then srchG q i ((i + j) >>> 1) ((i + j) >>> 1 + 1) else srchG q ((i + j) >>> 1 + 1) j ((i + j) >>> 1 + 1) := by
 have hh := half_eq i j
 obtain ⟨f, hf⟩ : ∃ f, j - i = f + 1 := ⟨j - i - 1, by omega⟩
 have e1 : srchG q i j y = srchF q (f + 1) i j y := by unfold srchG; rw [hf]
 rw [e1, srchF, if_pos h]
 split
 ·have := srchF_enough (q := q) (i := i) (j := (i + j) >>> 1) (y := (i + j) >>> 1 + 1) (f - ((i + j) >>> 1 - i))
  rw [← this]; congr 1; omega
 ·have := srchF_enough (q := q) (i := (i + j) >>> 1 + 1) (j := j) (y := (i + j) >>> 1 + 1) (f - (j - ((i + j) >>> 1 + 1)))
  rw [← this]; congr 1; omega
theorem srchG_end {q : Nat → Bool} {i j y : Nat} (h : ¬ i < j) : srchG q i j y = (i, y) := by
 unfold srchG
 rw [show j - i = 0 by omega]; rfl
theorem srch_spec {q : Nat → Bool} {n : Nat} (hq : ∀ a b, a ≤ b → q a = true → q b = true) : ∀ (k i j y : Nat), j - i ≤ k → i ≤ j → j ≤ n → (∀ m, m < i → q m = false) → (j = n ∨ q j = true) → (srchG q i j y).1 ≤ n ∧ (∀ m, m < (srchG q i j y).1 → q m = false) ∧ ((srchG q i j y).1 = n ∨ q (srchG q i j y).1 = true)
 | k, i, j, y, hk, hij, hjn, h1, h2 => by
   by_cases h : i < j
   ·have hh := half_eq i j
    rw [srchG_step h]
    obtain ⟨k, rfl⟩ : ∃ k', k = k' + 1 := ⟨k - 1, by omega⟩
    split
    ·rename_i hq1
     exact srch_spec hq k _ _ _ (by omega) (by omega) (by omega) h1 (.inr hq1)
    ·rename_i hq1
     exact srch_spec hq k _ _ _ (by omega) (by omega) hjn (fun m hm => by
      cases hqm : q m with
      | false => rfl
      | true => exact absurd (hq m _ (by omega) hqm) hq1) h2
   ·rw [srchG_end h]
    have : i = j := by omega
    subst this
    exact ⟨hjn, h1, h2⟩
def roomI (d r n s l i : Int) (cs : List Cd) (vs : List Sv) (ts : List Tn) (us : List Ue) (rows : List SRw) (k : Int) : Int := if admN d r n s l i cs vs ts us rows = 0 ∧ 0 ≤ k ∧ k < (vs.length : Int) then (roomT (codN d r n s l i) cs vs (heldF rows) n (blkF ts us) k.toNat : Nat) else -1
theorem adm_val {d r n s l i : Int} {cs : List Cd} {vs : List Sv} {ts : List Tn} {us : List Ue} {rows : List SRw} (h : admN d r n s l i cs vs ts us rows = 0) : val31 d r n s l i cs vs ts us rows = true ∧ fitT (codN d r n s l i) cs vs (heldF rows) n (blkF ts us) = true := by
 unfold admN rowN31 at h
 cases hv : val31 d r n s l i cs vs ts us rows with
 | false => rw [hv, if_neg (by simp)] at h; simp at h
 | true =>
   rw [hv, if_pos rfl] at h
   refine ⟨rfl, ?_⟩
   unfold fitT
   rw [decide_eq_true_eq]
   split at h
   ·exact absurd h (by decide)
   ·rename_i h1
    exact ⟨h, by omega⟩
theorem blkF_nn {nv : Nat} {ts : List Tn} {us : List Ue} (h : tenB nv ts us = true) (k : Nat) : 0 ≤ blkF ts us k := (blkN_bd h).1
theorem val_ten {d r n s l i : Int} {cs : List Cd} {vs : List Sv} {ts : List Tn} {us : List Ue} {rows : List SRw} (h : val31 d r n s l i cs vs ts us rows = true) : validB cs vs = true ∧ tenB vs.length ts us = true := by
 unfold val31 at h
 simp only [Bool.and_eq_true] at h
 exact ⟨h.1.2, h.2⟩
section
variable {P : Program} {m : Nat} {env : List (Nat × AV)} {own : List Ent} {dst : Option Tmp} {ty : TypeId} {pos : String} {af : Array Edge} {gd : Option (Nat × Bool)}
theorem q_shrE {t t' : TypeId} {x y : Operand} {k' : IntKind} {xn v : Nat} (hx : lookO env x = .d (.v (.int .u64 (xn : Int)))) (hy : lookO env y = .d (.v (.int k' 1))) (h : xn >>> 1 = v) :
 Quiet P m ⟨dst, .binOp .shr t x y t', ty, pos, af, gd⟩ env own [] (.d (.v (.int .u64 (v : Int)))) := by
 subst h; exact q_shrN (n := 1) hx hy rfl rfl (by decide)
theorem q_quoE {t t' : TypeId} {x y : Operand} {a b v : Int} (hx : lookO env x = iV a) (hy : lookO env y = iV b) (ha : 0 ≤ a) (hb : 0 < b) (hi : a < 9223372036854775808) (h : a / b = v) :
 Quiet P m ⟨dst, .binOp .quo t x y t', ty, pos, af, gd⟩ env own [] (iV v) := by
 subst h; exact q_quo hx hy ha hb hi
end
attribute [local irreducible] Quiet Eff OpOk AWPG ACont ABlock ACalls AGoto
theorem A_sortSearch {O : Nat → List Ent} {g : FuncId} {caps : List AV} (q : Nat → Bool) {n : Nat} (hn : n ≤ 2000000) (hgf : isFn Tryz.prog g = true) (hg : ∀ y h, h < n → ACalls Tryz.prog g (iV (h : Nat) :: caps) (O y) (bV (q h)) (O (h + 1))) : ACalls Tryz.prog 58 [iV n, .fn g caps] (O 0) (iV (srchG q 0 n 0).1) (O (srchG q 0 n 0).2) := by
 refine acalls_of_bodyS Tryz.func58 rfl (zU rfl) ?_
 (repeat' (first
  |(apply W.qd; (first
  |(exact zM)
  |(exact zN)))|(apply yA)|(apply yB)|(apply (W.regionS 2); exact rfl; kernel_rfl)|(apply yE)
  |(apply yG)))
 refine AWP.loopE (α := Nat × Nat × Nat) (fun x => x.1 ≤ x.2.1 ∧ x.2.1 ≤ n ∧ srchG q x.1 x.2.1 x.2.2 = srchG q 0 n 0) (fun x => ⟨[(5, iV x.1), (6, iV x.2.1), (1, .fn g caps)], O x.2.2⟩) (fun x => x.2.1 - x.1) (0, n, 0) ⟨Nat.zero_le _, Nat.le_refl _, rfl⟩ ⟨rfl, by (repeat (first | exact trivial | refine ⟨rfl, ?_⟩))⟩ fun x hx => ?_
 obtain ⟨i, j, y⟩ := x
 dsimp only at hx ⊢
 obtain ⟨h1, h2, h3⟩ := hx
 by_cases hij : i < j
 ·have hh := half_eq i j
  rw [srchG_step hij] at h3
  have hgh := hg y ((i + j) >>> 1) (by omega)
  generalize hH : (i + j) >>> 1 = H at *
  cases hqv : q H with
  | true =>
    rw [hqv] at hgh
    rw [hqv, if_pos rfl] at h3
    (repeat' (first
     |(apply W.qd; (first
     |((apply (q_convU (v := i + j)); (iterate 3 exact rfl); omega; omega))
     |((apply (q_shrE (v := H)); exact rfl; exact rfl; exact hH))|(exact zM)|(exact zN)|(exact q_lss rfl rfl)|(exact q_not rfl)|(exact q_add rfl rfl (by omega))
     |(apply q_convI; (iterate 3 exact rfl); omega)))|(apply W.ed; ((apply (e_callA hgh); exact rfl; exact rfl; exact hgf)))|(apply yA)|(apply yB)|(apply yC; kernel_rfl)|(apply yE)|(apply yG)|(apply yH)|(apply yL)|(apply yR; exact rfl)
     |(refine W.cond _ rfl (fun hb => ?_) (fun hb => ?_) <;> ((try simp only [hb, zK]) <;> (try simp only [zL, zI] at hb) <;> (try (exfalso; omega))))))
    all_goals first
     |(exfalso; omega)
     |exact ⟨(i, H, H + 1), ⟨by dsimp only; omega, by dsimp only; omega, h3⟩, by dsimp only; omega, ⟨rfl, by (repeat (first | exact trivial | refine ⟨rfl, ?_⟩))⟩⟩
  | false =>
    rw [hqv] at hgh
    rw [hqv, if_neg (by simp)] at h3
    (repeat' (first
     |(apply W.qd; (first
     |((apply (q_convU (v := i + j)); (iterate 3 exact rfl); omega; omega))
     |((apply (q_shrE (v := H)); exact rfl; exact rfl; exact hH))|(exact zM)|(exact zN)|(exact q_lss rfl rfl)|(exact q_not rfl)|(exact q_add rfl rfl (by omega))
     |(apply q_convI; (iterate 3 exact rfl); omega)))|(apply W.ed; ((apply (e_callA hgh); exact rfl; exact rfl; exact hgf)))|(apply yA)|(apply yB)|(apply yC; kernel_rfl)|(apply yE)|(apply yG)|(apply yH)|(apply yL)|(apply yQ; exact rfl)
     |(refine W.cond _ rfl (fun hb => ?_) (fun hb => ?_) <;> ((try simp only [hb, zK]) <;> (try simp only [zL, zI] at hb) <;> (try (exfalso; omega))))))
    all_goals first
     |(exfalso; omega)
     |exact ⟨(H + 1, j, H + 1), ⟨by dsimp only; omega, by dsimp only; omega, h3⟩, by dsimp only; omega, ⟨rfl, by (repeat (first | exact trivial | refine ⟨rfl, ?_⟩))⟩⟩
 ·rw [srchG_end hij] at h3
  rw [← h3]
  (repeat' (first
   |(apply W.qd; (first
   |(exact zM)|(exact zN)
   |(exact q_lss rfl rfl)))|(apply yA)|(apply yB)|(apply yC; kernel_rfl)|(apply yE)|(apply yI)|(apply yJ)|(apply yK)|(apply yM)
   |(refine W.cond _ rfl (fun hb => ?_) (fun hb => ?_) <;> ((try simp only [hb, zK]) <;> (try simp only [zL, zI] at hb) <;> (try (exfalso; omega))))))
  all_goals first | (exfalso; omega) | exact EndsS.i rfl rfl
def blS (bl : List Int) (k : Nat) (b : Int) (y : Nat) : List Int := match y with | 0 => bl | h + 1 => bl.set k (b + (h : Int) + 1)
theorem blS_len (bl : List Int) (k : Nat) (b : Int) (y : Nat) : (blS bl k b y).length = bl.length := by
 cases y with
 | zero => rfl
 | succ h => exact List.length_set
theorem blS_set (bl : List Int) (k : Nat) (b : Int) (y h : Nat) : (blS bl k b y).set k (b + (h : Int) + 1) = blS bl k b (h + 1) := by
 cases y with
 | zero => rfl
 | succ h => exact List.set_set ..
def rmO (d r n s l i : Int) (cs : List Cd) (vs : List Sv) (rows : List SRw) (bl : List Int) (k : Nat) (b : Int) (y : Nat) : List Ent := [.box [iV d, iV r, iV n, iV s, iV l, iV i], .box [cds cs, svs vs], .box [rws rows], .box [iV k], .row 0 1 3 ((blS bl k b y).map iD), .box [.osl 4 0 0 vs.length], .box [iV b]]
def rmQ (d r n s l i : Int) (cs : List Cd) (vs : List Sv) (rows : List SRw) (bl : List Int) (k : Nat) (b : Int) (h : Nat) : Bool := !fitT (codN d r n s l i) cs vs (heldF rows) n (fun j => (blS bl k b (h + 1)).getD j 0)
theorem A_room1 {d r n s l i : Int} {cs : List Cd} {vs : List Sv} {rows : List SRw} {bl : List Int} {k : Nat} {b : Int} {y h : Nat} (hL : LibIn cs vs) (hV : validB cs vs = true) (hb : bl.length = vs.length) (hr : rows.length ≤ 64) (hk : k < vs.length) (hbb : 0 ≤ b ∧ b ≤ 68719476704) (hh : h < 1048576) :
 ACalls Tryz.prog 59 [iV (h : Nat), .opt 6 0, .opt 5 0, .opt 3 0, .opt 0 0, .opt 1 0, .opt 2 0] (rmO d r n s l i cs vs rows bl k b y) (bV (rmQ d r n s l i cs vs rows bl k b h)) (rmO d r n s l i cs vs rows bl k b (h + 1)) := by
 have ht := A_total (d := d) (r := r) (n := n) (s := s) (l := l) (i := i) (bl := blS bl k b (h + 1)) hL hV (by rw [blS_len]; exact hb) hr
 have hs := Lib.hid (blS_set bl k b y h)
 have hl1 := blS_len bl k b y
 have hl2 := blS_len bl k b (h + 1)
 unfold rmO rmQ fitT
 generalize totN (codN d r n s l i) cs vs (heldF rows) (fun j => (blS bl k b (h + 1)).getD j 0) = T at *
 obtain ⟨t1, t2⟩ := T
 generalize blS bl k b (h + 1) = B2 at *
 generalize blS bl k b y = B1 at *
 have hv8 := (valid_vl hV).2
 have hBl : vs.length = (B2.map iD).length := by rw [List.length_map]; omega
 have hfz : ∀ own own' : List Ent, own[4]? = some (.row 0 1 3 (B2.map iD)) → same [4] own own' → AV.frzL own' [] [cfgA d r n s l i, lib cs vs, .osl 4 0 0 vs.length, rws rows] = [cfgA d r n s l i, lib cs vs, ints B2, rws rows] := fun own own' h1 h2 =>
  congrArg (fun z => [cfgA d r n s l i, lib cs vs, z, rws rows]) (frz_rowJ ((h2 4 (by simp)).trans h1) rfl hBl)
 refine acalls_of_bodyS Tryz.func59 rfl (zU rfl) ?_
 (repeat' (first
  |(apply W.qd; (first
  |(exact zM)|(exact zN)|(exact yT rfl rfl rfl rfl)|(exact q_add rfl rfl (by omega))
  |(apply q_ix_osl0; (iterate 4 exact rfl); (first | (with_reducible exact rfl) | exact natI_spec rfl | assumption | exact (Int.toNat_of_nonneg (by omega)).symm); (first | omega | (focus (simp only [List.length_map]; omega)) | (focus (simp; done)) | (focus (simp; omega))))))|(apply W.ln; (apply l_st_rpt; (iterate 7 exact rfl); exact fun _ => rfl; (first | omega | (focus (simp only [List.length_map]; omega)) | (focus (simp; omega)))))|(apply yA)|(apply yB)|(apply (W.regionS 2); exact rfl; kernel_rfl)
  |(apply yE)))
 rw [hs.out]
 (repeat' (first
  |(apply yFb; exact rfl; exact rfl)
  |(apply W.qd; (first
  |((apply (q_callF (js := [4]) ht); exact rfl; exact fun own' hh => hfz _ own' rfl hh; exact rfl; kernel_rfl))|(exact zM)|(exact zN)|(exact yS rfl rfl rfl)|(exact yT rfl rfl rfl rfl)|(exact yU rfl rfl rfl rfl)|(exact q_geq rfl rfl)|(exact q_neq rfl rfl)|(exact yAb rfl rfl)|(apply (yEb (u := .d _)); exact rfl; exact rfl)
  |(apply (yDb (u := .d _)); exact rfl; exact rfl)))|(refine W.gOff _ _ rfl rfl (by intro h; cases h) ?_)|(apply yA)|(apply yB)|(apply yC; kernel_rfl)|(apply yE)|(apply yJ)
  |(refine W.gF _ _ rfl rfl (fun hb => ?_) (fun hb => ?_) <;> ((try simp only [hb, zK]) <;> (try simp only [zL, zI] at hb) <;> (try (exfalso; omega))))))
 all_goals first
  |(exfalso; omega)|(refine EndsS.b rfl ?_; rw [Bool.eq_iff_iff]; simp <;> omega)
theorem A_room {d r n s l i : Int} {cs : List Cd} {vs : List Sv} {ts : List Tn} {us : List Ue} {rows : List SRw} {k : Int} (hI : In31 cs vs ts us rows) : ACalls Tryz.prog 17 [cfgA d r n s l i, lib cs vs, tns ts, ues us, rws rows, iV k] [] (iV (roomI d r n s l i cs vs ts us rows k)) [] := by
 refine acalls_of_body Tryz.func17 rfl (zU rfl) ?_
 have ha := A_admit (d := d) (r := r) (n := n) (s := s) (l := l) (i := i) hI
 unfold roomI
 cases hv : val31 d r n s l i cs vs ts us rows with
 | false =>
   have hc := A_claimedB hI hv
   rw [if_neg (fun h => by have := (adm_val h.1).1; rw [hv] at this; cases this)]
   generalize admN d r n s l i cs vs ts us rows = e at *
   (repeat' (first
    |(apply yFb; exact rfl; exact rfl)
    |(apply W.qd; (first
    |(exact zW (hc))|(exact zM)|(exact zN)|(exact yT rfl rfl rfl rfl)|(exact yU rfl rfl rfl rfl)|(exact q_lss rfl rfl)|(exact q_geq rfl rfl)|(exact yAb rfl rfl)|(exact q_len_nil rfl rfl)|(apply (yEb (u := .d _)); exact rfl; exact rfl)
    |(apply (yDb (u := .d _)); exact rfl; exact rfl)))
    |(apply W.ed; (first
    |(apply yBb; (iterate 3 exact rfl); kernel_rfl; kernel_rfl)
    |(apply yCb; (iterate 3 exact rfl); kernel_rfl)))|(apply W.ln; (apply l_st_box; (iterate 6 exact rfl); (iterate 3 kernel_rfl)))|(refine W.gOff _ _ rfl rfl (by intro h; cases h) ?_)|(apply yA)|(apply yB)|(apply yC; kernel_rfl)|(apply yE)|(apply yJ)|(apply yP)|(apply yQ; exact rfl)
    |(refine W.gF _ _ rfl rfl (fun hb => ?_) (fun hb => ?_) <;> ((try simp only [hb, zK]) <;> (try simp only [zL, zI] at hb) <;> (try (exfalso; omega))))))
   all_goals first | (exfalso; omega) | exact Ends.i rfl rfl
 | true =>
   have hc := A_claimed hI hv
   obtain ⟨hV, hT⟩ := val_ten hv
   have hv8 := (valid_vl hV).2
   by_cases hk : 0 ≤ k ∧ k < (vs.length : Int)
   case neg =>
    rw [if_neg (fun h => hk h.2)]
    generalize admN d r n s l i cs vs ts us rows = e at *
    generalize blkL vs.length ts us = bl at *
    (repeat' (first
     |(apply yFb; exact rfl; exact rfl)
     |(apply W.qd; (first
     |(exact zM)|(exact zN)|(exact yT rfl rfl rfl rfl)|(exact yU rfl rfl rfl rfl)|(exact q_lss rfl rfl)|(exact q_geq rfl rfl)|(exact yAb rfl rfl)|(exact q_len_osl rfl rfl rfl)|(apply (yEb (u := .d _)); exact rfl; exact rfl)
     |(apply (yDb (u := .d _)); exact rfl; exact rfl)))
     |(apply W.ed; (first
     |(apply (e_callJ (js := []) (hc)); (iterate 5 exact rfl); kernel_rfl; kernel_rfl)|(apply yBb; (iterate 3 exact rfl); kernel_rfl; kernel_rfl)
     |(apply yCb; (iterate 3 exact rfl); kernel_rfl)))|(apply W.ln; (apply l_st_box; (iterate 6 exact rfl); (iterate 3 kernel_rfl)))|(refine W.gOff _ _ rfl rfl (by intro h; cases h) ?_)|(apply yA)|(apply yB)|(apply yC; kernel_rfl)|(apply yE)|(apply yJ)|(apply yP)|(apply yQ; exact rfl)
     |(refine W.gF _ _ rfl rfl (fun hb => ?_) (fun hb => ?_) <;> ((try simp only [hb, zK]) <;> (try simp only [zL, zI] at hb) <;> (try (exfalso; omega))))))
    all_goals first | (exfalso; omega) | exact Ends.i rfl rfl
   by_cases he : admN d r n s l i cs vs ts us rows = 0
   case neg =>
    rw [if_neg (fun h => he h.1)]
    generalize admN d r n s l i cs vs ts us rows = e at *
    generalize blkL vs.length ts us = bl at *
    (repeat' (first
     |(apply yFb; exact rfl; exact rfl)
     |(apply W.qd; (first
     |(exact zW (ha))|(exact zM)|(exact zN)|(exact yT rfl rfl rfl rfl)|(exact yU rfl rfl rfl rfl)|(exact q_lss rfl rfl)|(exact q_geq rfl rfl)|(exact q_neq rfl rfl)|(exact yAb rfl rfl)|(exact q_len_osl rfl rfl rfl)
     |(apply (yDb (u := .d _)); exact rfl; exact rfl)))
     |(apply W.ed; (first
     |(apply (e_callJ (js := []) (hc)); (iterate 5 exact rfl); kernel_rfl; kernel_rfl)|(apply yBb; (iterate 3 exact rfl); kernel_rfl; kernel_rfl)
     |(apply yCb; (iterate 3 exact rfl); kernel_rfl)))|(apply W.ln; (apply l_st_box; (iterate 6 exact rfl); (iterate 3 kernel_rfl)))|(apply yA)|(apply yB)|(apply yC; kernel_rfl)|(apply yE)|(apply yJ)|(apply yP)|(refine W.gF _ _ rfl rfl (fun hb => ?_) (fun hb => ?_) <;> ((try simp only [hb, zK]) <;> (try simp only [zL, zI] at hb) <;> (try (exfalso; omega))))
     |(refine W.cond _ rfl (fun hb => ?_) (fun hb => ?_) <;> ((try simp only [hb, zK]) <;> (try simp only [zL, zI] at hb) <;> (try (exfalso; omega))))))
    all_goals first | (exfalso; omega) | exact Ends.i rfl rfl
   rw [if_pos ⟨he, hk.1, hk.2⟩]
   obtain ⟨k, rfl⟩ : ∃ q : Nat, k = q := ⟨k.toNat, by omega⟩
   have hkl : k < vs.length := by omega
   rw [he] at ha
   rw [Int.toNat_natCast]
   have hbl : (blkL vs.length ts us).length = vs.length := by unfold blkL; simp
   have hbk : (blkL vs.length ts us)[k]'(by omega) = blkN ts us (k : Int) := by
    have := blkL_get (ts := ts) (us := us) hkl
    rw [List.getD_eq_getElem?_getD, List.getElem?_eq_getElem (by omega)] at this
    exact this
   have hbb := blkN_bd (k := (k : Int)) hT
   have hfit := (adm_val he).2
   have hn0 := blkF_nn hT
   have hmo := codN_mono d r n s l i
   -- the search
   have hqe : ∀ h : Nat, rmQ d r n s l i cs vs rows (blkL vs.length ts us) k (blkN ts us (k : Int)) h = !fitT (codN d r n s l i) cs vs (heldF rows) n (moreB (blkF ts us) k ((h : Int) + 1)) := fun h => by
    unfold rmQ fitT
    rw [tot_congr (b' := moreB (blkF ts us) k ((h : Int) + 1)) (fun j hj => by
     have := blkL_more (ts := ts) (us := us) hkl ((h : Int) + 1) j hj
     rw [← this, ← Int.add_assoc]; rfl)]
   have hsr := A_sortSearch (O := rmO d r n s l i cs vs rows (blkL vs.length ts us) k (blkN ts us (k : Int))) (g := 59) (caps := [.opt 6 0, .opt 5 0, .opt 3 0, .opt 0 0, .opt 1 0, .opt 2 0]) (rmQ d r n s l i cs vs rows (blkL vs.length ts us) k (blkN ts us (k : Int))) (n := 1048576) (by omega) (by kernel_rfl) (fun y h hh => A_room1 hI.L hV hbl hI.rl hkl hbb hh)
   have hsp := srch_spec (q := rmQ d r n s l i cs vs rows (blkL vs.length ts us) k (blkN ts us (k : Int))) (n := 1048576) (fun a b hab h => by
    rw [hqe] at h ⊢
    cases hf : fitT (codN d r n s l i) cs vs (heldF rows) n (moreB (blkF ts us) k ((b : Int) + 1)) with
    | false => rfl
    | true => rw [fit_more (x := (a : Int) + 1) hmo hn0 (by omega) (by omega) hf] at h; cases h) 1048576 0 1048576 0 (by omega) (by omega) (by omega) (fun m hm => by omega) (.inl rfl)
   obtain ⟨g1, g2, g3⟩ := hsp
   have hroom : roomT (codN d r n s l i) cs vs (heldF rows) n (blkF ts us) k = (srchG (rmQ d r n s l i cs vs rows (blkL vs.length ts us) k (blkN ts us (k : Int))) 0 1048576 0).1 := by
    generalize (srchG (rmQ d r n s l i cs vs rows (blkL vs.length ts us) k (blkN ts us (k : Int))) 0 1048576 0).1 = R at *
    refine room_unique hmo hn0 g1 ?_ fun hR => ?_
    ·match R with
     | 0 => rw [show ((0 : Nat) : Int) = 0 from rfl, moreB_zero]; exact hfit
     | R + 1 =>
       have := g2 R (by omega)
       rw [hqe] at this
       simpa using this
    ·rcases g3 with h | h
     ·omega
     ·rw [hqe] at h
      simpa using h
   rw [hroom]
   clear hqe g1 g2 g3 hroom hmo hn0 hfit
   generalize srchG (rmQ d r n s l i cs vs rows (blkL vs.length ts us) k (blkN ts us (k : Int))) 0 1048576 0 = R at *
   obtain ⟨R1, R2⟩ := R
   unfold rmO blS at hsr
   dsimp only at hsr
   rw [← hbk] at hsr
   (repeat' (first
    |(apply yFb; exact rfl; exact rfl)
    |(apply W.qd; (first
    |(exact zW (ha))|(exact zM)|(exact zN)|(exact yT rfl rfl rfl rfl)|(exact yU rfl rfl rfl rfl)|(exact q_lss rfl rfl)|(exact q_geq rfl rfl)|(exact q_neq rfl rfl)|(exact yAb rfl rfl)|(exact q_len_osl rfl rfl rfl)|(apply q_makeFunc)|(apply (yDb (u := .d _)); exact rfl; exact rfl)|(apply q_ix_osl0; (iterate 4 exact rfl); (first | (with_reducible exact rfl) | exact natI_spec rfl | assumption | exact (Int.toNat_of_nonneg (by omega)).symm); (first | omega | (focus (simp only [List.length_map]; omega)) | (focus (simp; done)) | (focus (simp; omega))))
    |(apply q_ld_rptm; (iterate 4 exact rfl); (first | omega | (focus (simp only [List.length_map]; omega)) | (focus (simp; done)) | (focus (simp; omega))))))
    |(apply W.ed; (first
    |(apply (e_callJ (js := []) (hc)); (iterate 5 exact rfl); kernel_rfl; kernel_rfl)
    |((apply (e_callA hsr); exact rfl; exact rfl; kernel_rfl))|(apply yBb; (iterate 3 exact rfl); kernel_rfl; kernel_rfl)
    |(apply yCb; (iterate 3 exact rfl); kernel_rfl)))|(apply W.ln; (apply l_st_box; (iterate 6 exact rfl); (iterate 3 kernel_rfl)))|(apply yA)|(apply yB)|(apply yC; kernel_rfl)|(apply yE)|(apply yH)|(apply yJ)|(apply yR; exact rfl)
    |(refine W.gF _ _ rfl rfl (fun hb => ?_) (fun hb => ?_) <;> ((try simp only [hb, zK]) <;> (try simp only [zL, zI] at hb) <;> (try (exfalso; omega))))))
   all_goals first | (exfalso; omega) | exact Ends.i rfl rfl
theorem fitZ_iff {d r n s l i : Int} {cs : List Cd} {vs : List Sv} {ts : List Tn} {us : List Ue} {rows : List SRw} {k : Nat} {m : Int} (hv : val31 d r n s l i cs vs ts us rows = true) : fitZ n (rowsZ d r n s l i cs vs ts us rows (k : Int) m) = 0 ↔ fitT (codN d r n s l i) cs vs (heldF rows) n (moreB (blkF ts us) k m) = true := by
 unfold fitZ rowsZ fitT
 rw [if_pos hv, moreZ_nat, decide_eq_true_eq]
 generalize totN (codN d r n s l i) cs vs (heldF rows) (moreB (blkF ts us) k m) = T
 obtain ⟨t1, t2⟩ := T
 dsimp only
 by_cases h1 : t2 ≠ 0
 ·rw [if_pos h1]; omega
 ·rw [if_neg h1]
  split
  ·constructor
   ·intro h; exact absurd h (by decide)
   ·intro h; omega
  ·constructor
   ·intro _; omega
   ·intro _; rfl
theorem A_rroom {d r n s l i : Int} {cs : List Cd} {vs : List Sv} {ts : List Tn} {us : List Ue} {rows : List SRw} {k : Int} (hI : In31 cs vs ts us rows) : ACalls Tryz.prog 18 [cfgA d r n s l i, lib cs vs, tns ts, ues us, rws rows, iV k] [] (iV (roomI d r n s l i cs vs ts us rows k)) [] := by
 refine acalls_of_body Tryz.func18 rfl (zU rfl) ?_
 have ha := A_radmit (d := d) (r := r) (n := n) (s := s) (l := l) (i := i) hI
 have hmv : (vs.map svD).length = vs.length := List.length_map _
 have hvl := hI.L.vl
 unfold roomI
 by_cases he : admN d r n s l i cs vs ts us rows = 0 ∧ 0 ≤ k ∧ k < (vs.length : Int)
 case neg =>
  rw [if_neg he]
  generalize admN d r n s l i cs vs ts us rows = e at *
  (repeat' (first
   |(apply yFb; exact rfl; exact rfl)
   |(apply W.qd; (first
   |(exact zW (ha))|(exact zM)|(exact zN)|(exact yS rfl rfl rfl)|(exact yT rfl rfl rfl rfl)|(exact yU rfl rfl rfl rfl)|(exact q_lss rfl rfl)|(exact q_geq rfl rfl)|(exact q_neq rfl rfl)|(exact yV rfl rfl)|(apply (yEb (u := .d _)); exact rfl; exact rfl)
   |(apply (yDb (u := .d _)); exact rfl; exact rfl)))|(apply W.ed; (apply yBb; (iterate 3 exact rfl); kernel_rfl; kernel_rfl))|(refine W.gOff _ _ rfl rfl (by intro h; cases h) ?_)|(apply yA)|(apply yB)|(apply (W.regionS 5); exact rfl; kernel_rfl)|(apply yE)|(apply yJ)|(apply yP)|(apply yQ; exact rfl)|(refine W.gF _ _ rfl rfl (fun hb => ?_) (fun hb => ?_) <;> ((try simp only [hb, zK]) <;> (try simp only [zL, zI] at hb) <;> (try (exfalso; omega))))
   |(refine W.cond _ rfl (fun hb => ?_) (fun hb => ?_) <;> ((try simp only [hb, zK]) <;> (try simp only [zL, zI] at hb) <;> (try (exfalso; omega))))))
  all_goals first | (exfalso; omega) | exact Ends.i rfl rfl
 rw [if_pos he]
 obtain ⟨he, hk1, hk2⟩ := he
 obtain ⟨k, rfl⟩ : ∃ q : Nat, k = q := ⟨k.toNat, by omega⟩
 rw [he] at ha
 rw [Int.toNat_natCast]
 obtain ⟨hv, hfit⟩ := adm_val he
 obtain ⟨hV, hT⟩ := val_ten hv
 have hn0 := blkF_nn hT
 have hmo := codN_mono d r n s l i
 have hru := fun m hm h1 h2 => room_unique (F := codN d r n s l i) (cs := cs) (vs := vs) (h := heldF rows) (b := blkF ts us) (n := n) (k := k) (m := m) hmo hn0 hm h1 h2
 have hiff := fun m : Int => fitZ_iff (k := k) (m := m) hv
 have hf := fun m (hm : 0 ≤ m ∧ m ≤ 2000000) => A_rfits (d := d) (r := r) (n := n) (s := s) (l := l) (i := i) (c := (k : Int)) (mo := m) hI hm
 have hf0 : fitT (codN d r n s l i) cs vs (heldF rows) n (moreB (blkF ts us) k ((0 : Nat) : Int)) = true := by rw [show ((0 : Nat) : Int) = 0 from rfl, moreB_zero]; exact hfit
 generalize roomT (codN d r n s l i) cs vs (heldF rows) n (blkF ts us) k = R at *
 clear hmo hn0 hfit hv hV hT he
 generalize hG : (fun m : Int => fitT (codN d r n s l i) cs vs (heldF rows) n (moreB (blkF ts us) k m)) = G at *
 have hG : ∀ m : Int, fitT (codN d r n s l i) cs vs (heldF rows) n (moreB (blkF ts us) k m) = G m := fun m => congrFun hG m
 simp only [hG] at hru hiff hf0
 (repeat' (first
  |(apply yFb; exact rfl; exact rfl)
  |(apply W.qd; (first
  |(exact zW (ha))|(exact zM)|(exact zN)|(exact yS rfl rfl rfl)|(exact yT rfl rfl rfl rfl)|(exact yU rfl rfl rfl rfl)|(exact q_lss rfl rfl)|(exact q_geq rfl rfl)|(exact q_neq rfl rfl)|(exact yV rfl rfl)
  |(apply (yDb (u := .d _)); exact rfl; exact rfl)))|(apply W.ed; (apply yBb; (iterate 3 exact rfl); kernel_rfl; kernel_rfl))|(apply yA)|(apply yB)|(apply (W.regionS 5); exact rfl; kernel_rfl)|(apply yE)|(apply yG)|(apply yH)
  |(refine W.cond _ rfl (fun hb => ?_) (fun hb => ?_) <;> ((try simp only [hb, zK]) <;> (try simp only [zL, zI] at hb) <;> (try (exfalso; omega))))))
 all_goals try (exfalso; omega)
 refine AWP.loopW (α := Nat × Nat) (fun x => (x.1 < x.2 ∧ x.2 ≤ 1048577) ∧ G x.1 = true ∧ (x.2 = 1048577 ∨ G x.2 = false)) (fun x => ⟨[(13, iV x.1), (14, iV x.2), (2, tns ts), (3, ues us), (4, rws rows), (5, iV (k : Int)), (6, .opt 0 0), (7, .opt 1 0)], [.box [iV d, iV r, iV n, iV s, iV l, iV i], .box [cds cs, svs vs]]⟩) (fun x => x.2 - x.1) (0, 1048577) ⟨by omega, hf0, .inl rfl⟩ ⟨[0, 1], rfl, rfl, rfl, by (repeat (first | exact trivial | refine ⟨rfl, ?_⟩))⟩ fun x hx => ?_
 obtain ⟨a, b⟩ := x
 dsimp only at hx ⊢
 obtain ⟨⟨h1, h2⟩, h3, h4⟩ := hx
 by_cases hab : a + 1 < b
 ·obtain ⟨M, hM⟩ : ∃ M : Nat, ((a : Int) + (b : Int)) / 2 = (M : Int) := ⟨(((a : Int) + (b : Int)) / 2).toNat, by omega⟩
  have hfm := hf (M : Int) (by omega)
  have him := hiff (M : Int)
  generalize fitZ n (rowsZ d r n s l i cs vs ts us rows (k : Int) (M : Int)) = e at *
  clear hf hiff hru
  (repeat' (first
   |(apply W.qd; (first
   |((apply (q_quoE (v := (M : Int))); exact rfl; exact rfl; omega; omega; omega; exact hM))|(exact zW (hfm))|(exact zM)|(exact zN)|(exact yU rfl rfl rfl rfl)|(exact q_lss rfl rfl)|(exact q_eql rfl rfl)
   |(exact q_add rfl rfl (by omega))))|(apply yA)|(apply yB)|(apply yC; kernel_rfl)|(apply yE)|(apply yG)|(apply yH)|(apply yL)
   |(refine W.cond _ rfl (fun hb => ?_) (fun hb => ?_) <;> ((try simp only [hb, zK]) <;> (try simp only [zL, zI] at hb) <;> (try (exfalso; omega))))))
  all_goals first
   |(exfalso; omega)
   |exact ⟨(M, b), ⟨by dsimp only; omega, him.1 (by omega), h4⟩, by dsimp only; omega, ⟨[0, 1], rfl, rfl, rfl, by (repeat (first | exact trivial | refine ⟨rfl, ?_⟩))⟩⟩
   |exact ⟨(a, M), ⟨by dsimp only; omega, h3, .inr (Bool.eq_false_iff.2 fun h => absurd (him.2 h) (by omega))⟩, by dsimp only; omega, ⟨[0, 1], rfl, rfl, rfl, by (repeat (first | exact trivial | refine ⟨rfl, ?_⟩))⟩⟩
 ·have hb : b = a + 1 := by omega
  have hR := hru a (by omega) h3 (fun h => by
   rcases h4 with h5 | h5
   ·omega
   ·rw [hb] at h5; exact h5)
  rw [hR]
  clear hf hiff hru
  (repeat' (first
   |(apply W.qd; (first
   |(exact zM)|(exact zN)|(exact q_lss rfl rfl)
   |(exact q_add rfl rfl (by omega))))|(apply yA)|(apply yB)|(apply yC; kernel_rfl)|(apply yE)|(apply yI)|(apply yJ)|(apply yK)|(apply yM)
   |(refine W.cond _ rfl (fun hb => ?_) (fun hb => ?_) <;> ((try simp only [hb, zK]) <;> (try simp only [zL, zI] at hb) <;> (try (exfalso; omega))))))
  all_goals first | (exfalso; omega) | exact Ends.i rfl rfl
end
section
theorem dat_sl_le {B : Nat → Prop} {w : World} {sz : Nat} {L L' : List (List Dat)} (hlen : L'.length = L.length) (h : ∀ (j : Nat) (e e' : List Dat), L[j]? = some e → L'[j]? = some e' → e.length = e'.length ∧ ∀ (q : Nat) (x x' : Dat), e[q]? = some x → e'[q]? = some x' → ∀ u, Dat.sat B w x u → Dat.sat B w x' u) {u : Value} (hs : Dat.sat B w (.sl sz L) u) : Dat.sat B w (.sl sz L') u := by
 rw [Dat.sat] at hs ⊢
 obtain ⟨A, c, h2, h3, h4, h5⟩ := hs
 rw [hlen]
 refine ⟨A, c, h2, h3, h4, fun hp => ?_⟩
 obtain ⟨b, o, h6, h7, h8, h9⟩ := h5 hp
 refine ⟨b, o, h6, h7, h8, ?_⟩
 rw [Dat.rowsSat_iff] at h9 ⊢
 intro j e' he'
 have hj : j < L.length := by rw [← hlen]; exact (List.getElem?_eq_some_iff.1 he').1
 obtain ⟨k1, k2⟩ := h9 j L[j] (List.getElem?_eq_getElem hj)
 obtain ⟨k3, k4⟩ := h j L[j] e' (List.getElem?_eq_getElem hj) he'
 refine ⟨by omega, ?_⟩
 rw [Dat.rowSat_iff] at k2 ⊢
 intro q x' hx'
 have hq : q < L[j].length := by rw [k3]; exact (List.getElem?_eq_some_iff.1 hx').1
 obtain ⟨u, g1, g2, g3⟩ := k2 q L[j][q] (List.getElem?_eq_getElem hq)
 exact ⟨u, g1, g2, k4 q _ x' (List.getElem?_eq_getElem hq) hx' u g3⟩
def freeR : SRw := (-1, 0, [])
def frD (x : Int) : List Dat := [.v (.int .i64 x), .v (.int .i64 0), .v (.slice none 0 0)]
def empR (d r n s l i : Int) : List SRw := if OkC d r n s l i then List.replicate n.toNat freeR else []
theorem fr_le (n : Nat) : AVle (.d (.sl 3 ((List.replicate n (-1)).map frD))) (rws (List.replicate n freeR)) := fun F own κ w u h => by
 rw [AV.sat] at h ⊢
 refine dat_sl_le (by simp) (fun j e e' h1 h2 => ?_) h
 have e1 : e = frD (-1) := by
  rw [List.getElem?_map, List.getElem?_replicate] at h1
  split at h1
  ·exact (by simpa using h1.symm)
  ·simp at h1
 have e2 : e' = rwD freeR := by
  rw [List.getElem?_map, List.getElem?_replicate] at h2
  split at h2
  ·exact (by simpa using h2.symm)
  ·simp at h2
 subst e1 e2
 refine ⟨rfl, fun q x x' h3 h4 u hu => ?_⟩
 match q with
 | 0 => obtain rfl : Dat.v (.int .i64 (-1)) = x := by simpa [frD] using h3
        obtain rfl : Dat.v (.int .i64 (-1)) = x' := by simpa [rwD, freeR] using h4
        exact hu
 | 1 => obtain rfl : Dat.v (.int .i64 0) = x := by simpa [frD] using h3
        obtain rfl : Dat.v (.int .i64 0) = x' := by simpa [rwD, freeR] using h4
        exact hu
 | 2 => obtain rfl : Dat.v (.slice none 0 0) = x := by simpa [frD] using h3
        obtain rfl : Dat.sl 3 [] = x' := by simpa [rwD, freeR] using h4
        simp only [Dat.sat] at hu ⊢
        subst hu
        exact ⟨none, 0, rfl, Nat.le_refl _, Nat.zero_le _, fun h => by simp at h⟩
 | q + 3 => simp [frD] at h3
def rs31 : Cd := ([114, 115], 8, 2, [[1, 1], [1, 2]], 2)
def gold31 : Sv := ([103, 111, 108, 100], 0, -1, 2, 9)
def tG (g : Int) : Tn := ([], g, 0, 0, 0, 0)
def two31 : List Tn := [tG 2, tG 1]
def use31 : List Ue := [(0, 0), (3, 0)]
def emp31 : List SRw := List.replicate 10 freeR
theorem n_rs31 : NameIn rs31.1 := ⟨by unfold isB rs31; decide, by decide⟩
theorem n_gold31 : NameIn gold31.1 := ⟨by unfold isB gold31; decide, by decide⟩
theorem lib31 : LibIn [rs31] [gold31] where
 cn c hc := by rw [List.mem_singleton.1 hc]; exact n_rs31
 cp c hc := by rw [List.mem_singleton.1 hc]; decide
 vn c hc := by rw [List.mem_singleton.1 hc]; exact n_gold31
 cl := by decide
 vl := by decide
theorem in31 {ts : List Tn} {us : List Ue} (ht : ts.length ≤ 2) (hu : us.length ≤ 2) : In31 [rs31] [gold31] ts us emp31 where
 L := lib31
 t := by omega
 u := by omega
 rl := by decide
 ru a h := by
  have : emp31[a] = freeR := List.getElem_replicate _
  rw [this]; decide
theorem s1 : codN 6 2 10 1 4 4 rs31 5 = (8, 0) := by kernel_rfl
theorem s2 : rowN31 6 2 10 1 4 4 [rs31] [gold31] two31 use31 emp31 = (8, 0) := by kernel_rfl
theorem s3 : admN 6 2 10 1 4 4 [rs31] [gold31] [tG 6] use31 emp31 = 0 := by kernel_rfl
theorem s4 : admN 6 2 10 1 4 4 [rs31] [gold31] [tG 7] use31 emp31 = 18 := by kernel_rfl
theorem s5 : admN 6 2 10 1 4 4 [rs31] [gold31] two31 [] emp31 = 1 := by kernel_rfl
theorem s6 : blkN two31 use31 0 = 5 := by kernel_rfl
theorem s7 : limN rs31.2.2.1 5 = 8 := by kernel_rfl
theorem s8 : admN 6 2 10 1 4 4 [rs31] [gold31] [] [] emp31 = 0 := by kernel_rfl
theorem s9 : roomT (codN 6 2 10 1 4 4) [rs31] [gold31] (heldF emp31) 10 (blkF [] []) 0 = 6 :=
 room_unique (codN_mono _ _ _ _ _ _) (fun k => blkF_nn (nv := 1) (by kernel_rfl) k) (by decide) (by kernel_rfl) (fun _ => by kernel_rfl)
theorem s10 : roomI 6 2 10 1 4 4 [rs31] [gold31] [] [] emp31 0 = 6 := by
 unfold roomI
 rw [if_pos ⟨s8, by decide, by decide⟩, show (0 : Int).toNat = 0 from rfl, s9]; rfl
theorem s11 : roomI 6 2 10 1 4 4 [rs31] [gold31] [] [] emp31 1 = -1 := by
 unfold roomI
 rw [if_neg (fun h => absurd h.2.2 (by decide))]
theorem s12 : tenB 1 two31 use31 = true := by kernel_rfl
theorem ACalls.leA {P : Program} {f : FuncId} {args args' : List AV} {r : AV} {own own' : List Ent} (h : ACalls P f args own r own') (hle : AVleL args' args) : ACalls P f args' own r own' := h.le fun F κ w vs hs => AVleL.sat hle F own κ w vs hs
attribute [local irreducible] Quiet Eff OpOk AWPG ACont ABlock ACalls AGoto
theorem A_config31 : ACalls Tryz.prog 52 [] [] (cfgA 6 2 10 1 4 4) [] := by
 refine acalls_of_body Tryz.func52 rfl (zU rfl) ?_
 (repeat' (first
  |(apply W.qd; (apply yZ; exact rfl; exact rfl; kernel_rfl))|(apply W.ed; (apply yCb; (iterate 3 exact rfl); kernel_rfl))|(apply W.ln; (apply l_st_box; (iterate 6 exact rfl); (iterate 3 kernel_rfl)))|(apply yA)|(apply yB)|(apply yC; kernel_rfl)|(apply yE)
  |(apply yJ)))
 exact ⟨.inl rfl, [], [.agg [iV 6, iV 2, iV 10, iV 1, iV 4, iV 4]], rfl, ⟨⟨0, [iV 6, iV 2, iV 10, iV 1, iV 4, iV 4], true, rfl, rfl, rfl, rfl⟩, trivial⟩, AVle.of_eq rfl, rfl⟩
theorem A_library31 : ACalls Tryz.prog 53 [] [] (lib [rs31] [gold31]) [] := by
 refine acalls_of_body Tryz.func53 rfl (zU rfl) ?_
 (repeat' (first
  |(apply W.qd; (first
  |(exact yU rfl rfl rfl rfl)|(apply yZ; exact rfl; exact rfl; kernel_rfl)
  |(apply q_litF; (iterate 5 exact rfl); kernel_rfl; kernel_rfl; exact rfl)))|(apply W.ed; (apply yCb; (iterate 3 exact rfl); kernel_rfl))|(apply W.ln; (apply l_st_box; (iterate 6 exact rfl); (iterate 3 kernel_rfl)))|(apply yA)|(apply yB)|(apply yC; kernel_rfl)|(apply yE)
  |(apply yJ)))
 exact ⟨.inl rfl, [], [.agg [cds [rs31], svs [gold31]]], rfl, ⟨⟨0, [cds [rs31], svs [gold31]], true, rfl, rfl, rfl, rfl⟩, trivial⟩, AVle.of_eq rfl, rfl⟩
theorem A_new24 {d r n s l i : Int} : ACalls Tryz.prog 63 [cfgA d r n s l i] [] (.tup [rws (empR d r n s l i), iV (chk13 d r n s l i)]) [] := by
 refine acalls_of_body Tryz.func63 rfl (zU rfl) ?_
 have hck := A_rdchk d r n s l i
 unfold empR
 by_cases h : OkC d r n s l i
 ·rw [if_pos h]
  rw [chk13_yes h] at hck ⊢
  obtain ⟨N, rfl⟩ : ∃ N : Nat, n = N := ⟨n.toNat, by have := h.2.2.1; omega⟩
  have hN : N ≤ 4096 := by have := h.2.2.1; omega
  rw [Int.toNat_natCast]
  (repeat' (first
   |(apply W.qd; (first
   |(exact zW (hck))|(exact zM)|(exact zN)|(exact yU rfl rfl rfl rfl)
   |(exact q_neq rfl rfl)))|(apply W.ed; (apply yBb; (iterate 3 exact rfl); kernel_rfl; kernel_rfl))|(apply yA)|(apply yB)|(apply (W.regionS 5); exact rfl; kernel_rfl)|(apply yE)|(apply yH)
   |(apply yR; exact rfl)))
  all_goals try (exfalso; omega)
  refine AWP.nilRow 5 3 164 rfl (by omega) ?_
  (repeat' (first
   |(apply W.qd; (exact zN))|(apply yB)|(apply (W.regionS 6); exact rfl; kernel_rfl)|(apply yE)
   |(apply yG)))
  refine AWP.loopW (α := Nat) (fun k => k ≤ N) (fun k => ⟨[(6, iV k), (5, .osl 1 k 0 (List.replicate k (-1 : Int)).length), (1, .opt 0 0)], [.box [iV d, iV r, iV N, iV s, iV l, iV i], .row k 3 164 ((List.replicate k (-1 : Int)).map frD)]⟩) (fun k => N - k) 0 (Nat.zero_le _) ⟨[0, 1], rfl, rfl, rfl, by (repeat (first | exact trivial | refine ⟨rfl, ?_⟩))⟩ fun k hk => ?_
  by_cases hkl : k < N
  ·have hrp : List.replicate (k + 1) (-1 : Int) = List.replicate k (-1 : Int) ++ [-1] := List.replicate_succ'
   have hln : (List.replicate k (-1 : Int)).length = k := List.length_replicate
   replace hrp := Lib.hid hrp
   generalize List.replicate k (-1 : Int) = A at *
   (repeat' (first
    |(apply W.qd; (first
    |(exact zM)|(exact zN)|(exact yS rfl rfl rfl)|(exact yT rfl rfl rfl rfl)|(exact q_lss rfl rfl)|(exact q_add rfl rfl (by omega))|(apply yZ; exact rfl; exact rfl; kernel_rfl)
    |(apply q_litF; (iterate 5 exact rfl); kernel_rfl; kernel_rfl; exact rfl)))|(apply W.ld; (apply l_app1; (iterate 8 exact rfl); (first | omega | (focus (simp; omega)) | (focus (simp; done)))))|(apply yA)|(apply yB)|(apply yC; kernel_rfl)|(apply yE)|(apply yG)|(apply yH)|(apply yL)
    |(refine W.cond _ rfl (fun hb => ?_) (fun hb => ?_) <;> ((try simp only [hb, zK]) <;> (try simp only [zL, zI] at hb) <;> (try (exfalso; omega))))))
   refine ⟨k + 1, by omega, by omega, ?_⟩
   rw [hrp.out]
   exact ⟨[0, 1], rfl, rfl, rfl, iV_eq (by omega), rfl, rfl, trivial⟩
  ·obtain rfl : k = N := by omega
   have hle := fr_le k
   have hln : (List.replicate k (-1 : Int)).length = k := List.length_replicate
   generalize List.replicate k (-1 : Int) = A at *
   (repeat' (first
    |(apply W.qd; (first
    |(exact zM)|(exact zN)|(exact yS rfl rfl rfl)|(exact yT rfl rfl rfl rfl)
    |(exact q_lss rfl rfl)))|(apply yA)|(apply yB)|(apply yC; kernel_rfl)|(apply yE)|(apply yI)|(apply yJ)|(apply yK)|(apply yM)
    |(refine W.cond _ rfl (fun hb => ?_) (fun hb => ?_) <;> ((try simp only [hb, zK]) <;> (try simp only [zL, zI] at hb) <;> (try (exfalso; omega))))))
   all_goals first
    |(exfalso; omega)
    |exact ⟨.inl rfl, [], [.osl 1 k 0 A.length, iV 0], rfl, ⟨rfl, rfl, trivial⟩, AVle.tup2 (fun F own κ w u hu => hle F own κ w u ((AVle.of_eq (frz_rowJ rfl rfl (by simp))) F own κ w u hu)) (AVle.of_eq rfl), rfl⟩
 ·rw [if_neg h]
  rw [chk13_no h] at hck ⊢
  (repeat' (first
   |(apply W.qd; (first
   |(exact zW (hck))|(exact zM)|(exact zN)|(exact yU rfl rfl rfl rfl)
   |(exact q_neq rfl rfl)))|(apply W.ed; (apply yBb; (iterate 3 exact rfl); kernel_rfl; kernel_rfl))|(apply yA)|(apply yB)|(apply yC; kernel_rfl)|(apply yE)|(apply yJ)|(apply yP)
   |(apply yQ; exact rfl)))
  all_goals first
   |(exfalso; omega)
   |exact ⟨.inl rfl, [], [.d (.v (.slice none 0 0)), iV 1], rfl, ⟨rfl, rfl, trivial⟩, AVle.tup2 (fun F own κ w u hu => AVle.nil 3 F own κ w u hu) (AVle.of_eq rfl), rfl⟩
theorem A_empty31 {d r n s l i : Int} : ACalls Tryz.prog 21 [cfgA d r n s l i] [] (rws (empR d r n s l i)) [] := by
 refine acalls_of_body Tryz.func21 rfl (zU rfl) ?_
 have hn := A_new24 (d := d) (r := r) (n := n) (s := s) (l := l) (i := i)
 generalize empR d r n s l i = E at *
 (repeat' (first
  |(apply W.qd; (first
  |(exact zW (hn))|(exact zM)|(exact zN)|(exact yU rfl rfl rfl rfl)
  |(exact yAb rfl rfl)))|(apply W.ed; (apply yBb; (iterate 3 exact rfl); kernel_rfl; kernel_rfl))|(apply yA)|(apply yB)|(apply yC; kernel_rfl)|(apply yE)
  |(apply yJ)))
 all_goals exact ⟨.inl rfl, [], [rws E], rfl, ⟨rfl, trivial⟩, AVle.of_eq rfl, rfl⟩
theorem A_sanity31 : ACalls Tryz.prog 16 [] [] (bV true) [] := by
 refine acalls_of_body Tryz.func16 rfl (zU rfl) ?_
 have f1 := A_config31
 have f2 := A_library31
 have f3 := A_empty31 (d := 6) (r := 2) (n := 10) (s := 1) (l := 4) (i := 4)
 have e3 : empR 6 2 10 1 4 4 = emp31 := by kernel_rfl
 rw [e3] at f3
 have f4 := A_acode (d := 6) (r := 2) (n := 10) (s := 1) (l := 4) (i := 4) (c := rs31) (x := 5) n_rs31 (by decide)
 rw [s1] at f4
 have f5 := A_rows (d := 6) (r := 2) (n := 10) (s := 1) (l := 4) (i := 4) (in31 (ts := two31) (us := use31) (by decide) (by decide))
 rw [s2] at f5
 have f6 := A_admit (d := 6) (r := 2) (n := 10) (s := 1) (l := 4) (i := 4) (in31 (ts := [tG 6]) (us := use31) (by decide) (by decide))
 rw [s3] at f6
 have f7 := A_admit (d := 6) (r := 2) (n := 10) (s := 1) (l := 4) (i := 4) (in31 (ts := [tG 7]) (us := use31) (by decide) (by decide))
 rw [s4] at f7
 have f8 := A_admit (d := 6) (r := 2) (n := 10) (s := 1) (l := 4) (i := 4) (in31 (ts := two31) (us := []) (by decide) (by decide))
 rw [s5] at f8
 have f8 : ACalls Tryz.prog 19 [cfgA 6 2 10 1 4 4, lib [rs31] [gold31], tns two31, .d (.v (.slice none 0 0)), rws emp31] [] (iV 1) [] := f8.leA ⟨AVle.refl _, AVle.refl _, AVle.refl _, AVle.nil 2, AVle.refl _, trivial⟩
 have f9 := A_blocks (k := 0) s12 (by decide)
 rw [s6] at f9
 have f10 := A_limit (c := rs31) (x := 5)
 rw [s7] at f10
 have f11 := A_room (d := 6) (r := 2) (n := 10) (s := 1) (l := 4) (i := 4) (k := 0) (in31 (ts := []) (us := []) (by decide) (by decide))
 rw [s10] at f11
 have f11 : ACalls Tryz.prog 17 [cfgA 6 2 10 1 4 4, lib [rs31] [gold31], .d (.v (.slice none 0 0)), .d (.v (.slice none 0 0)), rws emp31, iV 0] [] (iV 6) [] := f11.leA ⟨AVle.refl _, AVle.refl _, AVle.nil 6, AVle.nil 2, AVle.refl _, AVle.refl _, trivial⟩
 have f12 := A_room (d := 6) (r := 2) (n := 10) (s := 1) (l := 4) (i := 4) (k := 1) (in31 (ts := []) (us := []) (by decide) (by decide))
 rw [s11] at f12
 have f12 : ACalls Tryz.prog 17 [cfgA 6 2 10 1 4 4, lib [rs31] [gold31], .d (.v (.slice none 0 0)), .d (.v (.slice none 0 0)), rws emp31, iV 1] [] (iV (-1)) [] := f12.leA ⟨AVle.refl _, AVle.refl _, AVle.nil 6, AVle.nil 2, AVle.refl _, AVle.refl _, trivial⟩
 generalize emp31 = E at *
 (repeat' (first
  |(apply yFb; exact rfl; exact rfl)
  |(apply W.qd; (first
  |(exact zW (f1))|(exact zW (f2))|(exact zW (f3))|(exact zW (f4))|(exact zW (f5))|(exact zW (f6))|(exact zW (f7))|(exact zW (f8))|(exact zW (f9))|(exact zW (f10))|(exact zW (f11))|(exact zW (f12))|(exact zM)|(exact zN)|(exact yS rfl rfl rfl)|(exact yT rfl rfl rfl rfl)|(exact yU rfl rfl rfl rfl)|(exact q_eql rfl rfl)|(exact yAb rfl rfl)|(apply yY; (iterate 3 exact rfl); (first | omega | (focus (simp; done))))|(apply yZ; exact rfl; exact rfl; kernel_rfl)|(apply q_litF; (iterate 5 exact rfl); kernel_rfl; kernel_rfl; exact rfl)|(apply yGb; (iterate 4 exact rfl); (first | (with_reducible exact rfl) | exact natI_spec rfl | assumption | exact (Int.toNat_of_nonneg (by omega)).symm); (first | omega | (focus (simp only [List.length_map]; omega)) | (focus (simp; done)) | (focus (simp; omega))))
  |(apply (yEb (u := .d _)); exact rfl; exact rfl)))|(apply W.ed; (apply yCb; (iterate 3 exact rfl); kernel_rfl))|(apply W.ln; (apply l_st_box; (iterate 6 exact rfl); (iterate 3 kernel_rfl)))|(apply yA)|(apply yB)|(apply yC; kernel_rfl)|(apply yD; exact rfl; kernel_rfl)|(apply yE)|(apply yF; kernel_rfl)
  |(apply yJ)))
 all_goals first | (exfalso; omega) | exact Ends.b rfl rfl
theorem A_few31 {d r n s l i : Int} {rows : List SRw} : ACalls Tryz.prog 15 [cfgA d r n s l i, rws rows] [] (bV (decide (n ≤ 64 ∧ rows.length ≤ 64))) [] := by
 have hm : (rows.map rwD).length = rows.length := List.length_map _
 refine acalls_of_body Tryz.func15 rfl (zU rfl) ?_
 (repeat' (first
  |(apply yFb; exact rfl; exact rfl)
  |(apply W.qd; (first
  |(exact zM)|(exact zN)|(exact yS rfl rfl rfl)|(exact yT rfl rfl rfl rfl)|(exact q_leq rfl rfl)|(exact yV rfl rfl)|(apply (yEb (u := .d _)); exact rfl; exact rfl)
  |(apply (yDb (u := .d _)); exact rfl; exact rfl)))|(apply W.ed; (apply yBb; (iterate 3 exact rfl); kernel_rfl; kernel_rfl))|(refine W.gOff _ _ rfl rfl (by intro h; cases h) ?_)|(apply yA)|(apply yB)|(apply yC; kernel_rfl)|(apply yE)|(apply yJ)
  |(refine W.gT _ _ rfl rfl (fun hb => ?_) (fun hb => ?_) <;> ((try simp only [hb, zK]) <;> (try simp only [zL, zI] at hb) <;> (try (exfalso; omega))))))
 all_goals (refine Ends.b rfl ?_; rw [Bool.eq_iff_iff]; simp <;> omega)
structure In31B (cs : List Cd) (vs : List Sv) (ts : List Tn) (us : List Ue) (rows : List SRw) : Prop where
 L : LibIn cs vs
 t : ts.length ≤ 9223372036854775807
 u : us.length ≤ 9223372036854775807
 ru : ∀ a (h : a < rows.length), rows[a].2.2.length ≤ 9223372036854775807
theorem A_roomMatches {d r n s l i k : Int} {cs : List Cd} {vs : List Sv} {ts : List Tn} {us : List Ue} {rows : List SRw} (hI : In31B cs vs ts us rows) : ACalls Tryz.prog 3 [cfgA d r n s l i, lib cs vs, tns ts, ues us, rws rows, iV k] [] (bV true) [] := by
 refine acalls_of_body Tryz.func3 rfl (zU rfl) ?_
 have hsa := A_sanity31
 have hf := A_few31 (d := d) (r := r) (n := n) (s := s) (l := l) (i := i) (rows := rows)
 by_cases h : n ≤ 64 ∧ rows.length ≤ 64
 ·rw [decide_eq_true h] at hf
  have hI2 : In31 cs vs ts us rows := ⟨hI.L, hI.t, hI.u, h.2, hI.ru⟩
  have f1 := A_room (d := d) (r := r) (n := n) (s := s) (l := l) (i := i) (k := k) hI2
  have f2 := A_rroom (d := d) (r := r) (n := n) (s := s) (l := l) (i := i) (k := k) hI2
  generalize roomI d r n s l i cs vs ts us rows k = R at *
  (repeat' (first
   |(apply yFb; exact rfl; exact rfl)
   |(apply W.qd; (first
   |(exact zW (hsa))|(exact zW (hf))|(exact zW (f1))|(exact zW (f2))|(exact zM)|(exact zN)|(exact yU rfl rfl rfl rfl)|(exact q_eql rfl rfl)|(exact q_not rfl)
   |(apply (yEb (u := .d _)); exact rfl; exact rfl)))|(apply W.ed; (apply yBb; (iterate 3 exact rfl); kernel_rfl; kernel_rfl))|(apply yA)|(apply yB)|(apply yC; kernel_rfl)|(apply yD; exact rfl; kernel_rfl)|(apply yE)|(apply yF; kernel_rfl)|(apply yH)|(apply yJ)
   |(apply yR; exact rfl)))
  all_goals first | (exfalso; omega) | exact Ends.b rfl (by simp)
 ·rw [decide_eq_false h] at hf
  (repeat' (first
   |(apply W.qd; (first
   |(exact zW (hsa))|(exact zW (hf))|(exact zM)|(exact zN)|(exact yU rfl rfl rfl rfl)
   |(exact q_not rfl)))|(apply W.ed; (apply yBb; (iterate 3 exact rfl); kernel_rfl; kernel_rfl))|(apply yA)|(apply yB)|(apply yC; kernel_rfl)|(apply yE)|(apply yJ)|(apply yP)
   |(apply yQ; exact rfl)))
  all_goals exact Ends.b rfl rfl
end
end Go.Proofs.YtplpgijpmgbaiaaGreatDoor
