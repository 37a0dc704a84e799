import Derived.Test.YtplpgijpmgbaiaaGreatDoorMScrubLocates4
import Derived.Laws.CopyRow
import Derived.Laws.IdiomCopy
import Derived.Shelf.Strings.Repeat
import Derived.Shelf.Bits.Mul64
import Derived.Test.YtplpgijpmgbaiaaGreatDoorProg
/- Joined texts: Rf1 Rf2 Rp3 Xp1 Xp2 Xp3 Xp4 Xp5 Xp6 Xp7 Lw9 Lw10a Ch2 Ds3 Ds4 Ds5 Ds6 Kern43 Shf Ch3 Ds8 Rf7 Rf9 Kern46 Kern52 Kern53. -/
set_option linter.unusedVariables false
set_option linter.unusedSimpArgs false
namespace Go.Proofs.YtplpgijpmgbaiaaGreatDoor
open Go.RowKit
set_option maxHeartbeats 4000000
set_option maxRecDepth 100000
section
attribute [local irreducible] Quiet Eff OpOk AWPG ACont ABlock ACalls AGoto
def someB (r : List Int) (j : Nat) : Bool := !((r.take j).all fun x => decide (x = 0))
theorem someB_succ (r : List Int) (j : Nat) (h : j < r.length) : someB r (j + 1) = (someB r j || decide (r[j] ≠ 0)) := by
 unfold someB
 rw [List.take_succ_eq_append_getElem h,List.all_append]
 simp [Bool.not_and]
theorem A_r8valid {M D : Int} {par : List (List Int)} (hD : D ≤ 1000000) (hP : par.length ≤ 1000000) : ACalls Tryz.prog 149 [cdA M D par] [] (bV (validC M D par)) [] := by
 refine acalls_of_bodyO Tryz.func149 rfl (zU rfl) ?_
 have hmp : (par.map rD).length = par.length := List.length_map _
 have h0 : allF M [0] = decide (M = 8 ∨ M = 16) := by
  unfold allF
  by_cases h : M = 8 ∨ M = 16
  ·rw [decide_eq_true h]
   rcases h with rfl | rfl <;> rfl
  ·rw [decide_eq_false h];rfl
 by_cases hg : (M = 8 ∨ M = 16) ∧ 1 ≤ D ∧ D + par.length ≤ 32
 ·obtain ⟨g1, g2, g3⟩ := hg
  have hv : validC M D par = par.all (rowOk M D) := by
   unfold validC
   rw [h0,decide_eq_true g1,decide_eq_true g2,decide_eq_true (show par.length ≤ 32 by omega),decide_eq_true (show D ≤ 32 - (par.length : Int) by omega)]
   rfl
  rw [hv]
  have hbad : ∀ k (h : k < par.length),rowOk M D par[k] = false → par.all (rowOk M D) = false := fun k h e => List.all_eq_false.2 ⟨par[k],List.getElem_mem h,by rw [e];decide⟩
  have hall : (∀ r ∈ par,rowOk M D r = true) → par.all (rowOk M D) = true := fun h => List.all_eq_true.2 h
  generalize par.all (rowOk M D) = V at *
  clear hv h0
  (repeat' (first
   |(apply yFb;exact rfl;exact rfl)
   |(apply W.qd;(first
   |(exact zM)|(exact zN)|(exact jAr)|(exact jAm)|(exact jAj)|(exact q_gtr rfl rfl)|(exact jAv)|(exact jAg)|(exact jB)|(apply (yEb (u := .d _));exact rfl;exact rfl)
   |(apply (yDb (u := .d _));exact rfl;exact rfl)))|(apply W.ed;(exact jAc))|(refine W.gOff _ _ rfl rfl (by intro h;cases h) ?_)|(apply yA)|(apply yB)|(refine jAe ?_)|(apply yE)|(apply yG)|(apply yH)|(refine W.gT _ _ rfl rfl (fun hb => ?_) (fun hb => ?_) <;> ((try simp only [hb,zK]) <;> (try simp only [zL,zI] at hb) <;> (try (exfalso;omega))))|(refine W.gF _ _ rfl rfl (fun hb => ?_) (fun hb => ?_) <;> ((try simp only [hb,zK]) <;> (try simp only [zL,zI] at hb) <;> (try (exfalso;omega))))
   |(refine W.cond _ rfl (fun hb => ?_) (fun hb => ?_) <;> ((try simp only [hb,zK]) <;> (try simp only [zL,zI] at hb) <;> (try (exfalso;omega))))))
  all_goals
   refine AWP.loopW (α := Nat) (fun k => k ≤ par.length ∧ ∀ r ∈ par.take k,rowOk M D r = true) (fun k => ⟨[(3,iV k),(1,.opt 0 0)],[.box [.d .any,iV M,iV D,rowsA par,.d .any]]⟩) (fun k => par.length - k) 0 ⟨by omega,by simp⟩ ⟨[0],rfl,rfl,rfl,by (repeat (first | exact trivial | refine ⟨rfl,?_⟩))⟩ fun k hk => ?_
   by_cases hkl : k < par.length
   ·have hbk := hbad k hkl
    by_cases hrl : (par[k].length : Int) = D
    ·have hro : rowOk M D par[k] = (par[k].all (fun x => allF M [x]) && !(par[k].all fun x => decide (x = 0))) := by
      unfold rowOk;rw [decide_eq_true hrl,Bool.true_and]
     (repeat' (first
      |(apply W.qd;(first
      |(exact zM)|(exact zN)|(exact jAr)|(exact jAm)|(exact jAj)|(exact jAv)|(exact jB)|(exact jAd)
      |(exact jA)))|(apply yA)|(apply yB)|(refine jAe ?_)|(refine jAs ?_)|(apply yE)|(refine jBc ?_)|(apply yG)|(apply yH)
      |(refine W.cond _ rfl (fun hb => ?_) (fun hb => ?_) <;> ((try simp only [hb,zK]) <;> (try simp only [zL,zI] at hb) <;> (try (exfalso;omega))))))
     refine AWP.loopW (α := Nat) (fun j => j ≤ par[k].length ∧ ∀ x ∈ par[k].take j,allF M [x] = true) (fun j => ⟨[(5,iV j),(4,bV (someB par[k] j)),(3,iV k),(1,.opt 0 0)],[.box [.d .any,iV M,iV D,rowsA par,.d .any]]⟩) (fun j => par[k].length - j) 0 ⟨by omega,by simp⟩ ⟨[0],rfl,rfl,rfl,by (repeat (first | exact trivial | refine ⟨rfl,?_⟩))⟩ fun j hj => ?_
     by_cases hjl : j < par[k].length
     ·have hx := A_rfvalid M (par[k][j])
      have hss := someB_succ par[k] j hjl
      cases hf : allF M [par[k][j]] <;> rw [hf] at hx
      ·have hV : V = false := hbk (by
        rw [hro,List.all_eq_false.2 ⟨par[k][j],List.getElem_mem _,by rw [hf];decide⟩];rfl)
       subst hV
       (repeat' (first
        |(apply W.qd;(first
        |(exact zW (hx))|(exact zM)|(exact zN)|(exact jAr)|(exact jAm)|(exact jAj)|(exact jBg)|(exact jAd)
        |(exact jA)))|(apply yA)|(apply yB)|(refine jAe ?_)|(refine jAs ?_)|(apply yE)|(refine jBc ?_)|(apply yG)|(apply yH)|(apply yJ)|(apply yP)|(apply yN)|(refine jBa ?_)
        |(refine W.cond _ rfl (fun hb => ?_) (fun hb => ?_) <;> ((try simp only [hb,zK]) <;> (try simp only [zL,zI] at hb) <;> (try (exfalso;omega))))))
       all_goals exact ⟨.inl rfl,[],[bV false],rfl,rfl,⟨rfl,trivial⟩,AVle.of_eq rfl,rfl⟩
      ·have hj2 : ∀ x ∈ par[k].take (j + 1),allF M [x] = true := fun x hx2 => by
        rw [List.take_succ_eq_append_getElem hjl] at hx2
        rcases List.mem_append.1 hx2 with h | h
        ·exact hj.2 x h
        ·rw [List.mem_singleton.1 h];exact hf
       generalize someB par[k] j = s at *
       replace hss := Lib.hid hss
       cases s
       ·(repeat' (first
        |(apply yFb;exact rfl;exact rfl)
        |(apply W.qd;(first
        |(exact zW (hx))|(exact zM)|(exact zN)|(exact jAr)|(exact jAm)|(exact jAj)|(exact jAv)|(exact jBg)|(exact jAg)|(exact jAd)|(exact jA)
        |(apply (yDb (u := .d _));exact rfl;exact rfl)))|(apply yA)|(apply yB)|(refine jAe ?_)|(refine jAs ?_)|(apply yE)|(refine jBc ?_)|(apply yG)|(apply yH)|(apply yL)|(refine jAw ?_)
        |(refine W.cond _ rfl (fun hb => ?_) (fun hb => ?_) <;> ((try simp only [hb,zK]) <;> (try simp only [zL,zI] at hb) <;> (try (exfalso;omega))))))
        refine ⟨j + 1,⟨by omega,hj2⟩,by omega,[0],rfl,rfl,rfl,iV_eq (by omega),?_,rfl,rfl,trivial⟩
        rw [hss.out]
        exact congrArg bV (show (false || decide (par[k][j] ≠ 0)) = !decide (par[k][j] = 0) by simp)
       ·(repeat' (first
        |(apply W.qd;(first
        |(exact zW (hx))|(exact zM)|(exact zN)|(exact jAr)|(exact jAm)|(exact jAj)|(exact jBg)|(exact jAg)|(exact jAd)|(exact jA)
        |(apply (yEb (u := .d _));exact rfl;exact rfl)))|(refine W.gOff _ _ rfl rfl (by intro h;cases h) ?_)|(apply yA)|(apply yB)|(refine jAe ?_)|(refine jAs ?_)|(apply yE)|(refine jBc ?_)|(apply yG)|(apply yH)|(apply yL)|(refine jAw ?_)
        |(refine W.cond _ rfl (fun hb => ?_) (fun hb => ?_) <;> ((try simp only [hb,zK]) <;> (try simp only [zL,zI] at hb) <;> (try (exfalso;omega))))))
        refine ⟨j + 1,⟨by omega,hj2⟩,by omega,[0],rfl,rfl,rfl,iV_eq (by omega),?_,rfl,rfl,trivial⟩
        rw [hss.out]
        rfl
     ·have hfull : par[k].take j = par[k] := List.take_of_length_le (by omega)
      have hsv : someB par[k] j = !(par[k].all fun x => decide (x = 0)) := by unfold someB;rw [hfull]
      have hav : par[k].all (fun x => allF M [x]) = true := List.all_eq_true.2 fun x hx => hj.2 x (by rw [hfull];exact hx)
      rw [hav,← hsv,Bool.true_and] at hro
      generalize someB par[k] j = s at *
      cases s
      ·have hV : V = false := hbk hro
       subst hV
       (repeat' (first
        |(apply W.qd;(first
        |(exact zM)|(exact zN)|(exact jAr)|(exact jAm)|(exact jAj)
        |(exact jBg)))|(apply yA)|(apply yB)|(refine jAe ?_)|(apply yE)|(apply yI)|(apply yJ)|(apply yK)|(apply yP)|(apply yM)|(apply yN)|(refine jBa ?_)
        |(refine W.cond _ rfl (fun hb => ?_) (fun hb => ?_) <;> ((try simp only [hb,zK]) <;> (try simp only [zL,zI] at hb) <;> (try (exfalso;omega))))))
       all_goals exact ⟨.inl rfl,[],[bV false],rfl,rfl,⟨rfl,trivial⟩,AVle.of_eq rfl,rfl⟩
      ·(repeat' (first
       |(apply W.qd;(first
       |(exact zM)|(exact zN)|(exact jAr)|(exact jAm)|(exact jAj)|(exact jBg)
       |(exact jAg)))|(apply yA)|(apply yB)|(refine jAe ?_)|(apply yE)|(apply yH)|(apply yI)|(apply yK)|(apply yL)|(apply yM)|(refine jAw ?_)
       |(refine W.cond _ rfl (fun hb => ?_) (fun hb => ?_) <;> ((try simp only [hb,zK]) <;> (try simp only [zL,zI] at hb) <;> (try (exfalso;omega))))))
       refine ⟨k + 1,⟨by omega,fun r hr => ?_⟩,by omega,[0],rfl,rfl,rfl,iV_eq (by omega),rfl,trivial⟩
       rw [List.take_succ_eq_append_getElem hkl] at hr
       rcases List.mem_append.1 hr with h | h
       ·exact hk.2 r h
       ·rw [List.mem_singleton.1 h];exact hro
    ·have hV : V = false := hbk (by unfold rowOk; rw [decide_eq_false hrl]; rfl)
     subst hV
     (repeat' (first
      |(apply W.qd;(first
      |(exact zM)|(exact zN)|(exact jAr)|(exact jAm)|(exact jAj)|(exact jAv)|(exact jB)|(exact jAd)
      |(exact jA)))|(apply yA)|(apply yB)|(refine jAe ?_)|(refine jAs ?_)|(apply yE)|(refine jBc ?_)|(apply yG)|(apply yH)|(apply yJ)|(apply yP)|(apply yN)
      |(refine W.cond _ rfl (fun hb => ?_) (fun hb => ?_) <;> ((try simp only [hb,zK]) <;> (try simp only [zL,zI] at hb) <;> (try (exfalso;omega))))))
     all_goals exact ⟨.inl rfl,[],[bV false],rfl,rfl,⟨rfl,trivial⟩,AVle.of_eq rfl,rfl⟩
   ·have hV : V = true := hall fun r hr => hk.2 r (by rwa [List.take_of_length_le (by omega)])
    subst hV
    (repeat' (first
     |(apply W.qd;(first
     |(exact zM)|(exact zN)|(exact jAr)|(exact jAm)|(exact jAj)
     |(exact jB)))|(apply yA)|(apply yB)|(refine jAe ?_)|(apply yE)|(apply yI)|(apply yJ)|(apply yK)|(apply yM)
     |(refine W.cond _ rfl (fun hb => ?_) (fun hb => ?_) <;> ((try simp only [hb,zK]) <;> (try simp only [zL,zI] at hb) <;> (try (exfalso;omega))))))
    exact ⟨.inl rfl,[],[bV true],rfl,rfl,⟨rfl,trivial⟩,AVle.of_eq rfl,rfl⟩
 ·have hv : validC M D par = false := by
   rw [Bool.eq_false_iff]
   intro h
   unfold validC at h
   rw [h0] at h
   simp only [Bool.and_eq_true,decide_eq_true_eq] at h
   exact hg ⟨h.1.1.1.1,h.1.1.1.2,by omega⟩
  rw [hv]
  clear hv h0
  (repeat' (first
   |(apply yFb;exact rfl;exact rfl)
   |(apply W.qd;(first
   |(exact zM)|(exact zN)|(exact jAr)|(exact jAm)|(exact jAj)|(exact q_gtr rfl rfl)|(exact jAv)|(exact jAg)|(exact jB)|(apply (yEb (u := .d _));exact rfl;exact rfl)
   |(apply (yDb (u := .d _));exact rfl;exact rfl)))|(apply W.ed;(exact jAc))|(refine W.gOff _ _ rfl rfl (by intro h;cases h) ?_)|(apply yA)|(apply yB)|(refine jAe ?_)|(apply yE)|(apply yJ)|(apply yP)|(refine jBa ?_)|(refine W.gT _ _ rfl rfl (fun hb => ?_) (fun hb => ?_) <;> ((try simp only [hb,zK]) <;> (try simp only [zL,zI] at hb) <;> (try (exfalso;omega))))|(refine W.gF _ _ rfl rfl (fun hb => ?_) (fun hb => ?_) <;> ((try simp only [hb,zK]) <;> (try simp only [zL,zI] at hb) <;> (try (exfalso;omega))))
   |(refine W.cond _ rfl (fun hb => ?_) (fun hb => ?_) <;> ((try simp only [hb,zK]) <;> (try simp only [zL,zI] at hb) <;> (try (exfalso;omega))))))
  all_goals exact ⟨.inl rfl,[],[bV false],rfl,rfl,⟨rfl,trivial⟩,AVle.of_eq rfl,rfl⟩
theorem A_r8width {M D : Int} {par : List (List Int)} (hD : D ≤ 1000000) (hP : par.length ≤ 1000000) : ACalls Tryz.prog 89 [cdA M D par] [] (iV (if validC M D par then D + (par.length : Int) else 0)) [] := by
 refine acalls_of_bodyO Tryz.func89 rfl (zU rfl) ?_
 have h0 := A_r8valid (M := M) hD hP
 have hml : (par.map rD).length = par.length := List.length_map _
 cases hv : validC M D par
 ·rw [hv] at h0
  (repeat' (first
   |(apply W.qd;(first
   |(exact zW (h0))|(exact zM)|(exact zN)|(exact jAn)
   |(exact jBg)))|(apply W.ed;(exact jAc))|(apply yA)|(apply yB)|(refine jAe ?_)|(apply yE)|(apply yJ)|(apply yP)
   |(refine jBa ?_)))
  exact ⟨.inl rfl,[],[iV 0],rfl,rfl,⟨rfl,trivial⟩,AVle.of_eq rfl,rfl⟩
 ·rw [hv] at h0
  have hD : 1 ≤ D := by
   unfold validC at hv
   simp only [Bool.and_eq_true,decide_eq_true_eq] at hv
   omega
  (repeat' (first
   |(apply W.qd;(first
   |(exact zW (h0))|(exact zM)|(exact zN)|(exact jAr)|(exact jAm)|(exact jAn)|(exact jBg)|(exact jAg)
   |(exact jB)))|(apply W.ed;(exact jAc))|(apply yA)|(apply yB)|(refine jAe ?_)|(apply yE)|(apply yH)|(apply yJ)
   |(refine jAw ?_)))
  refine ⟨.inl rfl,[],[_],rfl,rfl,⟨rfl,trivial⟩,AVle.of_eq ?_,rfl⟩
  rw [hml,if_pos rfl]
  rfl
def rowN (D : Nat) (ps : List (List Nat)) (u : Nat) : List Nat := (List.range D).map fun x => U D (genN D ps) u x
theorem rowN_length (D : Nat) (ps : List (List Nat)) (u : Nat) : (rowN D ps u).length = D := by simp [rowN]
theorem A_r8row {M D u : Nat} {ps : List (List Nat)} (h : CodeOk M D ps) (hu : u < D + ps.length) : ACalls Tryz.prog 218 [cdN M D ps,iV u] [] (nats (rowN D ps u)) [] := by
 refine acalls_of_body Tryz.func218 rfl (zU rfl) ?_
 have h1 := h.d
 have h2 := h.w
 have hs : ∀ k,k < D → (rowN D ps u).take (k + 1) = (rowN D ps u).take k ++ [U D (genN D ps) u k] := fun k hk => by
  rw [List.take_succ_eq_append_getElem (by rw [rowN_length];exact hk)]
  simp [rowN]
 have hl := rowN_length D ps u
 have hU1 : ∀ k,k < D → u < D → U D (genN D ps) u k = if u = k then 1 else 0 := fun k hk hu' => by
  rw [U_data hu' hk];unfold eu'
  by_cases e : k = u
  ·rw [if_pos e,if_pos e.symm]
  ·rw [if_neg e,if_neg (fun e2 => e e2.symm)]
 have hU2 : ∀ k,k < D → ∀ (hge : D ≤ u) (h4 : u - D < ps.length) (h3 : k < (ps[u - D]).length),U D (genN D ps) u k = (ps[u - D])[k] := fun k hk hge h4 h3 => by
  have := U_par h h4 hk
  rw [show D + (u - D) = u by omega] at this
  rw [this,List.getD_eq_getElem?_getD (l := ps),List.getElem?_eq_getElem h4,Option.getD_some,List.getD_eq_getElem?_getD,List.getElem?_eq_getElem h3]
  rfl
 have hrl : ∀ i (hi : i < ps.length),(ps[i]).length = D := fun i hi => (h.row _ (List.getElem_mem hi)).1
 generalize rowN D ps u = R at *
 (repeat' (first
  |(apply W.qd;(exact zN))|(apply W.ed;(exact jAc))|(apply yA)|(apply yB)|(refine jAe ?_)|(apply yE)
  |(apply yG)))
 refine AWP.nilRow 5 1 3 rfl (by omega) ?_
 refine AWP.loopW (α := Nat) (fun k => k ≤ D) (fun k => ⟨[(6,iV k),(1,iV u),(2,.opt 0 0),(5,.osl 1 k 0 (R.take k).length)],[.box [.d .any,iV M,iV D,rowsN ps,.d .any],.row k 1 3 ((R.take k).map kD)]⟩) (fun k => D - k) 0 (by omega) ⟨[0,1],rfl,rfl,rfl,by (repeat (first | exact trivial | refine ⟨rfl,?_⟩))⟩ fun k hk => ?_
 have hlt : (R.take k).length ≤ 1024 := by rw [List.length_take];omega
 by_cases hkD : k < D
 ·have hss := hs k hkD
  replace hss := Lib.hid hss
  generalize R.take k = A at *
  by_cases hud : u < D
  ·have hUk := hU1 k hkD hud
   by_cases huk : u = k
   ·rw [if_pos huk] at hUk
    (repeat' (first
     |(apply W.qd;(first
     |(exact zM)|(exact zN)|(exact jAr)|(exact jAm)|(exact jAj)|(exact q_geq rfl rfl)|(exact jBb)|(exact jAg)
     |(exact jAl)))|(apply W.ld;(exact jAy))|(apply yA)|(apply yB)|(refine jAe ?_)|(apply yE)|(apply yG)|(apply yH)|(apply yL)
     |(refine W.cond _ rfl (fun hb => ?_) (fun hb => ?_) <;> ((try simp only [hb,zK]) <;> (try simp only [zL,zI] at hb) <;> (try (exfalso;omega))))))
    refine ⟨k + 1,by omega,by omega,?_⟩
    rw [hss.out,hUk]
    exact ⟨[0,1],rfl,rfl,rfl,iV_eq (by omega),rfl,rfl,congrArg (AV.osl 1 (k + 1) 0) (by simp),trivial⟩
   ·rw [if_neg huk] at hUk
    (repeat' (first
     |(apply W.qd;(first
     |(exact zM)|(exact zN)|(exact jAr)|(exact jAm)|(exact jAj)|(exact q_geq rfl rfl)|(exact jBb)|(exact jAg)
     |(exact jAl)))|(apply W.ld;(exact jAy))|(apply yA)|(apply yB)|(refine jAe ?_)|(apply yE)|(apply yG)|(apply yH)|(apply yL)
     |(refine W.cond _ rfl (fun hb => ?_) (fun hb => ?_) <;> ((try simp only [hb,zK]) <;> (try simp only [zL,zI] at hb) <;> (try (exfalso;omega))))))
    refine ⟨k + 1,by omega,by omega,?_⟩
    rw [hss.out,hUk]
    exact ⟨[0,1],rfl,rfl,rfl,iV_eq (by omega),rfl,rfl,congrArg (AV.osl 1 (k + 1) 0) (by simp),trivial⟩
  ·have hi : u - D < ps.length := by omega
   have hl3 := hrl (u - D) hi
   have hUk := hU2 k hkD (by omega) hi (by omega)
   have hmp : (ps.map rnD).length = ps.length := List.length_map _
   have hsub : ((u : Int) - (D : Int)) = ((u - D : Nat) : Int) := by omega
   (repeat' (first
    |(apply W.qd;(first
    |(exact zM)|(exact zN)|(exact jAr)|(exact jAm)|(exact jAj)|(exact q_geq rfl rfl)|(exact jBb)|(exact jAg)|(exact q_sub rfl rfl (by omega))|(exact jAd)|(exact jAl)
    |(exact jA)))|(apply W.ld;(exact jAy))|(apply yA)|(apply yB)|(refine jAe ?_)|(apply yE)|(apply yG)|(apply yH)|(apply yL)
    |(refine W.cond _ rfl (fun hb => ?_) (fun hb => ?_) <;> ((try simp only [hb,zK]) <;> (try simp only [zL,zI] at hb) <;> (try (exfalso;omega))))))
   all_goals refine ⟨k + 1,by omega,by omega,?_⟩
   all_goals rw [hss.out,hUk]
   all_goals exact ⟨[0,1],rfl,rfl,rfl,iV_eq (by omega),rfl,rfl,congrArg (AV.osl 1 (k + 1) 0) (by simp),trivial⟩
 ·have e : D = k := by omega
  subst e
  rw [List.take_of_length_le (by omega)]
  (repeat' (first
   |(apply W.qd;(first
   |(exact zM)|(exact zN)|(exact jAr)|(exact jAm)
   |(exact jAj)))|(apply yA)|(apply yB)|(refine jAe ?_)|(apply yE)|(apply yI)|(apply yJ)|(apply yK)|(apply yM)
   |(refine W.cond _ rfl (fun hb => ?_) (fun hb => ?_) <;> ((try simp only [hb,zK]) <;> (try simp only [zL,zI] at hb) <;> (try (exfalso;omega))))))
  exact Ends.osl rfl rfl (by simp) rfl
theorem A_same_ints {a b : List Int} (ha : a.length ≤ 1000000) (hb : b.length ≤ 1000000) : ACalls Tryz.prog 81 [ints a,ints b] [] (bV (decide (a = b))) [] := by
 refine acalls_of_bodyO Tryz.func81 rfl (zU rfl) ?_
 have hma : (a.map iD).length = a.length := List.length_map _
 have hmb : (b.map iD).length = b.length := List.length_map _
 by_cases hl : a.length = b.length
 ·(repeat' (first
  |(apply W.qd;(first
  |(exact zM)|(exact zN)|(exact jAv)
  |(exact jB)))|(apply yA)|(apply yB)|(refine jAe ?_)|(apply yE)|(apply yG)|(apply yH)
  |(refine W.cond _ rfl (fun hb => ?_) (fun hb => ?_) <;> ((try simp only [hb,zK]) <;> (try simp only [zL,zI] at hb) <;> (try (exfalso;omega))))))
  refine AWP.loopW (α := Nat) (fun k => k ≤ a.length ∧ a.take k = b.take k) (fun k => ⟨[(5,iV k),(0,ints a),(1,ints b)],[]⟩) (fun k => a.length - k) 0 ⟨by omega,by simp⟩ ⟨[],rfl,rfl,rfl,by (repeat (first | exact trivial | refine ⟨rfl,?_⟩))⟩ fun k hk => ?_
  by_cases hka : k < a.length
  ·by_cases he : a[k] = b[k]'(by omega)
   ·(repeat' (first
    |(apply W.qd;(first
    |(exact zM)|(exact zN)|(exact jAj)|(exact jAv)|(exact jAg)|(exact jB)|(exact jAd)
    |(exact jA)))|(apply yA)|(apply yB)|(refine jAe ?_)|(refine jAs ?_)|(apply yE)|(refine jBc ?_)|(apply yG)|(apply yH)|(apply yL)
    |(refine W.cond _ rfl (fun hb => ?_) (fun hb => ?_) <;> ((try simp only [hb,zK]) <;> (try simp only [zL,zI] at hb) <;> (try (exfalso;omega))))))
    exact ⟨k + 1,⟨by omega,by rw [List.take_succ_eq_append_getElem hka,List.take_succ_eq_append_getElem (show k < b.length by omega),hk.2,he]⟩,by omega,[],rfl,rfl,rfl,iV_eq (by omega),rfl,rfl,trivial⟩
   ·have hne : a ≠ b := fun e => he (by subst e; rfl)
    rw [decide_eq_false hne]
    (repeat' (first
     |(apply W.qd;(first
     |(exact zM)|(exact zN)|(exact jAj)|(exact jAv)|(exact jB)|(exact jAd)
     |(exact jA)))|(apply yA)|(apply yB)|(refine jAe ?_)|(refine jAs ?_)|(apply yE)|(refine jBc ?_)|(apply yG)|(apply yH)|(apply yJ)|(apply yP)|(apply yN)
     |(refine W.cond _ rfl (fun hb => ?_) (fun hb => ?_) <;> ((try simp only [hb,zK]) <;> (try simp only [zL,zI] at hb) <;> (try (exfalso;omega))))))
    exact ⟨.inl rfl,[],[bV false],rfl,rfl,⟨rfl,trivial⟩,AVle.of_eq rfl,rfl⟩
  ·have he : a = b := by
    have := hk.2
    rwa [List.take_of_length_le (by omega),List.take_of_length_le (by omega)] at this
   rw [decide_eq_true he]
   (repeat' (first
    |(apply W.qd;(first
    |(exact zM)|(exact zN)|(exact jAj)
    |(exact jB)))|(apply yA)|(apply yB)|(refine jAe ?_)|(apply yE)|(apply yI)|(apply yJ)|(apply yK)|(apply yM)
    |(refine W.cond _ rfl (fun hb => ?_) (fun hb => ?_) <;> ((try simp only [hb,zK]) <;> (try simp only [zL,zI] at hb) <;> (try (exfalso;omega))))))
   exact ⟨.inl rfl,[],[bV true],rfl,rfl,⟨rfl,trivial⟩,AVle.of_eq rfl,rfl⟩
 ·have hne : a ≠ b := fun e => hl (by rw [e])
  rw [decide_eq_false hne]
  (repeat' (first
   |(apply W.qd;(first
   |(exact zM)|(exact zN)|(exact jAv)
   |(exact jB)))|(apply yA)|(apply yB)|(refine jAe ?_)|(apply yE)|(apply yJ)|(apply yP)
   |(refine W.cond _ rfl (fun hb => ?_) (fun hb => ?_) <;> ((try simp only [hb,zK]) <;> (try simp only [zL,zI] at hb) <;> (try (exfalso;omega))))))
  exact ⟨.inl rfl,[],[bV false],rfl,rfl,⟨rfl,trivial⟩,AVle.of_eq rfl,rfl⟩
theorem A_same_texts {a b : List (List Nat)} (hBa : ∀ u ∈ a,isB u) (hBb : ∀ u ∈ b,isB u) (ha : a.length ≤ 1000000) (hb : b.length ≤ 1000000) : ACalls Tryz.prog 45 [strs a,strs b] [] (bV (decide (a = b))) [] := by
 refine acalls_of_bodyO Tryz.func45 rfl (zU rfl) ?_
 have hma : (a.map sD).length = a.length := List.length_map _
 have hmb : (b.map sD).length = b.length := List.length_map _
 by_cases hl : a.length = b.length
 ·(repeat' (first
  |(apply W.qd;(first
  |(exact zM)|(exact zN)|(exact jAv)
  |(exact jB)))|(apply yA)|(apply yB)|(refine jAe ?_)|(apply yE)|(apply yG)|(apply yH)
  |(refine W.cond _ rfl (fun hb => ?_) (fun hb => ?_) <;> ((try simp only [hb,zK]) <;> (try simp only [zL,zI] at hb) <;> (try (exfalso;omega))))))
  refine AWP.loopW (α := Nat) (fun k => k ≤ a.length ∧ a.take k = b.take k) (fun k => ⟨[(5,iV k),(0,strs a),(1,strs b)],[]⟩) (fun k => a.length - k) 0 ⟨by omega,by simp⟩ ⟨[],rfl,rfl,rfl,by (repeat (first | exact trivial | refine ⟨rfl,?_⟩))⟩ fun k hk => ?_
  by_cases hka : k < a.length
  ·have q1 := hBa a[k] (List.getElem_mem _)
   have q2 := hBb (b[k]'(by omega)) (List.getElem_mem _)
   by_cases he : a[k] = b[k]'(by omega)
   ·(repeat' (first
    |(apply W.qd;(first
    |(exact zM)|(exact zN)|(exact jAj)|(exact jAg)|(exact jB)|(exact jAd)|(exact jA)
    |(exact jAx)))|(apply yA)|(apply yB)|(refine jAe ?_)|(refine jAs ?_)|(apply yE)|(refine jBc ?_)|(apply yG)|(apply yH)|(apply yJ)|(apply yP)|(apply yL)|(apply yN)
    |(refine W.cond _ rfl (fun hb => ?_) (fun hb => ?_) <;> ((try simp only [hb,zK]) <;> (try simp only [zL,zI] at hb) <;> (try (exfalso;omega))))))
    all_goals (try exact absurd he ‹_›)
    exact ⟨k + 1,⟨by omega,by rw [List.take_succ_eq_append_getElem hka,List.take_succ_eq_append_getElem (show k < b.length by omega),hk.2,he]⟩,by omega,[],rfl,rfl,rfl,iV_eq (by omega),rfl,rfl,trivial⟩
   ·have hne : a ≠ b := fun e => he (by subst e; rfl)
    rw [decide_eq_false hne]
    (repeat' (first
     |(apply W.qd;(first
     |(exact zM)|(exact zN)|(exact jAj)|(exact jAg)|(exact jB)|(exact jAd)|(exact jA)
     |(exact jAx)))|(apply yA)|(apply yB)|(refine jAe ?_)|(refine jAs ?_)|(apply yE)|(refine jBc ?_)|(apply yG)|(apply yH)|(apply yJ)|(apply yP)|(apply yL)|(apply yN)
     |(refine W.cond _ rfl (fun hb => ?_) (fun hb => ?_) <;> ((try simp only [hb,zK]) <;> (try simp only [zL,zI] at hb) <;> (try (exfalso;omega))))))
    all_goals (try exact absurd ‹_› he)
    exact ⟨.inl rfl,[],[bV false],rfl,rfl,⟨rfl,trivial⟩,AVle.of_eq rfl,rfl⟩
  ·have he : a = b := by
    have := hk.2
    rwa [List.take_of_length_le (by omega),List.take_of_length_le (by omega)] at this
   rw [decide_eq_true he]
   (repeat' (first
    |(apply W.qd;(first
    |(exact zM)|(exact zN)|(exact jAj)
    |(exact jB)))|(apply yA)|(apply yB)|(refine jAe ?_)|(apply yE)|(apply yI)|(apply yJ)|(apply yK)|(apply yM)
    |(refine W.cond _ rfl (fun hb => ?_) (fun hb => ?_) <;> ((try simp only [hb,zK]) <;> (try simp only [zL,zI] at hb) <;> (try (exfalso;omega))))))
   exact ⟨.inl rfl,[],[bV true],rfl,rfl,⟨rfl,trivial⟩,AVle.of_eq rfl,rfl⟩
 ·have hne : a ≠ b := fun e => hl (by rw [e])
  rw [decide_eq_false hne]
  (repeat' (first
   |(apply W.qd;(first
   |(exact zM)|(exact zN)|(exact jAv)
   |(exact jB)))|(apply yA)|(apply yB)|(refine jAe ?_)|(apply yE)|(apply yJ)|(apply yP)
   |(refine W.cond _ rfl (fun hb => ?_) (fun hb => ?_) <;> ((try simp only [hb,zK]) <;> (try simp only [zL,zI] at hb) <;> (try (exfalso;omega))))))
  exact ⟨.inl rfl,[],[bV false],rfl,rfl,⟨rfl,trivial⟩,AVle.of_eq rfl,rfl⟩
end
section
set_option linter.unusedSectionVars false
attribute [local irreducible] Quiet Eff OpOk AWPG ACont ABlock ACalls AGoto
theorem A_r8widthN {M D : Nat} {ps : List (List Nat)} (h : CodeOk M D ps) : ACalls Tryz.prog 89 [cdN M D ps] [] (iV (D + ps.length : Nat)) [] := by
 have hl : (toZ ps).length = ps.length := List.length_map _
 have hw := h.w
 have := A_r8width (M := M) (D := D) (par := toZ ps) (by omega) (by omega)
 rw [valid_ok h,if_pos rfl,← cdN_A,hl] at this
 rwa [show ((D + ps.length : Nat) : Int) = (D : Int) + (ps.length : Int) by omega]
theorem A_r8enc_bad {M D : Int} {par : List (List Int)} {us : List (List Nat)} (hD : D ≤ 1000000) (hP : par.length ≤ 1000000) (h : ¬ (validC M D par = true ∧ (us.length : Int) = D)) : ACalls Tryz.prog 94 [cdA M D par,strs us] [] (.tup [strs [],iV 1]) [] := by
 refine acalls_of_bodyO Tryz.func94 rfl (zU rfl) ?_
 have h0 := A_r8valid (M := M) hD hP
 have hml : (us.map sD).length = us.length := List.length_map _
 cases hv : validC M D par <;> rw [hv] at h0
 ·(repeat' (first
  |(apply W.qd;(first
  |(exact zW (h0))|(exact zM)|(exact zN)|(exact jAn)|(exact jBg)
  |(apply (yEb (u := .d _));exact rfl;exact rfl)))|(apply W.ed;(exact jAc))|(refine W.gOff _ _ rfl rfl (by intro h;cases h) ?_)|(apply yA)|(apply yB)|(refine jAe ?_)|(apply yE)|(apply yJ)|(apply yP)
  |(refine jBa ?_)))
  all_goals exact EndsO.bad2 rfl rfl rfl rfl
 ·have hne : ¬ (us.length : Int) = D := fun e => h ⟨hv, e⟩
  (repeat' (first
   |(apply yFb;exact rfl;exact rfl)
   |(apply W.qd;(first
   |(exact zW (h0))|(exact zM)|(exact zN)|(exact jAr)|(exact jAm)|(exact jAn)|(exact jAv)|(exact jBg)|(exact jB)
   |(apply (yDb (u := .d _));exact rfl;exact rfl)))|(apply W.ed;(exact jAc))|(apply yA)|(apply yB)|(refine jAe ?_)|(apply yE)|(apply yJ)|(apply yP)
   |(refine W.cond _ rfl (fun hb => ?_) (fun hb => ?_) <;> ((try simp only [hb,zK]) <;> (try simp only [zL,zI] at hb) <;> (try (exfalso;omega))))))
  all_goals exact EndsO.bad2 rfl rfl rfl rfl
theorem A_r8enc {M D : Nat} {ps us : List (List Nat)} (h : CodeOk M D ps) (hl : us.length = D) (hu : ∀ u ∈ us,isB u ∧ u.length ≤ 2000000) : ACalls Tryz.prog 94 [cdN M D ps,strs us] [] (if uniB M us then .tup [strs (encN M ps us),iV 0] else .tup [strs [],iV 1]) [] := by
 refine acalls_of_bodyO Tryz.func94 rfl (zU rfl) ?_
 have h1 := h.d
 have h2 := h.w
 have hpl : (toZ ps).length = ps.length := List.length_map _
 have h0 := A_r8valid (M := M) (D := D) (par := toZ ps) (by omega) (by omega)
 rw [valid_ok h,← cdN_A] at h0
 have hml : (us.map sD).length = us.length := List.length_map _
 have hmp : (ps.map rnD).length = ps.length := List.length_map _
 have hd : us.headD [] = us[0]'(by omega) := by cases us with | nil => simp at hl;omega | cons a t => rfl
 have hM := h.f
 have hq : ∀ k (h : k < us.length),uniQ M us us[k] = decide ((us[k].length = (us[0]'(by omega)).length ∧ (M = 8 ∨ us[k].length % 2 = 0))) := fun k hk => by
  unfold uniQ
  rw [hd,Bool.eq_iff_iff]
  simp only [Bool.and_eq_true,Bool.or_eq_true,decide_eq_true_eq]
  omega
 have hB : ∀ k (h : k < us.length),uniQ M us us[k] = false → uniB M us = false := fun k hk e => List.all_eq_false.2 ⟨us[k],List.getElem_mem hk,by rw [e];decide⟩
 have hT : (∀ u ∈ us,uniQ M us u = true) → uniB M us = true := fun h => List.all_eq_true.2 h
 have hlen : ∀ k (h : k < us.length),us[k].length ≤ 2000000 := fun k hk => (hu _ (List.getElem_mem hk)).2
 have hlen0 := hlen 0 (by omega)
 have hok : uniB M us = true → ∀ u ∈ us,isB u ∧ u.length = (us.headD []).length := fun e u hx => ⟨(hu u hx).1,(uni_ok hM e (by omega)).1 u hx⟩
 have hfit : uniB M us = true → FitM M (us.headD []).length := fun e => (uni_ok hM e (by omega)).2
 (repeat' (first
  |(apply yFb;exact rfl;exact rfl)|(apply W.ed;(apply e_lit0F;(iterate 5 exact rfl)))
  |(apply W.qd;(first
  |(exact zW (h0))|(exact zM)|(exact zN)|(exact jAr)|(exact jAm)|(exact jAn)|(exact jAv)|(exact jBg)|(exact jB)
  |(apply (yDb (u := .d _));exact rfl;exact rfl)))
  |(apply W.ed;(first
  |(exact jAc)
  |(exact jAu)))|(apply yA)|(apply yB)|(refine jAe ?_)|(apply yE)|(apply yG)|(apply yH)
  |(refine W.cond _ rfl (fun hb => ?_) (fun hb => ?_) <;> ((try simp only [hb,zK]) <;> (try simp only [zL,zI] at hb) <;> (try (exfalso;omega))))))
 refine AWP.loopW (α := Nat) (fun k => k ≤ us.length ∧ ∀ u ∈ us.take k,uniQ M us u = true) (fun k => ⟨[(8,iV k),(7,.osl 1 1 0 us.length),(1,strs us),(2,.opt 0 0)],[.box [.d .any,iV M,iV D,rowsN ps,.d .any],.row 1 1 9 (us.map sD)]⟩) (fun k => us.length - k) 0 ⟨by omega,by simp⟩ ?wk0 fun k hk => ?_
 case wk0 => exact ⟨[0,1],rfl,rfl,rfl,rfl,congrArg (AV.osl 1 1 0) (by simp),rfl,rfl,trivial⟩
 by_cases hkl : k < us.length
 ·have q1 := hq k hkl
  have q2 := hlen k hkl
  by_cases hgood : us[k].length = (us[0]'(by omega)).length ∧ (M = 8 ∨ us[k].length % 2 = 0)
  ·rw [decide_eq_true hgood] at q1
   (repeat' (first
    |(apply yFb;exact rfl;exact rfl)
    |(apply W.qd;(first
    |(exact zM)|(exact zN)|(exact jAr)|(exact jAm)|(exact jAj)|(exact jBb)|(exact jAv)|(exact jAg)|(apply q_rem;exact rfl;exact rfl;omega;omega)|(exact jB)|(exact jBl)|(exact jAd)|(exact jA)|(apply (yEb (u := .d _));exact rfl;exact rfl)
    |(apply (yDb (u := .d _));exact rfl;exact rfl)))|(refine W.gOff _ _ rfl rfl (by intro h;cases h) ?_)|(apply yA)|(apply yB)|(refine jAe ?_)|(refine jAs ?_)|(apply yE)|(refine jBc ?_)|(apply yG)|(apply yH)|(apply yL)|(refine jAw ?_)|(refine W.gT _ _ rfl rfl (fun hb => ?_) (fun hb => ?_) <;> ((try simp only [hb,zK]) <;> (try simp only [zL,zI] at hb) <;> (try (exfalso;omega))))|(refine W.gF _ _ rfl rfl (fun hb => ?_) (fun hb => ?_) <;> ((try simp only [hb,zK]) <;> (try simp only [zL,zI] at hb) <;> (try (exfalso;omega))))
    |(refine W.cond _ rfl (fun hb => ?_) (fun hb => ?_) <;> ((try simp only [hb,zK]) <;> (try simp only [zL,zI] at hb) <;> (try (exfalso;omega))))))
   all_goals
    refine ⟨k + 1,⟨by omega,fun u hx => ?_⟩,by omega,[0,1],rfl,rfl,rfl,iV_eq (by omega),rfl,rfl,rfl,trivial⟩
    rw [List.take_succ_eq_append_getElem hkl] at hx
    rcases List.mem_append.1 hx with hx | hx
    ·exact hk.2 u hx
    ·rw [List.mem_singleton.1 hx];exact q1
  ·rw [decide_eq_false hgood] at q1
   rw [hB k hkl q1]
   have hM2 : M = 8 ∨ M = 16 := hM
   (repeat' (first
    |(apply yFb;exact rfl;exact rfl)
    |(apply W.qd;(first
    |(exact zM)|(exact zN)|(exact jAr)|(exact jAm)|(exact jAj)|(exact jBb)|(exact jAv)|(apply q_rem;exact rfl;exact rfl;omega;omega)|(exact jB)|(exact jBl)|(exact jAd)|(exact jA)|(apply (yEb (u := .d _));exact rfl;exact rfl)
    |(apply (yDb (u := .d _));exact rfl;exact rfl)))|(refine W.gOff _ _ rfl rfl (by intro h;cases h) ?_)|(apply yA)|(apply yB)|(refine jAe ?_)|(refine jAs ?_)|(apply yE)|(refine jBc ?_)|(apply yG)|(apply yH)|(apply yJ)|(apply yP)|(apply yN)|(refine jBa ?_)|(refine W.gT _ _ rfl rfl (fun hb => ?_) (fun hb => ?_) <;> ((try simp only [hb,zK]) <;> (try simp only [zL,zI] at hb) <;> (try (exfalso;omega))))|(refine W.gF _ _ rfl rfl (fun hb => ?_) (fun hb => ?_) <;> ((try simp only [hb,zK]) <;> (try simp only [zL,zI] at hb) <;> (try (exfalso;omega))))
    |(refine W.cond _ rfl (fun hb => ?_) (fun hb => ?_) <;> ((try simp only [hb,zK]) <;> (try simp only [zL,zI] at hb) <;> (try (exfalso;omega))))))
   all_goals exact EndsO.bad2 rfl rfl rfl rfl
 ·have hU := hT fun u hx => hk.2 u (by rwa [List.take_of_length_le (by omega)])
  rw [hU,if_pos rfl]
  have hn := hok hU
  have he := hfit hU
  have hn64 : (us.headD []).length ≤ 2000000 := by rw [hd];exact hlen0
  have hen : encN M ps us = us ++ ps.map fun r => combM M (us.headD []).length r us (List.replicate (us.headD []).length 0) := rfl
  rw [hen]
  clear hq hB hT hlen hlen0 hok hfit hen hd
  generalize (us.headD []).length = n at *
  (repeat' (first
   |(apply W.qd;(first
   |(exact zM)|(exact zN)|(exact jAj)
   |(exact jB)))|(apply yA)|(apply yB)|(refine jAe ?_)|(apply yE)|(apply yG)|(apply yI)|(apply yK)|(apply yM)
   |(refine W.cond _ rfl (fun hb => ?_) (fun hb => ?_) <;> ((try simp only [hb,zK]) <;> (try simp only [zL,zI] at hb) <;> (try (exfalso;omega))))))
  refine AWP.loopW (α := Nat) (fun k => k ≤ ps.length) (fun k => ⟨[(9,iV k),(1,strs us),(7,.osl 1 (k + 1) 0 (us ++ (ps.take k).map fun r => combM M n r us (List.replicate n 0)).length),(2,.opt 0 0)],[.box [.d .any,iV M,iV D,rowsN ps,.d .any],.row (k + 1) 1 9 ((us ++ (ps.take k).map fun r => combM M n r us (List.replicate n 0)).map sD)]⟩) (fun k => ps.length - k) 0 (by omega) ?wk1 fun k hk => ?_
  case wk1 =>
   rw [show (us ++ (ps.take 0).map fun r => combM M n r us (List.replicate n 0)) = us by simp]
   exact ⟨[0,1],rfl,rfl,rfl,by (repeat (first | exact trivial | refine ⟨rfl,?_⟩))⟩
  by_cases hkl : k < ps.length
  ·have hr := h.row ps[k] (List.getElem_mem _)
   have hcomb := A_rcombine (cs := ps[k]) (us := us) hM he (by rw [hr.1,hl]) (by omega) hr.2.1 hn (by omega) (by omega)
   have h5 : (ps.take (k + 1)).map (fun r => combM M n r us (List.replicate n 0)) = (ps.take k).map (fun r => combM M n r us (List.replicate n 0)) ++ [combM M n ps[k] us (List.replicate n 0)] := by
    rw [← List.take_append_getElem hkl,List.map_append];rfl
   have h6 : us ++ (ps.take (k + 1)).map (fun r => combM M n r us (List.replicate n 0)) = (us ++ (ps.take k).map (fun r => combM M n r us (List.replicate n 0))) ++ [combM M n ps[k] us (List.replicate n 0)] := by rw [h5,List.append_assoc]
   have hl2 : (us ++ (ps.take k).map (fun r => combM M n r us (List.replicate n 0))).length ≤ 1024 := by simp;omega
   clear h5
   replace h6 := Lib.hid h6
   generalize combM M n ps[k] us (List.replicate n 0) = R at *
   generalize us ++ (ps.take k).map (fun r => combM M n r us (List.replicate n 0)) = A at *
   clear hr
   (repeat' (first
    |(apply W.qd;(first
    |(exact zW (hcomb))|(exact zM)|(exact zN)|(exact jAr)|(exact jAm)|(exact jAj)|(exact jAg)|(exact jBd)|(exact jB)|(exact jAd)|(exact jAl)
    |(exact jA)))|(apply W.ld;(exact jAy))|(apply yA)|(apply yB)|(refine jAe ?_)|(refine jAs ?_)|(apply yE)|(refine jBc ?_)|(apply yG)|(apply yH)|(apply yL)
    |(refine W.cond _ rfl (fun hb => ?_) (fun hb => ?_) <;> ((try simp only [hb,zK]) <;> (try simp only [zL,zI] at hb) <;> (try (exfalso;omega))))))
   refine ⟨k + 1,by omega,by omega,?_⟩
   rw [h6.out]
   exact ⟨[0,1],rfl,rfl,rfl,iV_eq (by omega),rfl,congrArg (AV.osl 1 (k + 1 + 1) 0) (by simp),rfl,trivial⟩
  ·have e : k = ps.length := by omega
   subst e
   rw [List.take_length]
   have hl2 : (us ++ ps.map fun r => combM M n r us (List.replicate n 0)).length ≤ 1024 := by simp;omega
   generalize us ++ ps.map (fun r => combM M n r us (List.replicate n 0)) = A at *
   (repeat' (first
    |(apply W.qd;(first
    |(exact zM)|(exact zN)|(exact jAr)|(exact jAm)|(exact jAj)
    |(exact jB)))|(apply yA)|(apply yB)|(refine jAe ?_)|(apply yE)|(apply yI)|(apply yJ)|(apply yK)|(apply yM)
    |(refine W.cond _ rfl (fun hb => ?_) (fun hb => ?_) <;> ((try simp only [hb,zK]) <;> (try simp only [zL,zI] at hb) <;> (try (exfalso;omega))))))
   refine ⟨.inl rfl,[],[.osl 1 (ps.length + 1) 0 A.length,iV 0],rfl,rfl,⟨rfl,rfl,trivial⟩,AVle.tup2 (AVle.of_eq (frz_rowJ rfl rfl (by simp))) (AVle.of_eq rfl),rfl⟩
end
section
attribute [local irreducible] Quiet Eff OpOk AWPG ACont ABlock ACalls AGoto
theorem A_cloneB {l : List Bool} (h0 : 0 < l.length) (hl : l.length ≤ 1000000) : ACalls Tryz.prog 208 [bools l] [] (.osl 0 1 0 l.length) [.row 1 1 4 (l.map tD)] := by
 refine acalls_of_bodyO Tryz.func208 rfl (zU rfl) ?_
 have hm : (l.map tD).length = l.length := List.length_map _
 (repeat' (first
  |(apply W.ed;(apply e_lit0F;(iterate 5 exact rfl)))
  |(apply W.qd;(first
  |(exact zM)|(exact zN)
  |(apply q_eqnilm;(iterate 3 exact rfl);(first | assumption | omega))))|(apply W.ed;(exact jAu))|(apply yA)|(apply yB)|(refine jAe ?_)|(apply yE)|(apply yH)|(apply yJ)
  |(refine jAw ?_)))
 refine ⟨.inl rfl,[0],[.osl 0 1 0 ((([] : List Nat).length) + (l.map tD).length)],rfl,rfl,⟨rfl,trivial⟩,AVle.of_eq ?_,rfl⟩
 show AV.osl 0 1 0 (0 + (l.map tD).length) = .osl 0 1 0 l.length
 rw [hm,Nat.zero_add]
end
section
set_option linter.unusedSectionVars false
def exCol (rows : List (List Nat)) (t : List Nat) (c : Nat) : Nat → Nat := fun x => if c < rows.length then (rows.getD c []).getD x 0 else t.getD x 0
def exM (D : Nat) (rows : List (List Nat)) (t : List Nat) : List Nat := ((List.range D).map fun x => (List.range (rows.length + 1)).map fun c => exCol rows t c x).flatten
def exR (M D : Nat) (rows : List (List Nat)) (t : List Nat) (k : Nat) : List Nat × List Nat := red M D (rows.length + 1) (exM D rows t) k
def exprN (M D : Nat) (rows : List (List Nat)) (t : List Nat) : Option (List Nat) :=
 let s := exR M D rows t rows.length
 if s.2.length = rows.length ∧ ∀ q,q < D → rows.length ≤ q → gt (rows.length + 1) s.1 q rows.length = 0 then some ((List.range rows.length).map fun k => gt (rows.length + 1) s.1 k rows.length) else none
theorem flat_len' {C : Nat} : ∀ {l : List (List Nat)}, (∀ r ∈ l, r.length = C) → l.flatten.length = l.length * C
 | [],_ => by simp
 | r :: l,h => by
   rw [List.flatten_cons,List.length_append,flat_len' fun x hx => h x (by simp [hx]),h r (by simp),List.length_cons,Nat.succ_mul];omega
theorem exM_row (D : Nat) (rows : List (List Nat)) (t : List Nat) : ∀ r ∈ ((List.range D).map fun x => (List.range (rows.length + 1)).map fun c => exCol rows t c x),r.length = rows.length + 1 := fun r hr => by
 obtain ⟨x,_,rfl⟩ := List.mem_map.1 hr
 simp
theorem exM_length (D : Nat) (rows : List (List Nat)) (t : List Nat) : (exM D rows t).length = D * (rows.length + 1) := by
 unfold exM
 rw [flat_len' (exM_row D rows t)]
 simp
theorem exM_gt {D : Nat} (rows : List (List Nat)) (t : List Nat) {x c : Nat} (hx : x < D) (hc : c < rows.length + 1) : gt (rows.length + 1) (exM D rows t) x c = exCol rows t c x := by
 unfold gt exM
 rw [flat_get hc (exM_row D rows t) x (by simpa using hx)]
 have e : (((List.range D).map fun x => (List.range (rows.length + 1)).map fun c => exCol rows t c x).getD x []) = (List.range (rows.length + 1)).map fun c => exCol rows t c x := by
  rw [List.getD_eq_getElem?_getD,List.getElem?_map,List.getElem?_range hx];rfl
 rw [e,List.getD_eq_getElem?_getD,List.getElem?_map,List.getElem?_range hc];rfl
section
variable {M D : Nat} {rows : List (List Nat)} {t : List Nat} (hM : FldM M) (hr : ∀ r ∈ rows,∀ x ∈ r,x < 2 ^ M) (ht : ∀ x ∈ t,x < 2 ^ M)
include hM hr ht
theorem exCol_lt (c x : Nat) : exCol rows t c x < 2 ^ M := by
 unfold exCol
 by_cases h : c < rows.length
 ·rw [if_pos h]
  refine getD_lt (fun y hy => ?_) x
  rw [List.getD_eq_getElem?_getD,List.getElem?_eq_getElem h] at hy
  exact hr _ (List.getElem_mem h) y hy
 ·rw [if_neg h];exact getD_lt ht x
theorem exM_lt : ∀ x ∈ exM D rows t,x < 2 ^ M := fun x hx => by
 unfold exM at hx
 obtain ⟨r,h1,h2⟩ := List.mem_flatten.1 hx
 obtain ⟨y,_,rfl⟩ := List.mem_map.1 h1
 obtain ⟨c,_,rfl⟩ := List.mem_map.1 h2
 exact exCol_lt hM hr ht c y
theorem ex_to {k : Nat} (hk : k ≤ rows.length + 1) : ∃ T S,RedTo M D (rows.length + 1) k (exM D rows t) (exR M D rows t k).1 (exR M D rows t k).2 T S :=
 red_to hM (exM_length D rows t) (exM_lt hM hr ht) k hk
def Indep (M D : Nat) (rows : List (List Nat)) : Prop := ∀ j,j < rows.length → ¬ Sp M D (WS (fun q x => (rows.getD q []).getD x 0) j) (fun x => (rows.getD j []).getD x 0)
theorem rowV {q : Nat} (hq : q < rows.length) : Vc M D (fun x => (rows.getD q []).getD x 0) := fun x _ => by
 have := exCol_lt (rows := rows) (t := t) hM hr ht q x
 unfold exCol at this
 rwa [if_pos hq] at this
theorem ex_sum {k : Nat} (hk : k ≤ rows.length) {T S : (Nat → Nat) → Nat → Nat} {A pv : List Nat} (h : RedTo M D (rows.length + 1) k (exM D rows t) A pv T S) (hpl : pv.length ≤ D) {v : Nat → Nat} (hv : Vc M D v) (hz : ∀ r, r < D → pv.length ≤ r → T v r = 0) :
 ∀ x,x < D → v x = sg (fun q => mu M (T v q) ((rows.getD (pv.getD q 0) []).getD x 0)) pv.length := by
 have hw : ∀ q,q < pv.length → T v q < 2 ^ M ∧ Vc M D (fun x => (rows.getD (pv.getD q 0) []).getD x 0) := fun q hq => ⟨h.iso.lt v hv q (by omega),rowV hM hr ht (by have := (h.piv q hq).1;omega)⟩
 have hTu : ∀ q,q < pv.length → ∀ r,r < D → T (fun x => (rows.getD (pv.getD q 0) []).getD x 0) r = if r = q then 1 else 0 := fun q hq r hr' => by
  obtain ⟨p1,p2⟩ := h.piv q hq
  rw [← p2 r hr',h.col _ (by omega) r hr']
  refine h.iso.congr _ _ (fun i hi => ?_) r hr'
  rw [exM_gt rows t hi (by omega)]
  unfold exCol
  rw [if_pos (show pv.getD q 0 < rows.length by omega)]
 have hS : ∀ s,WS (fun q x => (rows.getD (pv.getD q 0) []).getD x 0) pv.length s → Vc M D s := fun s ⟨q,hq,e⟩ => by rw [e];exact (hw q hq).2
 have hsum : Vc M D (fun x => sg (fun q => mu M (T v q) ((rows.getD (pv.getD q 0) []).getD x 0)) pv.length) :=
  (Sp.sum (M := M) (D := D) (S := WS (fun q x => (rows.getD (pv.getD q 0) []).getD x 0) pv.length) hM hS (c := fun q => T v q) (w := fun q x => (rows.getD (pv.getD q 0) []).getD x 0) pv.length fun q hq => ⟨(hw q hq).1,Sp.of hM hS ⟨q,hq,rfl⟩⟩).vc hM hS
 refine h.iso.inj hv hsum fun i hi => ?_
 rw [h.iso.sum pv.length hw i hi]
 rw [sg_congr pv.length (fun q hq => show mu M (T v q) (T (fun x => (rows.getD (pv.getD q 0) []).getD x 0) i) = if q = i then T v i else 0 by
  rw [hTu q hq i hi]
  by_cases e : i = q
  ·subst e;rw [if_pos rfl,if_pos rfl,mu_one hM (h.iso.lt v hv i hi)]
  ·rw [if_neg e,if_neg (fun e2 => e e2.symm),mu_zero])]
 rw [sg_one (k := i) pv.length (fun q _ hne => if_neg hne),if_pos rfl]
 by_cases e : i < pv.length
 ·rw [if_pos e]
 ·rw [if_neg e,hz i hi (by omega)]
theorem ex_full (hI : Indep M D rows) : ∀ k, k ≤ rows.length → (exR M D rows t k).2.length = k
 | 0,_ => rfl
 | k + 1,hk => by
   have ih := ex_full hI k (by omega)
   obtain ⟨T0,S0,h0⟩ := ex_to hM hr ht (D := D) (k := k) (by omega)
   obtain ⟨T,S,h⟩ := ex_to hM hr ht (D := D) (k := k + 1) (by omega)
   have hok := red_ok hM (exM_length D rows t) (exM_lt hM hr ht) (k + 1)
   have hpr := hok.pr
   have hstep : (exR M D rows t (k + 1)).2 = (exR M D rows t k).2 ∨ (exR M D rows t (k + 1)).2 = (exR M D rows t k).2 ++ [k] := by
    show (redStep M D (rows.length + 1) k (exR M D rows t k)).2 = _ ∨ (redStep M D (rows.length + 1) k (exR M D rows t k)).2 = _
    generalize exR M D rows t k = s
    unfold redStep
    dsimp only
    split
    ·exact .inl rfl
    ·exact .inr rfl
   rcases hstep with e | e
   ·exfalso
    change (exR M D rows t (k + 1)).2.length ≤ D at hpr
    rw [e] at h hpr
    refine hI k (by omega) ?_
    have hv : Vc M D (fun x => (rows.getD k []).getD x 0) := rowV hM hr ht (by omega)
    have hTk : ∀ r,r < D → gt (rows.length + 1) (exR M D rows t (k + 1)).1 r k = T (fun x => (rows.getD k []).getD x 0) r := fun r hr' => by
     rw [h.col _ (by omega) r hr']
     refine h.iso.congr _ _ (fun i hi => ?_) r hr'
     rw [exM_gt rows t hi (by omega)]
     unfold exCol
     rw [if_pos (show k < rows.length by omega)]
    have hs := ex_sum hM hr ht (k := k + 1) (by omega) h hpr hv fun r hr' hle => by
     rw [← hTk r hr']
     by_cases e2 : gt (rows.length + 1) (exR M D rows t (k + 1)).1 r k = 0
     ·exact e2
     ·have := (h.low k (by omega) r hr' e2).1;omega
    have hS : ∀ s,WS (fun q x => (rows.getD q []).getD x 0) k s → Vc M D s := fun s ⟨q,hq,e⟩ => by rw [e];exact rowV hM hr ht (by omega)
    refine Sp.congr (Sp.sum (M := M) (D := D) hM hS (c := fun q => T (fun x => (rows.getD k []).getD x 0) q) (w := fun q x => (rows.getD ((exR M D rows t k).2.getD q 0) []).getD x 0) (exR M D rows t k).2.length fun q hq => ⟨h.iso.lt _ hv q (by omega),Sp.of hM hS ⟨_,(h0.piv q hq).1,rfl⟩⟩) hs
   ·rw [e,List.length_append,ih];rfl
theorem ex_pv (hI : Indep M D rows) {q : Nat} (hq : q < rows.length) : (exR M D rows t rows.length).2.getD q 0 = q := by
 obtain ⟨T,S,h⟩ := ex_to hM hr ht (D := D) (k := rows.length) (by omega)
 have hl := ex_full hM hr ht hI rows.length (Nat.le_refl _)
 have lo : ∀ q,q < rows.length → q ≤ (exR M D rows t rows.length).2.getD q 0 := by
  intro q
  induction q with
  | zero => intro _;omega
  | succ q ih =>
    intro hq
    have h1 := ih (by omega)
    have h2 := h.inc q (q + 1) (by omega) (by omega)
    omega
 have hi : ∀ d q,q + d + 1 = rows.length → (exR M D rows t rows.length).2.getD q 0 ≤ q := by
  intro d
  induction d with
  | zero => intro q hq;have := (h.piv q (by omega)).1;omega
  | succ d ih =>
    intro q hq
    have h1 := ih (q + 1) (by omega)
    have h2 := h.inc q (q + 1) (by omega) (by omega)
    omega
 have h1 := lo q hq
 have h2 := hi (rows.length - q - 1) q (by omega)
 omega
def Sums (M D : Nat) (rows : List (List Nat)) (t : List Nat) (K : List Nat) : Prop := K.length = rows.length ∧ (∀ x ∈ K,x < 2 ^ M) ∧ ∀ x,x < D → t.getD x 0 = sg (fun q => mu M (K.getD q 0) ((rows.getD q []).getD x 0)) rows.length
theorem tgV : Vc M D (fun x => t.getD x 0) := fun x _ => getD_lt ht x
theorem ex_tgt {k : Nat} {T S : (Nat → Nat) → Nat → Nat} {A pv : List Nat} (h : RedTo M D (rows.length + 1) k (exM D rows t) A pv T S) {r : Nat} (hr' : r < D) : gt (rows.length + 1) A r rows.length = T (fun x => t.getD x 0) r := by
 rw [h.col _ (by omega) r hr']
 refine h.iso.congr _ _ (fun i hi => ?_) r hr'
 rw [exM_gt rows t hi (by omega)]
 unfold exCol
 rw [if_neg (by omega)]
theorem expr_some (hn : rows.length ≤ D) {K : List Nat} (hI : Indep M D rows) (he : exprN M D rows t = some K) : Sums M D rows t K := by
 obtain ⟨T,S,h⟩ := ex_to hM hr ht (D := D) (k := rows.length) (by omega)
 have hl := ex_full hM hr ht hI rows.length (Nat.le_refl _)
 have hp := fun q hq => ex_pv hM hr ht hI (q := q) hq
 unfold exprN at he
 dsimp only at he
 by_cases hc : (exR M D rows t rows.length).2.length = rows.length ∧ ∀ q,q < D → rows.length ≤ q → gt (rows.length + 1) (exR M D rows t rows.length).1 q rows.length = 0
 ·rw [if_pos hc] at he
  obtain rfl := Option.some.inj he
  have hg := fun r hr' => ex_tgt hM hr ht h (r := r) hr'
  have hs := ex_sum hM hr ht (k := rows.length) (Nat.le_refl _) h (by omega) (tgV (D := D) hM hr ht) fun r hr' hle => by
   rw [← hg r hr'];exact hc.2 r hr' (by omega)
  have gk : ∀ q,q < rows.length → ((List.range rows.length).map fun k => gt (rows.length + 1) (exR M D rows t rows.length).1 k rows.length).getD q 0 = T (fun x => t.getD x 0) q := fun q hq => by
   rw [List.getD_eq_getElem?_getD,List.getElem?_map,List.getElem?_range hq]
   exact hg q (by omega)
  refine ⟨by simp,fun x hx => ?_,fun x hx => ?_⟩
  ·obtain ⟨q, hq, rfl⟩ := List.mem_map.1 hx
   have hq := List.mem_range.1 hq
   rw [hg q (by omega)]
   exact h.iso.lt _ (tgV (D := D) hM hr ht) q (by omega)
  ·have := hs x hx
   try dsimp only at this
   rw [this,hl]
   refine sg_congr _ fun q hq => ?_
   rw [gk q hq,hp q hq]
 ·rw [if_neg hc] at he;cases he
theorem expr_eq (hn : rows.length ≤ D) {K : List Nat} (hI : Indep M D rows) (hK : Sums M D rows t K) : exprN M D rows t = some K := by
 obtain ⟨T,S,h⟩ := ex_to hM hr ht (D := D) (k := rows.length) (by omega)
 have hl := ex_full hM hr ht hI rows.length (Nat.le_refl _)
 have hp := fun q hq => ex_pv hM hr ht hI (q := q) hq
 obtain ⟨k1,k2,k3⟩ := hK
 have hKl : ∀ q,K.getD q 0 < 2 ^ M := fun q => getD_lt k2 q
 have hTu : ∀ q,q < rows.length → ∀ r,r < D → T (fun x => (rows.getD q []).getD x 0) r = if r = q then 1 else 0 := fun q hq r hr' => by
  obtain ⟨p1,p2⟩ := h.piv q (by omega)
  rw [hp q hq] at p2
  rw [← p2 r hr',h.col _ (by omega) r hr']
  refine h.iso.congr _ _ (fun i hi => ?_) r hr'
  rw [exM_gt rows t hi (by omega)]
  unfold exCol
  rw [if_pos hq]
 have hT : ∀ r,r < D → T (fun x => t.getD x 0) r = if r < rows.length then K.getD r 0 else 0 := fun r hr' => by
  rw [h.iso.congr (fun x => t.getD x 0) _ k3 r hr',h.iso.sum rows.length (fun q hq => ⟨hKl q,rowV hM hr ht hq⟩) r hr']
  rw [sg_congr rows.length (fun q hq => show mu M (K.getD q 0) (T (fun x => (rows.getD q []).getD x 0) r) = if q = r then K.getD r 0 else 0 by
   rw [hTu q hq r hr']
   by_cases e : r = q
   ·subst e;rw [if_pos rfl,if_pos rfl,mu_one hM (hKl r)]
   ·rw [if_neg e,if_neg (fun e2 => e e2.symm),mu_zero])]
  rw [sg_one (k := r) rows.length (fun q _ hne => if_neg hne),if_pos rfl]
 unfold exprN
 dsimp only
 rw [if_pos ⟨hl,fun q hq hle => by rw [ex_tgt hM hr ht h hq,hT q hq,if_neg (by omega)]⟩]
 congr 1
 refine List.ext_getElem (by simp [k1]) fun q h1 h2 => ?_
 have hq : q < rows.length := by simpa using h1
 rw [List.getElem_map,List.getElem_range,ex_tgt hM hr ht h (by omega),hT q (by omega),if_pos hq,List.getD_eq_getElem?_getD,List.getElem?_eq_getElem h2]
 rfl
end
end
section
set_option linter.unusedSectionVars false
def takeR (D : Nat) (ps : List (List Nat)) (B : List Nat) (m : Nat) : List (List Nat) := (B.take m).map (rowN D ps)
theorem takeR_length {D : Nat} {ps : List (List Nat)} {B : List Nat} {m : Nat} (hm : m ≤ B.length) : (takeR D ps B m).length = m := by
 unfold takeR
 rw [List.length_map,List.length_take];omega
theorem rowN_get {D : Nat} {ps : List (List Nat)} {u x : Nat} (hx : x < D) : (rowN D ps u).getD x 0 = U D (genN D ps) u x := by
 unfold rowN
 rw [List.getD_eq_getElem?_getD,List.getElem?_map,List.getElem?_range hx];rfl
theorem takeR_row {D : Nat} {ps : List (List Nat)} {B : List Nat} {m q : Nat} (hm : m ≤ B.length) (hq : q < m) : (takeR D ps B m).getD q [] = rowN D ps (B.getD q 0) := by
 unfold takeR
 rw [List.getD_eq_getElem?_getD,List.getElem?_map,List.getElem?_take_of_lt hq,List.getD_eq_getElem?_getD]
 have : q < B.length := by omega
 rw [List.getElem?_eq_getElem this];rfl
theorem takeR_get {D : Nat} {ps : List (List Nat)} {B : List Nat} {m q x : Nat} (hm : m ≤ B.length) (hq : q < m) (hx : x < D) : ((takeR D ps B m).getD q []).getD x 0 = U D (genN D ps) (B.getD q 0) x := by
 rw [takeR_row hm hq,rowN_get hx]
theorem takeR_succ {D : Nat} {ps : List (List Nat)} {B : List Nat} {m : Nat} (hm : m < B.length) : takeR D ps B (m + 1) = takeR D ps B m ++ [rowN D ps (B.getD m 0)] := by
 unfold takeR
 rw [List.take_succ_eq_append_getElem hm,List.map_append]
 have : B.getD m 0 = B[m] := by rw [List.getD_eq_getElem?_getD,List.getElem?_eq_getElem hm];rfl
 rw [this];rfl
section
variable {M D : Nat} {gen : List Nat} {hv : List Bool} {B : List Nat} {T S : (Nat → Nat) → Nat → Nat}
theorem Bas.lowJ (hg : ∀ u,Vc M D (U D gen u)) (h : Bas M D gen hv B T S) {j : Nat} (hj : j ≤ B.length) {v : Nat → Nat} (hsp : Sp M D (WS (fun q => U D gen (B.getD q 0)) j) v) : ∀ r,r < D → j ≤ r → T v r = 0 := by
 induction hsp with
 | zero h0 => exact fun r hr _ => h.iso.zero h0 r hr
 | step h1 hs hc h2 ih =>
   obtain ⟨q,hq,rfl⟩ := hs
   intro r hr hle
   rename_i u v c
   have hUv : T (U D gen (B.getD q 0)) r = 0 := by rw [h.unit q (by omega) r hr,if_neg (by omega)]
   rw [h.iso.congr _ _ h2 r hr,h.iso.add u (fun x => mu M c (U D gen (B.getD q 0) x)) r hr,ih r hr hle,Nat.zero_xor]
   rw [h.iso.smul c _ hc (hg _) r hr,hUv,mu_zero]
end
section
variable {M D : Nat} {ps : List (List Nat)} {hv : List Bool} (h : CodeOk M D ps) (hl : hv.length = D + ps.length)
include h hl
theorem rowN_lt (u : Nat) : ∀ x ∈ rowN D ps u,x < 2 ^ M := fun x hx => by
 unfold rowN at hx
 obtain ⟨y,hy,rfl⟩ := List.mem_map.1 hx
 exact U_all h u y (List.mem_range.1 hy)
theorem takeR_lt (B : List Nat) (m : Nat) : ∀ r ∈ takeR D ps B m,∀ x ∈ r,x < 2 ^ M := fun r hr => by
 unfold takeR at hr
 obtain ⟨u,_,rfl⟩ := List.mem_map.1 hr
 exact rowN_lt h hl u
theorem takeR_ws {B : List Nat} {m j : Nat} (hm : m ≤ B.length) (hj : j ≤ m) {v : Nat → Nat} : Sp M D (WS (fun q x => ((takeR D ps B m).getD q []).getD x 0) j) v ↔ Sp M D (WS (fun q => U D (genN D ps) (B.getD q 0)) j) v := by
 constructor
 ·refine Sp.trans h.f (fun s ⟨q, hq, e⟩ => by rw [e]; exact U_all h _) fun s ⟨q, hq, e⟩ => ?_
  rw [e]
  exact (Sp.of h.f (fun s ⟨q,hq,e⟩ => by rw [e];exact U_all h _) ⟨q,hq,rfl⟩).congr fun x hx => takeR_get hm (by omega) hx
 ·have hV : ∀ s,WS (fun q x => ((takeR D ps B m).getD q []).getD x 0) j s → Vc M D s := fun s ⟨q,hq,e⟩ x hx => by
   rw [e]
   show ((takeR D ps B m).getD q []).getD x 0 < 2 ^ M
   rw [takeR_get hm (by omega) hx];exact U_all h _ x hx
  refine Sp.trans h.f hV fun s ⟨q,hq,e⟩ => ?_
  rw [e]
  exact (Sp.of h.f hV ⟨q,hq,rfl⟩).congr fun x hx => (takeR_get hm (by omega) hx).symm
theorem ind_take {m : Nat} (hm : m ≤ (basisN M D ps hv).length) : Indep M D (takeR D ps (basisN M D ps hv) m) := fun j hj hsp => by
 obtain ⟨T,S,hB⟩ := basis_to h hl
 rw [takeR_length hm] at hj
 have h1 := (takeR_ws h hl hm (by omega)).1 hsp
 have h2 := hB.lowJ (U_all h) (by omega) h1 j (by have := hB.le;omega) (Nat.le_refl _)
 rw [hB.iso.congr _ (U D (genN D ps) ((basisN M D ps hv).getD j 0)) (fun x hx => takeR_get hm hj hx) j (by have := hB.le;omega),hB.unit j (by omega) j (by have := hB.le;omega),if_pos rfl] at h2
 cases h2
theorem bas_le : (basisN M D ps hv).length ≤ D := by
 obtain ⟨T,S,hB⟩ := basis_to h hl
 exact hB.le
theorem sums_sp {B : List Nat} {m u : Nat} {K : List Nat} (hm : m ≤ B.length) (hs : Sums M D (takeR D ps B m) (rowN D ps u) K) : Sp M D (WS (fun q => U D (genN D ps) (B.getD q 0)) m) (U D (genN D ps) u) := by
 obtain ⟨k1,k2,k3⟩ := hs
 rw [takeR_length hm] at k3
 refine Sp.congr (Sp.sum (M := M) (D := D) h.f (fun s ⟨q,hq,e⟩ => by rw [e];exact U_all h _) (c := fun q => K.getD q 0) (w := fun q => U D (genN D ps) (B.getD q 0)) m fun q hq => ⟨getD_lt k2 q,Sp.of h.f (fun s ⟨q,hq,e⟩ => by rw [e];exact U_all h _) ⟨q,hq,rfl⟩⟩) fun x hx => ?_
 rw [← rowN_get hx,k3 x hx]
 exact sg_congr _ fun q hq => by rw [takeR_get hm hq hx]
theorem step_none {m : Nat} (hm : m < (basisN M D ps hv).length) : exprN M D (takeR D ps (basisN M D ps hv) m) (rowN D ps ((basisN M D ps hv).getD m 0)) = none := by
 cases he : exprN M D (takeR D ps (basisN M D ps hv) m) (rowN D ps ((basisN M D ps hv).getD m 0)) with
 | none => rfl
 | some K =>
   exfalso
   have hbl := bas_le h hl
   have hs := expr_some h.f (takeR_lt h hl _ _) (rowN_lt h hl _) (by rw [takeR_length (by omega)];omega) (ind_take h hl (by omega)) he
   obtain ⟨T,S,hB⟩ := basis_to h hl
   have h2 := hB.lowJ (U_all h) (by omega) (sums_sp h hl (by omega) hs) m (by omega) (Nat.le_refl _)
   rw [hB.unit m hm m (by omega),if_pos rfl] at h2
   cases h2
theorem step_some {m i : Nat} (hi : hv.getD i false = true) (hm : m ≤ (basisN M D ps hv).length) (hge : ∀ q,m ≤ q → q < (basisN M D ps hv).length → i < (basisN M D ps hv).getD q 0) : (exprN M D (takeR D ps (basisN M D ps hv) m) (rowN D ps i)).isSome = true := by
 have hbl := bas_le h hl
 obtain ⟨T,S,hB⟩ := basis_to h hl
 have hlow : ∀ r,r < D → m ≤ r → T (U D (genN D ps) i) r = 0 := fun r hr hle => by
  by_cases e : T (U D (genN D ps) i) r = 0
  ·exact e
  ·have := hB.low i hi r hr e
   have := hge r hle this.1
   omega
 have hK : Sums M D (takeR D ps (basisN M D ps hv) m) (rowN D ps i) ((List.range m).map fun q => T (U D (genN D ps) i) q) := by
  have gk : ∀ q,q < m → ((List.range m).map fun q => T (U D (genN D ps) i) q).getD q 0 = T (U D (genN D ps) i) q := fun q hq => by
   rw [List.getD_eq_getElem?_getD,List.getElem?_map,List.getElem?_range hq];rfl
  refine ⟨by simp [takeR_length hm],fun x hx => ?_,fun x hx => ?_⟩
  ·obtain ⟨q, hq, rfl⟩ := List.mem_map.1 hx
   exact hB.iso.lt _ (U_all h i) q (by have := List.mem_range.1 hq;omega)
  ·rw [rowN_get hx, takeR_length hm]
   have hS : ∀ s,WS (fun q => U D (genN D ps) ((basisN M D ps hv).getD q 0)) m s → Vc M D s := fun s ⟨q,hq,e⟩ => by rw [e];exact U_all h _
   have hsum := (Sp.sum (M := M) (D := D) h.f hS (c := fun q => T (U D (genN D ps) i) q) (w := fun q => U D (genN D ps) ((basisN M D ps hv).getD q 0)) m fun q hq => ⟨hB.iso.lt _ (U_all h i) q (by omega),Sp.of h.f hS ⟨q,hq,rfl⟩⟩).vc h.f hS
   have key := hB.iso.inj (U_all h i) hsum fun r hr => by
    rw [hB.iso.sum m (fun q hq => ⟨hB.iso.lt _ (U_all h i) q (by omega),U_all h _⟩) r hr]
    rw [sg_congr m (fun q hq => show mu M (T (U D (genN D ps) i) q) (T (U D (genN D ps) ((basisN M D ps hv).getD q 0)) r) = if q = r then T (U D (genN D ps) i) r else 0 by
     rw [hB.unit q (by omega) r hr]
     by_cases e : r = q
     ·subst e;rw [if_pos rfl,if_pos rfl,mu_one h.f (hB.iso.lt _ (U_all h i) r hr)]
     ·rw [if_neg e,if_neg (fun e2 => e e2.symm),mu_zero])]
    rw [sg_one (k := r) m (fun q _ hne => if_neg hne),if_pos rfl]
    by_cases e : r < m
    ·rw [if_pos e]
    ·rw [if_neg e,hlow r hr (by omega)]
   have := key x hx
   try dsimp only at this
   rw [this]
   refine sg_congr _ fun q hq => ?_
   rw [gk q hq,takeR_get hm hq hx]
 rw [expr_eq h.f (takeR_lt h hl _ _) (rowN_lt h hl _) (by rw [takeR_length hm];omega) (ind_take h hl hm) hK]
 rfl
theorem expr_comb {u : Nat} (hu : u < D + ps.length) : (∀ l,combN M D ps hv u = some l → ∃ K,K.length = (basisN M D ps hv).length ∧ (∀ x ∈ K,x < 2 ^ M) ∧ exprN M D (takeR D ps (basisN M D ps hv) (basisN M D ps hv).length) (rowN D ps u) = some K ∧ l = tmsAt (basisN M D ps hv) K (basisN M D ps hv).length) ∧ (combN M D ps hv u = none → exprN M D (takeR D ps (basisN M D ps hv) (basisN M D ps hv).length) (rowN D ps u) = none) := by
 have hbl := bas_le h hl
 refine ⟨fun l hc => ?_,fun hc => ?_⟩
 ·obtain ⟨K, k1, k2, k3, k4⟩ := comb_some h hl hu hc
  refine ⟨K,k1,k2,expr_eq h.f (takeR_lt h hl _ _) (rowN_lt h hl _) (by rw [takeR_length (Nat.le_refl _)];omega) (ind_take h hl (Nat.le_refl _)) ⟨by rw [takeR_length (Nat.le_refl _)];exact k1,k2,fun x hx => ?_⟩,k3⟩
  rw [rowN_get hx,takeR_length (Nat.le_refl _)]
  have e := k4 x hx
  first
   |(rw [← e];exact sg_congr _ fun q hq => by rw [takeR_get (Nat.le_refl _) hq hx])
   |(rw [e];exact sg_congr _ fun q hq => by rw [takeR_get (Nat.le_refl _) hq hx])
 ·cases he : exprN M D (takeR D ps (basisN M D ps hv) (basisN M D ps hv).length) (rowN D ps u) with
  | none => rfl
  | some K =>
    exfalso
    have hs := expr_some h.f (takeR_lt h hl _ _) (rowN_lt h hl _) (by rw [takeR_length (Nat.le_refl _)];omega) (ind_take h hl (Nat.le_refl _)) he
    have hsp := sums_sp h hl (Nat.le_refl _) hs
    have hBS : Sp M D (BS D (genN D ps) (basisN M D ps hv)) (U D (genN D ps) u) := hsp
    have := (comb_iff h hl hu).2 ((sp_BP h hl).1 hBS)
    rw [hc] at this;cases this
end
end
section
def findL (pm : List Nat) (Bl : List (List Nat)) (k : Nat) : Nat → Nat → Nat
 | 0,p => p
 | n + 1,p => if (Bl.getD (pm.getD p 0) []).getD k 0 = 0 then findL pm Bl k n (p + 1) else p
theorem findL_le (pm : List Nat) (Bl : List (List Nat)) (k : Nat) : ∀ n p, p ≤ findL pm Bl k n p ∧ findL pm Bl k n p ≤ p + n
 | 0,p => ⟨Nat.le_refl _,Nat.le_refl _⟩
 | n + 1,p => by
   rw [findL]
   split
   ·have := findL_le pm Bl k n (p + 1);omega
   ·omega
def scV (M f : Nat) (l : List Nat) : Nat → List Nat
 | 0 => l
 | k + 1 => (scV M f l k).set k (mu M f ((scV M f l k).getD k 0))
theorem scV_length (M f : Nat) (l : List Nat) (k : Nat) : (scV M f l k).length = l.length := by
 induction k with
 | zero => rfl
 | succ k ih => rw [scV,List.length_set,ih]
theorem scV_lt {M f : Nat} (hM : FldM M) (hf : f < 2 ^ M) {l : List Nat} (h : ∀ x ∈ l,x < 2 ^ M) (k : Nat) : ∀ x ∈ scV M f l k,x < 2 ^ M := by
 induction k with
 | zero => exact h
 | succ k ih =>
   intro x hx
   rw [scV] at hx
   rcases List.mem_or_eq_of_mem_set hx with hx | rfl
   ·exact ih x hx
   ·exact mu_lt hM hf _
theorem addV_zero (M : Nat) (T l : List Nat) (k : Nat) : addV M 0 T l k = T := by
 induction k with
 | zero => rfl
 | succ k ih =>
   rw [addV,ih]
   have e : Gf.mul M (modN M) 0 (l.getD k 0) = 0 := zero_mu _
   rw [e,Nat.xor_zero]
   by_cases h : k < T.length
   ·rw [List.getD_eq_getElem?_getD, List.getElem?_eq_getElem h]
    exact List.set_getElem_self h
   ·exact List.set_eq_of_length_le (by omega)
def clB (M C k r : Nat) (pm : List Nat) (Bl : List (List Nat)) : Nat → List (List Nat)
 | 0 => Bl
 | q + 1 => if q = r then clB M C k r pm Bl q else (clB M C k r pm Bl q).set (pm.getD q 0) (addV M (((clB M C k r pm Bl q).getD (pm.getD q 0) []).getD k 0) ((clB M C k r pm Bl q).getD (pm.getD q 0) []) (Bl.getD (pm.getD r 0) []) C)
def swp (pm : List Nat) (p r : Nat) : List Nat := (pm.set p (pm.getD r 0)).set r (pm.getD p 0)
structure SysOk (M D C : Nat) (pm : List Nat) (Bl : List (List Nat)) : Prop where
 pl : pm.length = D
 nd : ∀ q q',q < D → q' < D → pm.getD q 0 = pm.getD q' 0 → q = q'
 lt : ∀ q,q < D → pm.getD q 0 < D
 bl : Bl.length = D
 rl : ∀ l ∈ Bl,l.length = C
 rx : ∀ l ∈ Bl,∀ x ∈ l,x < 2 ^ M
theorem getDB_mem {Bl : List (List Nat)} {a : Nat} (h : a < Bl.length) : Bl.getD a [] ∈ Bl := by
 rw [List.getD_eq_getElem?_getD,List.getElem?_eq_getElem h];exact List.getElem_mem h
theorem getDB_set {Bl : List (List Nat)} {a : Nat} (l : List Nat) (h : a < Bl.length) : (Bl.set a l).getD a [] = l := by
 rw [List.getD_eq_getElem?_getD,List.getElem?_set_self h];rfl
theorem getDB_ne {Bl : List (List Nat)} {a b : Nat} (l : List Nat) (h : a ≠ b) : (Bl.set a l).getD b [] = Bl.getD b [] := by
 rw [List.getD_eq_getElem?_getD,List.getElem?_set_ne h,List.getD_eq_getElem?_getD]
theorem setB_self {Bl : List (List Nat)} {a : Nat} (h : a < Bl.length) : Bl.set a (Bl.getD a []) = Bl := by
 have e : Bl.getD a [] = Bl[a] := by rw [List.getD_eq_getElem?_getD,List.getElem?_eq_getElem h];rfl
 rw [e]
 exact List.set_getElem_self h
theorem SysOk.set {M D C : Nat} {pm : List Nat} {Bl : List (List Nat)} (h : SysOk M D C pm Bl) (a : Nat) {l : List Nat} (h1 : l.length = C) (h2 : ∀ x ∈ l,x < 2 ^ M) : SysOk M D C pm (Bl.set a l) :=
 ⟨h.pl,h.nd,h.lt,by rw [List.length_set];exact h.bl,fun x hx => (List.mem_or_eq_of_mem_set hx).elim (h.rl x) fun e => e ▸ h1,fun x hx => (List.mem_or_eq_of_mem_set hx).elim (h.rx x) fun e => e ▸ h2⟩
theorem swp_get {pm : List Nat} {p r q : Nat} (hp : p < pm.length) (hr : r < pm.length) : (swp pm p r).getD q 0 = if q = r then pm.getD p 0 else if q = p then pm.getD r 0 else pm.getD q 0 := by
 unfold swp
 rw [List.getD_eq_getElem?_getD]
 by_cases h1 : q = r
 ·subst h1;rw [if_pos rfl,List.getElem?_set_self (by rw [List.length_set];exact hr)];rfl
 ·rw [if_neg h1, List.getElem?_set_ne (Ne.symm h1)]
  by_cases h2 : q = p
  ·subst h2;rw [if_pos rfl,List.getElem?_set_self hp];rfl
  ·rw [if_neg h2,List.getElem?_set_ne (Ne.symm h2),List.getD_eq_getElem?_getD]
theorem SysOk.swp {M D C p r : Nat} {pm : List Nat} {Bl : List (List Nat)} (h : SysOk M D C pm Bl) (hp : p < D) (hr : r < D) : SysOk M D C (swp pm p r) Bl := by
 have hg := fun q => swp_get (pm := pm) (p := p) (r := r) (q := q) (by rw [h.pl];exact hp) (by rw [h.pl];exact hr)
 refine ⟨by unfold Go.Proofs.YtplpgijpmgbaiaaGreatDoor.swp;rw [List.length_set,List.length_set];exact h.pl,fun q q' hq hq' e => ?_,fun q hq => ?_,h.bl,h.rl,h.rx⟩
 ·rw [hg, hg] at e
  by_cases h1 : q = r <;> by_cases h2 : q' = r <;> by_cases h3 : q = p <;> by_cases h4 : q' = p <;> simp only [h1, h2, h3, h4, if_true, if_false] at e <;> first
   |omega
   |(have := h.nd _ _ (by omega) (by omega) e;omega)
   |(rw [if_neg (by omega)] at e;have := h.nd _ _ (by omega) (by omega) e;omega)
   |(split at e <;> first | omega | (have := h.nd _ _ (by omega) (by omega) e;omega))
 ·rw [hg]
  split
  ·exact h.lt p hp
  ·split
   ·exact h.lt r hr
   ·exact h.lt q hq
theorem clB_ok {M D C k r : Nat} {pm : List Nat} {Bl : List (List Nat)} (hM : FldM M) (h : SysOk M D C pm Bl) (hr : r < D) : ∀ q, q ≤ D → SysOk M D C pm (clB M C k r pm Bl q) ∧ (clB M C k r pm Bl q).getD (pm.getD r 0) [] = Bl.getD (pm.getD r 0) []
 | 0,_ => ⟨h,rfl⟩
 | q + 1,hq => by
   obtain ⟨i1,i2⟩ := clB_ok hM h hr q (by omega)
   rw [clB]
   by_cases e : q = r
   ·rw [if_pos e];exact ⟨i1,i2⟩
   ·rw [if_neg e]
    have hm := getDB_mem (Bl := clB M C k r pm Bl q) (a := pm.getD q 0) (by rw [i1.bl];exact h.lt q (by omega))
    refine ⟨i1.set _ (by rw [addV_length];exact i1.rl _ hm) (addV_lt hM (getD_lt (i1.rx _ hm) _) (i1.rx _ hm) _),?_⟩
    rw [getDB_ne _ fun e2 => e (h.nd q r (by omega) hr e2)]
    exact i2
attribute [local irreducible] Quiet Eff OpOk AWPG ACont ABlock ACalls AGoto
theorem A_r8times {M a b : Nat} (hM : FldM M) (ha : a < 2 ^ M) (hb : b < 2 ^ M) : ACalls Tryz.prog 286 [iV M,iV a,iV b] [] (iV (mu M a b : Nat)) [] := by
 refine acalls_of_body Tryz.func286 rfl (zU rfl) ?_
 have h := A_rmul hM ha hb
 (repeat' (first
  |(apply W.qd;(first
  |(exact zW (h))|(exact zM)|(exact zN)
  |(exact jBd)))|(apply yA)|(apply yB)|(refine jAe ?_)|(apply yE)
  |(apply yJ)))
 exact Ends.i rfl rfl
theorem A_r8inverse {M a : Nat} (hM : FldM M) (ha : a < 2 ^ M) (h0 : a ≠ 0) : ACalls Tryz.prog 285 [iV M,iV a] [] (iV (invN M a : Nat)) [] := by
 refine acalls_of_body Tryz.func285 rfl (zU rfl) ?_
 have h := A_rinv hM ha h0
 (repeat' (first
  |(apply W.qd;(first
  |(exact zW (h))|(exact zM)|(exact zN)
  |(exact jBd)))|(apply yA)|(apply yB)|(refine jAe ?_)|(apply yE)
  |(apply yJ)))
 exact Ends.i rfl rfl
theorem A_elim_no {M D C v c k r : Nat} {pm : List Nat} {Bl : List (List Nat)} (hs : SysOk M D C pm Bl) (hk : k < C) (hr : r ≤ D) (hC : C ≤ 1000) (hD : D ≤ 1000) (hp : findL pm Bl k (D - r) r = D) :
 ACalls Tryz.prog 259 [.opt 0 0,iV k,iV r] (sysO 3 M v C c D pm Bl) (bV false) (sysO 3 M v C c D pm Bl) := by
 refine acalls_of_bodyS Tryz.func259 rfl (zU rfl) ?_
 unfold sysO
 (repeat' (first
  |(apply W.qd;(first
  |(exact zM)
  |(exact zN)))|(apply yA)|(apply yB)|(apply (W.regionS 2);exact rfl;kernel_rfl)|(apply yE)
  |(apply yG)))
 refine AWP.loopE (α := Nat) (fun p => r ≤ p ∧ p ≤ D ∧ findL pm Bl k (D - p) p = D) (fun p => ⟨[(7,iV p),(0,.opt 0 0),(1,iV k),(2,iV r)],.box [iV M,.bsl 1 D c] :: .box (pm.map (ptrS v C)) :: Bl.map (rowE 3 v)⟩) (fun p => D - p) r ⟨Nat.le_refl _,hr,hp⟩ ⟨rfl,by (repeat (first | exact trivial | refine ⟨rfl,?_⟩))⟩ fun p hp => ?_
 obtain ⟨h1,h2,h3⟩ := hp
 by_cases hpD : p < D
 ·have hpm := sys_ld (v := v) (C := C) (p := p) (pm := pm) (by rw [hs.pl]; exact hpD)
  have ha := hs.lt p hpD
  have hget := sys_get (t := 3) (v := v) (E0 := .box [iV M,.bsl 1 D c]) (E1 := .box (pm.map (ptrS v C))) (Bl := Bl) (p := pm.getD p 0) (by rw [hs.bl];exact ha)
  have hll := hs.rl _ (getDB_mem (Bl := Bl) (a := pm.getD p 0) (by rw [hs.bl];exact ha))
  rw [show D - p = (D - (p + 1)) + 1 by omega,findL] at h3
  have hx : (Bl.getD (pm.getD p 0) []).getD k 0 = 0 := by
   by_cases e : (Bl.getD (pm.getD p 0) []).getD k 0 = 0
   ·exact e
   ·rw [if_neg e] at h3;omega
  rw [if_pos hx] at h3
  generalize Bl.getD (pm.getD p 0) [] = l at *
  have hx2 : l[k]'(by omega) = 0 := by rw [List.getD_eq_getElem?_getD,List.getElem?_eq_getElem (show k < l.length by omega)] at hx;exact hx
  generalize pm.getD p 0 = a at *
  (repeat' (first
   |(apply yFb;exact rfl;exact rfl)
   |(apply W.qd;(first
   |((apply s_ld;exact rfl;exact rfl;assumption;exact rfl))
   |((apply s_ix;exact rfl;assumption;(iterate 3 exact rfl);omega))
   |((apply s_ldr;exact rfl;assumption;exact rfl;exact rfl;omega))
   |((exact q_len_bsl rfl rfl))
   |((apply q_ix_bsl;(iterate 4 exact rfl);omega))|(exact zM)|(exact zN)|(exact jAr)|(exact jAm)|(exact jAj)|(exact jBb)|(exact jAg)|(exact q_nil_opt rfl)
   |(apply (yEb (u := .d _));exact rfl;exact rfl)))|(apply yA)|(apply yB)|(refine jAe ?_)|(apply yE)|(apply yG)|(apply yH)|(apply yL)|(refine W.gT _ _ rfl rfl (fun hb => ?_) (fun hb => ?_) <;> ((try simp only [hb,zK]) <;> (try simp only [zL,zI] at hb) <;> (try (exfalso;omega))))
   |(refine W.cond _ rfl (fun hb => ?_) (fun hb => ?_) <;> ((try simp only [hb,zK]) <;> (try simp only [zL,zI] at hb) <;> (try (exfalso;omega))))))
  -- @1
  exact ⟨p + 1,⟨by omega,by omega,h3⟩,by omega,rfl,iV_eq (by omega),rfl,rfl,rfl,trivial⟩
 ·(repeat' (first
  |(apply W.qd;(first
  |((exact q_len_bsl rfl rfl))|(exact zM)|(exact zN)|(exact jAr)|(exact jAm)|(exact jAj)|(exact jBb)|(exact q_nil_opt rfl)
  |(apply (yDb (u := .d _));exact rfl;exact rfl)))|(refine W.gOff _ _ rfl rfl (by intro h;cases h) ?_)|(apply yA)|(apply yB)|(refine jAe ?_)|(apply yE)|(apply yI)|(apply yJ)|(apply yK)|(apply yP)|(apply yM)|(refine jAw ?_)|(refine W.gT _ _ rfl rfl (fun hb => ?_) (fun hb => ?_) <;> ((try simp only [hb,zK]) <;> (try simp only [zL,zI] at hb) <;> (try (exfalso;omega))))
  |(refine W.cond _ rfl (fun hb => ?_) (fun hb => ?_) <;> ((try simp only [hb,zK]) <;> (try simp only [zL,zI] at hb) <;> (try (exfalso;omega))))))
  exact EndsS.b rfl rfl
theorem A_elim {M D C v c k r P : Nat} {pm : List Nat} {Bl : List (List Nat)} (hM : FldM M) (hs : SysOk M D C pm Bl) (hk : k < C) (hr : r < D) (hC : C ≤ 1000) (hD : D ≤ 1000) (hp : findL pm Bl k (D - r) r = P) (hPD : P < D) :
 ACalls Tryz.prog 259 [.opt 0 0, iV k, iV r] (sysO 3 M v C c D pm Bl) (bV true)
  (sysO 3 M v C c D (swp pm P r) (clB M C k r (swp pm P r) (Bl.set (pm.getD P 0) (scV M (invN M ((Bl.getD (pm.getD P 0) []).getD k 0)) (Bl.getD (pm.getD P 0) []) C)) D)) := by
 refine acalls_of_bodyS Tryz.func259 rfl (zU rfl) ?_
 have hsL : (sysO 3 M v C c D pm Bl).length = D + 2 := by rw [sys_len,hs.bl]
 unfold sysO
 (repeat' (first
  |(apply W.qd;(first
  |(exact zM)
  |(exact zN)))|(apply yA)|(apply yB)|(apply (W.regionS 2);exact rfl;kernel_rfl)|(apply yE)
  |(apply yG)))
 refine AWP.loopE (α := Nat) (fun p => r ≤ p ∧ p ≤ P ∧ findL pm Bl k (D - p) p = P) (fun p => ⟨[(7,iV p),(0,.opt 0 0),(1,iV k),(2,iV r)],.box [iV M,.bsl 1 D c] :: .box (pm.map (ptrS v C)) :: Bl.map (rowE 3 v)⟩) (fun p => D - p) r ⟨Nat.le_refl _,by have := findL_le pm Bl k (D - r) r;omega,hp⟩ ⟨rfl,by (repeat (first | exact trivial | refine ⟨rfl,?_⟩))⟩ fun p hp => ?_
 obtain ⟨h1,h2,h3⟩ := hp
 have hpD : p < D := by omega
 have hpm := sys_ld (v := v) (C := C) (p := p) (pm := pm) (by rw [hs.pl];exact hpD)
 have ha := hs.lt p hpD
 have hget := sys_get (t := 3) (v := v) (E0 := .box [iV M,.bsl 1 D c]) (E1 := .box (pm.map (ptrS v C))) (Bl := Bl) (p := pm.getD p 0) (by rw [hs.bl];exact ha)
 have hmem := getDB_mem (Bl := Bl) (a := pm.getD p 0) (by rw [hs.bl];exact ha)
 have hll := hs.rl _ hmem
 have hlx := hs.rx _ hmem
 rw [show D - p = (D - (p + 1)) + 1 by omega,findL] at h3
 by_cases hx : (Bl.getD (pm.getD p 0) []).getD k 0 = 0
 ·rw [if_pos hx] at h3
  have hle := (findL_le pm Bl k (D - (p + 1)) (p + 1)).1
  generalize Bl.getD (pm.getD p 0) [] = l at *
  have hx2 : l[k]'(by omega) = 0 := by rw [List.getD_eq_getElem?_getD,List.getElem?_eq_getElem (show k < l.length by omega)] at hx;exact hx
  generalize pm.getD p 0 = a at *
  (repeat' (first
   |(apply yFb;exact rfl;exact rfl)
   |(apply W.qd;(first
   |((apply s_ld;exact rfl;exact rfl;assumption;exact rfl))
   |((apply s_ix;exact rfl;assumption;(iterate 3 exact rfl);omega))
   |((apply s_ldr;exact rfl;assumption;exact rfl;exact rfl;omega))
   |((exact q_len_bsl rfl rfl))
   |((apply q_ix_bsl;(iterate 4 exact rfl);omega))|(exact zM)|(exact zN)|(exact jAr)|(exact jAm)|(exact jAj)|(exact jBb)|(exact jAg)|(exact q_nil_opt rfl)
   |(apply (yEb (u := .d _));exact rfl;exact rfl)))|(apply yA)|(apply yB)|(refine jAe ?_)|(apply yE)|(apply yG)|(apply yH)|(apply yL)|(refine W.gT _ _ rfl rfl (fun hb => ?_) (fun hb => ?_) <;> ((try simp only [hb,zK]) <;> (try simp only [zL,zI] at hb) <;> (try (exfalso;omega))))
   |(refine W.cond _ rfl (fun hb => ?_) (fun hb => ?_) <;> ((try simp only [hb,zK]) <;> (try simp only [zL,zI] at hb) <;> (try (exfalso;omega))))))
  exact ⟨p + 1,⟨by omega,by omega,h3⟩,by omega,rfl,iV_eq (by omega),rfl,rfl,rfl,trivial⟩
 ·rw [if_neg hx] at h3
  subst h3
  have hpm2 := sys_ld (v := v) (C := C) (p := r) (pm := pm) (by rw [hs.pl];exact hr)
  have hsw := hs.swp hpD hr
  have hbk : (swp pm p r).getD r 0 = pm.getD p 0 := by rw [swp_get (by rw [hs.pl];exact hpD) (by rw [hs.pl];exact hr),if_pos rfl]
  have hpl := hs.pl
  have hbl := hs.bl
  have hswd : (pm.set p (pm.getD r 0)).set r (pm.getD p 0) = swp pm p r := rfl
  obtain ⟨l,hl⟩ : ∃ l,Bl.getD (pm.getD p 0) [] = l := ⟨_,rfl⟩
  rw [hl] at hget hll hlx hx ⊢
  have hx2 : l[k]'(by omega) ≠ 0 := by rw [List.getD_eq_getElem?_getD,List.getElem?_eq_getElem (show k < l.length by omega)] at hx;exact hx
  have hxe : l.getD k 0 = l[k]'(by omega) := by rw [List.getD_eq_getElem?_getD,List.getElem?_eq_getElem (show k < l.length by omega)];rfl
  have hxl := hlx _ (List.getElem_mem (show k < l.length by omega))
  rw [hxe]
  have hinv := A_r8inverse hM hxl hx2
  have hfl : invN M (l[k]'(by omega)) < 2 ^ M := invN_lt _
  generalize invN M (l[k]'(by omega)) = f at *
  have hBs := fun j => hsw.set (pm.getD p 0) (l := scV M f l j) (by rw [scV_length];exact hll) (scV_lt hM hfl hlx j)
  have hB1 := hBs C
  have hgB := fun j => getDB_set (Bl := Bl) (a := pm.getD p 0) (scV M f l j) (by omega)
  have hcl := fun q hq => clB_ok (k := k) hM hB1 hr q hq
  rw [hbk,hgB C] at hcl
  have hcs : ∀ q,clB M C k r (swp pm p r) (Bl.set (pm.getD p 0) (scV M f l C)) (q + 1) = if q = r then clB M C k r (swp pm p r) (Bl.set (pm.getD p 0) (scV M f l C)) q else (clB M C k r (swp pm p r) (Bl.set (pm.getD p 0) (scV M f l C)) q).set ((swp pm p r).getD q 0) (addV M (((clB M C k r (swp pm p r) (Bl.set (pm.getD p 0) (scV M f l C)) q).getD ((swp pm p r).getD q 0) []).getD k 0) ((clB M C k r (swp pm p r) (Bl.set (pm.getD p 0) (scV M f l C)) q).getD ((swp pm p r).getD q 0) []) (scV M f l C) C) := fun q => by
   rw [clB,hbk,hgB C]
  have hc0 : clB M C k r (swp pm p r) (Bl.set (pm.getD p 0) (scV M f l C)) 0 = Bl.set (pm.getD p 0) (scV M f l C) := rfl
  generalize clB M C k r (swp pm p r) (Bl.set (pm.getD p 0) (scV M f l C)) = CB at *
  have hnd := hsw.nd
  have hslt := hsw.lt
  have hspl := hsw.pl
  have hldS := fun q (hq : q < D) => sys_ld (v := v) (C := C) (p := q) (pm := swp pm p r) (by rw [hspl];exact hq)
  generalize hSW : swp pm p r = SW at *
  generalize pm.getD p 0 = a at *
  generalize pm.getD r 0 = ar at *
  (repeat' (first
   |(apply yFb;exact rfl;exact rfl)
   |(apply W.qd;(first
   |(exact zW (hinv))
   |((apply s_ld;exact rfl;exact rfl;assumption;exact rfl))
   |((apply s_ix;exact rfl;assumption;(iterate 3 exact rfl);omega))
   |((apply s_ldr;exact rfl;assumption;exact rfl;exact rfl;omega))
   |((exact q_len_bsl rfl rfl))
   |((apply q_ix_bsl;(iterate 4 exact rfl);omega))|(exact zM)|(exact zN)|(exact jAr)|(exact jAm)|(exact jAj)|(exact jBb)|(exact q_nil_opt rfl)
   |(apply (yEb (u := .d _));exact rfl;exact rfl)))|(apply W.en;((apply s_stb;(iterate 4 exact rfl);exact sys_set1;(simp only [List.length_map,List.length_set];omega))))|(apply yA)|(apply yB)|(apply (W.regionS 10);exact rfl;kernel_rfl)|(apply (W.regionDS 10);exact rfl;exact rfl;kernel_rfl)|(apply yE)|(refine jBc ?_)|(apply yH)|(apply yI)|(apply yK)|(apply yM)|(refine W.gT _ _ rfl rfl (fun hb => ?_) (fun hb => ?_) <;> ((try simp only [hb,zK]) <;> (try simp only [zL,zI] at hb) <;> (try (exfalso;omega))))
   |(refine W.cond _ rfl (fun hb => ?_) (fun hb => ?_) <;> ((try simp only [hb,zK]) <;> (try simp only [zL,zI] at hb) <;> (try (exfalso;omega))))))
  rw [hswd]
  have hset0 : Bl.set a (scV M f l 0) = Bl := by
   rw [scV,← hl];exact setB_self (by omega)
  (repeat' (first
   |(apply W.qd;(exact zN))|(apply yB)|(apply (W.regionS 11);exact rfl;kernel_rfl)|(apply yE)
   |(apply yG)))
  refine AWP.loopE (α := Nat) (fun j => j ≤ C) (fun j => ⟨[(10,iV j),(8,.osl (a + 2) v 0 C),(9,iV f),(0,.opt 0 0),(1,iV k),(2,iV r)],.box [iV M,.bsl 1 D c] :: .box (SW.map (ptrS v C)) :: (Bl.set a (scV M f l j)).map (rowE 3 v)⟩) (fun j => C - j) 0 (by omega) ⟨by rw [hset0],by (repeat (first | exact trivial | refine ⟨rfl,?_⟩))⟩ fun j hj => ?_
  have hlj : (scV M f l j).length = C := by rw [scV_length];exact hll
  have hxj := scV_lt hM hfl hlx j
  have hst : ∀ h,scV M f l (j + 1) = (scV M f l j).set j (mu M f ((scV M f l j)[j]'h)) := fun h => by
   rw [scV,List.getD_eq_getElem?_getD,List.getElem?_eq_getElem h];rfl
  by_cases hjC : j < C
  ·have hgj := (sys_get (t := 3) (v := v) (E0 := .box [iV M, .bsl 1 D c]) (E1 := .box (SW.map (ptrS v C))) (Bl := Bl.set a (scV M f l j)) (p := a) (by rw [List.length_set]; omega)).trans (by rw [hgB j])
   have hst2 := Lib.hid (hst (by omega))
   clear hcs hc0 hcl hB1 hBs hst
   have htm := A_r8times hM hfl (hxj _ (List.getElem_mem (show j < (scV M f l j).length by omega)))
   (repeat' (first
    |(apply W.qd;(first
    |(exact zW (htm))
    |((apply s_ix;exact rfl;assumption;(iterate 3 exact rfl);omega))
    |((apply s_ldr;exact rfl;assumption;exact rfl;exact rfl;omega))
    |((apply s_len;exact rfl;assumption;exact rfl))|(exact zM)|(exact zN)|(exact jAr)|(exact jAm)|(exact jAj)|(exact jAg)
    |(exact q_nil_opt rfl)))|(apply W.en;((apply s_str;exact rfl;assumption;(iterate 3 exact rfl);exact sys_set _;exact rfl;exact fun _ => rfl;omega)))|(apply yA)|(apply yB)|(refine jAe ?_)|(refine jAs ?_)|(apply yE)|(refine jBc ?_)|(apply yG)|(apply yH)|(apply yL)
    |(refine W.cond _ rfl (fun hb => ?_) (fun hb => ?_) <;> ((try simp only [hb,zK]) <;> (try simp only [zL,zI] at hb) <;> (try (exfalso;omega))))))
   refine ⟨j + 1,by omega,by omega,?_,iV_eq (by omega),rfl,rfl,rfl,rfl,rfl,trivial⟩
   show _ :: _ :: List.map _ (Bl.set a (scV M f l (j + 1))) = _ :: _ :: List.map _ ((Bl.set a (scV M f l j)).set a _)
   rw [hst2.out,List.set_set]
  have hjC' : j = C := by omega
  subst hjC'
  clear hst
  have hgj := (sys_get (t := 3) (v := v) (E0 := .box [iV M,.bsl 1 D c]) (E1 := .box (SW.map (ptrS v j))) (Bl := Bl.set a (scV M f l j)) (p := a) (by rw [List.length_set];omega)).trans (by rw [hgB j])
  generalize scV M f l j = x at *
  (repeat' (first
   |(apply W.qd;(first
   |((apply s_len;exact rfl;assumption;exact rfl))|(exact zM)|(exact zN)
   |(exact jAj)))|(apply yA)|(apply yB)|(apply (W.regionS 15);exact rfl;kernel_rfl)|(apply yE)|(apply yG)|(apply yI)|(apply yK)|(apply yM)
   |(refine W.cond _ rfl (fun hb => ?_) (fun hb => ?_) <;> ((try simp only [hb,zK]) <;> (try simp only [zL,zI] at hb) <;> (try (exfalso;omega))))))
  clear hgj
  refine AWP.loopE (α := Nat) (fun q => q ≤ D) (fun q => ⟨[(11,iV q),(8,.osl (a + 2) v 0 j),(0,.opt 0 0),(1,iV k),(2,iV r)],.box [iV M,.bsl 1 D c] :: .box (SW.map (ptrS v j)) :: (CB q).map (rowE 3 v)⟩) (fun q => D - q) 0 (by omega) ⟨by rw [hc0],by (repeat (first | exact trivial | refine ⟨rfl,?_⟩))⟩ fun q hq => ?_
  by_cases hqD : q < D
  ·have hld := hldS q hqD
   have hb := hslt q hqD
   obtain ⟨i1,i2⟩ := hcl q hq
   have ibl := i1.bl
   have hgT := sys_get (t := 3) (v := v) (E0 := .box [iV M,.bsl 1 D c]) (E1 := .box (SW.map (ptrS v j))) (Bl := CB q) (p := SW.getD q 0) (by omega)
   have hTm := getDB_mem (Bl := CB q) (a := SW.getD q 0) (by omega)
   have hTl := i1.rl _ hTm
   have hTx := i1.rx _ hTm
   have hstep := hcs q
   have hba : q ≠ r → SW.getD q 0 ≠ a := fun e1 e2 => e1 (hnd q r hqD hr (by rw [e2,hbk]))
   have hsetT : (CB q).set (SW.getD q 0) ((CB q).getD (SW.getD q 0) []) = CB q := setB_self (by omega)
   clear hcs hcl hBs hB1 hgB
   generalize hT : (CB q).getD (SW.getD q 0) [] = T at *
   generalize SW.getD q 0 = b at *
   have hTk : T.getD k 0 = T[k]'(by omega) := by rw [List.getD_eq_getElem?_getD,List.getElem?_eq_getElem (show k < T.length by omega)];rfl
   have hTkx := hTx _ (List.getElem_mem (show k < T.length by omega))
   by_cases hqr : q = r
   ·rw [if_pos hqr] at hstep
    (repeat' (first
     |(apply W.qd;(first
     |((apply s_ld;exact rfl;exact rfl;assumption;exact rfl))
     |((apply s_ix;exact rfl;assumption;(iterate 3 exact rfl);omega))
     |((apply s_ldr;exact rfl;assumption;exact rfl;exact rfl;omega))
     |((exact q_len_bsl rfl rfl))
     |((apply q_ix_bsl;(iterate 4 exact rfl);omega))|(exact zM)|(exact zN)|(exact jAr)|(exact jAm)|(exact jAj)|(exact jBb)|(exact jAg)|(exact q_nil_opt rfl)
     |(apply (yEb (u := .d _));exact rfl;exact rfl)))|(refine W.gOff _ _ rfl rfl (by intro h;cases h) ?_)|(apply yA)|(apply yB)|(refine jAe ?_)|(apply yE)|(apply yG)|(apply yH)|(apply yI)|(apply yK)|(apply yM)|(refine jBa ?_)|(refine W.gF _ _ rfl rfl (fun hb => ?_) (fun hb => ?_) <;> ((try simp only [hb,zK]) <;> (try simp only [zL,zI] at hb) <;> (try (exfalso;omega))))
     |(refine W.cond _ rfl (fun hb => ?_) (fun hb => ?_) <;> ((try simp only [hb,zK]) <;> (try simp only [zL,zI] at hb) <;> (try (exfalso;omega))))))
    refine ⟨q + 1,by omega,by omega,?_,iV_eq (by omega),rfl,rfl,rfl,rfl,trivial⟩
    show _ :: _ :: List.map _ (CB (q + 1)) = _
    rw [hstep]
   ·rw [if_neg hqr, hTk] at hstep
    have hba := hba hqr
    by_cases hz : T[k]'(by omega) = 0
    ·rw [hz, addV_zero, hsetT] at hstep
     (repeat' (first
      |(apply yFb;exact rfl;exact rfl)
      |(apply W.qd;(first
      |((apply s_ld;exact rfl;exact rfl;assumption;exact rfl))
      |((apply s_ix;exact rfl;assumption;(iterate 3 exact rfl);omega))
      |((apply s_ldr;exact rfl;assumption;exact rfl;exact rfl;omega))
      |((exact q_len_bsl rfl rfl))
      |((apply q_ix_bsl;(iterate 4 exact rfl);omega))|(exact zM)|(exact zN)|(exact jAr)|(exact jAm)|(exact jAj)|(exact jBb)|(exact jAg)|(exact q_nil_opt rfl)
      |(apply (yDb (u := .d _));exact rfl;exact rfl)))|(apply yA)|(apply yB)|(refine jAe ?_)|(apply yE)|(apply yG)|(apply yH)|(apply yI)|(apply yK)|(apply yM)|(refine W.gF _ _ rfl rfl (fun hb => ?_) (fun hb => ?_) <;> ((try simp only [hb,zK]) <;> (try simp only [zL,zI] at hb) <;> (try (exfalso;omega))))
      |(refine W.cond _ rfl (fun hb => ?_) (fun hb => ?_) <;> ((try simp only [hb,zK]) <;> (try simp only [zL,zI] at hb) <;> (try (exfalso;omega))))))
     refine ⟨q + 1,by omega,by omega,?_,iV_eq (by omega),rfl,rfl,rfl,rfl,trivial⟩
     show _ :: _ :: List.map _ (CB (q + 1)) = _
     rw [hstep]
    ·(repeat' (first
     |(apply yFb;exact rfl;exact rfl)
     |(apply W.qd;(first
     |((apply s_ld;exact rfl;exact rfl;assumption;exact rfl))
     |((apply s_ix;exact rfl;assumption;(iterate 3 exact rfl);omega))
     |((apply s_ldr;exact rfl;assumption;exact rfl;exact rfl;omega))
     |((exact q_len_bsl rfl rfl))
     |((apply q_ix_bsl;(iterate 4 exact rfl);omega))|(exact zM)|(exact zN)|(exact jAr)|(exact jAm)|(exact jAj)|(exact jBb)|(exact q_nil_opt rfl)
     |(apply (yDb (u := .d _));exact rfl;exact rfl)))|(apply yA)|(apply yB)|(apply (W.regionS 20);exact rfl;kernel_rfl)|(apply yE)|(apply yG)|(apply yH)|(refine W.gF _ _ rfl rfl (fun hb => ?_) (fun hb => ?_) <;> ((try simp only [hb,zK]) <;> (try simp only [zL,zI] at hb) <;> (try (exfalso;omega))))
     |(refine W.cond _ rfl (fun hb => ?_) (fun hb => ?_) <;> ((try simp only [hb,zK]) <;> (try simp only [zL,zI] at hb) <;> (try (exfalso;omega))))))
     have hgT0 := hgT
     clear hgT
     generalize hg : T[k]'(by omega) = g at *
     refine AWP.loopE (α := Nat) (fun i => i ≤ j) (fun i => ⟨[(13,iV i),(12,iV g),(11,iV q),(8,.osl (a + 2) v 0 j),(0,.opt 0 0),(1,iV k),(2,iV r)],.box [iV M,.bsl 1 D c] :: .box (SW.map (ptrS v j)) :: ((CB q).set b (addV M g T x i)).map (rowE 3 v)⟩) (fun i => j - i) 0 (by omega) ⟨by rw [addV,hsetT],by (repeat (first | exact trivial | refine ⟨rfl,?_⟩))⟩ fun i hi => ?_
     have hli : (addV M g T x i).length = j := by rw [addV_length];exact hTl
     have hxi := addV_lt hM hTkx hTx i (l := x)
     have hgA : (.box [iV M,.bsl 1 D c] :: .box (SW.map (ptrS v j)) :: ((CB q).set b (addV M g T x i)).map (rowE 3 v))[a + 2]? = some (Ent.row v 1 3 (x.map kD)) :=
      (sys_get (by rw [List.length_set];omega)).trans (by rw [getDB_ne _ hba,i2])
     have hgI : (.box [iV M,.bsl 1 D c] :: .box (SW.map (ptrS v j)) :: ((CB q).set b (addV M g T x i)).map (rowE 3 v))[b + 2]? = some (Ent.row v 1 3 ((addV M g T x i).map kD)) :=
      (sys_get (by rw [List.length_set];omega)).trans (by rw [getDB_set _ (by omega)])
     have hst : ∀ h h',addV M g T x (i + 1) = (addV M g T x i).set i ((addV M g T x i)[i]'h ^^^ mu M g (x[i]'h')) := fun h h' => by
      rw [addV,List.getD_eq_getElem?_getD,List.getElem?_eq_getElem h,List.getD_eq_getElem?_getD,List.getElem?_eq_getElem h'];rfl
     by_cases hij : i < j
     ·have hst2 := Lib.hid (hst (by omega) (by omega))
      clear hst
      have hxm := hxj _ (List.getElem_mem (show i < x.length by omega))
      have htm := A_r8times hM hTkx hxm
      have hc1 := hM.cap (hxi _ (List.getElem_mem (show i < (addV M g T x i).length by omega)))
      have hc2 := hM.cap (mu_lt hM hTkx (x[i]'(by omega)))
      (repeat' (first
       |(apply W.qd;(first
       |(exact zW (htm))
       |((apply s_ld;exact rfl;exact rfl;assumption;exact rfl))
       |((apply s_ix;exact rfl;assumption;(iterate 3 exact rfl);omega))
       |((apply s_ldr;exact rfl;assumption;exact rfl;exact rfl;omega))
       |((apply s_len;exact rfl;assumption;exact rfl))
       |((apply q_ix_bsl;(iterate 4 exact rfl);omega))|(exact zM)|(exact zN)|(exact jAr)|(exact jAm)|(exact jAj)|(exact jAg)|(exact q_nil_opt rfl)
       |(exact jAa)))|(apply W.en;((apply s_str;exact rfl;assumption;(iterate 3 exact rfl);exact sys_set _;exact rfl;exact fun _ => rfl;omega)))|(apply yA)|(apply yB)|(refine jAe ?_)|(refine jAs ?_)|(apply yE)|(refine jBc ?_)|(apply yG)|(apply yH)|(apply yL)
       |(refine W.cond _ rfl (fun hb => ?_) (fun hb => ?_) <;> ((try simp only [hb,zK]) <;> (try simp only [zL,zI] at hb) <;> (try (exfalso;omega))))))
      refine ⟨i + 1,by omega,by omega,?_,iV_eq (by omega),rfl,rfl,rfl,rfl,rfl,rfl,trivial⟩
      show _ :: _ :: List.map _ ((CB q).set b (addV M g T x (i + 1))) = _ :: _ :: List.map _ (((CB q).set b (addV M g T x i)).set b _)
      rw [hst2.out,List.set_set]
     ·have hij' : i = j := by omega
      subst hij'
      clear hst hgI
      (repeat' (first
       |(apply W.qd;(first
       |((apply s_len;exact rfl;assumption;exact rfl))|(exact zM)|(exact zN)|(exact jAj)
       |(exact jAg)))|(apply yA)|(apply yB)|(refine jAe ?_)|(apply yE)|(apply yI)|(apply yK)|(apply yL)|(apply yM)
       |(refine W.cond _ rfl (fun hb => ?_) (fun hb => ?_) <;> ((try simp only [hb,zK]) <;> (try simp only [zL,zI] at hb) <;> (try (exfalso;omega))))))
      refine ⟨q + 1,by omega,by omega,?_,iV_eq (by omega),rfl,rfl,rfl,rfl,trivial⟩
      show _ :: _ :: List.map _ (CB (q + 1)) = _
      rw [hstep]
  ·have hqD' : q = D := by omega
   subst hqD'
   (repeat' (first
    |(apply W.qd;(first
    |((exact q_len_bsl rfl rfl))|(exact zM)|(exact zN)|(exact jAr)|(exact jAm)|(exact jAj)
    |(exact q_nil_opt rfl)))|(apply yA)|(apply yB)|(refine jAe ?_)|(apply yE)|(apply yI)|(apply yJ)|(apply yK)|(apply yM)
    |(refine W.cond _ rfl (fun hb => ?_) (fun hb => ?_) <;> ((try simp only [hb,zK]) <;> (try simp only [zL,zI] at hb) <;> (try (exfalso;omega))))))
   exact EndsS.b rfl rfl
end
section
set_option linter.unusedSectionVars false
theorem scV_get (M f : Nat) (l : List Nat) : ∀ n, n ≤ l.length → ∀ i, i < l.length → (scV M f l n).getD i 0 = if i < n then mu M f (l.getD i 0) else l.getD i 0
 | 0,_,i,_ => by rw [scV,if_neg (by omega)]
 | n + 1,hn,i,hi => by
   have ih := scV_get M f l n (by omega)
   rw [scV]
   by_cases e : n = i
   ·subst e
    rw [getD_set_eq (by rw [scV_length];exact hi),ih n hi,if_neg (by omega),if_pos (by omega)]
   ·rw [getD_set_ne' e, ih i hi]
    by_cases h : i < n
    ·rw [if_pos h,if_pos (by omega)]
    ·rw [if_neg h,if_neg (by omega)]
def lgN (pm : List Nat) (Bl : List (List Nat)) (q j : Nat) : Nat := (Bl.getD (pm.getD q 0) []).getD j 0
theorem clB_get {M D C k r : Nat} {pm : List Nat} {Bl : List (List Nat)} (hM : FldM M) (h : SysOk M D C pm Bl) (hr : r < D) : ∀ q, q ≤ D → ∀ q' j, q' < D → j < C → lgN pm (clB M C k r pm Bl q) q' j = if q' < q ∧ q' ≠ r then lgN pm Bl q' j ^^^ mu M (lgN pm Bl q' k) (lgN pm Bl r j) else lgN pm Bl q' j
 | 0,_,q',j,_,_ => by rw [clB,if_neg (by omega)]
 | q + 1,hq,q',j,hq',hj => by
   have ih0 := clB_get (k := k) hM h hr q (by omega)
   have ih := fun j hq' hj => ih0 q' j hq' hj
   obtain ⟨i1,_⟩ := clB_ok (k := k) hM h hr q (by omega)
   rw [clB]
   by_cases e : q = r
   ·rw [if_pos e, ih j hq' hj]
    by_cases h1 : q' < q ∧ q' ≠ r
    ·rw [if_pos h1,if_pos ⟨by omega,h1.2⟩]
    ·rw [if_neg h1,if_neg (by omega)]
   ·rw [if_neg e]
    by_cases e2 : q' = q
    ·subst e2
     have hb := h.lt q' hq'
     have hm := getDB_mem (Bl := clB M C k r pm Bl q') (a := pm.getD q' 0) (by rw [i1.bl];exact hb)
     have hl := i1.rl _ hm
     rw [if_pos ⟨by omega,e⟩]
     have hT : ∀ j,j < C → ((clB M C k r pm Bl q').getD (pm.getD q' 0) []).getD j 0 = lgN pm Bl q' j := fun j hj => by
      have := ih0 q' j hq' hj
      rw [if_neg (by omega)] at this
      exact this
     unfold lgN at hT ⊢
     rw [getDB_set _ (by rw [i1.bl];exact hb),addV_get M _ _ _ C (by omega) j (by omega),if_pos hj,hT j hj]
     by_cases hk : k < C
     ·rw [hT k hk]
     ·have z1 : ((clB M C k r pm Bl q').getD (pm.getD q' 0) []).getD k 0 = 0 := by
       rw [List.getD_eq_getElem?_getD,List.getElem?_eq_none (by omega)];rfl
      have hm2 := getDB_mem (Bl := Bl) (a := pm.getD q' 0) (by rw [h.bl];exact hb)
      have z2 : (Bl.getD (pm.getD q' 0) []).getD k 0 = 0 := by
       rw [List.getD_eq_getElem?_getD,List.getElem?_eq_none (by rw [h.rl _ hm2];omega)];rfl
      rw [z1,z2]
    ·have hne : pm.getD q 0 ≠ pm.getD q' 0 := fun e3 => e2 (h.nd q q' (by omega) hq' e3).symm
     have hs : ∀ l j,lgN pm ((clB M C k r pm Bl q).set (pm.getD q 0) l) q' j = lgN pm (clB M C k r pm Bl q) q' j := fun l j => by
      unfold lgN;rw [getDB_ne _ hne]
     rw [hs,ih j hq' hj]
     by_cases h1 : q' < q ∧ q' ≠ r
     ·rw [if_pos h1,if_pos ⟨by omega,h1.2⟩]
     ·rw [if_neg h1,if_neg (by omega)]
def RelL (D C : Nat) (pm : List Nat) (Bl : List (List Nat)) (A : List Nat) : Prop := ∀ q,q < D → ∀ j,j < C → lgN pm Bl q j = gt C A q j
theorem find_rel {D C k : Nat} {pm : List Nat} {Bl : List (List Nat)} {A : List Nat} (h : RelL D C pm Bl A) (hk : k < C) : ∀ n p, p + n ≤ D → findL pm Bl k n p = findP C k A n p
 | 0,p,_ => rfl
 | n + 1,p,hp => by
   rw [findL,findP]
   have h1 := h p (by omega) k hk
   unfold lgN gt at h1
   rw [h1,find_rel h hk n (p + 1) (by omega)]
theorem elim_rel {M D C k r P : Nat} {pm : List Nat} {Bl : List (List Nat)} {A pv : List Nat} (hM : FldM M) (hs : SysOk M D C pm Bl) (h : RelL D C pm Bl A) (hA : A.length = D * C) (hpv : pv.length = r) (hk : k < C) (hr : r < D) (hP : findL pm Bl k (D - r) r = P) (hPD : P < D) :
 (redStep M D C k (A,pv)).2 = pv ++ [k] ∧
 SysOk M D C (swp pm P r) (clB M C k r (swp pm P r) (Bl.set (pm.getD P 0) (scV M (invN M ((Bl.getD (pm.getD P 0) []).getD k 0)) (Bl.getD (pm.getD P 0) []) C)) D) ∧
 RelL D C (swp pm P r) (clB M C k r (swp pm P r) (Bl.set (pm.getD P 0) (scV M (invN M ((Bl.getD (pm.getD P 0) []).getD k 0)) (Bl.getD (pm.getD P 0) []) C)) D) (redStep M D C k (A,pv)).1 := by
 have hPr := (findL_le pm Bl k (D - r) r).1
 have hf := find_rel h hk (D - r) r (by omega)
 rw [hP] at hf
 have hsw := hs.swp hPD hr
 have hsg := fun q => swp_get (pm := pm) (p := P) (r := r) (q := q) (by rw [hs.pl];exact hPD) (by rw [hs.pl];exact hr)
 have ha := hs.lt P hPD
 have hm := getDB_mem (Bl := Bl) (a := pm.getD P 0) (by rw [hs.bl];exact ha)
 have hll := hs.rl _ hm
 have hlx := hs.rx _ hm
 have hxk : ((Bl.getD (pm.getD P 0) []).getD k 0) = gt C A P k := h P hPD k hk
 have hfl : invN M ((Bl.getD (pm.getD P 0) []).getD k 0) < 2 ^ M := invN_lt _
 have hB1 := hsw.set (pm.getD P 0) (l := scV M (invN M ((Bl.getD (pm.getD P 0) []).getD k 0)) (Bl.getD (pm.getD P 0) []) C) (by rw [scV_length];exact hll) (scV_lt hM hfl hlx C)
 unfold redStep
 dsimp only
 rw [hpv,← hf,if_neg (by omega)]
 refine ⟨rfl,(clB_ok hM hB1 hr D (Nat.le_refl _)).1,fun q hq j hj => ?_⟩
 rw [clB_get hM hB1 hr D (Nat.le_refl _) q j hq hj]
 have s1 : ∀ q c,c < C → gt C (swapAt (P * C) (r * C) A C) q c = if q = P then gt C A r c else if q = r then gt C A P c else gt C A q c := fun q c hc => gt_swap hA hPD hr hc
 have l1 : (swapAt (P * C) (r * C) A C).length = D * C := by rw [swapAt_length];exact hA
 have hxe : (swapAt (P * C) (r * C) A C).getD (r * C + k) 0 = gt C A P k := by
  show gt C (swapAt (P * C) (r * C) A C) r k = _
  rw [s1 r k hk]
  by_cases e : r = P
  ·rw [if_pos e,e]
  ·rw [if_neg e,if_pos rfl]
 rw [hxe,hxk]
 generalize swapAt (P * C) (r * C) A C = L1 at *
 generalize invN M (gt C A P k) = f at *
 have s2 : ∀ q c,c < C → gt C (scaleAt M f (r * C) L1 C) q c = if q = r then mu M f (gt C L1 r c) else gt C L1 q c := fun q c hc => gt_scale l1 hr hc
 have l2 : (scaleAt M f (r * C) L1 C).length = D * C := by rw [scaleAt_length];exact l1
 generalize scaleAt M f (r * C) L1 C = L2 at *
 have key : ∀ q,q < D → ∀ c,c < C → lgN (swp pm P r) (Bl.set (pm.getD P 0) (scV M f (Bl.getD (pm.getD P 0) []) C)) q c = gt C L2 q c := fun q hq c hc => by
  rw [s2 q c hc]
  unfold lgN
  rw [hsg q]
  by_cases e1 : q = r
  ·rw [if_pos e1, if_pos e1, getDB_set _ (by rw [hs.bl]; exact ha), scV_get M f _ C (by omega) c (by omega), if_pos hc, s1 r c hc]
   have := h P hPD c hc
   unfold lgN at this
   rw [this]
   by_cases e : r = P
   ·rw [if_pos e,e]
   ·rw [if_neg e,if_pos rfl]
  ·rw [if_neg e1, if_neg e1, s1 q c hc]
   by_cases e2 : q = P
   ·rw [if_pos e2, if_pos e2, getDB_ne _ (fun e3 => e1 (by rw [e2]; exact hs.nd P r hPD hr e3))]
    exact h r hr c hc
   ·rw [if_neg e2, if_neg e2, if_neg e1, getDB_ne _ (fun e3 => e2 (hs.nd P q hPD hq e3).symm)]
    exact h q hq c hc
 rw [gt_clear l2 hk hq hj,key q hq j hj,key q hq k hk,key r hr j hj]
 by_cases e : q = r
 ·rw [if_neg (by omega),if_pos e,e]
 ·rw [if_pos ⟨hq,e⟩,if_neg e]
end
section
def eqA (rows : List (List Nat)) (t : List Nat) (k i : Nat) : List Nat := (List.range k).map fun c => exCol rows t c i
theorem eqA_length (rows : List (List Nat)) (t : List Nat) (k i : Nat) : (eqA rows t k i).length = k := by simp [eqA]
theorem eqA_succ (rows : List (List Nat)) (t : List Nat) (k i : Nat) : eqA rows t (k + 1) i = eqA rows t k i ++ [exCol rows t k i] := by
 unfold eqA;rw [List.range_succ,List.map_append];rfl
def blA (rows : List (List Nat)) (t : List Nat) (C j : Nat) : List (List Nat) := (List.range j).map (eqA rows t C)
theorem blA_length (rows : List (List Nat)) (t : List Nat) (C j : Nat) : (blA rows t C j).length = j := by simp [blA]
theorem blA_succ (rows : List (List Nat)) (t : List Nat) (C j : Nat) : blA rows t C (j + 1) = blA rows t C j ++ [eqA rows t C j] := by
 unfold blA;rw [List.range_succ,List.map_append];rfl
theorem range_getD {D q : Nat} (h : q < D) : (List.range D).getD q 0 = q := by
 rw [List.getD_eq_getElem?_getD,List.getElem?_range h];rfl
theorem blA_getD {rows : List (List Nat)} {t : List Nat} {C D q : Nat} (h : q < D) : (blA rows t C D).getD q [] = eqA rows t C q := by
 unfold blA
 rw [List.getD_eq_getElem?_getD,List.getElem?_map,List.getElem?_range h];rfl
theorem blA_ok {M D : Nat} {rows : List (List Nat)} {t : List Nat} (hM : FldM M) (hr : ∀ r ∈ rows,∀ x ∈ r,x < 2 ^ M) (ht : ∀ x ∈ t,x < 2 ^ M) (C : Nat) : SysOk M D C (List.range D) (blA rows t C D) := by
 refine ⟨List.length_range,fun q q' h h' e => by rw [range_getD h,range_getD h'] at e;exact e,fun q h => by rw [range_getD h];exact h,blA_length ..,fun l hl => ?_,fun l hl x hx => ?_⟩
 ·obtain ⟨i, _, rfl⟩ := List.mem_map.1 hl
  exact eqA_length ..
 ·obtain ⟨i, _, rfl⟩ := List.mem_map.1 hl
  obtain ⟨c,_,rfl⟩ := List.mem_map.1 hx
  exact exCol_lt hM hr ht c i
theorem blA_rel {D : Nat} (rows : List (List Nat)) (t : List Nat) : RelL D (rows.length + 1) (List.range D) (blA rows t (rows.length + 1) D) (exM D rows t) := fun q hq j hj => by
 rw [exM_gt rows t hq hj]
 unfold lgN
 rw [range_getD hq,blA_getD hq]
 unfold eqA
 rw [List.getD_eq_getElem?_getD,List.getElem?_map,List.getElem?_range hj];rfl
def exprA : Option (List Nat) → AV
 | some K => .tup [nats K,bV true]
 | none => .tup [nats [],bV false]
theorem AVle.gh0 : AVle .top (.gh [] []) := fun F own κ w u _ => by rw [AV.sat,AV.satL];trivial
theorem exR_len_mono (M D : Nat) (rows : List (List Nat)) (t : List Nat) (k : Nat) : ∀ d, (exR M D rows t (k + d)).2.length ≤ (exR M D rows t k).2.length + d
 | 0 => Nat.le_refl _
 | d + 1 => by
   have ih := exR_len_mono M D rows t k d
   have : (exR M D rows t (k + (d + 1))).2.length ≤ (exR M D rows t (k + d)).2.length + 1 := by
    show (redStep M D (rows.length + 1) (k + d) (exR M D rows t (k + d))).2.length ≤ _
    generalize exR M D rows t (k + d) = s
    unfold redStep
    dsimp only
    split
    ·omega
    ·rw [List.length_append];exact Nat.le_refl _
   omega
attribute [local irreducible] Quiet Eff OpOk AWPG ACont ABlock ACalls AGoto
theorem A_express {M D : Nat} {rows : List (List Nat)} {t : List Nat} (hM : FldM M) (hD0 : 0 < D) (hD : D ≤ 32) (hn : rows.length ≤ 32) (hrl : ∀ r ∈ rows, r.length = D) (htl : t.length = D) (hr : ∀ r ∈ rows, ∀ x ∈ r, x < 2 ^ M) (ht : ∀ x ∈ t, x < 2 ^ M) :
 ACalls Tryz.prog 219 [iV M,rowsN rows,nats t] [] (exprA (exprN M D rows t)) [] := by
 refine acalls_of_bodyO Tryz.func219 rfl (zU rfl) ?_
 have hmr : (rows.map rnD).length = rows.length := List.length_map _
 have hmt : (t.map kD).length = t.length := List.length_map _
 obtain ⟨C,hC⟩ : ∃ C,rows.length + 1 = C := ⟨_,rfl⟩
 (repeat' (first
  |(apply W.qd;(first
  |(exact zM)|(exact zN)
  |(exact jBe)))|(apply W.ed;(exact jAc))|(apply yA)|(apply yB)|(apply (W.regionS 2);exact rfl;kernel_rfl)
  |(apply yE)))
 refine AWP.nilBox (l' := [iV M,.osl 1 0 0 0]) 0 1 1 91 rfl rfl (by omega) rfl rfl rfl rfl ?_
 refine AWP.le 999 (.gh [] []) rfl AVle.gh0 ?_
 (repeat' (first
  |(apply W.qd;(exact zN))|(apply yB)|(apply (W.regionS 3);exact rfl;kernel_rfl)|(apply yE)
  |(apply yG)))
 refine AWP.loopE (α := Nat × List Value) (fun s => s.1 ≤ D ∧ s.1 = s.2.length) (fun s => ⟨[(9,iV s.1),(8,.opt 0 0),(0,iV M),(1,rowsN rows),(2,nats t),(999,.gh ((List.range s.1).map (ptrS C C)) s.2)],.box [iV M,.osl 1 s.1 0 s.1] :: .row s.1 1 91 (s.2.map xD) :: (blA rows t C s.1).map (rowE 3 C)⟩) (fun s => D - s.1) (0,[]) ⟨Nat.zero_le _,rfl⟩ ⟨rfl,by (repeat (first | exact trivial | refine ⟨rfl,?_⟩))⟩ fun s hs => ?_
 obtain ⟨j,vs⟩ := s
 obtain ⟨hj,hvs⟩ := hs
 dsimp only at hj hvs ⊢
 have hLl : ((blA rows t C j).map (rowE 3 C)).length = j := by rw [List.length_map,blA_length]
 have hbs : (blA rows t C (j + 1)).map (rowE 3 C) = (blA rows t C j).map (rowE 3 C) ++ [.row C 1 3 ((eqA rows t C j).map kD)] := by rw [blA_succ,List.map_append];rfl
 by_cases hjD : j < D
 ·(repeat' (first
  |(apply W.qd;(first
  |(exact zM)|(exact zN)|(exact jAj)
  |(exact jB)))|(apply yA)|(apply yB)|(apply (W.regionS 6);exact rfl;kernel_rfl)|(apply yE)|(apply yG)|(apply yH)
  |(refine W.cond _ rfl (fun hb => ?_) (fun hb => ?_) <;> ((try simp only [hb,zK]) <;> (try simp only [zL,zI] at hb) <;> (try (exfalso;omega))))))
  refine AWP.nilRow 10 1 3 rfl (by omega) ?_
  generalize (blA rows t C j).map (rowE 3 C) = L at *
  refine AWP.wkE ⟨[(10,.osl (j + 2) 0 0 0),(9,iV j),(8,.opt 0 0),(0,iV M),(1,rowsN rows),(2,nats t),(999,.gh ((List.range j).map (ptrS C C)) vs)],.box [iV M,.osl 1 j 0 j] :: .row j 1 91 (vs.map xD) :: (L ++ [.row 0 1 3 []])⟩ ⟨rfl,congrArg (fun n => AV.osl n 0 0 0) (by simp [hLl]),rfl,rfl,rfl,rfl,rfl,rfl,trivial⟩ ?_
  (repeat' (first
   |(apply W.qd;(exact zN))|(apply yB)|(apply (W.regionS 7);exact rfl;kernel_rfl)|(apply yE)
   |(apply yG)))
  refine AWP.loopE (α := Nat) (fun k => k ≤ rows.length) (fun k => ⟨[(11,iV k),(10,.osl (j + 2) k 0 k),(9,iV j),(8,.opt 0 0),(0,iV M),(1,rowsN rows),(2,nats t),(999,.gh ((List.range j).map (ptrS C C)) vs)],.box [iV M,.osl 1 j 0 j] :: .row j 1 91 (vs.map xD) :: (L ++ [.row k 1 3 ((eqA rows t k j).map kD)])⟩) (fun k => rows.length - k) 0 (Nat.zero_le _) ⟨rfl,by (repeat (first | exact trivial | refine ⟨rfl,?_⟩))⟩ fun k hk => ?_
  have hes := eqA_succ rows t k j
  have hel := eqA_length rows t k j
  have hp : ((.box [iV M,.osl 1 j 0 j] :: .row j 1 91 (vs.map xD) :: (L ++ [.row k 1 3 ((eqA rows t k j).map kD)])) : List Ent)[j + 2]? = some (.row k 1 3 ((eqA rows t k j).map kD)) := dyn_last hLl
  by_cases hkn : k < rows.length
  ·have hrk := hrl _ (List.getElem_mem hkn)
   have hex : exCol rows t k j = (rows[k])[j]'(by omega) := by
    unfold exCol
    rw [if_pos hkn,List.getD_eq_getElem?_getD,List.getD_eq_getElem?_getD,List.getElem?_eq_getElem hkn]
    show (rows[k])[j]?.getD 0 = _
    rw [List.getElem?_eq_getElem (show j < rows[k].length by omega)];rfl
   rw [hex] at hes
   replace hes := Lib.hid hes
   (repeat' (first
    |(apply W.qd;(first
    |(exact zM)|(exact zN)|(exact jAj)|(exact jAg)|(exact jB)|(exact jAd)|(exact jAl)
    |(exact jA)))|(apply W.ed;((apply (s_app1 (f := kD) ((rows[k])[j]'(by omega)));exact rfl;assumption;exact rfl;exact dyn_setl hLl;(iterate 3 exact rfl);exact hel.symm;omega)))|(apply yA)|(apply yB)|(refine jAe ?_)|(apply yE)|(apply yG)|(apply yH)|(apply yL)
    |(refine W.cond _ rfl (fun hb => ?_) (fun hb => ?_) <;> ((try simp only [hb,zK]) <;> (try simp only [zL,zI] at hb) <;> (try (exfalso;omega))))))
   refine ⟨k + 1,by omega,by omega,?_,iV_eq (by omega),rfl,rfl,rfl,rfl,rfl,rfl,rfl,trivial⟩
   rw [hes.out]
  ·have hkn' : k = rows.length := by omega
   subst hkn'
   have hex : exCol rows t rows.length j = t[j]'(by omega) := by
    unfold exCol
    rw [if_neg (by omega),List.getD_eq_getElem?_getD,List.getElem?_eq_getElem (show j < t.length by omega)];rfl
   rw [hex,hC] at hes
   replace hes := Lib.hid hes
   (repeat' (first
    |(apply W.qd;(first
    |(exact zM)|(exact zN)|(exact jAj)|(exact jB)|(exact jAd)|(exact jAl)
    |(exact jA)))|(apply W.ed;((apply (s_app1 (f := kD) (t[j]'(by omega)));exact rfl;assumption;exact rfl;exact dyn_setl hLl;(iterate 3 exact rfl);exact hel.symm;omega)))|(apply yA)|(apply yB)|(apply (W.regionS 11);exact rfl;kernel_rfl)|(apply yE)|(apply yI)|(apply yK)|(apply yM)
    |(refine W.cond _ rfl (fun hb => ?_) (fun hb => ?_) <;> ((try simp only [hb,zK]) <;> (try simp only [zL,zI] at hb) <;> (try (exfalso;omega))))))
   rw [hC,← hes.out]
   refine AWP.name 10 999 (j + 2) rfl (dyn_last hLl) rfl (by omega) fun g cc => ?_
   (repeat' (first
    |(apply W.qd;(first
    |(exact zM)|(exact zN)|(exact jAr)|(exact jAm)|(exact jAg)|(exact q_nil_opt rfl)
    |(exact jAl)))|(apply W.ed;((apply (s_app1 (f := xD) (.slice (some ⟨g,0,none⟩) C cc));(iterate 7 exact rfl);exact hvs;omega)))|(apply W.ln;(exact jAh))|(apply yB)|(refine jAe ?_)|(apply yE)
    |(apply yL)))
   refine ⟨(j + 1,vs ++ [.slice (some ⟨g,0,none⟩) C cc]),⟨by show j + 1 ≤ D;omega,by show j + 1 = _;simp [hvs]⟩,by show D - (j + 1) < D - j;omega,?_,iV_eq (by show ((j + 1 : Nat) : Int) = _;omega),rfl,rfl,rfl,rfl,?_,trivial⟩
   ·show _ = _
    dsimp only
    rw [hbs]
    rfl
   ·show AV.gh _ _ = AV.gh _ _
    dsimp only
    rw [List.range_succ,List.map_append];rfl
 ·have hjD' : j = D := by omega
  subst hjD'
  clear hbs hLl
  (repeat' (first
   |(apply W.qd;(first
   |(exact zM)|(exact jAj)
   |(exact jB)))|(apply yA)|(apply yB)|(apply (W.regionS 12);exact rfl;kernel_rfl)|(apply yE)|(apply yI)|(apply yK)|(apply yM)
   |(refine W.cond _ rfl (fun hb => ?_) (fun hb => ?_) <;> ((try simp only [hb,zK]) <;> (try simp only [zL,zI] at hb) <;> (try (exfalso;omega))))))
  refine AWP.recast (α := Nat) (fun c => ⟨[(8,.opt 0 0),(0,iV M),(1,rowsN rows)],sysO 3 M C C c j (List.range j) (blA rows t C j)⟩) rfl (fun F κ w a he ho => ?_) fun c => ?_
  ·have hg := he 999
   change AV.sat F _ κ w (.gh ((List.range j).map (ptrS C C)) vs) _ at hg
   rw [AV.sat] at hg
   obtain ⟨c,hc⟩ := sys_thaw hD0 (blA_length rows t C j) hvs.symm ho hg
   refine ⟨c,env_of fun p hp => ?_,hc⟩
   have h0 := he 0
   have h1 := he 1
   have h8 := he 8
   change AV.sat F _ κ w (iV M) _ at h0
   change AV.sat F _ κ w (rowsN rows) _ at h1
   change AV.sat F _ κ w (.opt 0 0) _ at h8
   simp only [List.mem_cons,List.not_mem_nil,or_false] at hp
   rcases hp with rfl | rfl | rfl
   ·rw [AV.sat] at h8 ⊢
    obtain ⟨g,l,q1,q2,q3⟩ := h8
    exact ⟨g,_,rfl,q2,q3⟩
   ·rw [AV.sat] at h0 ⊢;exact h0
   ·rw [AV.sat] at h1 ⊢;exact h1
  clear hvs
  have hok0 := blA_ok (D := j) hM hr ht C
  have hrel0 := blA_rel (D := j) rows t
  rw [hC] at hrel0
  generalize blA rows t C j = Bl0 at *
  have hAl := fun k => (red_ok hM (exM_length j rows t) (exM_lt hM hr ht) k).len
  have hApr := fun k => (red_ok hM (exM_length j rows t) (exM_lt hM hr ht) k).pr
  have hmono := exR_len_mono M j rows t
  have hst : ∀ k,exR M j rows t (k + 1) = redStep M j C k (exR M j rows t k) := fun k => by rw [← hC];rfl
  have hst0 : exR M j rows t 0 = (exM j rows t,[]) := rfl
  change ∀ k,(exR M j rows t k).1.length = _ at hAl
  change ∀ k,(exR M j rows t k).2.length ≤ j at hApr
  have hEx : exprN M j rows t = if (exR M j rows t rows.length).2.length = rows.length ∧ ∀ q,q < j → rows.length ≤ q → gt C (exR M j rows t rows.length).1 q rows.length = 0 then some ((List.range rows.length).map fun k => gt C (exR M j rows t rows.length).1 k rows.length) else none := by unfold exprN;rw [hC]
  rw [hC] at hAl
  generalize exprN M j rows t = EX at *
  generalize exR M j rows t = XR at *
  (repeat' (first
   |(apply W.qd;(exact zN))|(apply yB)|(apply (W.regionS 13);exact rfl;kernel_rfl)|(apply yE)
   |(apply yG)))
  refine AWP.loopE (α := Nat × List Nat × List (List Nat)) (fun s => s.1 ≤ rows.length ∧ SysOk M j C s.2.1 s.2.2 ∧ RelL j C s.2.1 s.2.2 (XR s.1).1 ∧ (XR s.1).2.length = s.1) (fun s => ⟨[(12,iV s.1),(8,.opt 0 0),(0,iV M),(1,rowsN rows)],sysO 3 M C C c j s.2.1 s.2.2⟩) (fun s => rows.length - s.1) (0,List.range j,Bl0) ⟨Nat.zero_le _,hok0,by rw [hst0];exact hrel0,by rw [hst0];rfl⟩ ⟨rfl,by (repeat (first | exact trivial | refine ⟨rfl,?_⟩))⟩ fun s hs => ?_
  obtain ⟨k,pm,Bl⟩ := s
  obtain ⟨hk,hok,hrel,hXl⟩ := hs
  dsimp only at hk hok hrel hXl ⊢
  clear hok0 hrel0
  by_cases hkn : k < rows.length
  ·have hkj := hApr k
   rw [hXl] at hkj
   have hf := find_rel hrel (k := k) (by omega) (j - k) k (by omega)
   have hfl := findL_le pm Bl k (j - k) k
   by_cases hP : findL pm Bl k (j - k) k = j
   ·have hno := A_elim_no (M := M) (v := C) (c := c) hok (by omega) hkj (by omega) (by omega) hP
    have hstk := hst k
    have hXk1 : (XR (k + 1)).2.length = k := by
     rw [hstk,redStep]
     dsimp only
     rw [hXl,← hf,if_pos hP];exact hXl
    have hnone : EX = none := by
     rw [hEx,if_neg]
     intro hh
     have := hmono (k + 1) (rows.length - (k + 1))
     rw [show k + 1 + (rows.length - (k + 1)) = rows.length by omega,hXk1,hh.1] at this
     omega
    rw [hnone]
    unfold exprA
    clear hEx hst hmono hAl hApr hf hrel
    (repeat' (first
     |(apply W.qd;(first
     |(exact zM)|(exact zN)|(exact jAj)|(exact jBg)
     |(exact jB)))|(apply W.ed;((apply (e_callA hno);exact rfl;exact rfl;kernel_rfl)))|(apply yA)|(apply yB)|(refine jAe ?_)|(apply yE)|(apply yG)|(apply yH)|(apply yJ)|(apply yP)|(apply yN)|(refine jBa ?_)
     |(refine W.cond _ rfl (fun hb => ?_) (fun hb => ?_) <;> ((try simp only [hb,zK]) <;> (try simp only [zL,zI] at hb) <;> (try (exfalso;omega))))))
    exact ⟨.inl rfl,[],[.d (.v (.slice none 0 0)),bV false],rfl,rfl,⟨rfl,rfl,trivial⟩,AVle.tup2 (AVle.nil 1) (AVle.refl _),rfl⟩
   ·have hPD : findL pm Bl k (j - k) k < j := by omega
    have hkj2 : k < j := by have := hfl.1;omega
    have hel := A_elim (M := M) (v := C) (c := c) hM hok (by omega) hkj2 (by omega) (by omega) rfl hPD
    obtain ⟨r1,r2,r3⟩ := elim_rel (pv := (XR k).2) hM hok hrel (hAl k) hXl (by omega) hkj2 rfl hPD
    have hstk := hst k
    have e2 : (XR k) = ((XR k).1,(XR k).2) := rfl
    rw [← e2,← hstk] at r1 r3
    generalize clB M C k k (swp pm (findL pm Bl k (j - k) k) k) (Bl.set (pm.getD (findL pm Bl k (j - k) k) 0) (scV M (invN M ((Bl.getD (pm.getD (findL pm Bl k (j - k) k) 0) []).getD k 0)) (Bl.getD (pm.getD (findL pm Bl k (j - k) k) 0) []) C)) j = Bl' at *
    generalize swp pm (findL pm Bl k (j - k) k) k = pm' at *
    clear hEx hst hmono hAl hApr hf hrel hstk
    (repeat' (first
     |(apply W.qd;(first
     |(exact zM)|(exact zN)|(exact jAj)|(exact jBg)|(exact jAg)
     |(exact jB)))|(apply W.ed;((apply (e_callA hel);exact rfl;exact rfl;kernel_rfl)))|(apply yA)|(apply yB)|(refine jAe ?_)|(apply yE)|(apply yG)|(apply yH)|(apply yL)|(refine jAw ?_)
     |(refine W.cond _ rfl (fun hb => ?_) (fun hb => ?_) <;> ((try simp only [hb,zK]) <;> (try simp only [zL,zI] at hb) <;> (try (exfalso;omega))))))
    exact ⟨(k + 1,pm',Bl'),⟨by show k + 1 ≤ _;omega,r2,r3,by rw [r1,List.length_append,hXl];rfl⟩,by show rows.length - (k + 1) < _;omega,rfl,iV_eq (by show ((k + 1 : Nat) : Int) = _;omega),rfl,rfl,rfl,trivial⟩
  have hk' : k = rows.length := by omega
  subst hk'
  have hnj : rows.length ≤ j := by have := hApr rows.length;omega
  have hXA := hrel
  generalize hA : (XR rows.length).1 = A at *
  have hEx2 : EX = if ∀ q,q < j → rows.length ≤ q → gt C A q rows.length = 0 then some ((List.range rows.length).map fun k => gt C A k rows.length) else none := by
   rw [hEx]
   by_cases h : ∀ q,q < j → rows.length ≤ q → gt C A q rows.length = 0
   ·rw [if_pos h,if_pos ⟨hXl,h⟩]
   ·rw [if_neg h,if_neg fun h2 => h h2.2]
  clear hEx hst hmono hAl hApr hrel hXl
  have hbl := hok.bl
  have hpl := hok.pl
  -- an equation's element
  have hget : ∀ q (L : List Ent),q < j → (((.box [iV M,.bsl 1 j c] :: .box (pm.map (ptrS C C)) :: (Bl.map (rowE 3 C) ++ L)) : List Ent)[pm.getD q 0 + 2]? = some (.row C 1 3 ((Bl.getD (pm.getD q 0) []).map kD))) := fun q L hq => by
   have h1 := hok.lt q hq
   have h2 := sys_get (t := 3) (v := C) (E0 := .box [iV M,.bsl 1 j c]) (E1 := .box (pm.map (ptrS C C))) (Bl := Bl) (p := pm.getD q 0) (by omega)
   rw [← h2]
   show (Bl.map (rowE 3 C) ++ L)[pm.getD q 0]? = (Bl.map (rowE 3 C))[pm.getD q 0]?
   rw [List.getElem?_append_left (by rw [List.length_map];omega)]
  have hpm := fun q (hq : q < j) => sys_ld (v := C) (C := C) (p := q) (pm := pm) (by omega)
  have hbq : ∀ q,q < j → (Bl.getD (pm.getD q 0) []).length = C := fun q hq => hok.rl _ (getDB_mem (by have := hok.lt q hq;omega))
  have hel : ∀ q,q < j → ∀ h,(Bl.getD (pm.getD q 0) [])[rows.length]'h = gt C A q rows.length := fun q hq h => by
   rw [← hXA q hq rows.length (by omega)]
   unfold lgN
   rw [List.getD_eq_getElem?_getD (l := Bl.getD (pm.getD q 0) []),List.getElem?_eq_getElem h];rfl
  unfold sysO
  (repeat' (first
   |(apply W.qd;(first
   |(exact zM)|(exact zN)|(exact jAj)
   |(exact jB)))|(apply yA)|(apply yB)|(apply (W.regionS 19);exact rfl;kernel_rfl)|(apply yE)|(apply yG)|(apply yI)|(apply yK)|(apply yM)
   |(refine W.cond _ rfl (fun hb => ?_) (fun hb => ?_) <;> ((try simp only [hb,zK]) <;> (try simp only [zL,zI] at hb) <;> (try (exfalso;omega))))))
  refine AWP.loopE (α := Nat) (fun q => rows.length ≤ q ∧ q ≤ j ∧ ∀ q',q' < q → rows.length ≤ q' → gt C A q' rows.length = 0) (fun q => ⟨[(14,iV q),(8,.opt 0 0),(1,rowsN rows)],.box [iV M,.bsl 1 j c] :: .box (pm.map (ptrS C C)) :: Bl.map (rowE 3 C)⟩) (fun q => j - q) rows.length ⟨Nat.le_refl _,hnj,fun q' h1 h2 => by omega⟩ ⟨rfl,iV_eq (by rw [hmr]),rfl,rfl,trivial⟩ fun q hq => ?_
  obtain ⟨hq1,hq2,hq3⟩ := hq
  by_cases hqj : q < j
  ·have g1 := hget q [] hqj
   rw [List.append_nil] at g1
   have g2 := hpm q hqj
   have g3 := hbq q hqj
   have g4 := hel q hqj
   obtain ⟨l,hl⟩ : ∃ l,Bl.getD (pm.getD q 0) [] = l := ⟨_,rfl⟩
   rw [hl] at g1 g3 g4
   replace g4 := g4 (by omega)
   clear hget hpm hbq hel
   clear hl
   generalize pm.getD q 0 = a at *
   have hCn : rows.length < C := by omega
   by_cases hz : gt C A q rows.length = 0
   ·rw [hz] at g4
    (repeat' (first
     |(apply W.qd;(first
     |((apply s_ld;exact rfl;exact rfl;assumption;exact rfl))
     |((apply s_ix;exact rfl;assumption;(iterate 3 exact rfl);omega))
     |((apply s_ldr;exact rfl;assumption;exact rfl;exact rfl;omega))
     |((exact q_len_bsl rfl rfl))
     |((apply q_ix_bsl;(iterate 4 exact rfl);omega))|(exact zM)|(exact zN)|(exact jAr)|(exact jAm)|(exact jAj)|(exact jAv)|(exact jAg)|(exact jB)
     |(exact q_nil_opt rfl)))|(apply yA)|(apply yB)|(refine jAe ?_)|(apply yE)|(apply yG)|(apply yH)|(apply yL)
     |(refine W.cond _ rfl (fun hb => ?_) (fun hb => ?_) <;> ((try simp only [hb,zK]) <;> (try simp only [zL,zI] at hb) <;> (try (exfalso;omega))))))
    exact ⟨q + 1,⟨by omega,by omega,fun q' h1 h2 => by
     by_cases e : q' = q
     ·rw [e];exact hz
     ·exact hq3 q' (by omega) h2⟩,by omega,rfl,iV_eq (by omega),rfl,rfl,trivial⟩
   ·rw [hEx2, if_neg fun h => hz (h q hqj hq1)]
    unfold exprA
    have g5 : l[rows.length]'(by omega) ≠ 0 := by rw [g4];exact hz
    (repeat' (first
     |(apply W.qd;(first
     |((apply s_ld;exact rfl;exact rfl;assumption;exact rfl))
     |((apply s_ix;exact rfl;assumption;(iterate 3 exact rfl);omega))
     |((apply s_ldr;exact rfl;assumption;exact rfl;exact rfl;omega))
     |((exact q_len_bsl rfl rfl))
     |((apply q_ix_bsl;(iterate 4 exact rfl);omega))|(exact zM)|(exact zN)|(exact jAr)|(exact jAm)|(exact jAj)|(exact jAv)|(exact jB)
     |(exact q_nil_opt rfl)))|(apply yA)|(apply yB)|(refine jAe ?_)|(apply yE)|(apply yG)|(apply yH)|(apply yJ)|(apply yP)|(apply yN)
     |(refine W.cond _ rfl (fun hb => ?_) (fun hb => ?_) <;> ((try simp only [hb,zK]) <;> (try simp only [zL,zI] at hb) <;> (try (exfalso;omega))))))
    exact ⟨.inl rfl,[],[.d (.v (.slice none 0 0)),bV false],rfl,rfl,⟨rfl,rfl,trivial⟩,AVle.tup2 (AVle.nil 1) (AVle.refl _),rfl⟩
  ·have hqj' : q = j := by omega
   subst hqj'
   rw [hEx2,if_pos hq3]
   unfold exprA
   clear hEx2
   (repeat' (first
    |(apply W.qd;(first
    |((exact q_len_bsl rfl rfl))|(exact zM)|(exact zN)|(exact jAr)|(exact jAm)|(exact jAj)
    |(exact q_nil_opt rfl)))|(apply yA)|(apply yB)|(apply (W.regionS 24);exact rfl;kernel_rfl)|(apply yE)|(apply yI)|(apply yK)|(apply yM)
    |(refine W.cond _ rfl (fun hb => ?_) (fun hb => ?_) <;> ((try simp only [hb,zK]) <;> (try simp only [zL,zI] at hb) <;> (try (exfalso;omega))))))
   refine AWP.nilRow 15 1 3 rfl (by omega) ?_
   refine AWP.wkE ⟨[(15,.osl (q + 2) 0 0 0),(8,.opt 0 0),(1,rowsN rows)],.box [iV M,.bsl 1 q c] :: .box (pm.map (ptrS C C)) :: (Bl.map (rowE 3 C) ++ [.row 0 1 3 []])⟩ ⟨rfl,congrArg (fun n => AV.osl n 0 0 0) (by simp [hbl]),rfl,rfl,trivial⟩ ?_
   have hLl : (Bl.map (rowE 3 C)).length = q := by rw [List.length_map];exact hbl
   (repeat' (first
    |(apply W.qd;(exact zN))|(apply yB)|(apply (W.regionS 25);exact rfl;kernel_rfl)|(apply yE)
    |(apply yG)))
   refine AWP.loopE (α := Nat) (fun k => k ≤ rows.length) (fun k => ⟨[(16,iV k),(15,.osl (q + 2) k 0 k),(8,.opt 0 0),(1,rowsN rows)],.box [iV M,.bsl 1 q c] :: .box (pm.map (ptrS C C)) :: (Bl.map (rowE 3 C) ++ [.row k 1 3 (((List.range k).map fun k => gt C A k rows.length).map kD)])⟩) (fun k => rows.length - k) 0 (Nat.zero_le _) ⟨rfl,by (repeat (first | exact trivial | refine ⟨rfl,?_⟩))⟩ fun k hk => ?_
   have hp : ((.box [iV M,.bsl 1 q c] :: .box (pm.map (ptrS C C)) :: (Bl.map (rowE 3 C) ++ [.row k 1 3 (((List.range k).map fun k => gt C A k rows.length).map kD)])) : List Ent)[q + 2]? = some (.row k 1 3 (((List.range k).map fun k => gt C A k rows.length).map kD)) := dyn_last hLl
   by_cases hkn : k < rows.length
   ·have g1 := hget k [.row k 1 3 (((List.range k).map fun k => gt C A k rows.length).map kD)] (by omega)
    have g2 := hpm k (by omega)
    have g3 := hbq k (by omega)
    have g4 := hel k (by omega)
    obtain ⟨l,hl⟩ : ∃ l,Bl.getD (pm.getD k 0) [] = l := ⟨_,rfl⟩
    rw [hl] at g1 g3 g4
    replace g4 := g4 (by omega)
    have hls : ((List.range (k + 1)).map fun k => gt C A k rows.length) = ((List.range k).map fun k => gt C A k rows.length) ++ [gt C A k rows.length] := by rw [List.range_succ,List.map_append];rfl
    have hll : ((List.range k).map fun k => gt C A k rows.length).length = k := by simp
    have g5 : l[(rows.map rnD).length]'(by omega) = gt C A k rows.length := by simp only [hmr];exact g4
    rw [← g5] at hls
    replace hls := Lib.hid hls
    clear hget hpm hbq hel
    clear hl
    generalize pm.getD k 0 = a at *
    have hCn : rows.length < C := by omega
    (repeat' (first
     |(apply W.qd;(first
     |((apply s_ld;exact rfl;exact rfl;assumption;exact rfl))
     |((apply s_ix;exact rfl;assumption;(iterate 3 exact rfl);omega))
     |((apply s_ldr;exact rfl;assumption;exact rfl;exact rfl;omega))
     |((apply q_ix_bsl;(iterate 4 exact rfl);omega))|(exact zM)|(exact zN)|(exact jAr)|(exact jAm)|(exact jAj)|(exact jAg)|(exact jB)|(exact q_nil_opt rfl)
     |(exact jAl)))|(apply W.ed;((apply (s_app1 (f := kD) (l[(rows.map rnD).length]'(by omega)));exact rfl;assumption;exact rfl;exact dyn_setl hLl;(iterate 3 exact rfl);exact hll.symm;omega)))|(apply yA)|(apply yB)|(refine jAe ?_)|(apply yE)|(apply yG)|(apply yH)|(apply yL)
     |(refine W.cond _ rfl (fun hb => ?_) (fun hb => ?_) <;> ((try simp only [hb,zK]) <;> (try simp only [zL,zI] at hb) <;> (try (exfalso;omega))))))
    refine ⟨k + 1,by omega,by omega,?_,iV_eq (by omega),rfl,rfl,rfl,trivial⟩
    rw [hls.out]
   ·have hkn' : k = rows.length := by omega
    subst hkn'
    refine AWP.wk ⟨[(16,iV rows.length),(15,nats ((List.range rows.length).map fun k => gt C A k rows.length)),(1,rowsN rows)],[]⟩ ⟨[],rfl,rfl,rfl,rfl,(frz_rowJ hp rfl (by simp)).symm,rfl,trivial⟩ ?_
    (repeat' (first
     |(apply W.qd;(first
     |(exact zM)|(exact zN)|(exact jAj)
     |(exact jB)))|(apply yA)|(apply yB)|(refine jAe ?_)|(apply yE)|(apply yI)|(apply yJ)|(apply yK)|(apply yM)
     |(refine W.cond _ rfl (fun hb => ?_) (fun hb => ?_) <;> ((try simp only [hb,zK]) <;> (try simp only [zL,zI] at hb) <;> (try (exfalso;omega))))))
    exact ⟨.inl rfl,[],[nats ((List.range rows.length).map fun k => gt C A k rows.length),bV true],rfl,rfl,⟨rfl,rfl,trivial⟩,AVle.of_eq rfl,rfl⟩
end
section
theorem frz_rowS {own own' : List Ent} {i ver n sz : Nat} {e : TypeId} {l : List (List Dat)} (ho : own[i]? = some (.row ver sz e l)) (hs : own'[i]? = own[i]?) (hn : n = l.length) : AV.frz own' [] (.osl i ver 0 n) = .d (.sl sz l) := frz_rowJ (hs.trans ho) rfl hn
theorem takeB_succ {B : List Nat} {m : Nat} (hm : m < B.length) : B.take (m + 1) = B.take m ++ [B.getD m 0] := by
 have : B.getD m 0 = B[m] := by rw [List.getD_eq_getElem?_getD,List.getElem?_eq_getElem hm];rfl
 rw [List.take_succ_eq_append_getElem hm,this]
theorem bas_pres {M D : Nat} {ps : List (List Nat)} {hv : List Bool} (h : CodeOk M D ps) (hl : hv.length = D + ps.length) {q : Nat} (hq : q < (basisN M D ps hv).length) : hv.getD ((basisN M D ps hv).getD q 0) false = true := by
 obtain ⟨T,S,hB⟩ := basis_to h hl
 exact hB.mem q hq
theorem bas_inc {M D : Nat} {ps : List (List Nat)} {hv : List Bool} (h : CodeOk M D ps) (hl : hv.length = D + ps.length) {q q' : Nat} (hqq : q < q') (hq : q' < (basisN M D ps hv).length) : (basisN M D ps hv).getD q 0 < (basisN M D ps hv).getD q' 0 := by
 obtain ⟨T,S,hB⟩ := basis_to h hl
 exact hB.inc q q' hqq hq
attribute [local irreducible] Quiet Eff OpOk AWPG ACont ABlock ACalls AGoto
theorem A_r8basis {M D : Nat} {ps : List (List Nat)} {hv : List Bool} (h : CodeOk M D ps) (hl : hv.length = D + ps.length) : ACalls Tryz.prog 217 [cdN M D ps,bools hv] [] (.tup [nats (basisN M D ps hv),iV 0]) [] := by
 refine acalls_of_bodyO Tryz.func217 rfl (zU rfl) ?_
 have hM := h.f
 have h1 := h.d
 have h2 := h.w
 have hw := A_r8widthN h
 have hmh : (hv.map tD).length = hv.length := List.length_map _
 have hbl := bas_le h hl
 have hpres := fun q hq => bas_pres h hl (q := q) hq
 have hinc := fun q q' hqq hq => bas_inc h hl (q := q) (q' := q') hqq hq
 have hnone := fun m hm => step_none h hl (m := m) hm
 have hsome := fun m i hi hm hge => step_some h hl (m := m) (i := i) hi hm hge
 have hrow := fun i (hi : i < D + ps.length) => A_r8row h hi
 have hexp := fun m i (hm : m ≤ (basisN M D ps hv).length) => A_express (M := M) (D := D) (rows := takeR D ps (basisN M D ps hv) m) (t := rowN D ps i) hM (by omega) (by omega) (by rw [takeR_length hm];omega) (fun r hr => by
  obtain ⟨u,_,rfl⟩ := List.mem_map.1 hr;exact rowN_length ..) (rowN_length ..) (takeR_lt h hl _ _) (rowN_lt h hl i)
 generalize basisN M D ps hv = B at *
 have htl := fun m (hm : m ≤ B.length) => takeR_length (D := D) (ps := ps) (B := B) hm
 have hts := fun m (hm : m < B.length) => Lib.hid (takeR_succ (D := D) (ps := ps) (B := B) hm)
 have hbs := fun m (hm : m < B.length) => Lib.hid (takeB_succ (B := B) hm)
 have ht0 : takeR D ps B 0 = [] := rfl
 obtain ⟨Wd,hW⟩ : ∃ Wd,D + ps.length = Wd := ⟨_,rfl⟩
 rw [hW] at hw hl hrow
 (repeat' (first
  |(apply yFb;exact rfl;exact rfl)
  |(apply W.qd;(first
  |(exact zW (hw))|(exact zM)|(exact zN)|(exact jAn)|(exact jBb)|(exact jAv)|(exact jB)
  |(apply (yDb (u := .d _));exact rfl;exact rfl)))|(apply W.ed;(exact jAc))|(apply yA)|(apply yB)|(apply (W.regionS 6);exact rfl;kernel_rfl)|(apply yE)|(apply yH)|(refine W.gF _ _ rfl rfl (fun hb => ?_) (fun hb => ?_) <;> ((try simp only [hb,zK]) <;> (try simp only [zL,zI] at hb) <;> (try (exfalso;omega))))
  |(refine W.cond _ rfl (fun hb => ?_) (fun hb => ?_) <;> ((try simp only [hb,zK]) <;> (try simp only [zL,zI] at hb) <;> (try (exfalso;omega))))))
 refine AWP.nilRow 7 1 3 rfl (by omega) ?_
 refine AWP.nilRow 8 1 91 rfl (by omega) ?_
 (repeat' (first
  |(apply W.qd;(exact zN))|(apply yB)|(apply (W.regionS 7);exact rfl;kernel_rfl)|(apply yE)
  |(apply yG)))
 refine AWP.loopW (α := Nat × Nat) (fun s => s.1 ≤ Wd ∧ s.2 ≤ B.length ∧ (∀ q,q < s.2 → B.getD q 0 < s.1) ∧ ∀ q,s.2 ≤ q → q < B.length → s.1 ≤ B.getD q 0) (fun s => ⟨[(9,iV s.1),(6,iV Wd),(7,.osl 1 s.2 0 s.2),(8,.osl 2 s.2 0 s.2),(1,bools hv),(2,.opt 0 0)],[.box [.d .any,iV M,iV D,rowsN ps,.d .any],.row s.2 1 3 ((B.take s.2).map kD),.row s.2 1 91 ((takeR D ps B s.2).map rnD)]⟩) (fun s => Wd - s.1) (0,0) ⟨Nat.zero_le _,Nat.zero_le _,fun q hq => by omega,fun q _ _ => Nat.zero_le _⟩ ⟨[0,1,2],rfl,rfl,rfl,by (repeat (first | exact trivial | refine ⟨rfl,?_⟩))⟩ fun s hs => ?_
 obtain ⟨i,m⟩ := s
 obtain ⟨p1,p2,p3,p4⟩ := hs
 dsimp only at p1 p2 p3 p4 ⊢
 by_cases hiW : i < Wd
 ·have eg : hv.getD i false = hv[i]'(by omega) := by rw [List.getD_eq_getElem?_getD, List.getElem?_eq_getElem (show i < hv.length by omega)]; rfl
  have hr := hrow i hiW
  have he := hexp m i p2
  have hl2 := htl m p2
  have hfz : ∀ own own' : List Ent,own[2]? = some (.row m 1 91 ((takeR D ps B m).map rnD)) → same [2] own own' → AV.frzL own' [] [iV M,.osl 2 m 0 m,nats (rowN D ps i)] = [iV M,rowsN (takeR D ps B m),nats (rowN D ps i)] := fun own own' h1 h2 =>
   congrArg (fun z => [iV M,z,nats (rowN D ps i)]) (frz_rowS h1 (h2 2 (by simp)) (by rw [List.length_map];exact hl2.symm))
  have hbt : (B.take m).length = m := by rw [List.length_take];omega
  cases hb0 : hv[i]'(by omega) with
  | false =>
    have hne : ∀ q,m ≤ q → q < B.length → i + 1 ≤ B.getD q 0 := fun q h5 h6 => by
     have h7 := p4 q h5 h6
     by_cases e : B.getD q 0 = i
     ·have := hpres q h6;rw [e,eg,hb0] at this;cases this
     ·omega
    clear he hexp hr hrow hnone hsome hts hbs
    (repeat' (first
     |(apply W.qd;(first
     |(exact zM)|(exact zN)|(exact jAr)|(exact jAm)|(exact jAn)|(exact jAj)|(exact jBg)|(exact jAg)|(exact jAd)
     |(exact jA)))|(apply yA)|(apply yB)|(refine jAe ?_)|(refine jAs ?_)|(apply yE)|(apply yG)|(apply yH)|(apply yI)|(apply yK)|(apply yM)
     |(refine W.cond _ rfl (fun hb => ?_) (fun hb => ?_) <;> ((try simp only [hb,zK]) <;> (try simp only [zL,zI] at hb) <;> (try (exfalso;omega))))))
    (all_goals (try (exfalso;exact absurd ((‹hv[i] = true› : hv[i] = true).symm.trans (‹hv[i] = false› : hv[i] = false)) (by decide))))
    all_goals exact ⟨(i + 1,m),⟨by show i + 1 ≤ Wd;omega,p2,fun q hq => Nat.lt_succ_of_lt (p3 q hq),hne⟩,by show Wd - (i + 1) < _;omega,[0,1,2],rfl,rfl,rfl,iV_eq (by show ((i + 1 : Nat) : Int) = _;omega),rfl,rfl,rfl,rfl,rfl,trivial⟩
  | true =>
    by_cases hcase : ∃ hm : m < B.length,B.getD m 0 = i
    ·obtain ⟨hm, hBm⟩ := hcase
     have hno := hnone m hm
     rw [hBm] at hno
     rw [hno] at he
     unfold exprA at he
     dsimp only at he
     have hts2 := hts m hm
     have hbs2 := hbs m hm
     rw [hBm] at hts2 hbs2
     have hn1 : ∀ q,q < m + 1 → B.getD q 0 < i + 1 := fun q hq => by
      by_cases e : q = m
      ·rw [e,hBm];omega
      ·have := p3 q (by omega);omega
     have hn2 : ∀ q,m + 1 ≤ q → q < B.length → i + 1 ≤ B.getD q 0 := fun q h5 h6 => by have := hinc m q (by omega) h6;omega
     clear hexp hrow hnone hsome hts hbs p3 p4
     generalize takeR D ps B m = R at *
     generalize B.take m = T at *
     generalize rowN D ps i = rw0 at *
     (repeat' (first
      |(apply W.qd;(first
      |(exact zW (hr))
      |((apply (q_callF (js := [2]) he);exact rfl;exact fun own' hh => hfz _ own' rfl hh;exact rfl;kernel_rfl))|(exact zM)|(exact zN)|(exact jAr)|(exact jAm)|(exact jAn)|(exact jAj)|(exact jBg)|(exact jAg)|(exact jBd)|(exact jAd)|(exact jAl)
      |(exact jA)))
      |(apply W.ed;(first
      |((apply (s_app1 (f := kD) i);(iterate 7 exact rfl);exact hbt.symm;omega))
      |((apply (s_app1 (f := rnD) rw0);(iterate 7 exact rfl);exact hl2.symm;omega))))|(apply yA)|(apply yB)|(refine jAe ?_)|(refine jAs ?_)|(apply yE)|(refine jBc ?_)|(apply yG)|(apply yH)|(apply yI)|(apply yK)|(apply yL)|(apply yM)|(refine jBa ?_)
      |(refine W.cond _ rfl (fun hb => ?_) (fun hb => ?_) <;> ((try simp only [hb,zK]) <;> (try simp only [zL,zI] at hb) <;> (try (exfalso;omega))))))
     (all_goals (try (exfalso;exact absurd ((‹hv[i] = true› : hv[i] = true).symm.trans (‹hv[i] = false› : hv[i] = false)) (by decide))))
     all_goals refine ⟨(i + 1,m + 1),⟨by show i + 1 ≤ Wd;omega,by show m + 1 ≤ _;omega,hn1,hn2⟩,by show Wd - (i + 1) < _;omega,[0,1,2],rfl,rfl,?_,iV_eq (by show ((i + 1 : Nat) : Int) = _;omega),rfl,rfl,rfl,rfl,rfl,trivial⟩
     all_goals (show [_,Ent.row (m + 1) 1 _ ((B.take (m + 1)).map kD),Ent.row (m + 1) 1 _ ((takeR D ps B (m + 1)).map rnD)] = _;rw [hts2.out,hbs2.out];rfl)
    ·have hne : ∀ q,m ≤ q → q < B.length → i < B.getD q 0 := fun q h5 h6 => by
      have h7 := p4 q h5 h6
      by_cases e : B.getD q 0 = i
      ·exfalso
       by_cases e2 : q = m
       ·exact hcase ⟨by omega,by rw [← e2];exact e⟩
       ·have h8 := hinc m q (by omega) h6
        have h9 := p4 m (Nat.le_refl _) (by omega)
        omega
      ·omega
     have hso := hsome m i (by rw [eg,hb0]) p2 hne
     obtain ⟨K,hK⟩ := Option.isSome_iff_exists.1 hso
     rw [hK] at he
     unfold exprA at he
     dsimp only at he
     clear hexp hrow hnone hsome hts hbs p4 hso
     (repeat' (first
      |(apply W.qd;(first
      |(exact zW (hr))
      |((apply (q_callF (js := [2]) he);exact rfl;exact fun own' hh => hfz _ own' rfl hh;exact rfl;kernel_rfl))|(exact zM)|(exact zN)|(exact jAr)|(exact jAm)|(exact jAn)|(exact jAj)|(exact jBg)|(exact jAg)|(exact jBd)|(exact jAd)
      |(exact jA)))|(apply yA)|(apply yB)|(refine jAe ?_)|(refine jAs ?_)|(apply yE)|(refine jBc ?_)|(apply yG)|(apply yH)|(apply yI)|(apply yK)|(apply yL)|(apply yM)|(refine jAw ?_)
      |(refine W.cond _ rfl (fun hb => ?_) (fun hb => ?_) <;> ((try simp only [hb,zK]) <;> (try simp only [zL,zI] at hb) <;> (try (exfalso;omega))))))
     (all_goals (try (exfalso;exact absurd ((‹hv[i] = true› : hv[i] = true).symm.trans (‹hv[i] = false› : hv[i] = false)) (by decide))))
     all_goals exact ⟨(i + 1,m),⟨by show i + 1 ≤ Wd;omega,p2,fun q hq => Nat.lt_succ_of_lt (p3 q hq),fun q h5 h6 => hne q h5 h6⟩,by show Wd - (i + 1) < _;omega,[0,1,2],rfl,rfl,rfl,iV_eq (by show ((i + 1 : Nat) : Int) = _;omega),rfl,rfl,rfl,rfl,rfl,trivial⟩
 ·have hmB : m = B.length := by
   by_cases e : m < B.length
   ·exfalso
    have h5 := p4 m (Nat.le_refl _) e
    have h6 := hpres m e
    rw [List.getD_eq_getElem?_getD,List.getElem?_eq_none (by omega)] at h6
    cases h6
   ·omega
  subst hmB
  clear hexp hrow hnone hsome hts hbs
  have e1 : B.take B.length = B := List.take_length
  refine AWP.wk ⟨[(9,iV i),(6,iV Wd),(7,nats B),(2,.opt 0 0)],[.box [.d .any,iV M,iV D,rowsN ps,.d .any]]⟩ ⟨[0],rfl,rfl,rfl,rfl,rfl,(congrArg (fun l => nats l) e1.symm).trans (frz_rowJ rfl rfl (by simp)).symm,rfl,trivial⟩ ?_
  (repeat' (first
   |(apply W.qd;(first
   |(exact zM)|(exact zN)
   |(exact jAj)))|(apply yA)|(apply yB)|(refine jAe ?_)|(apply yE)|(apply yI)|(apply yJ)|(apply yK)|(apply yM)
   |(refine W.cond _ rfl (fun hb => ?_) (fun hb => ?_) <;> ((try simp only [hb,zK]) <;> (try simp only [zL,zI] at hb) <;> (try (exfalso;omega))))))
  exact ⟨.inl rfl,[],[nats B,iV 0],rfl,rfl,⟨rfl,rfl,trivial⟩,AVle.of_eq rfl,rfl⟩
end
section
attribute [local irreducible] Quiet Eff OpOk AWPG ACont ABlock ACalls AGoto
def coefA (B : List Nat) : Option (List Nat) → AV
 | some K => .tup [nats B,nats K,iV 0]
 | none => .tup [nats [],nats [],iV 11]
theorem A_r8coef {M D u : Nat} {ps : List (List Nat)} {hv : List Bool} (h : CodeOk M D ps) (hl : hv.length = D + ps.length) (hu : u < D + ps.length) : ACalls Tryz.prog 160 [cdN M D ps,bools hv,iV u] [] (coefA (basisN M D ps hv) (exprN M D (takeR D ps (basisN M D ps hv) (basisN M D ps hv).length) (rowN D ps u))) [] := by
 refine acalls_of_bodyO Tryz.func160 rfl (zU rfl) ?_
 have hM := h.f
 have h1 := h.d
 have h2 := h.w
 have hb := A_r8basis h hl
 have hmh : (hv.map tD).length = hv.length := List.length_map _
 have hbl := bas_le h hl
 have hblt : ∀ q,q < (basisN M D ps hv).length → (basisN M D ps hv).getD q 0 < D + ps.length := fun q hq => hv_lt h hl (bas_pres h hl hq)
 have hrow := fun i (hi : i < D + ps.length) => A_r8row h hi
 have hr := hrow u hu
 have he := A_express (M := M) (D := D) (rows := takeR D ps (basisN M D ps hv) (basisN M D ps hv).length) (t := rowN D ps u) hM (by omega) (by omega) (by rw [takeR_length (Nat.le_refl _)];omega) (fun r hr => by
  obtain ⟨u,_,rfl⟩ := List.mem_map.1 hr;exact rowN_length ..) (rowN_length ..) (takeR_lt h hl _ _) (rowN_lt h hl u)
 generalize basisN M D ps hv = B at *
 have htl := fun m (hm : m ≤ B.length) => takeR_length (D := D) (ps := ps) (B := B) hm
 have hts := fun m (hm : m < B.length) => Lib.hid (takeR_succ (D := D) (ps := ps) (B := B) hm)
 have ht0 : takeR D ps B 0 = [] := rfl
 have hmB : (B.map kD).length = B.length := List.length_map _
 (repeat' (first
  |(apply yFb;exact rfl;exact rfl)
  |(apply W.qd;(first
  |(exact zW (hb))|(exact zM)|(exact zN)|(exact jAn)|(exact jAj)|(exact q_geq rfl rfl)|(exact jAv)|(exact jBd)|(exact jB)
  |(apply (yDb (u := .d _));exact rfl;exact rfl)))|(apply W.ed;(exact jAc))|(apply yA)|(apply yB)|(apply (W.regionS 5);exact rfl;kernel_rfl)|(apply yE)|(apply yH)
  |(refine W.cond _ rfl (fun hb => ?_) (fun hb => ?_) <;> ((try simp only [hb,zK]) <;> (try simp only [zL,zI] at hb) <;> (try (exfalso;omega))))))
 refine AWP.nilRow 11 1 91 rfl (by omega) ?_
 (repeat' (first
  |(apply W.qd;(exact zN))|(apply yB)|(apply (W.regionS 6);exact rfl;kernel_rfl)|(apply yE)
  |(apply yG)))
 refine AWP.loopW (α := Nat) (fun m => m ≤ B.length) (fun m => ⟨[(12,iV m),(9,nats B),(11,.osl 1 m 0 m),(2,iV u),(3,.opt 0 0)],[.box [.d .any,iV M,iV D,rowsN ps,.d .any],.row m 1 91 ((takeR D ps B m).map rnD)]⟩) (fun m => B.length - m) 0 (Nat.zero_le _) ⟨[0,1],rfl,rfl,rfl,by (repeat (first | exact trivial | refine ⟨rfl,?_⟩))⟩ fun m hm => ?_
 by_cases hmB2 : m < B.length
 ·have hbm : B.getD m 0 = B[m] := by rw [List.getD_eq_getElem?_getD, List.getElem?_eq_getElem hmB2]; rfl
  have hts2 := hts m hmB2
  have hlt := hblt m hmB2
  rw [hbm] at hts2 hlt
  have hr2 := hrow (B[m]) hlt
  have hl2 := htl m hm
  clear hrow he hblt hts
  generalize takeR D ps B m = R at *
  generalize rowN D ps B[m] = rw0 at *
  (repeat' (first
   |(apply W.qd;(first
   |(exact zW (hr2))|(exact zM)|(exact zN)|(exact jAn)|(exact jAj)|(exact jAg)|(exact jB)|(exact jAd)|(exact jAl)
   |(exact jA)))|(apply W.ed;((apply (s_app1 (f := rnD) rw0);(iterate 7 exact rfl);exact hl2.symm;omega)))|(apply yA)|(apply yB)|(refine jAe ?_)|(refine jAs ?_)|(apply yE)|(refine jBc ?_)|(apply yG)|(apply yH)|(apply yL)
   |(refine W.cond _ rfl (fun hb => ?_) (fun hb => ?_) <;> ((try simp only [hb,zK]) <;> (try simp only [zL,zI] at hb) <;> (try (exfalso;omega))))))
  refine ⟨m + 1,by omega,by omega,[0,1],rfl,rfl,?_,iV_eq (by omega),rfl,rfl,rfl,rfl,trivial⟩
  rw [hts2.out];rfl
 ·have hmB3 : m = B.length := by omega
  subst hmB3
  have hl2 := htl B.length (Nat.le_refl _)
  clear hrow hblt hts ht0
  generalize takeR D ps B B.length = R at *
  refine AWP.wk ⟨[(12,iV B.length),(9,nats B),(11,rowsN R),(2,iV u),(3,.opt 0 0)],[.box [.d .any,iV M,iV D,rowsN ps,.d .any]]⟩ ⟨[0],rfl,rfl,rfl,rfl,rfl,(frz_rowJ rfl rfl (by rw [List.length_map];exact hl2.symm)).symm,rfl,rfl,trivial⟩ ?_
  cases hE : exprN M D R (rowN D ps u) with
  | none =>
    rw [hE] at he
    unfold exprA at he
    dsimp only at he
    generalize rowN D ps u = rw0 at *
    (repeat' (first
     |(apply W.qd;(first
     |(exact zW (hr))|(exact zW (he))|(exact zM)|(exact zN)|(exact jAr)|(exact jAm)|(exact jAn)|(exact jAj)|(exact jBg)|(exact jBd)
     |(exact jB)))|(apply yA)|(apply yB)|(refine jAe ?_)|(refine jAs ?_)|(apply yE)|(refine jBc ?_)|(apply yI)|(apply yJ)|(apply yK)|(apply yP)|(apply yM)|(refine jBa ?_)
     |(refine W.cond _ rfl (fun hb => ?_) (fun hb => ?_) <;> ((try simp only [hb,zK]) <;> (try simp only [zL,zI] at hb) <;> (try (exfalso;omega))))))
    exact ⟨.inl rfl,[],[.d (.v (.slice none 0 0)),.d (.v (.slice none 0 0)),iV 11],rfl,rfl,⟨rfl,rfl,rfl,trivial⟩,AVle.tup ⟨AVle.nil 1,AVle.nil 1,AVle.refl _,trivial⟩,rfl⟩
  | some K =>
    rw [hE] at he
    unfold exprA at he
    dsimp only at he
    generalize rowN D ps u = rw0 at *
    (repeat' (first
     |(apply W.qd;(first
     |(exact zW (hr))|(exact zW (he))|(exact zM)|(exact zN)|(exact jAr)|(exact jAm)|(exact jAn)|(exact jAj)|(exact jBg)|(exact jBd)
     |(exact jB)))|(apply yA)|(apply yB)|(refine jAe ?_)|(refine jAs ?_)|(apply yE)|(refine jBc ?_)|(apply yH)|(apply yI)|(apply yJ)|(apply yK)|(apply yM)|(refine jAw ?_)
     |(refine W.cond _ rfl (fun hb => ?_) (fun hb => ?_) <;> ((try simp only [hb,zK]) <;> (try simp only [zL,zI] at hb) <;> (try (exfalso;omega))))))
    exact ⟨.inl rfl,[],[nats B,nats K,iV 0],rfl,rfl,⟨rfl,rfl,rfl,trivial⟩,AVle.of_eq rfl,rfl⟩
theorem A_r8comb {M D u : Nat} {ps : List (List Nat)} {hv : List Bool} (h : CodeOk M D ps) (hl : hv.length = D + ps.length) (hu : u < D + ps.length) : ACalls Tryz.prog 102 [cdN M D ps,bools hv,iV u] [] (termsA (combN M D ps hv u)) [] := by
 refine acalls_of_bodyO Tryz.func102 rfl (zU rfl) ?_
 have hc := A_r8coef h hl hu
 obtain ⟨e1,e2⟩ := expr_comb h hl hu
 have hbl := bas_le h hl
 have h2 := h.w
 cases hC : combN M D ps hv u with
 | none =>
   rw [e2 hC] at hc
   unfold coefA at hc
   dsimp only at hc
   unfold termsA
   (repeat' (first
    |(apply W.qd;(first
    |(exact zW (hc))|(exact zM)|(exact zN)|(exact jAn)|(exact jAv)
    |(exact jBd)))|(apply W.ed;(exact jAc))|(apply yA)|(apply yB)|(refine jAe ?_)|(apply yE)|(apply yJ)|(apply yP)
    |(refine jBa ?_)))
   all_goals exact ⟨.inl rfl,[],[.d (.v (.slice none 0 0)),iV 11],rfl,rfl,⟨rfl,rfl,trivial⟩,AVle.tup2 (AVle.nil 2) (AVle.refl _),rfl⟩
 | some l =>
   obtain ⟨K,k1,k2,k3,k4⟩ := e1 l hC
   rw [k3] at hc
   unfold coefA at hc
   dsimp only at hc
   unfold termsA
   dsimp only
   rw [k4]
   clear k3 k4 e1 e2 hC
   generalize basisN M D ps hv = B at *
   have hmB : (B.map kD).length = B.length := List.length_map _
   have hmK : (K.map kD).length = K.length := List.length_map _
   have hs := fun i => Lib.hid (tmsAt_succ B K i)
   have hle := tmsAt_length B K
   have ht0 : tmsAt B K 0 = [] := rfl
   generalize tmsAt B K = TM at *
   (repeat' (first
    |(apply W.qd;(first
    |(exact zW (hc))|(exact zM)|(exact zN)|(exact jAn)|(exact jAv)
    |(exact jBd)))|(apply W.ed;(exact jAc))|(apply yA)|(apply yB)|(apply (W.regionS 5);exact rfl;kernel_rfl)|(apply yE)|(apply yH)
    |(refine jAw ?_)))
   refine AWP.nilRow 11 2 252 rfl (by omega) ?_
   (repeat' (first
    |(apply W.qd;(exact zN))|(apply yB)|(apply (W.regionS 6);exact rfl;kernel_rfl)|(apply yE)
    |(apply yG)))
   refine AWP.loopW (α := Nat) (fun i => i ≤ B.length) (fun i => ⟨[(12,iV i),(8,nats B),(9,nats K),(11,.osl 1 (TM i).length 0 (TM i).length),(3,.opt 0 0)],[.box [.d .any,iV M,iV D,rowsN ps,.d .any],.row (TM i).length 2 252 ((TM i).map tmD)]⟩) (fun i => B.length - i) 0 (Nat.zero_le _) ?wk0 fun i hi => ?_
   case wk0 =>
    rw [ht0]
    exact ⟨[0,1],rfl,rfl,rfl,by (repeat (first | exact trivial | refine ⟨rfl,?_⟩))⟩
   by_cases hiB : i < B.length
   ·have hs2 := (hs i).out
    have hbm : B.getD i 0 = B[i] := by rw [List.getD_eq_getElem?_getD,List.getElem?_eq_getElem hiB];rfl
    have hkm : K.getD i 0 = K[i]'(by omega) := by rw [List.getD_eq_getElem?_getD,List.getElem?_eq_getElem (show i < K.length by omega)];rfl
    rw [hbm,hkm] at hs2
    have hle2 := hle i
    by_cases hz : K[i]'(by omega) = 0
    ·rw [if_pos hz] at hs2
     replace hs2 := Lib.hid hs2
     clear hs hle
     generalize TM i = T at *
     (repeat' (first
      |(apply W.qd;(first
      |(exact zM)|(exact zN)|(exact jAj)|(exact jAv)|(exact jAg)|(exact jB)|(exact jAd)
      |(exact jA)))|(apply yA)|(apply yB)|(refine jAe ?_)|(apply yE)|(apply yG)|(apply yH)|(apply yL)
      |(refine W.cond _ rfl (fun hb => ?_) (fun hb => ?_) <;> ((try simp only [hb,zK]) <;> (try simp only [zL,zI] at hb) <;> (try (exfalso;omega))))))
     refine ⟨i + 1,by omega,by omega,?_⟩
     rw [hs2.out]
     exact ⟨[0,1],rfl,rfl,rfl,iV_eq (by omega),rfl,rfl,rfl,rfl,trivial⟩
    ·rw [if_neg hz] at hs2
     replace hs2 := Lib.hid hs2
     clear hs hle
     generalize TM i = T at *
     (repeat' (first
      |(apply W.qd;(first
      |(exact zM)|(exact zN)|(exact jAj)|(exact jAv)|(exact jAg)|(exact jB)|(exact jAd)|(exact jBe)|(exact jAl)
      |(exact jA)))|(apply W.ed;((apply (e_app1F (f := tmD) (B[i],K[i]'(by omega)));(iterate 8 exact rfl);omega)))|(apply yA)|(apply yB)|(refine jAe ?_)|(refine jAs ?_)|(apply yE)|(refine jBc ?_)|(apply yG)|(apply yH)|(apply yL)
      |(refine W.cond _ rfl (fun hb => ?_) (fun hb => ?_) <;> ((try simp only [hb,zK]) <;> (try simp only [zL,zI] at hb) <;> (try (exfalso;omega))))))
     refine ⟨i + 1,by omega,by omega,?_⟩
     rw [hs2.out,show (T ++ [(B[i],K[i]'(by omega))]).length = T.length + 1 by simp]
     exact ⟨[0,1],rfl,rfl,rfl,iV_eq (by omega),rfl,rfl,congrArg (AV.osl 1 (T.length + 1) 0) (by simp),rfl,trivial⟩
   ·have hiB3 : i = B.length := by omega
    subst hiB3
    clear hs hle
    generalize TM B.length = T at *
    (repeat' (first
     |(apply W.qd;(first
     |(exact zM)|(exact zN)|(exact jAj)
     |(exact jB)))|(apply yA)|(apply yB)|(refine jAe ?_)|(apply yE)|(apply yI)|(apply yJ)|(apply yK)|(apply yM)
     |(refine W.cond _ rfl (fun hb => ?_) (fun hb => ?_) <;> ((try simp only [hb,zK]) <;> (try simp only [zL,zI] at hb) <;> (try (exfalso;omega))))))
    exact ⟨.inl rfl,[],[.osl 1 T.length 0 T.length,iV 0],rfl,rfl,⟨rfl,rfl,trivial⟩,AVle.tup2 (AVle.of_eq (frz_rowJ rfl rfl (by simp))) (AVle.of_eq rfl),rfl⟩
theorem A_r8recov {l : List (Nat × Nat)} {e : Int} {M D : Int} {par : List (List Int)} {hv : List Bool} {u : Int} (hc : ACalls Tryz.prog 102 [cdA M D par,bools hv,iV u] [] (.tup [tmsA l,iV e]) []) : ACalls Tryz.prog 51 [cdA M D par,bools hv,iV u] [] (bV (decide (e = 0))) [] := by
 refine acalls_of_bodyO Tryz.func51 rfl (zU rfl) ?_
 (repeat' (first
  |(apply W.qd;(first
  |(exact zW (hc))|(exact zM)|(exact zN)|(exact jAn)|(exact jBb)
  |(exact jBd)))|(apply W.ed;(exact jAc))|(apply yA)|(apply yB)|(refine jAe ?_)|(apply yE)
  |(apply yJ)))
 all_goals exact ⟨.inl rfl,[],[bV (decide (e = 0))],rfl,rfl,⟨rfl,trivial⟩,AVle.of_eq rfl,rfl⟩
end
section
attribute [local irreducible] Quiet Eff OpOk AWPG ACont ABlock ACalls AGoto
theorem A_r8decod {M D : Nat} {ps : List (List Nat)} {hv : List Bool} (h : CodeOk M D ps) (hl : hv.length = D + ps.length) : ACalls Tryz.prog 47 [cdN M D ps,bools hv] [] (bV (decide ((basisN M D ps hv).length = D))) [] := by
 refine acalls_of_bodyO Tryz.func47 rfl (zU rfl) ?_
 have h1 := h.d
 have h2 := h.w
 have hw := A_r8widthN h
 rw [← hl] at hw
 have hmh : (hv.map tD).length = hv.length := List.length_map _
 have hfull := full_iff_rec h hl
 have hrec : ∀ i,i < hv.length → ACalls Tryz.prog 51 [cdN M D ps,bools hv,iV i] [] (bV (combN M D ps hv i).isSome) [] := fun i hi => by
  have hc := A_r8comb h hl (u := i) (by omega)
  rw [cdN_A] at hc ⊢
  cases hc2 : combN M D ps hv i with
  | none => rw [hc2] at hc;exact A_r8recov (l := []) (e := 11) hc
  | some l => rw [hc2] at hc;exact A_r8recov (l := l) (e := 0) hc
 rw [← hl] at hfull
 generalize combN M D ps hv = C at *
 generalize (basisN M D ps hv).length = BL at *
 (repeat' (first
  |(apply yFb;exact rfl;exact rfl)
  |(apply W.qd;(first
  |(exact zW (hw))|(exact zM)|(exact zN)|(exact jAn)|(exact jBb)|(exact jAv)|(exact jB)
  |(apply (yDb (u := .d _));exact rfl;exact rfl)))|(apply W.ed;(exact jAc))|(apply yA)|(apply yB)|(apply (W.regionS 5);exact rfl;kernel_rfl)|(apply yE)|(apply yG)|(apply yH)|(refine W.gF _ _ rfl rfl (fun hb => ?_) (fun hb => ?_) <;> ((try simp only [hb,zK]) <;> (try simp only [zL,zI] at hb) <;> (try (exfalso;omega))))
  |(refine W.cond _ rfl (fun hb => ?_) (fun hb => ?_) <;> ((try simp only [hb,zK]) <;> (try simp only [zL,zI] at hb) <;> (try (exfalso;omega))))))
 refine AWP.loopW (α := Nat) (fun k => k ≤ hv.length ∧ ∀ i,i < k → (C i).isSome = true) (fun k => ⟨[(6,iV k),(5,iV hv.length),(1,bools hv),(2,.opt 0 0)],[.box [.d .any,iV M,iV D,rowsN ps,.d .any]]⟩) (fun k => hv.length - k) 0 ⟨Nat.zero_le _,fun i hi => by omega⟩ ⟨[0],rfl,rfl,rfl,by (repeat (first | exact trivial | refine ⟨rfl,?_⟩))⟩ fun k hk => ?_
 by_cases hkl : k < hv.length
 ·have hr := hrec k hkl
  clear hrec
  cases hC : (C k).isSome with
  | true =>
    rw [hC] at hr
    (repeat' (first
     |(apply W.qd;(first
     |(exact zW (hr))|(exact zM)|(exact zN)|(exact jAn)|(exact jAj)|(exact jBg)
     |(exact jAg)))|(apply yA)|(apply yB)|(refine jAe ?_)|(apply yE)|(apply yG)|(apply yH)|(apply yL)|(refine jAw ?_)
     |(refine W.cond _ rfl (fun hb => ?_) (fun hb => ?_) <;> ((try simp only [hb,zK]) <;> (try simp only [zL,zI] at hb) <;> (try (exfalso;omega))))))
    exact ⟨k + 1,⟨by omega,fun i hi => by
     by_cases e : i = k
     ·rw [e];exact hC
     ·exact hk.2 i (by omega)⟩,by omega,[0],rfl,rfl,rfl,iV_eq (by omega),rfl,rfl,rfl,trivial⟩
  | false =>
    rw [hC] at hr
    have hne : ¬ BL = D := fun e => by
     have := hfull.1 e k hkl
     rw [hC] at this;cases this
    rw [decide_eq_false hne]
    (repeat' (first
     |(apply W.qd;(first
     |(exact zW (hr))|(exact zM)|(exact zN)|(exact jAn)|(exact jAj)
     |(exact jBg)))|(apply yA)|(apply yB)|(refine jAe ?_)|(apply yE)|(apply yG)|(apply yH)|(apply yJ)|(apply yP)|(apply yN)|(refine jBa ?_)
     |(refine W.cond _ rfl (fun hb => ?_) (fun hb => ?_) <;> ((try simp only [hb,zK]) <;> (try simp only [zL,zI] at hb) <;> (try (exfalso;omega))))))
    exact ⟨.inl rfl,[],[bV false],rfl,rfl,⟨rfl,trivial⟩,AVle.of_eq rfl,rfl⟩
 ·have hB : BL = D := hfull.2 fun u hu => hk.2 u (by omega)
  rw [decide_eq_true hB]
  clear hrec
  (repeat' (first
   |(apply W.qd;(first
   |(exact zM)|(exact zN)
   |(exact jAj)))|(apply yA)|(apply yB)|(refine jAe ?_)|(apply yE)|(apply yI)|(apply yJ)|(apply yK)|(apply yM)
   |(refine W.cond _ rfl (fun hb => ?_) (fun hb => ?_) <;> ((try simp only [hb,zK]) <;> (try simp only [zL,zI] at hb) <;> (try (exfalso;omega))))))
  exact ⟨.inl rfl,[],[bV true],rfl,rfl,⟨rfl,trivial⟩,AVle.of_eq rfl,rfl⟩
end
section
theorem mem_havU {us : List (List Nat)} {hv : List Bool} {n : Nat} {x : List Nat} : x ∈ havU us hv n ↔ ∃ i,i < n ∧ hv.getD i false = true ∧ x = us.getD i [] := by
 unfold havU
 rw [List.mem_map]
 constructor
 ·rintro ⟨i, h1, rfl⟩
  obtain ⟨h2,h3⟩ := List.mem_filter.1 h1
  exact ⟨i,List.mem_range.1 h2,h3,rfl⟩
 ·rintro ⟨i, h1, h2, rfl⟩
  exact ⟨i,List.mem_filter.2 ⟨List.mem_range.2 h1,h2⟩,rfl⟩
attribute [local irreducible] Quiet Eff OpOk AWPG ACont ABlock ACalls AGoto
end
section
structure SrcOk (M D : Nat) (ps us : List (List Nat)) (hv : List Bool) : Prop where
 c : CodeOk M D ps
 ul : us.length = D + ps.length
 hl : hv.length = D + ps.length
 len : ∀ i,hv.getD i false = true → (us.getD i []).length = 32
 b : ∀ x ∈ us,isB x ∧ x.length < 9223372036854775808
def recN (M D : Nat) (ps us : List (List Nat)) (hv : List Bool) (u : Nat) : Option (List Nat) := (combN M D ps hv u).map (sumN M 32 us)
def recR (o : Option (List Nat)) : AV := match o with | some x => .tup [bS x,iV 0] | none => .tup [bS [],iV 11]
theorem fit32 {M : Nat} (hM : FldM M) : FitM M 32 := fun _ => rfl
theorem SrcOk.fit {M D : Nat} {ps us : List (List Nat)} {hv : List Bool} (h : SrcOk M D ps us hv) : fitN M D ps us hv = true := by
 unfold fitN
 rw [decide_eq_true h.ul,decide_eq_true h.hl,Bool.true_and,Bool.true_and]
 unfold uniB
 rw [List.all_eq_true]
 have key : ∀ x ∈ havU us hv us.length,x.length = 32 := fun x hx => by
  obtain ⟨i,i1,i2,rfl⟩ := mem_havU.1 hx
  exact h.len i i2
 intro x hx
 have hh : ((havU us hv us.length).headD []).length = 32 := by
  cases hl : havU us hv us.length with
  | nil => rw [hl] at hx;cases hx
  | cons a l => exact key a (by rw [hl];simp)
 unfold uniQ
 rw [Bool.and_eq_true,Bool.or_eq_true,decide_eq_true_eq,decide_eq_true_eq,decide_eq_true_eq,hh,key x hx]
 exact ⟨rfl,.inr rfl⟩
theorem SrcOk.terms {M D u : Nat} {ps us : List (List Nat)} {hv : List Bool} {l : List (Nat × Nat)} (h : SrcOk M D ps us hv) (hu : u < D + ps.length) (hc : combN M D ps hv u = some l) : TermsIn M 32 us l := by
 have hk := comb_ok h.c h.hl hu hc
 have hbl := basis_len h.c h.hl
 have hw := h.c.w
 refine ⟨hk.pos h.c hu,by have := hk.le;omega,fun t ht => ?_⟩
 have hp := hk.pres t ht
 have h1 : t.1 < us.length := by have := hv_lt h.c h.hl hp;have := h.ul;omega
 have hm : us.getD t.1 [] ∈ us := by rw [List.getD_eq_getElem?_getD,List.getElem?_eq_getElem h1];exact List.getElem_mem h1
 exact ⟨h1,(hk.lt t ht).1,(h.b _ hm).1,h.len _ hp⟩
theorem SrcOk.rec_len {M D u : Nat} {ps us : List (List Nat)} {hv : List Bool} {x : List Nat} (h : SrcOk M D ps us hv) (hu : u < D + ps.length) (hr : recN M D ps us hv u = some x) : isB x ∧ x.length = 32 := by
 unfold recN at hr
 cases hc : combN M D ps hv u with
 | none => rw [hc] at hr;cases hr
 | some l =>
   rw [hc] at hr
   obtain rfl : sumN M 32 us l = x := by simpa using hr
   have ht := h.terms hu hc
   exact combM_ok h.c.f (fit32 h.c.f) _ _ _ (fun c hc => by obtain ⟨t,h1,rfl⟩ := List.mem_map.1 hc;exact (ht.t t h1).2.1) (fun x hx => by obtain ⟨t,h1,rfl⟩ := List.mem_map.1 hx;exact (ht.t t h1).2.2.2) (isB_zero 32) (by simp)
theorem A_erecS {M D u : Nat} {ps us : List (List Nat)} {hv : List Bool} (h : SrcOk M D ps us hv) (hu : u < D + ps.length) : ACalls Tryz.prog 88 [cdN M D ps,strs us,bools hv,iV u] [] (recR (recN M D ps us hv u)) [] := by
 have hw := h.c.w
 have hul := h.ul
 unfold recN
 cases hc : combN M D ps hv u with
 | none => exact A_recover_lost h.c (by omega) h.hl (fun x hx => (h.b x hx).2) h.fit hu hc
 | some l => exact A_recover_ok h.c (by omega) h.hl (fun x hx => (h.b x hx).2) h.fit hu hc (h.terms hu hc) (fit32 h.c.f) (by omega)
end
section
def letB (c : Nat) : Bool := decide (97 ≤ c) && decide (c ≤ 122)
def digB (c : Nat) : Bool := decide (48 ≤ c) && decide (c ≤ 57)
def wordAt (s : List Nat) (k : Nat) : Bool := letB (s.getD k 0) || (decide (k ≠ 0) && digB (s.getD k 0))
def wordB (s : List Nat) : Bool := decide (s ≠ []) && (List.range s.length).all (wordAt s)
theorem getDI_mem {l : List Int} {j : Nat} (h : j < l.length) : l.getD j 0 ∈ l := by
 rw [List.getD_eq_getElem?_getD,List.getElem?_eq_getElem h];exact List.getElem_mem h
theorem memI_getD {l : List Int} {x : Int} (h : x ∈ l) : ∃ j,j < l.length ∧ l.getD j 0 = x := by
 obtain ⟨j,hj,rfl⟩ := List.getElem_of_mem h
 exact ⟨j,hj,by rw [List.getD_eq_getElem?_getD,List.getElem?_eq_getElem hj];rfl⟩
def chkC (nm : List Nat) (M D : Int) (par : List (List Int)) (dom : Int) : Bool :=
 (wordB nm && decide (nm.length ≤ 12)) && (decide (M = 8 ∨ M = 16) && decide (1 ≤ D) && decide (D ≤ 31) && decide (par.length ≠ 0) && decide (D + (par.length : Int) ≤ 32)) && par.all (rowOk M D) && (decide (1 ≤ dom) && decide (dom ≤ D + (par.length : Int)))
theorem chk_valid {nm : List Nat} {M D dom : Int} {par : List (List Int)} (h : chkC nm M D par dom = true) : validC M D par = true := by
 unfold chkC at h
 simp only [Bool.and_eq_true,decide_eq_true_eq] at h
 obtain ⟨⟨⟨h1,⟨⟨⟨h2,h3⟩,h4⟩,h5⟩,h6⟩,h7⟩,h8⟩ := h
 unfold validC
 simp only [Bool.and_eq_true,decide_eq_true_eq]
 refine ⟨⟨⟨⟨?_,h3⟩,by omega⟩,by omega⟩,h7⟩
 unfold allF
 rw [decide_eq_true h2]
 rcases h2 with rfl | rfl <;> rfl
abbrev cdF (nm : List Nat) (M D : Int) (par : List (List Int)) (dom : Int) : AV := .agg [bS nm,iV M,iV D,rowsA par,iV dom]
theorem cdF_le {nm : List Nat} {M D dom : Int} {par : List (List Int)} {F : Nat → Prop} {own : List Ent} {κ : List (Option Nat)} {w : World} {u : Value} (h : AV.sat F own κ w (cdF nm M D par dom) u) : AV.sat F own κ w (cdA M D par) u := by
 rw [AV.sat] at h ⊢
 obtain ⟨us,h1,h2⟩ := h
 refine ⟨us,h1,?_⟩
 generalize us.toList = l at h2
 rcases l with _ | ⟨a,_ | ⟨b,_ | ⟨c,_ | ⟨d,_ | ⟨e,l⟩⟩⟩⟩⟩ <;> simp only [AV.satL,and_false,and_assoc] at h2 ⊢
 obtain ⟨h3,h4,h5,h6,h7,h8⟩ := h2
 rw [sat_v] at h3 h7
 subst h3;subst h7
 refine ⟨?_,h4,h5,h6,?_,h8⟩
 ·rw [AV.sat,Dat.sat];rfl
 ·rw [AV.sat,Dat.sat];rfl
theorem ACalls.cdF {P : Program} {f : FuncId} {nm : List Nat} {M D dom : Int} {par : List (List Int)} {l : List AV} {r : AV} {own own' : List Ent} (h : ACalls P f (cdA M D par :: l) own r own') : ACalls P f (cdF nm M D par dom :: l) own r own' :=
 h.le fun F κ w vs => satL_le1 (fun F own κ w u => cdF_le) F own κ w vs
attribute [local irreducible] Quiet Eff OpOk AWPG ACont ABlock ACalls AGoto
end
section
theorem wrap_sum {a : Int} {n : Nat} (ha : 1 ≤ a ∧ a ≤ 31) (hn : n ≤ 9223372036854775807) : (a + (n : Int) < 9223372036854775808 ∧ IntKind.i64.wrap (a + (n : Int)) = a + (n : Int)) ∨ (9223372036854775808 ≤ a + (n : Int) ∧ IntKind.i64.wrap (a + (n : Int)) < 0) := by
 by_cases h : a + (n : Int) < 9223372036854775808
 ·exact .inl ⟨h,wrap_in ⟨by omega,h⟩⟩
 ·refine .inr ⟨by omega, ?_⟩
  rw [IntKind.wrap_i64];omega
section
variable {P : Program} {m : Nat} {env : List (Nat × AV)} {own : List Ent} {dst : Option Tmp} {ty : TypeId} {pos : String} {af : Array Edge} {gd : Option (Nat × Bool)}
theorem q_addV (wd : Int) {t t' : TypeId} {x y : Operand} {a b : Int} (hx : lookO env x = iV a) (hy : lookO env y = iV b) (h : IntKind.i64.wrap (a + b) = wd) :
 Quiet P m ⟨dst,.binOp .add t x y t',ty,pos,af,gd⟩ env own [] (iV wd) := by
 subst h;exact q_addw hx hy
end
attribute [local irreducible] Quiet Eff OpOk AWPG ACont ABlock ACalls AGoto
end
section
def upK (hv : List Bool) (k : Nat) : List Nat := (List.range k).filter fun i => hv.getD i false
theorem upK_succ (hv : List Bool) (k : Nat) : upK hv (k + 1) = if hv.getD k false = true then upK hv k ++ [k] else upK hv k := by
 unfold upK
 rw [List.range_succ,List.filter_append]
 cases h : hv.getD k false with
 | true => rw [if_pos rfl];simp only [List.filter_cons,h,if_true,List.filter_nil]
 | false => rw [if_neg (by decide)];simp only [List.filter_cons,h,Bool.false_eq_true,if_false,List.filter_nil,List.append_nil]
theorem upK_len (hv : List Bool) (k : Nat) : (upK hv k).length ≤ k := Nat.le_trans (List.length_filter_le _ _) (by simp)
attribute [local irreducible] Quiet Eff OpOk AWPG ACont ABlock ACalls AGoto
section
variable {l : List Nat} {k : Nat} {g : List Nat → Bool} {E0 E1 E2 E3 E4 L : Ent} {F2 F7 : Ent} {F3 : List Nat → Ent}
end
end
section
theorem AVle.anyV {v : Value} (h : v.oneCell' = true) : AVle (.d (.v v)) (.d .any) := fun F own κ w u hs => by
 rw [sat_v] at hs
 subst hs
 rw [AV.sat,Dat.sat];exact h
theorem AVle.anyS (sz : Nat) (l : List (List Dat)) : AVle (.d (.sl sz l)) (.d .any) := fun F own κ w u hs => by
 rw [AV.sat,Dat.sat] at hs
 obtain ⟨A,c,rfl,_⟩ := hs
 rw [AV.sat,Dat.sat];rfl
theorem minusN_snoc (hv : List Bool) (L : List Nat) (u : Nat) : minusN hv (L ++ [u]) = (minusN hv L).set u false := by
 unfold minusN
 rw [List.foldl_append];rfl
attribute [local irreducible] Quiet Eff OpOk AWPG ACont ABlock ACalls AGoto
end
section
theorem setK_same {κ : List (Option Nat)} {i : Nat} {og : Option Nat} (h : κ[i]? = some og) : κ.set i og = κ := List.ext_getElem? fun j => by
 by_cases hj : j = i
 ·subst hj;rw [List.getElem?_set_self (List.getElem?_eq_some_iff.1 h).1,h]
 ·rw [List.getElem?_set_ne (Ne.symm hj)]
section
variable {P : Program} {m : Nat} {env : List (Nat × AV)} {own : List Ent} {dst : Option Tmp} {ty : TypeId} {pos : String} {af : Array Edge} {gd : Option (Nat × Bool)}
end
end
section
open Go.Shelf Go.RowKit
def layRepeat_ren : Go.Shelf.Ren := ⟨fun | 105 => 79 | 212 => 134 | 99 => 135 | 165 => 136 | 166 => 137 | 170 => 138 | 169 => 139 | 263 => 196 | 264 => 197 | 206 => 198 | 240 => 199 | 241 => 200 | 276 => 246 | 277 => 247 | n => n,fun | 9 => 9 | 3 => 3 | 4 => 4 | 20 => 20 | 0 => 0 | 46 => 200 | 109 => 225 | 5 => 5 | 72 => 230 | 76 => 234 | 51 => 192 | 146 => 275 | 53 => 277 | 148 => 278 | 70 => 228 | 37 => 44 | 75 => 233 | 127 => 280 | 164 => 304 | 80 => 237 | n => n,fun | n => n⟩
theorem layRepeat : Go.Proofs.Lays.n105 Tryz.prog layRepeat_ren := {
 mixed := by kernel_rfl
 f99 := Tryz.func135.trans (congrArg some (by kernel_rfl))
 f105 := Tryz.func79.trans (congrArg some (by kernel_rfl))
 f165 := Tryz.func136.trans (congrArg some (by kernel_rfl))
 f166 := Tryz.func137.trans (congrArg some (by kernel_rfl))
 f169 := Tryz.func139.trans (congrArg some (by kernel_rfl))
 f170 := Tryz.func138.trans (congrArg some (by kernel_rfl))
 f206 := Tryz.func198.trans (congrArg some (by kernel_rfl))
 f212 := Tryz.func134.trans (congrArg some (by kernel_rfl))
 f240 := Tryz.func199.trans (congrArg some (by kernel_rfl))
 f241 := Tryz.func200.trans (congrArg some (by kernel_rfl))
 f263 := Tryz.func196.trans (congrArg some (by kernel_rfl))
 f264 := Tryz.func197.trans (congrArg some (by kernel_rfl))
 f276 := Tryz.func246.trans (congrArg some (by kernel_rfl))
 f277 := Tryz.func247.trans (congrArg some (by kernel_rfl))
 t0 := Tryz.underlying0
 a0 := Tryz.isAgg0
 z0 := Tryz.sizeOf0
 v0 := Tryz.zeroValue0
 t3 := Tryz.underlying3
 a3 := Tryz.isAgg3
 z3 := Tryz.sizeOf3
 v3 := Tryz.zeroValue3
 t4 := Tryz.underlying4
 a4 := Tryz.isAgg4
 z4 := Tryz.sizeOf4
 v4 := Tryz.zeroValue4
 t5 := Tryz.underlying5
 a5 := Tryz.isAgg5
 z5 := Tryz.sizeOf5
 v5 := Tryz.zeroValue5
 t9 := Tryz.underlying9
 a9 := Tryz.isAgg9
 z9 := Tryz.sizeOf9
 v9 := Tryz.zeroValue9
 t20 := Tryz.underlying20
 a20 := Tryz.isAgg20
 z20 := Tryz.sizeOf20
 v20 := Tryz.zeroValue20
 t37 := Tryz.underlying44
 a37 := Tryz.isAgg44
 z37 := Tryz.sizeOf44
 v37 := Tryz.zeroValue44
 t46 := Tryz.underlying200
 a46 := Tryz.isAgg200
 z46 := Tryz.sizeOf200
 v46 := Tryz.zeroValue200
 t51 := Tryz.underlying192
 a51 := Tryz.isAgg192
 z51 := Tryz.sizeOf192
 v51 := Tryz.zeroValue192
 t53 := Tryz.underlying277
 a53 := Tryz.isAgg277
 z53 := Tryz.sizeOf277
 v53 := Tryz.zeroValue277
 t70 := Tryz.underlying228
 a70 := Tryz.isAgg228
 z70 := Tryz.sizeOf228
 v70 := Tryz.zeroValue228
 t72 := Tryz.underlying230
 a72 := Tryz.isAgg230
 z72 := Tryz.sizeOf230
 v72 := Tryz.zeroValue230
 t75 := Tryz.underlying233
 a75 := Tryz.isAgg233
 z75 := Tryz.sizeOf233
 v75 := Tryz.zeroValue233
 t76 := Tryz.underlying234
 a76 := Tryz.isAgg234
 z76 := Tryz.sizeOf234
 v76 := Tryz.zeroValue234
 t109 := Tryz.underlying225
 a109 := Tryz.isAgg225
 z109 := Tryz.sizeOf225
 v109 := Tryz.zeroValue225
 t127 := Tryz.underlying280
 a127 := Tryz.isAgg280
 z127 := Tryz.sizeOf280
 v127 := Tryz.zeroValue280
 t146 := Tryz.underlying275
 a146 := Tryz.isAgg275
 z146 := Tryz.sizeOf275
 v146 := Tryz.zeroValue275
 t148 := Tryz.underlying278
 a148 := Tryz.isAgg278
 z148 := Tryz.sizeOf278
 v148 := Tryz.zeroValue278
 t164 := Tryz.underlying304
 a164 := Tryz.isAgg304
 z164 := Tryz.sizeOf304
 v164 := Tryz.zeroValue304 }
end
section
open Go.Shelf Go.RowKit
theorem extra_repeat : Builder.Extra Tryz.prog layRepeat_ren where
 sizeBuilder := by kernel_rfl
 liesBuilder := by kernel_rfl
 t5 := layRepeat.t5
 a5 := layRepeat.a5
 z5 := layRepeat.z5
 v5 := layRepeat.v5
 infoByte := by kernel_rfl
 cellsByte := by kernel_rfl
 sizeByte := by kernel_rfl
 neB5 := by decide
end
section
def decZ (M D : Int) (par : List (List Int)) : List Bool → Bool := decN M.toNat D.toNat (par.map fun r => r.map Int.toNat)
def leftC (nm : List Nat) (M D : Int) (par : List (List Int)) (dom : Int) (hv : List Bool) : Int := if chkC nm M D par dom = true ∧ (hv.length : Int) = D + (par.length : Int) then leftN (decZ M D par) hv else -1
structure FIn (nm : List Nat) (D : Int) (par : List (List Int)) : Prop where
 n : isB nm
 l : nm.length < 9223372036854775808
 d : 0 ≤ D ∧ D ≤ 1000000
 p : par.length ≤ 1000000
theorem toZ_back (ps : List (List Nat)) : ((toZ ps).map fun r => r.map Int.toNat) = ps := by
 unfold toZ
 rw [List.map_map]
 have : ((fun r : List Int => r.map Int.toNat) ∘ fun r : List Nat => r.map fun n : Nat => (n : Int)) = id := by
  funext r
  simp [Function.comp_def]
 rw [this];simp
theorem decZ_nat (M D : Nat) (ps : List (List Nat)) : decZ M D (toZ ps) = decN M D ps := by
 unfold decZ
 rw [toZ_back];rfl
theorem chk_code {nm : List Nat} {M D dom : Int} {par : List (List Int)} (h : chkC nm M D par dom = true) : ∃ (m d : Nat) (ps : List (List Nat)),M = m ∧ D = d ∧ par = toZ ps ∧ CodeOk m d ps := ok_valid (chk_valid h)
attribute [local irreducible] Quiet Eff OpOk AWPG ACont ABlock ACalls AGoto
end
section
def sumI (r : List Int) (j : Nat) : Int := (r.take j).sum
theorem sumI_succ {r : List Int} {j : Nat} (h : j < r.length) : sumI r (j + 1) = sumI r j + r[j] := by
 unfold sumI
 rw [List.take_succ_eq_append_getElem h,List.sum_append];simp
theorem sumI_bound {r : List Int} : ∀ j, (∀ i, i < j → 0 ≤ r.getD i 0 ∧ r.getD i 0 ≤ 65535) → j ≤ r.length → (0 ≤ sumI r j ∧ sumI r j ≤ 65535 * j) ∧ (sumI r j = 0 ↔ ∀ i, i < j → r.getD i 0 = 0)
 | 0,_,_ => ⟨⟨Int.le_refl _,Int.le_refl _⟩,fun _ i hi => by omega,fun _ => rfl⟩
 | j + 1,h,hl => by
   obtain ⟨⟨h1,h2⟩,h3⟩ := sumI_bound j (fun i hi => h i (by omega)) (by omega)
   have h4 := h j (by omega)
   have e : r.getD j 0 = r[j] := by rw [List.getD_eq_getElem?_getD,List.getElem?_eq_getElem (by omega)];rfl
   rw [e] at h4
   rw [sumI_succ (by omega)]
   refine ⟨⟨by omega,by omega⟩,fun h5 i hi => ?_,fun h5 => ?_⟩
   ·by_cases e2 : i = j
    ·subst e2;rw [e];omega
    ·exact h3.1 (by omega) i (by omega)
   ·have h6 := h5 j (by omega)
    rw [e] at h6
    have := h3.2 fun i hi => h5 i (by omega)
    omega
def topF (M : Int) : Int := if M = 8 then 255 else 65535
theorem rowOk_sum {M D : Int} {r : List Int} (hM : M = 8 ∨ M = 16) (hl : (r.length : Int) = D) (hr : ∀ i,i < r.length → 0 ≤ r.getD i 0 ∧ r.getD i 0 ≤ topF M) : rowOk M D r = decide (sumI r r.length ≠ 0) := by
 have ht : topF M ≤ 65535 := by unfold topF;split <;> omega
 have h2 := (sumI_bound r.length (fun i hi => ⟨(hr i hi).1,by have := (hr i hi).2;omega⟩) (Nat.le_refl _)).2
 unfold rowOk
 rw [decide_eq_true hl,Bool.true_and,Bool.eq_iff_iff]
 simp only [Bool.and_eq_true,decide_eq_true_eq,List.all_eq_true,Bool.not_eq_true',List.all_eq_false,allF,inF,List.all_cons,List.all_nil,Bool.and_true]
 constructor
 ·rintro ⟨_, x, hx, h3⟩ h4
  obtain ⟨q,hq,rfl⟩ := memI_getD hx
  exact h3 (h2.1 h4 q hq)
 ·intro h3
  refine ⟨fun x hx => ?_,?_⟩
  ·obtain ⟨q, hq, rfl⟩ := memI_getD hx
   have := hr q hq
   unfold topF at this
   refine ⟨hM,this.1,?_⟩
   rcases hM with rfl | rfl
   ·have h5 := this.2;rw [if_pos rfl] at h5 ⊢;omega
   ·have h5 := this.2;rw [if_neg (by decide)] at h5 ⊢;omega
  ·refine Classical.byContradiction fun hc => h3 (h2.2 fun i hi => Classical.byContradiction fun h5 => hc ⟨r.getD i 0,getDI_mem hi,h5⟩)
theorem rowOk_badc {M D : Int} {r : List Int} {i : Nat} (hM : M = 8 ∨ M = 16) (hi : i < r.length) (h : ¬ (0 ≤ r.getD i 0 ∧ r.getD i 0 ≤ topF M)) : rowOk M D r = false := by
 rw [Bool.eq_false_iff]
 intro h2
 unfold rowOk at h2
 simp only [Bool.and_eq_true,decide_eq_true_eq,List.all_eq_true,allF,inF,List.all_cons,List.all_nil,Bool.and_true] at h2
 have h3 := (h2.1.2 _ (getDI_mem hi)).2
 apply h
 unfold topF
 rcases hM with rfl | rfl
 ·rw [if_pos rfl] at h3 ⊢;omega
 ·rw [if_neg (by decide)] at h3 ⊢;omega
attribute [local irreducible] Quiet Eff OpOk AWPG ACont ABlock ACalls AGoto
theorem A_letter7 (c : Nat) : ACalls Tryz.prog 234 [.d (.v (.int .u8 c))] [] (bV (letB c)) [] := by
 refine acalls_of_body Tryz.func234 rfl (zU rfl) ?_
 unfold letB
 (repeat' (first
  |(apply yFb;exact rfl;exact rfl)
  |(apply W.qd;(first
  |(exact zM)|(exact zN)|(exact q_leq rfl rfl)|(exact q_geq rfl rfl)|(apply (yEb (u := .d _));exact rfl;exact rfl)
  |(apply (yDb (u := .d _));exact rfl;exact rfl)))|(refine W.gOff _ _ rfl rfl (by intro h;cases h) ?_)|(apply yA)|(apply yB)|(refine jAe ?_)|(apply yE)|(apply yJ)
  |(refine W.gT _ _ rfl rfl (fun hb => ?_) (fun hb => ?_) <;> ((try simp only [hb,zK]) <;> (try simp only [zL,zI] at hb) <;> (try (exfalso;omega))))))
 all_goals refine Ends.b rfl ?_
 all_goals first | (rw [Bool.eq_iff_iff];simp;omega) | (simp;omega)
theorem A_digit7 (c : Nat) : ACalls Tryz.prog 235 [.d (.v (.int .u8 c))] [] (bV (digB c)) [] := by
 refine acalls_of_body Tryz.func235 rfl (zU rfl) ?_
 unfold digB
 (repeat' (first
  |(apply yFb;exact rfl;exact rfl)
  |(apply W.qd;(first
  |(exact zM)|(exact zN)|(exact q_leq rfl rfl)|(exact q_geq rfl rfl)|(apply (yEb (u := .d _));exact rfl;exact rfl)
  |(apply (yDb (u := .d _));exact rfl;exact rfl)))|(refine W.gOff _ _ rfl rfl (by intro h;cases h) ?_)|(apply yA)|(apply yB)|(refine jAe ?_)|(apply yE)|(apply yJ)
  |(refine W.gT _ _ rfl rfl (fun hb => ?_) (fun hb => ?_) <;> ((try simp only [hb,zK]) <;> (try simp only [zL,zI] at hb) <;> (try (exfalso;omega))))))
 all_goals refine Ends.b rfl ?_
 all_goals first | (rw [Bool.eq_iff_iff];simp;omega) | (simp;omega)
theorem A_top7 (M : Int) : ACalls Tryz.prog 180 [iV M] [] (iV (topF M)) [] := by
 refine acalls_of_body Tryz.func180 rfl (zU rfl) ?_
 unfold topF
 by_cases h : M = 8
 ·rw [if_pos h]
  (repeat' (first
   |(apply W.qd;(first
   |(exact zM)|(exact zN)
   |(exact jBb)))|(apply yA)|(apply yB)|(refine jAe ?_)|(apply yE)|(apply yJ)|(apply yP)
   |(refine W.cond _ rfl (fun hb => ?_) (fun hb => ?_) <;> ((try simp only [hb,zK]) <;> (try simp only [zL,zI] at hb) <;> (try (exfalso;omega))))))
  exact Ends.i rfl rfl
 ·rw [if_neg h]
  (repeat' (first
   |(apply W.qd;(first
   |(exact zM)|(exact zN)
   |(exact jBb)))|(apply yA)|(apply yB)|(refine jAe ?_)|(apply yE)|(apply yH)|(apply yJ)
   |(refine W.cond _ rfl (fun hb => ?_) (fun hb => ?_) <;> ((try simp only [hb,zK]) <;> (try simp only [zL,zI] at hb) <;> (try (exfalso;omega))))))
  exact Ends.i rfl rfl
theorem A_word7 {s : List Nat} (hs : isB s) (hl : s.length < 9223372036854775808) : ACalls Tryz.prog 179 [bS s] [] (bV (wordB s)) [] := by
 refine acalls_of_body Tryz.func179 rfl (zU rfl) ?_
 have hL := A_letter7
 have hG := A_digit7
 by_cases h0 : s = []
 ·subst h0
  (repeat' (first
   |(apply W.qd;(first
   |((apply (q_eqlS (l' := []));exact rfl;exact rfl;assumption;exact isB_nil))|(exact zM)|(exact zN)
   |(apply (yEb (u := .d _));exact rfl;exact rfl)))|(refine W.gOff _ _ rfl rfl (by intro h;cases h) ?_)|(apply yA)|(apply yB)|(refine jAe ?_)|(apply yE)|(apply yJ)|(apply yP)
   |(refine jBa ?_)))
  all_goals first | exact Ends.b rfl rfl | (exfalso;simp at hb)
 have hp : 0 < s.length := List.length_pos_iff.2 h0
 have g0 : s.getD 0 0 = s[0] := by rw [List.getD_eq_getElem?_getD,List.getElem?_eq_getElem hp];rfl
 have hLo := hL s[0]
 cases hc : letB s[0] with
 | false =>
   rw [hc] at hLo
   have hw : wordB s = false := by
    unfold wordB
    rw [Bool.and_eq_false_iff]
    right
    rw [List.all_eq_false]
    exact ⟨0,List.mem_range.2 hp,by unfold wordAt;rw [g0,hc];simp⟩
   rw [hw]
   (repeat' (first
    |(apply yFb;exact rfl;exact rfl)
    |(apply W.qd;(first
    |(exact zW (hLo))
    |((apply (q_eqlS (l' := []));exact rfl;exact rfl;assumption;exact isB_nil))|(exact zM)|(exact zN)|(exact jBg)|(exact jAk)|(apply (yEb (u := .d _));exact rfl;exact rfl)
    |(apply (yDb (u := .d _));exact rfl;exact rfl)))|(refine W.gOff _ _ rfl rfl (by intro h;cases h) ?_)|(apply yA)|(apply yB)|(refine jAe ?_)|(apply yE)|(apply yJ)|(apply yP)|(refine jBa ?_)
    |(refine W.gF _ _ rfl rfl (fun hb => ?_) (fun hb => ?_) <;> ((try simp only [hb,zK]) <;> (try simp only [zL,zI] at hb) <;> (try (exfalso;omega))))))
   all_goals first | exact Ends.b rfl rfl | exact absurd hb h0
 | true =>
   rw [hc] at hLo
   (repeat' (first
    |(apply yFb;exact rfl;exact rfl)
    |(apply W.qd;(first
    |(exact zW (hLo))
    |((apply (q_eqlS (l' := []));exact rfl;exact rfl;assumption;exact isB_nil))|(exact zM)|(exact zN)|(exact jBg)|(exact jAk)|(apply (yEb (u := .d _));exact rfl;exact rfl)
    |(apply (yDb (u := .d _));exact rfl;exact rfl)))|(refine W.gOff _ _ rfl rfl (by intro h;cases h) ?_)|(apply yA)|(apply yB)|(apply (W.regionS 4);exact rfl;kernel_rfl)|(apply yE)|(apply yG)|(apply yH)|(apply yJ)|(apply yP)|(refine jBa ?_)|(refine jAw ?_)
    |(refine W.gF _ _ rfl rfl (fun hb => ?_) (fun hb => ?_) <;> ((try simp only [hb,zK]) <;> (try simp only [zL,zI] at hb) <;> (try (exfalso;omega))))))
   all_goals try (exact absurd hb h0)
   refine AWP.loopW (α := Nat) (fun k => k ≤ s.length ∧ ∀ j,j < k → wordAt s j = true) (fun k => ⟨[(3,iV k),(0,bS s)],[]⟩) (fun k => s.length - k) 0 ⟨Nat.zero_le _,fun j hj => by omega⟩ ⟨[],rfl,rfl,rfl,by (repeat (first | exact trivial | refine ⟨rfl,?_⟩))⟩ fun k hk => ?_
   by_cases hkl : k < s.length
   ·have eg : s.getD k 0 = s[k] := by rw [List.getD_eq_getElem?_getD, List.getElem?_eq_getElem hkl]; rfl
    have hnext : wordAt s k = true → ∀ j,j < k + 1 → wordAt s j = true := fun h j hj => by
     by_cases e : j = k
     ·subst e;exact h
     ·exact hk.2 j (by omega)
    have hbad : wordAt s k = false → wordB s = false := fun h => by
     unfold wordB
     rw [Bool.and_eq_false_iff]
     right
     rw [List.all_eq_false]
     exact ⟨k,List.mem_range.2 hkl,by rw [h];decide⟩
    have hwa : wordAt s k = (letB s[k] || digB s[k]) := by
     unfold wordAt;rw [eg]
     by_cases e : k = 0
     ·subst e;rw [hc];rfl
     ·rw [decide_eq_true e,Bool.true_and]
    replace hwa := Lib.hid hwa
    (repeat' (first
     |(apply yFb;exact rfl;exact rfl)
     |(apply W.qd;(first
     |(exact zW (hL s[k]))|(exact zW (hG s[k]))|(exact zM)|(exact zN)|(exact jAj)|(exact jBg)|(exact jAg)|(exact jBl)|(exact jAk)|(apply (yEb (u := .d _));exact rfl;exact rfl)
     |(apply (yDb (u := .d _));exact rfl;exact rfl)))|(refine W.gOff _ _ rfl rfl (by intro h;cases h) ?_)|(apply yA)|(apply yB)|(refine jAe ?_)|(apply yE)|(apply yG)|(apply yH)|(apply yJ)|(apply yP)|(apply yL)|(apply yN)|(refine jAw ?_)|(refine W.gT _ _ rfl rfl (fun hb => ?_) (fun hb => ?_) <;> ((try simp only [hb,zK]) <;> (try simp only [zL,zI] at hb) <;> (try (exfalso;omega))))
     |(refine W.cond _ rfl (fun hb => ?_) (fun hb => ?_) <;> ((try simp only [hb,zK]) <;> (try simp only [zL,zI] at hb) <;> (try (exfalso;omega))))))
    all_goals first
     |(refine Ends.b rfl (hbad ?_).symm;rw [hwa.out,Bool.or_eq_false_iff];exact ⟨by assumption,by assumption⟩)|(refine ⟨k + 1,⟨by omega,hnext ?_⟩,by omega,[],rfl,rfl,rfl,iV_eq (by omega),rfl,trivial⟩;rw [hwa.out,Bool.or_eq_true];first | exact .inl (by assumption) | exact .inr (by assumption))
   ·have hall : (List.range s.length).all (wordAt s) = true := by
     rw [List.all_eq_true]
     intro j hj
     exact hk.2 j (by have := List.mem_range.1 hj;omega)
    have hw : wordB s = true := by unfold wordB;rw [hall,decide_eq_true h0];rfl
    rw [hw]
    (repeat' (first
     |(apply W.qd;(first
     |(exact zM)|(exact zN)|(exact jAj)
     |(exact jBl)))|(apply yA)|(apply yB)|(refine jAe ?_)|(apply yE)|(apply yI)|(apply yJ)|(apply yK)|(apply yM)
     |(refine W.cond _ rfl (fun hb => ?_) (fun hb => ?_) <;> ((try simp only [hb,zK]) <;> (try simp only [zL,zI] at hb) <;> (try (exfalso;omega))))))
    exact Ends.b rfl rfl
theorem A_check7G {nm : List Nat} {M D dom : Int} {par : List (List Int)} (hn : isB nm) (hnl : nm.length < 9223372036854775808) (hP : par.length ≤ 9223372036854775807) :
 ∃ e : Int,ACalls Tryz.prog 114 [cdF nm M D par dom] [] (iV e) [] ∧ (e = 0 ↔ chkC nm M D par dom = true) := by
 have hW := A_word7 hn hnl
 have hmp : (par.map rD).length = par.length := List.length_map _
 obtain ⟨wd,hWe⟩ : ∃ wd,IntKind.i64.wrap (D + ((par.map rD).length : Int)) = wd := ⟨_,rfl⟩
 by_cases c1 : wordB nm = true
 case neg =>
  have c1 := Bool.eq_false_iff.2 c1
  refine ⟨4,?_,by unfold chkC;rw [c1];simp⟩
  rw [c1] at hW
  refine acalls_of_body Tryz.func114 rfl (zU rfl) ?_
  (repeat' (first
   |(apply W.qd;(first
   |((apply (q_addV wd);exact rfl;exact rfl;assumption))|(exact zW (hW))|(exact zN)|(exact jAr)|(exact jAm)|(exact jBg)
   |(exact jB)))|(apply W.ed;(exact jAc))|(apply yA)|(apply yB)|(refine jAe ?_)|(apply yE)|(apply yG)|(apply yJ)|(apply yP)|(apply yN)
   |(refine jBa ?_)))
  exact Ends.i rfl rfl
 rw [c1] at hW
 by_cases c2 : nm.length ≤ 12
 case neg =>
  refine ⟨2,?_,by unfold chkC;rw [decide_eq_false c2];simp⟩
  refine acalls_of_body Tryz.func114 rfl (zU rfl) ?_
  (repeat' (first
   |(apply W.qd;(first
   |((apply (q_addV wd);exact rfl;exact rfl;assumption))|(exact zW (hW))|(exact zN)|(exact jAr)|(exact jAm)|(exact q_gtr rfl rfl)|(exact jBg)|(exact jB)
   |(exact jBl)))|(apply W.ed;(exact jAc))|(apply yA)|(apply yB)|(refine jAe ?_)|(apply yE)|(apply yG)|(apply yJ)|(apply yP)|(apply yN)|(refine jAw ?_)
   |(refine W.cond _ rfl (fun hb => ?_) (fun hb => ?_) <;> ((try simp only [hb,zK]) <;> (try simp only [zL,zI] at hb) <;> (try (exfalso;omega))))))
  exact Ends.i rfl rfl
 by_cases c3 : (M = 8 ∨ M = 16) ∧ 1 ≤ D ∧ D ≤ 31 ∧ par.length ≠ 0
 case neg =>
  refine ⟨1,?_,?_⟩
  ·refine acalls_of_body Tryz.func114 rfl (zU rfl) ?_
   (repeat' (first
    |(apply yFb;exact rfl;exact rfl)
    |(apply W.qd;(first
    |((apply (q_addV wd);exact rfl;exact rfl;assumption))|(exact zW (hW))|(exact zM)|(exact zN)|(exact jAr)|(exact jAm)|(exact jAj)|(exact q_gtr rfl rfl)|(exact jBb)|(exact jAv)|(exact jBg)|(exact jB)|(exact jBl)|(apply (yEb (u := .d _));exact rfl;exact rfl)
    |(apply (yDb (u := .d _));exact rfl;exact rfl)))|(apply W.ed;(exact jAc))|(refine W.gOff _ _ rfl rfl (by intro h;cases h) ?_)|(apply yA)|(apply yB)|(refine jAe ?_)|(apply yE)|(apply yG)|(apply yJ)|(apply yP)|(apply yN)|(refine jBa ?_)|(refine jAw ?_)|(refine W.gT _ _ rfl rfl (fun hb => ?_) (fun hb => ?_) <;> ((try simp only [hb,zK]) <;> (try simp only [zL,zI] at hb) <;> (try (exfalso;omega))))|(refine W.gF _ _ rfl rfl (fun hb => ?_) (fun hb => ?_) <;> ((try simp only [hb,zK]) <;> (try simp only [zL,zI] at hb) <;> (try (exfalso;omega))))
    |(refine W.cond _ rfl (fun hb => ?_) (fun hb => ?_) <;> ((try simp only [hb,zK]) <;> (try simp only [zL,zI] at hb) <;> (try (exfalso;omega))))))
   all_goals first | exact Ends.i rfl rfl | (exfalso;apply c3;refine ⟨by omega,by omega,by omega,by omega⟩)
  ·refine ⟨fun h => by omega, fun h => ?_⟩
   unfold chkC at h
   simp only [Bool.and_eq_true,decide_eq_true_eq] at h
   exact absurd ⟨h.1.1.2.1.1.1.1,h.1.1.2.1.1.1.2,h.1.1.2.1.1.2,h.1.1.2.1.2⟩ c3
 obtain ⟨c3,c4,c5,c6⟩ := c3
 have hWv := wrap_sum (a := D) (n := par.length) (by omega) hP
 rw [← hmp,hWe,hmp] at hWv
 by_cases c7 : wd ≤ 32
 case neg =>
  refine ⟨2,?_,by unfold chkC;rw [decide_eq_false (show ¬ D + (par.length : Int) ≤ 32 by omega)];simp⟩
  refine acalls_of_body Tryz.func114 rfl (zU rfl) ?_
  (repeat' (first
   |(apply yFb;exact rfl;exact rfl)
   |(apply W.qd;(first
   |((apply (q_addV wd);exact rfl;exact rfl;assumption))|(exact zW (hW))|(exact zM)|(exact zN)|(exact jAr)|(exact jAm)|(exact jAj)|(exact q_gtr rfl rfl)|(exact jBb)|(exact jAv)|(exact jBg)|(exact jB)|(exact jBl)|(apply (yEb (u := .d _));exact rfl;exact rfl)
   |(apply (yDb (u := .d _));exact rfl;exact rfl)))|(apply W.ed;(exact jAc))|(refine W.gOff _ _ rfl rfl (by intro h;cases h) ?_)|(apply yA)|(apply yB)|(refine jAe ?_)|(apply yE)|(apply yG)|(apply yJ)|(apply yP)|(apply yN)|(refine jAw ?_)|(refine W.gT _ _ rfl rfl (fun hb => ?_) (fun hb => ?_) <;> ((try simp only [hb,zK]) <;> (try simp only [zL,zI] at hb) <;> (try (exfalso;omega))))|(refine W.gF _ _ rfl rfl (fun hb => ?_) (fun hb => ?_) <;> ((try simp only [hb,zK]) <;> (try simp only [zL,zI] at hb) <;> (try (exfalso;omega))))
   |(refine W.cond _ rfl (fun hb => ?_) (fun hb => ?_) <;> ((try simp only [hb,zK]) <;> (try simp only [zL,zI] at hb) <;> (try (exfalso;omega))))))
  all_goals first | exact Ends.i rfl rfl | (exfalso;omega)
 have hT := A_top7 M
 have ht0 : topF M ≤ 65535 := by unfold topF;split <;> omega
 have hall : ∀ e : Int,(par.all (rowOk M D) = false → e = 1) → (par.all (rowOk M D) = true → e = if 1 ≤ dom ∧ dom ≤ wd then 0 else 1) → ACalls Tryz.prog 114 [cdF nm M D par dom] [] (iV e) [] := fun e he0 he1 => by
  refine acalls_of_body Tryz.func114 rfl (zU rfl) ?_
  (repeat' (first
   |(apply yFb;exact rfl;exact rfl)
   |(apply W.qd;(first
   |((apply (q_addV wd);exact rfl;exact rfl;assumption))|(exact zW (hW))|(exact zM)|(exact zN)|(exact jAr)|(exact jAm)|(exact jAj)|(exact q_gtr rfl rfl)|(exact jBb)|(exact jAv)|(exact jBg)|(exact jB)|(exact jBl)|(apply (yEb (u := .d _));exact rfl;exact rfl)
   |(apply (yDb (u := .d _));exact rfl;exact rfl)))|(apply W.ed;(exact jAc))|(refine W.gOff _ _ rfl rfl (by intro h;cases h) ?_)|(apply yA)|(apply yB)|(apply (W.regionS 13);exact rfl;kernel_rfl)|(apply yE)|(apply yG)|(apply yH)|(apply yL)|(refine jAw ?_)|(refine W.gT _ _ rfl rfl (fun hb => ?_) (fun hb => ?_) <;> ((try simp only [hb,zK]) <;> (try simp only [zL,zI] at hb) <;> (try (exfalso;omega))))|(refine W.gF _ _ rfl rfl (fun hb => ?_) (fun hb => ?_) <;> ((try simp only [hb,zK]) <;> (try simp only [zL,zI] at hb) <;> (try (exfalso;omega))))
   |(refine W.cond _ rfl (fun hb => ?_) (fun hb => ?_) <;> ((try simp only [hb,zK]) <;> (try simp only [zL,zI] at hb) <;> (try (exfalso;omega))))))
  all_goals try (exfalso;omega)
  all_goals
   refine AWP.loopW (α := Nat) (fun k => k ≤ par.length ∧ ∀ j,j < k → rowOk M D (par.getD j []) = true) (fun k => ⟨[(4,iV k),(3,iV (wd)),(1,.opt 0 0)],[.box [bS nm,iV M,iV D,rowsA par,iV dom]]⟩) (fun k => par.length - k) 0 ⟨Nat.zero_le _,fun j hj => by omega⟩ (by exact ⟨[0],rfl,rfl,rfl,rfl,rfl,rfl,trivial⟩) fun k hk => ?_
   by_cases hkl : k < par.length
   ·have eg : par.getD k [] = par[k] := by rw [List.getD_eq_getElem?_getD, List.getElem?_eq_getElem hkl]; rfl
    have hnext : rowOk M D par[k] = true → ∀ j,j < k + 1 → rowOk M D (par.getD j []) = true := fun h j hj => by
     by_cases e : j = k
     ·subst e;rw [eg];exact h
     ·exact hk.2 j (by omega)
    have hbad : rowOk M D par[k] = false → e = 1 := fun h => he0 (by rw [List.all_eq_false];exact ⟨par[k],List.getElem_mem hkl,by rw [h];decide⟩)
    have hmr : (par[k].map iD).length = par[k].length := List.length_map _
    by_cases hrl : (par[k].length : Int) = D
    ·clear he0 he1 hk
     (repeat' (first
      |(apply W.qd;(first
      |(exact zM)|(exact zN)|(exact jAr)|(exact jAm)|(exact jAj)|(exact jAv)|(exact jB)|(exact jAd)
      |(exact jA)))|(apply yA)|(apply yB)|(apply (W.regionS 19);exact rfl;kernel_rfl)|(apply (W.regionDS 19);exact rfl;exact rfl;kernel_rfl)|(apply yE)|(refine jBc ?_)|(apply yG)|(apply yH)
      |(refine W.cond _ rfl (fun hb => ?_) (fun hb => ?_) <;> ((try simp only [hb,zK]) <;> (try simp only [zL,zI] at hb) <;> (try (exfalso;omega))))))
     all_goals try (exfalso;omega)
     refine AWP.loopW (α := Nat) (fun j => j ≤ par[k].length ∧ ∀ i,i < j → 0 ≤ par[k].getD i 0 ∧ par[k].getD i 0 ≤ topF M) (fun j => ⟨[(6,iV j),(5,iV (sumI par[k] j)),(4,iV k),(3,iV (wd)),(1,.opt 0 0)],[.box [bS nm,iV M,iV D,rowsA par,iV dom]]⟩) (fun j => par[k].length - j) 0 ⟨Nat.zero_le _,fun i hi => by omega⟩ ⟨[0],rfl,rfl,rfl,by (repeat (first | exact trivial | refine ⟨rfl,?_⟩))⟩ fun j hj => ?_
     have hsb := (sumI_bound j (fun i hi => ⟨(hj.2 i hi).1,by have := (hj.2 i hi).2;omega⟩) hj.1).1
     by_cases hjl : j < par[k].length
     ·have ej : par[k].getD j 0 = par[k][j] := by rw [List.getD_eq_getElem?_getD, List.getElem?_eq_getElem hjl]; rfl
      have hss := Lib.hid (sumI_succ hjl)
      have hbc : ¬ (0 ≤ par[k][j] ∧ par[k][j] ≤ topF M) → e = 1 := fun h => hbad (rowOk_badc c3 hjl (by rw [ej];exact h))
      have hnj : 0 ≤ par[k][j] ∧ par[k][j] ≤ topF M → ∀ i,i < j + 1 → 0 ≤ par[k].getD i 0 ∧ par[k].getD i 0 ≤ topF M := fun h i hi => by
       by_cases e : i = j
       ·subst e;rw [ej];exact h
       ·exact hj.2 i (by omega)
      clear hj
      generalize sumI par[k] j = sm at *
      generalize topF M = tp at *
      (repeat' (first
       |(apply yFb;exact rfl;exact rfl)
       |(apply W.qd;(first
       |(exact zW (hT))|(exact zM)|(exact zN)|(exact jAr)|(exact jAm)|(exact jAj)|(exact q_gtr rfl rfl)|(exact jAg)|(exact jAd)|(exact jA)|(apply (yEb (u := .d _));exact rfl;exact rfl)
       |(apply (yDb (u := .d _));exact rfl;exact rfl)))|(refine W.gOff _ _ rfl rfl (by intro h;cases h) ?_)|(apply yA)|(apply yB)|(refine jAe ?_)|(apply yE)|(apply yG)|(apply yH)|(apply yJ)|(apply yP)|(apply yL)|(apply yN)|(refine jBa ?_)|(refine W.gF _ _ rfl rfl (fun hb => ?_) (fun hb => ?_) <;> ((try simp only [hb,zK]) <;> (try simp only [zL,zI] at hb) <;> (try (exfalso;omega))))
       |(refine W.cond _ rfl (fun hb => ?_) (fun hb => ?_) <;> ((try simp only [hb,zK]) <;> (try simp only [zL,zI] at hb) <;> (try (exfalso;omega))))))
      all_goals first
       |(refine Ends.i rfl (hbc ?_).symm;omega)|(refine ⟨j + 1,⟨by omega,hnj ⟨by omega,by omega⟩⟩,by omega,?_⟩;rw [hss.out];exact ⟨[0],rfl,rfl,rfl,iV_eq (by omega),iV_eq (by omega),rfl,rfl,rfl,trivial⟩)
     ·have e2 : j = par[k].length := by omega
      subst e2
      have hro := rowOk_sum c3 hrl hj.2
      clear hj
      generalize sumI par[k] par[k].length = sm at *
      by_cases hz : sm = 0
      ·have h1 : e = 1 := hbad (by rw [hro]; exact decide_eq_false fun h => h hz)
       (repeat' (first
        |(apply W.qd;(first
        |(exact zM)|(exact zN)|(exact jAr)|(exact jAm)|(exact jAj)
        |(exact jBb)))|(apply yA)|(apply yB)|(refine jAe ?_)|(apply yE)|(apply yI)|(apply yJ)|(apply yK)|(apply yP)|(apply yM)|(apply yN)
        |(refine W.cond _ rfl (fun hb => ?_) (fun hb => ?_) <;> ((try simp only [hb,zK]) <;> (try simp only [zL,zI] at hb) <;> (try (exfalso;omega))))))
       all_goals first | exact Ends.i rfl h1.symm | (exfalso;omega)
      ·have h1 := hnext (by rw [hro]; exact decide_eq_true hz)
       (repeat' (first
        |(apply W.qd;(first
        |(exact zM)|(exact zN)|(exact jAr)|(exact jAm)|(exact jAj)|(exact jBb)
        |(exact jAg)))|(apply yA)|(apply yB)|(refine jAe ?_)|(apply yE)|(apply yH)|(apply yI)|(apply yK)|(apply yL)|(apply yM)
        |(refine W.cond _ rfl (fun hb => ?_) (fun hb => ?_) <;> ((try simp only [hb,zK]) <;> (try simp only [zL,zI] at hb) <;> (try (exfalso;omega))))))
       all_goals first | exact ⟨k + 1,⟨by omega,h1⟩,by omega,[0],rfl,rfl,rfl,iV_eq (by omega),rfl,rfl,trivial⟩ | (exfalso;omega)
    ·have hb0 : e = 1 := hbad (by unfold rowOk; rw [decide_eq_false hrl]; rfl)
     clear he0 he1 hk
     (repeat' (first
      |(apply W.qd;(first
      |(exact zM)|(exact zN)|(exact jAr)|(exact jAm)|(exact jAj)|(exact jAv)|(exact jB)|(exact jAd)
      |(exact jA)))|(apply yA)|(apply yB)|(refine jAe ?_)|(refine jAs ?_)|(apply yE)|(refine jBc ?_)|(apply yG)|(apply yH)|(apply yJ)|(apply yP)|(apply yN)
      |(refine W.cond _ rfl (fun hb => ?_) (fun hb => ?_) <;> ((try simp only [hb,zK]) <;> (try simp only [zL,zI] at hb) <;> (try (exfalso;omega))))))
     all_goals first | exact Ends.i rfl hb0.symm | (exfalso;omega)
   ·have ha : par.all (rowOk M D) = true := by
     rw [List.all_eq_true]
     intro r hr
     obtain ⟨j,hj,rfl⟩ := List.getElem_of_mem hr
     have := hk.2 j (by omega)
     rwa [List.getD_eq_getElem?_getD,List.getElem?_eq_getElem hj] at this
    have he := he1 ha
    clear he0 he1 hk
    (repeat' (first
     |(apply yFb;exact rfl;exact rfl)
     |(apply W.qd;(first
     |(exact zM)|(exact zN)|(exact jAr)|(exact jAm)|(exact jAj)|(exact q_gtr rfl rfl)|(exact jB)|(apply (yEb (u := .d _));exact rfl;exact rfl)
     |(apply (yDb (u := .d _));exact rfl;exact rfl)))|(refine W.gOff _ _ rfl rfl (by intro h;cases h) ?_)|(apply yA)|(apply yB)|(refine jAe ?_)|(apply yE)|(apply yH)|(apply yI)|(apply yJ)|(apply yK)|(apply yP)|(apply yM)|(refine jBa ?_)|(refine W.gF _ _ rfl rfl (fun hb => ?_) (fun hb => ?_) <;> ((try simp only [hb,zK]) <;> (try simp only [zL,zI] at hb) <;> (try (exfalso;omega))))
     |(refine W.cond _ rfl (fun hb => ?_) (fun hb => ?_) <;> ((try simp only [hb,zK]) <;> (try simp only [zL,zI] at hb) <;> (try (exfalso;omega))))))
    all_goals (refine Ends.i rfl ?_;rw [he];first | (rw [if_pos (by omega)];done) | (rw [if_neg (by omega)];done))
 by_cases c8 : D + (par.length : Int) ≤ 32
 case neg =>
  refine ⟨1,hall 1 (fun _ => rfl) (fun _ => by rw [if_neg (by omega)]),by unfold chkC;rw [decide_eq_false c8];simp⟩
 have hWq : wd = D + (par.length : Int) := by omega
 rw [hWq] at hall
 have hc : chkC nm M D par dom = (par.all (rowOk M D) && (decide (1 ≤ dom) && decide (dom ≤ D + (par.length : Int)))) := by
  unfold chkC
  rw [c1,decide_eq_true c2,decide_eq_true c3,decide_eq_true c4,decide_eq_true c5,decide_eq_true c6,decide_eq_true c8]
  rfl
 refine ⟨if par.all (rowOk M D) = true then (if 1 ≤ dom ∧ dom ≤ D + (par.length : Int) then 0 else 1) else 1,hall _ (fun h => by rw [h];rfl) (fun h => by rw [if_pos h]),?_⟩
 rw [hc]
 cases par.all (rowOk M D) with
 | false => simp
 | true =>
   rw [if_pos rfl,Bool.true_and,Bool.and_eq_true,decide_eq_true_eq,decide_eq_true_eq]
   split <;> simp_all
theorem A_check7 {nm : List Nat} {M D dom : Int} {par : List (List Int)} (hn : isB nm) (hnl : nm.length < 9223372036854775808) (hD : 0 ≤ D ∧ D ≤ 1000000) (hP : par.length ≤ 1000000) :
 ∃ e : Int,ACalls Tryz.prog 114 [cdF nm M D par dom] [] (iV e) [] ∧ (e = 0 ↔ chkC nm M D par dom = true) := A_check7G hn hnl (by omega)
end
section
def upF (hv : List Bool) (i : Nat) : List Nat := ((List.range hv.length).drop i).filter fun j => hv.getD j false
theorem upF_zero (hv : List Bool) : upF hv 0 = upN hv := rfl
theorem upF_step {hv : List Bool} {i : Nat} (h : i < hv.length) : upF hv i = if hv.getD i false = true then i :: upF hv (i + 1) else upF hv (i + 1) := by
 unfold upF
 rw [List.drop_eq_getElem_cons (by simpa using h),List.filter_cons]
 simp only [List.getElem_range]
theorem upF_end {hv : List Bool} {i : Nat} (h : hv.length ≤ i) : upF hv i = [] := by
 unfold upF
 rw [List.drop_of_length_le (by simpa using h)];rfl
def fatN (dec : List Bool → Bool) (hv : List Bool) (set : List Nat) (i n : Nat) : Bool := (subsN (upF hv i) n).any fun s => !dec (minusN hv (set ++ s))
theorem fatN_zero (dec : List Bool → Bool) (hv : List Bool) (set : List Nat) (i : Nat) : fatN dec hv set i 0 = !dec (minusN hv set) := by
 unfold fatN
 have : subsN (upF hv i) 0 = [[]] := by unfold subsN;rfl
 rw [this];simp
theorem fatN_end {dec : List Bool → Bool} {hv : List Bool} {set : List Nat} {i n : Nat} (h : hv.length ≤ i) : fatN dec hv set i (n + 1) = false := by
 unfold fatN
 rw [upF_end h,subsN];rfl
theorem fatN_step {dec : List Bool → Bool} {hv : List Bool} {set : List Nat} {i n : Nat} (h : i < hv.length) : fatN dec hv set i (n + 1) = if hv.getD i false = true then (fatN dec hv (set ++ [i]) (i + 1) n || fatN dec hv set (i + 1) (n + 1)) else fatN dec hv set (i + 1) (n + 1) := by
 unfold fatN
 rw [upF_step h]
 split
 ·rw [subsN, List.any_append, List.any_map]
  congr 1
  congr 1
  funext s
  simp
 ·rfl
theorem bad_fat (dec : List Bool → Bool) (hv : List Bool) (f : Nat) : badN dec hv f = fatN dec hv [] 0 (f + 1) := by
 unfold badN fatN
 rw [upF_zero]
 congr 1
def preK (hv : List Bool) (k : Nat) : Nat := (hv.take k).count true
theorem preK_succ {hv : List Bool} {k : Nat} (h : k < hv.length) : preK hv (k + 1) = preK hv k + (if hv[k] = true then 1 else 0) := by
 unfold preK
 rw [List.take_succ_eq_append_getElem h,List.count_append,List.count_singleton]
 congr 1
 cases hv[k] <;> rfl
theorem preK_le (hv : List Bool) (k : Nat) : preK hv k ≤ k := Nat.le_trans List.count_le_length (by simp;omega)
theorem preK_up (hv : List Bool) : ∀ k, k ≤ hv.length → preK hv k = (upK hv k).length
 | 0,_ => rfl
 | k + 1,h => by
   have eg : hv.getD k false = hv[k]'(by omega) := by rw [List.getD_eq_getElem?_getD,List.getElem?_eq_getElem (by omega)];rfl
   rw [preK_succ (by omega),upK_succ,eg,preK_up hv k (by omega)]
   split
   ·simp
   ·rfl
theorem dec_some {M D : Nat} {ps : List (List Nat)} {hv : List Bool} (h : CodeOk M D ps) (hd : decN M D ps hv = true) : ∃ j,hv.getD j false = true := by
 unfold decN at hd
 rw [Bool.and_eq_true,decide_eq_true_eq,decide_eq_true_eq] at hd
 have := h.d
 exact ⟨_,bas_pres h hd.1 (q := 0) (by omega)⟩
theorem fat_all {M D : Nat} {ps : List (List Nat)} {hv : List Bool} (h : CodeOk M D ps) (hd : decN M D ps hv = true) : 0 < (upN hv).length ∧ badN (decN M D ps) hv ((upN hv).length - 1) = true := by
 obtain ⟨j,hj⟩ := dec_some h hd
 have h1 : 0 < (upN hv).length := List.length_pos_of_mem (mem_upN.2 hj)
 refine ⟨h1,?_⟩
 unfold badN
 rw [List.any_eq_true]
 refine ⟨upN hv,mem_subsN.2 ⟨List.Sublist.refl _,by omega⟩,?_⟩
 rw [Bool.not_eq_true',Bool.eq_false_iff]
 intro h2
 obtain ⟨i,hi⟩ := dec_some h h2
 rw [minusN_get] at hi
 split at hi
 ·cases hi
 ·rename_i h3;exact h3 (mem_upN.2 hi)
attribute [local irreducible] Quiet Eff OpOk AWPG ACont ABlock ACalls AGoto
theorem A_pres9 {hv : List Bool} (hl : hv.length ≤ 1000000) : ACalls Tryz.prog 96 [bools hv] [] (iV ((upN hv).length : Nat)) [] := by
 refine acalls_of_body Tryz.func96 rfl (zU rfl) ?_
 have hmh : (hv.map tD).length = hv.length := List.length_map _
 (repeat' (first
  |(apply W.qd;(exact zN))|(apply yA)|(apply yB)|(refine jAe ?_)|(apply yE)
  |(apply yG)))
 refine AWP.loopW (α := Nat) (fun k => k ≤ hv.length) (fun k => ⟨[(4,iV k),(3,iV (preK hv k)),(0,bools hv)],[]⟩) (fun k => hv.length - k) 0 (Nat.zero_le _) ⟨[],rfl,rfl,rfl,by (repeat (first | exact trivial | refine ⟨rfl,?_⟩))⟩ fun k hk => ?_
 have hle := preK_le hv k
 by_cases hkl : k < hv.length
 ·have hs := Lib.hid (preK_succ hkl)
  generalize preK hv k = A at *
  (repeat' (first
   |(apply W.qd;(first
   |(exact zM)|(exact zN)|(exact jAj)|(exact jAg)|(exact jB)|(exact jAd)
   |(exact jA)))|(apply yA)|(apply yB)|(refine jAe ?_)|(apply yE)|(apply yG)|(apply yH)|(apply yL)
   |(refine W.cond _ rfl (fun hb => ?_) (fun hb => ?_) <;> ((try simp only [hb,zK]) <;> (try simp only [zL,zI] at hb) <;> (try (exfalso;omega))))))
  all_goals refine ⟨k + 1,by omega,by omega,?_⟩
  all_goals rw [hs.out]
  all_goals first
   |(rw [if_pos (by first | assumption | simpa using hb)];exact ⟨[],rfl,rfl,rfl,iV_eq (by omega),iV_eq (by omega),rfl,trivial⟩)
   |(rw [if_neg (by first | assumption | (rw [hb];decide) | simpa using hb)];exact ⟨[],rfl,rfl,rfl,iV_eq (by omega),iV_eq (by omega),rfl,trivial⟩)
 ·have e : k = hv.length := by omega
  subst e
  rw [preK_up hv hv.length (Nat.le_refl _),show upK hv hv.length = upN hv from rfl]
  (repeat' (first
   |(apply W.qd;(first
   |(exact zM)|(exact zN)|(exact jAj)
   |(exact jB)))|(apply yA)|(apply yB)|(refine jAe ?_)|(apply yE)|(apply yI)|(apply yJ)|(apply yK)|(apply yM)
   |(refine W.cond _ rfl (fun hb => ?_) (fun hb => ?_) <;> ((try simp only [hb,zK]) <;> (try simp only [zL,zI] at hb) <;> (try (exfalso;omega))))))
  exact Ends.i rfl rfl
theorem A_without9 {hv : List Bool} {L : List Nat} (h0 : 0 < hv.length) (hl : hv.length ≤ 1000000) (hu : ∀ u ∈ L,u < hv.length) (hL : L.length ≤ 1000000) : ACalls Tryz.prog 157 [bools hv,nats L] [] (bools (minusN hv L)) [] := by
 refine acalls_of_body Tryz.func157 rfl (zU rfl) ?_
 have hmh : (hv.map tD).length = hv.length := List.length_map _
 have hmL : (L.map kD).length = L.length := List.length_map _
 (repeat' (first
  |(apply W.qd;(exact zN))|(apply yA)|(apply yB)|(apply (W.regionS 2);exact rfl;kernel_rfl)
  |(apply yE)))
 refine AWP.nilRow 5 1 4 rfl (by omega) ?_
 (repeat' (first
  |(apply W.qd;(first
  |(exact zM)
  |(exact zN)))|(apply W.ed;(exact jAu))|(apply yA)|(apply yB)|(apply (W.regionS 4);exact rfl;kernel_rfl)|(apply yE)
  |(apply yG)))
 refine AWP.loopW (α := Nat) (fun k => k ≤ L.length) (fun k => ⟨[(6,iV k),(5,.osl 0 1 0 hv.length),(1,nats L)],[.row 1 1 4 ((minusN hv (L.take k)).map tD)]⟩) (fun k => L.length - k) 0 (Nat.zero_le _) ?wk0 fun k hk => ?_
 case wk0 => exact ⟨[0],rfl,rfl,rfl,rfl,congrArg (AV.osl 0 1 0) (by simp),rfl,trivial⟩
 have hmn := minusN_length (L.take k) hv
 by_cases hkl : k < L.length
 ·have hu := hu L[k] (List.getElem_mem hkl)
  have hsn := minusN_snoc hv (L.take k) L[k]
  rw [← List.take_succ_eq_append_getElem hkl] at hsn
  replace hsn := Lib.hid hsn
  generalize minusN hv (L.take k) = A at *
  (repeat' (first
   |(apply W.qd;(first
   |(exact zM)|(exact zN)|(exact jAj)|(exact jAg)|(exact jB)|(exact jAd)|(exact jA)
   |(exact jAb)))|(apply W.ln;(exact jAi))|(apply yA)|(apply yB)|(refine jAe ?_)|(apply yE)|(apply yG)|(apply yH)|(apply yL)
   |(refine W.cond _ rfl (fun hb => ?_) (fun hb => ?_) <;> ((try simp only [hb,zK]) <;> (try simp only [zL,zI] at hb) <;> (try (exfalso;omega))))))
  refine ⟨k + 1,by omega,by omega,?_⟩
  rw [hsn.out]
  exact ⟨[0],rfl,rfl,rfl,iV_eq (by omega),rfl,rfl,trivial⟩
 ·have e : k = L.length := by omega
  subst e
  rw [List.take_length] at *
  (repeat' (first
   |(apply W.qd;(first
   |(exact zM)|(exact zN)|(exact jAj)
   |(exact jB)))|(apply yA)|(apply yB)|(refine jAe ?_)|(apply yE)|(apply yI)|(apply yJ)|(apply yK)|(apply yM)
   |(refine W.cond _ rfl (fun hb => ?_) (fun hb => ?_) <;> ((try simp only [hb,zK]) <;> (try simp only [zL,zI] at hb) <;> (try (exfalso;omega))))))
  exact Ends.osl rfl rfl (by rw [List.length_map];omega) rfl
theorem A_fatal9 {M D : Nat} {ps : List (List Nat)} {hv : List Bool} (h : CodeOk M D ps) (hl : hv.length = D + ps.length) : ∀ (n i : Nat) (set : List Nat), n ≤ 1000 → i ≤ hv.length → set.length ≤ 1000 - n → (∀ u ∈ set, u < hv.length) →
 ACalls Tryz.prog 97 [cdN M D ps,bools hv,nats set,iV i,iV n] [] (.tup [.d .any,bV (fatN (decN M D ps) hv set i n)]) []
 | 0,i,set,hn,hi,hsl,hst => by
   have h1 := h.d
   have h2 := h.w
   have hmh : (hv.map tD).length = hv.length := List.length_map _
   have hw := A_without9 (hv := hv) (L := set) (by omega) (by omega) hst (by omega)
   have hls : (minusN hv set).length = D + ps.length := by rw [minusN_length];exact hl
   have hd := A_r8decod h hls
   have hd1 : decN M D ps (minusN hv set) = decide ((basisN M D ps (minusN hv set)).length = D) := by unfold decN;rw [decide_eq_true hls,Bool.true_and]
   rw [← hd1] at hd
   rw [fatN_zero]
   refine acalls_of_body Tryz.func97 rfl (zU rfl) ?_
   cases hq : decN M D ps (minusN hv set) with
   | true =>
     rw [hq] at hd
     (repeat' (first
      |(apply W.qd;(first
      |(exact zW (hw))|(exact zW (hd))|(exact zM)|(exact zN)|(exact jAn)|(exact jBb)
      |(exact jBg)))|(apply W.ed;(exact jAc))|(apply yA)|(apply yB)|(refine jAe ?_)|(refine jAs ?_)|(apply yE)|(refine jBc ?_)|(apply yJ)|(apply yP)
      |(refine jBa ?_)))
     all_goals exact ⟨.inl rfl,[],[nats set,bV false],rfl,⟨rfl,rfl,trivial⟩,AVle.tup2 (AVle.anyS 1 _) (AVle.refl _),rfl⟩
   | false =>
     rw [hq] at hd
     (repeat' (first
      |(apply W.qd;(first
      |(exact zW (hw))|(exact zW (hd))|(exact zM)|(exact zN)|(exact jAn)|(exact jBb)
      |(exact jBg)))|(apply W.ed;(exact jAc))|(apply yA)|(apply yB)|(refine jAe ?_)|(refine jAs ?_)|(apply yE)|(refine jBc ?_)|(apply yJ)|(apply yP)
      |(refine jBa ?_)))
     all_goals exact ⟨.inl rfl,[],[nats set,bV true],rfl,⟨rfl,rfl,trivial⟩,AVle.tup2 (AVle.anyS 1 _) (AVle.refl _),rfl⟩
 | n + 1,i0,set,hn,hi0,hsl,hst => by
   have h1 := h.d
   have h2 := h.w
   have hmh : (hv.map tD).length = hv.length := List.length_map _
   have hms : (set.map kD).length = set.length := List.length_map _
   have ih := A_fatal9 h hl n
   generalize decN M D ps = dec at *
   generalize hR : fatN dec hv set i0 (n + 1) = R
   refine acalls_of_body Tryz.func97 rfl (zU rfl) ?_
   (repeat' (first
    |(apply W.qd;(first
    |(exact zM)|(exact zN)
    |(exact jBb)))|(apply W.ed;(exact jAc))|(apply yA)|(apply yB)|(apply (W.regionS 5);exact rfl;kernel_rfl)|(apply yE)|(apply yG)|(apply yH)
    |(refine jAw ?_)))
   all_goals try (exfalso;omega)
   refine AWP.loopW (α := Nat) (fun i => i ≤ hv.length ∧ R = fatN dec hv set i (n + 1)) (fun i => ⟨[(13,iV i),(1,bools hv),(2,nats set),(4,iV ((n + 1 : Nat) : Int)),(5,.opt 0 0)],[.box [.d .any,iV M,iV D,rowsN ps,.d .any]]⟩) (fun i => hv.length - i) i0 ⟨hi0,hR.symm⟩ ⟨[0],rfl,rfl,rfl,by (repeat (first | exact trivial | refine ⟨rfl,?_⟩))⟩ fun i hi => ?_
   by_cases hil : i < hv.length
   ·have eg : hv.getD i false = hv[i] := by rw [List.getD_eq_getElem?_getD, List.getElem?_eq_getElem hil]; rfl
    have hst1 := fatN_step (dec := dec) (set := set) (n := n) hil
    rw [eg] at hst1
    have hstm : ∀ u ∈ set ++ [i],u < hv.length := fun u hu => by
     rcases List.mem_append.1 hu with h3 | h3
     ·exact hst u h3
     ·rw [List.mem_singleton.1 h3];exact hil
    have ih1 := ih (i + 1) (set ++ [i]) (by omega) (by omega) (by simp;omega) hstm
    cases hq : hv[i] with
    | false =>
      rw [hq,if_neg (by decide)] at hst1
      have hR2 := hi.2.trans hst1
      clear hi hR
      (repeat' (first
       |(apply W.qd;(first
       |(exact zM)|(exact zN)|(exact jAj)|(exact jBg)|(exact jAg)|(exact jB)|(exact jAd)
       |(exact jA)))|(apply yA)|(apply yB)|(refine jAe ?_)|(apply yE)|(apply yG)|(apply yH)|(apply yI)|(apply yK)|(apply yM)
       |(refine W.cond _ rfl (fun hb => ?_) (fun hb => ?_) <;> ((try simp only [hb,zK]) <;> (try simp only [zL,zI] at hb) <;> (try (exfalso;omega))))))
      (all_goals (try (exfalso;exact absurd ((‹hv[i] = true› : hv[i] = true).symm.trans (‹hv[i] = false› : hv[i] = false)) (by decide))))
      all_goals exact ⟨i + 1,⟨by omega,hR2⟩,by omega,[0],rfl,rfl,rfl,iV_eq (by omega),rfl,rfl,rfl,rfl,trivial⟩
    | true =>
      rw [hq,if_pos rfl] at hst1
      have hR2 := hi.2.trans hst1
      clear hi hR
      rcases Nat.eq_zero_or_pos set.length with hs0 | hs0
      ·obtain rfl := List.eq_nil_of_length_eq_zero hs0
       (repeat' (first
        |(apply W.qd;(first
        |(exact zM)|(exact zN)|(exact jAj)|(exact jBg)|(exact jAg)|(exact jB)|(exact jAd)
        |(exact jA)))|(apply yA)|(apply yB)|(apply (W.regionS 9);exact rfl;kernel_rfl)|(apply yE)|(apply yG)|(apply yH)|(apply yI)|(apply yK)|(apply yM)
        |(refine W.cond _ rfl (fun hb => ?_) (fun hb => ?_) <;> ((try simp only [hb,zK]) <;> (try simp only [zL,zI] at hb) <;> (try (exfalso;omega))))))
       (all_goals (try (exfalso;exact absurd ((‹hv[i] = true› : hv[i] = true).symm.trans (‹hv[i] = false› : hv[i] = false)) (by decide))))
       refine AWP.nilRow 14 1 3 rfl (by omega) ?_
       (repeat' (first
        |(apply W.qd;(first
        |(exact zM)|(exact zN)|(exact jAl)
        |(apply q_app0;(iterate 4 exact rfl))))|(apply W.ed;(exact jAu))|(apply yA)|(apply yB)|(apply (W.regionS 11);exact rfl;kernel_rfl)
        |(apply yE)))
       refine AWP.wk ⟨[(14,nats (([] : List Nat) ++ [i])),(13,iV i),(1,bools hv),(2,nats ([] : List Nat)),(4,iV ((n + 1 : Nat) : Int)),(5,.opt 0 0)],[.box [.d .any,iV M,iV D,rowsN ps,.d .any]]⟩ ?wk1 ?_
       case wk1 => exact ⟨[0],rfl,rfl,rfl,(frz_rowJ (i := 1) (ver := 1) (n := 0 + 1) (l := (([] : List Nat) ++ [i]).map kD) rfl rfl (by simp)).symm,rfl,rfl,rfl,rfl,rfl,trivial⟩
       have hix : (i : Int) + 1 = ((i + 1 : Nat) : Int) := by omega
       have hnx : ((n + 1 : Nat) : Int) - 1 = ((n : Nat) : Int) := by omega
       cases hF : fatN dec hv (([] : List Nat) ++ [i]) (i + 1) n with
       | true =>
         rw [hF,Bool.true_or] at hR2
         rw [hF,← hix,← hnx] at ih1
         subst hR2
         (repeat' (first
          |(apply W.qd;(first
          |(exact zW (ih1))|(exact zM)|(exact zN)|(exact jAn)|(exact jAg)|(exact q_sub rfl rfl (by omega))
          |(exact jBd)))|(apply yA)|(apply yB)|(refine jAe ?_)|(apply yE)|(apply yJ)|(apply yP)|(apply yN)
          |(refine jBa ?_)))
         all_goals exact ⟨.inl rfl,[],[.d .any,bV true],rfl,⟨rfl,rfl,trivial⟩,AVle.refl _,rfl⟩
       | false =>
         rw [hF,Bool.false_or] at hR2
         rw [hF,← hix,← hnx] at ih1
         (repeat' (first
          |(apply W.qd;(first
          |(exact zW (ih1))|(exact zM)|(exact zN)|(exact jAn)|(exact jAg)|(exact q_sub rfl rfl (by omega))
          |(exact jBd)))|(apply yA)|(apply yB)|(refine jAe ?_)|(apply yE)|(apply yH)|(apply yL)
          |(refine jAw ?_)))
         all_goals exact ⟨i + 1,⟨by omega,hR2⟩,by omega,[0],rfl,rfl,rfl,iV_eq (by omega),rfl,rfl,rfl,rfl,trivial⟩
      ·(repeat' (first
       |(apply W.qd;(first
       |(exact zM)|(exact zN)|(exact jAj)|(exact jBg)|(exact jAg)|(exact jB)|(exact jAd)
       |(exact jA)))|(apply yA)|(apply yB)|(apply (W.regionS 9);exact rfl;kernel_rfl)|(apply yE)|(apply yG)|(apply yH)|(apply yI)|(apply yK)|(apply yM)
       |(refine W.cond _ rfl (fun hb => ?_) (fun hb => ?_) <;> ((try simp only [hb,zK]) <;> (try simp only [zL,zI] at hb) <;> (try (exfalso;omega))))))
       (all_goals (try (exfalso;exact absurd ((‹hv[i] = true› : hv[i] = true).symm.trans (‹hv[i] = false› : hv[i] = false)) (by decide))))
       refine AWP.nilRow 14 1 3 rfl (by omega) ?_
       (repeat' (first
        |(apply W.qd;(first
        |(exact zM)|(exact zN)
        |(exact jAl)))|(apply W.ed;(exact jAu))|(apply yA)|(apply yB)|(apply (W.regionS 11);exact rfl;kernel_rfl)
        |(apply yE)))
       refine AWP.wk ⟨[(14,nats (set ++ [i])),(13,iV i),(1,bools hv),(2,nats set),(4,iV ((n + 1 : Nat) : Int)),(5,.opt 0 0)],[.box [.d .any,iV M,iV D,rowsN ps,.d .any]]⟩ ?wk2 ?_
       case wk2 => exact ⟨[0],rfl,rfl,rfl,(show nats (set ++ [i]) = .d (.sl 1 (set.map kD ++ [kD i])) from congrArg (fun l => AV.d (.sl 1 l)) (by simp)).trans (frz_rowJ (i := 1) (ver := 2) (n := (set.map kD).length + 1) (l := set.map kD ++ [kD i]) rfl rfl (by simp)).symm,rfl,rfl,rfl,rfl,rfl,trivial⟩
       have hix : (i : Int) + 1 = ((i + 1 : Nat) : Int) := by omega
       have hnx : ((n + 1 : Nat) : Int) - 1 = ((n : Nat) : Int) := by omega
       cases hF : fatN dec hv (set ++ [i]) (i + 1) n with
       | true =>
         rw [hF,Bool.true_or] at hR2
         rw [hF,← hix,← hnx] at ih1
         subst hR2
         (repeat' (first
          |(apply W.qd;(first
          |(exact zW (ih1))|(exact zM)|(exact zN)|(exact jAn)|(exact jAg)|(exact q_sub rfl rfl (by omega))
          |(exact jBd)))|(apply yA)|(apply yB)|(refine jAe ?_)|(apply yE)|(apply yJ)|(apply yP)|(apply yN)
          |(refine jBa ?_)))
         all_goals exact ⟨.inl rfl,[],[.d .any,bV true],rfl,⟨rfl,rfl,trivial⟩,AVle.refl _,rfl⟩
       | false =>
         rw [hF,Bool.false_or] at hR2
         rw [hF,← hix,← hnx] at ih1
         (repeat' (first
          |(apply W.qd;(first
          |(exact zW (ih1))|(exact zM)|(exact zN)|(exact jAn)|(exact jAg)|(exact q_sub rfl rfl (by omega))
          |(exact jBd)))|(apply yA)|(apply yB)|(refine jAe ?_)|(apply yE)|(apply yH)|(apply yL)
          |(refine jAw ?_)))
         all_goals exact ⟨i + 1,⟨by omega,hR2⟩,by omega,[0],rfl,rfl,rfl,iV_eq (by omega),rfl,rfl,rfl,rfl,trivial⟩
   ·have e : R = false := hi.2.trans (fatN_end (by omega))
    subst e
    clear hi hR
    (repeat' (first
     |(apply W.qd;(first
     |(exact zM)|(exact zN)|(exact jAj)
     |(exact jB)))|(apply yA)|(apply yB)|(refine jAe ?_)|(apply yE)|(apply yI)|(apply yJ)|(apply yK)|(apply yM)
     |(refine W.cond _ rfl (fun hb => ?_) (fun hb => ?_) <;> ((try simp only [hb,zK]) <;> (try simp only [zL,zI] at hb) <;> (try (exfalso;omega))))))
    all_goals exact ⟨.inl rfl,[],[.d (.v (.slice none 0 0)),bV false],rfl,⟨rfl,rfl,trivial⟩,AVle.tup2 (AVle.anyV rfl) (AVle.refl _),rfl⟩
theorem A_valid9 {nm : List Nat} {M D dom : Int} {par : List (List Int)} {n : Nat} (h : FIn nm D par) : ACalls Tryz.prog 95 [cdF nm M D par dom,iV n] [] (bV (decide (chkC nm M D par dom = true ∧ (n : Int) = D + (par.length : Int)))) [] := by
 obtain ⟨e,hc,he⟩ := A_check7 (M := M) (dom := dom) h.n h.l h.d h.p
 have hd := h.d
 have hp := h.p
 have hmp : (par.map rD).length = par.length := List.length_map _
 refine acalls_of_body Tryz.func95 rfl (zU rfl) ?_
 by_cases hk : chkC nm M D par dom = true
 ·obtain rfl : e = 0 := he.2 hk
  (repeat' (first
   |(apply yFb;exact rfl;exact rfl)
   |(apply W.qd;(first
   |(exact zW (hc))|(exact zM)|(exact zN)|(exact jAr)|(exact jAm)|(exact jAn)|(exact jBb)|(exact jAg)|(exact jB)
   |(apply (yEb (u := .d _));exact rfl;exact rfl)))|(apply W.ed;(exact jAc))|(apply yA)|(apply yB)|(refine jAe ?_)|(apply yE)
   |(apply yJ)))
  all_goals
   refine Ends.b rfl ?_
   first
    |(rw [decide_eq_decide];exact ⟨fun h => ⟨hk,by omega⟩,fun h => by have := h.2;omega⟩)
    |(exfalso;omega)
 ·have hne : e ≠ 0 := fun h0 => hk (he.1 h0)
  (repeat' (first
   |(apply W.qd;(first
   |(exact zW (hc))|(exact zM)|(exact zN)|(exact jAn)|(exact jBb)
   |(apply (yDb (u := .d _));exact rfl;exact rfl)))|(apply W.ed;(exact jAc))|(refine W.gOff _ _ rfl rfl (by intro h;cases h) ?_)|(apply yA)|(apply yB)|(refine jAe ?_)|(apply yE)|(apply yJ)
   |(refine W.gT _ _ rfl rfl (fun hb => ?_) (fun hb => ?_) <;> ((try simp only [hb,zK]) <;> (try simp only [zL,zI] at hb) <;> (try (exfalso;omega))))))
  all_goals first | exact Ends.b rfl (decide_eq_false fun h => hk h.1).symm | (exfalso;omega)
theorem A_left9 {nm : List Nat} {M D dom : Int} {par : List (List Int)} {hv : List Bool} (h : FIn nm D par) (hl : hv.length < 9223372036854775808) : ACalls Tryz.prog 49 [cdF nm M D par dom,bools hv] [] (iV (leftC nm M D par dom hv)) [] := by
 have hv0 := A_valid9 (M := M) (dom := dom) (n := hv.length) h
 refine acalls_of_body Tryz.func49 rfl (zU rfl) ?_
 have hmh : (hv.map tD).length = hv.length := List.length_map _
 rw [← hmh] at hv0
 unfold leftC
 by_cases hk : chkC nm M D par dom = true ∧ (hv.length : Int) = D + (par.length : Int)
 case neg =>
  rw [if_neg hk]
  rw [hmh,decide_eq_false hk,← hmh] at hv0
  (repeat' (first
   |(apply W.qd;(first
   |(exact zW (hv0))|(exact zM)|(exact zN)|(exact jAn)|(exact jBg)
   |(exact jB)))|(apply W.ed;(exact jAc))|(apply yA)|(apply yB)|(refine jAe ?_)|(apply yE)|(apply yJ)|(apply yP)
   |(refine jBa ?_)))
  exact Ends.i rfl rfl
 rw [if_pos hk]
 rw [hmh,decide_eq_true hk,← hmh] at hv0
 obtain ⟨m,d,ps,rfl,rfl,rfl,hok⟩ := chk_code hk.1
 have hpl : (toZ ps).length = ps.length := List.length_map _
 have hlw : hv.length = d + ps.length := by omega
 have h1 := hok.d
 have h2 := hok.w
 have hd := A_r8decod hok hlw
 have hd1 : decN m d ps hv = decide ((basisN m d ps hv).length = d) := by unfold decN;rw [decide_eq_true hlw,Bool.true_and]
 rw [← hd1,cdN_A] at hd
 have hd := hd.cdF (nm := nm) (dom := dom)
 have hpr := A_pres9 (hv := hv) (by omega)
 have hfa := fun f (hf : f < 4) => (A_fatal9 hok hlw (f + 1) 0 [] (by omega) (by omega) (by simp) (by simp)).le (args' := [cdN m d ps,bools hv,.d (.v (.slice none 0 0)),iV 0,iV ((f + 1 : Nat) : Int)]) fun F κ w vs hs => AVleL.sat (xs := [cdN m d ps,bools hv,.d (.v (.slice none 0 0)),iV 0,iV ((f + 1 : Nat) : Int)]) (ys := [cdN m d ps,bools hv,nats [],iV ((0 : Nat) : Int),iV ((f + 1 : Nat) : Int)]) ⟨AVle.refl _,AVle.refl _,AVle.nil 1,AVle.refl _,AVle.refl _,trivial⟩ F _ κ w vs hs
 have hall := fat_all hok (hv := hv)
 rw [decZ_nat]
 unfold leftN
 cases hq : decN m d ps hv with
 | false =>
   rw [if_neg (by decide)]
   rw [hq] at hd
   (repeat' (first
    |(apply W.qd;(first
    |(exact zW (hv0))|(exact zW (hd))|(exact zM)|(exact zN)|(exact jAn)|(exact jBg)
    |(exact jB)))|(apply W.ed;(exact jAc))|(apply yA)|(apply yB)|(refine jAe ?_)|(apply yE)|(apply yH)|(apply yJ)|(apply yP)|(refine jBa ?_)
    |(refine jAw ?_)))
   exact Ends.i rfl rfl
 | true =>
   rw [if_pos rfl]
   rw [hq] at hd
   obtain ⟨ha1,ha2⟩ := hall hq
   have hupl : (upN hv).length ≤ 1000 := by have := upK_len hv hv.length;have e : (upN hv).length = (upK hv hv.length).length := rfl;omega
   generalize hR : ((List.range 4).find? (badN (decN m d ps) hv)).getD 4 = R
   generalize (upN hv).length = p at *
   have hex : ∀ f,f ≤ 4 → (∀ g,g < f → badN (decN m d ps) hv g = false) → f ≤ p → ¬ (f < 4 ∧ f < p) → f = R := fun f h3 h4 h5 h6 => by
    by_cases e : f = 4
    ·subst e
     have : (List.range 4).find? (badN (decN m d ps) hv) = none := by
      rw [List.find?_eq_none]
      intro g hg
      rw [h4 g (List.mem_range.1 hg)];decide
     rw [this] at hR;exact hR
    ·have e2 : f = p := by omega
     have := h4 (p - 1) (by omega)
     rw [ha2] at this;cases this
   have hfd : ∀ f,f < 4 → (∀ g,g < f → badN (decN m d ps) hv g = false) → badN (decN m d ps) hv f = true → f = R := fun f h3 h4 h5 => by
    have : (List.range 4).find? (badN (decN m d ps) hv) = some f := List.find?_range_eq_some.2 ⟨h5,List.mem_range.2 h3,fun g hg => by rw [h4 g hg];rfl⟩
    rw [this] at hR;exact hR
   clear hR
   (repeat' (first
    |(apply W.qd;(first
    |(exact zW (hv0))|(exact zW (hd))|(exact zM)|(exact zN)|(exact jAn)|(exact jBg)
    |(exact jB)))|(apply W.ed;(exact jAc))|(apply yA)|(apply yB)|(apply (W.regionS 8);exact rfl;kernel_rfl)|(apply yE)|(apply yG)|(apply yH)
    |(refine jAw ?_)))
   refine AWP.loopW (α := Nat) (fun f => f ≤ 4 ∧ f ≤ p ∧ ∀ g,g < f → badN (decN m d ps) hv g = false) (fun f => ⟨[(7,iV f),(1,bools hv),(2,.opt 0 0)],[.box [bS nm,iV m,iV d,rowsA (toZ ps),iV dom]]⟩) (fun f => 4 - f) 0 ⟨by omega,by omega,fun g hg => by omega⟩ ⟨[0],rfl,rfl,rfl,by (repeat (first | exact trivial | refine ⟨rfl,?_⟩))⟩ fun f hf => ?_
   obtain ⟨hf1,hf2,hf3⟩ := hf
   by_cases hc : f < 4 ∧ f < p
   ·obtain ⟨hc1, hc2⟩ := hc
    have hf4 := hfa f hc1
    rw [cdN_A] at hf4
    have hf4 := hf4.cdF (nm := nm) (dom := dom)
    rw [← bad_fat] at hf4
    have hfx : (f : Int) + 1 = ((f + 1 : Nat) : Int) := by omega
    rw [← hfx] at hf4
    cases hB : badN (decN m d ps) hv f with
    | true =>
      have e := hfd f hc1 hf3 hB
      rw [hB] at hf4
      clear hf3 hex hfd hfa
      (repeat' (first
       |(apply yFb;exact rfl;exact rfl)
       |(apply W.qd;(first
       |(exact zW (hpr))|(exact zW (hf4))|(exact zM)|(exact zN)|(exact jAn)|(exact jAj)|(exact jAg)|(exact jBd)
       |(apply (yEb (u := .d _));exact rfl;exact rfl)))|(apply yA)|(apply yB)|(refine jAe ?_)|(apply yE)|(apply yG)|(apply yH)|(apply yJ)|(apply yP)|(apply yN)|(refine jBa ?_)|(refine W.gT _ _ rfl rfl (fun hb => ?_) (fun hb => ?_) <;> ((try simp only [hb,zK]) <;> (try simp only [zL,zI] at hb) <;> (try (exfalso;omega))))
       |(refine W.cond _ rfl (fun hb => ?_) (fun hb => ?_) <;> ((try simp only [hb,zK]) <;> (try simp only [zL,zI] at hb) <;> (try (exfalso;omega))))))
      all_goals first | exact Ends.i rfl (by omega) | (exfalso;omega)
    | false =>
      have hnx : ∀ g,g < f + 1 → badN (decN m d ps) hv g = false := fun g hg => by
       by_cases e : g = f
       ·subst e;exact hB
       ·exact hf3 g (by omega)
      rw [hB] at hf4
      clear hf3 hex hfd hfa
      (repeat' (first
       |(apply yFb;exact rfl;exact rfl)
       |(apply W.qd;(first
       |(exact zW (hpr))|(exact zW (hf4))|(exact zM)|(exact zN)|(exact jAn)|(exact jAj)|(exact jAg)|(exact jBd)
       |(apply (yEb (u := .d _));exact rfl;exact rfl)))|(apply yA)|(apply yB)|(refine jAe ?_)|(apply yE)|(apply yG)|(apply yH)|(apply yL)|(refine jAw ?_)|(refine W.gT _ _ rfl rfl (fun hb => ?_) (fun hb => ?_) <;> ((try simp only [hb,zK]) <;> (try simp only [zL,zI] at hb) <;> (try (exfalso;omega))))
       |(refine W.cond _ rfl (fun hb => ?_) (fun hb => ?_) <;> ((try simp only [hb,zK]) <;> (try simp only [zL,zI] at hb) <;> (try (exfalso;omega))))))
      all_goals first | exact ⟨f + 1,⟨by omega,by omega,hnx⟩,by omega,[0],rfl,rfl,rfl,iV_eq (by omega),rfl,rfl,trivial⟩ | (exfalso;omega)
   ·have e := hex f hf1 hf3 hf2 hc
    clear hf3 hex hfd hfa
    (repeat' (first
     |(apply yFb;exact rfl;exact rfl)
     |(apply W.qd;(first
     |(exact zW (hpr))|(exact zM)|(exact zN)|(exact jAj)|(apply (yEb (u := .d _));exact rfl;exact rfl)
     |(apply (yDb (u := .d _));exact rfl;exact rfl)))|(refine W.gOff _ _ rfl rfl (by intro h;cases h) ?_)|(apply yA)|(apply yB)|(refine jAe ?_)|(apply yE)|(apply yI)|(apply yJ)|(apply yK)|(apply yM)|(refine jAw ?_)|(refine W.gT _ _ rfl rfl (fun hb => ?_) (fun hb => ?_) <;> ((try simp only [hb,zK]) <;> (try simp only [zL,zI] at hb) <;> (try (exfalso;omega))))
     |(refine W.cond _ rfl (fun hb => ?_) (fun hb => ?_) <;> ((try simp only [hb,zK]) <;> (try simp only [zL,zI] at hb) <;> (try (exfalso;omega))))))
    all_goals first | exact Ends.i rfl (by omega) | (exfalso;omega)
end
section
section
variable {P : Program} {m : Nat} {env : List (Nat × AV)} {own : List Ent} {dst : Option Tmp} {ty : TypeId} {pos : String} {af : Array Edge} {gd : Option (Nat × Bool)}
theorem e_appE {t e : TypeId} {sz by' : Nat} {z : Value} {x y : Operand} {p ver n : Nat} {l l2 : List (List Dat)} {own' : List Ent} (hx : lookO env x = .osl p ver 0 n) (hp : own[p]? = some (.row ver sz e l)) (hy : lookO env y = .d (.sl sz l2)) (ho' : setF own p (.row (ver + 1) sz e (l ++ l2)) = some own') (ht : slInfo P t = some (e, sz, by', z)) (hz : z.cells.size = sz) (hby : Nat.ble by' 1024 = true) (hm : Nat.ble 0 p = true) (hn : n = l.length)
 (hb : l.length + l2.length ≤ 1000000000) :
 Eff P m ⟨dst,.call ⟨.builtin .append,#[x,y],#[t,t]⟩,ty,pos,af,gd⟩ env own [p] (.osl p (ver + 1) 0 (l.length + l2.length)) own' := by
 rcases Nat.eq_zero_or_pos l2.length with h0 | h0
 case inr => exact e_appF hx hp hy ho' ht hz hby hm hn h0 hb
 obtain rfl := List.eq_nil_of_length_eq_zero h0
 rw [setF_spec ho']
 refine Eff.mk (set_same _ p) fun F κ a w hs ho hmk => ?_
 subst hn
 have hx1 := hs x (by simp [Op.operands,Call.operands]);rw [hx] at hx1
 have hy1 := hs y (by simp [Op.operands,Call.operands]);rw [hy,AV.sat,Dat.sat] at hy1
 have hx2 := hx1
 rw [AV.sat] at hx2
 obtain ⟨h3,A,c,h4,h5,h6,h7⟩ := hx2.2 sz e l hp
 obtain ⟨B,c2,hyv,_,_,_⟩ := hy1
 obtain ⟨he,inf,hi1,hi2,_,_⟩ := slInfo_spec ht
 have hf : (Builtin.firstCells inf.size 0 (.slice B 0 c2)).run P w = .ok #[] w := by
  cases B with
  | none => exact run_firstCells_none w inf.size 0 0 c2
  | some b => exact run_firstCells_some w inf.size 0 b 0 c2 [] (by simp) (fun j v hj => by simp at hj)
 rw [run_builtin_append (dst := dst) (pos := pos) (af := af) (gd := gd) (v := .slice A l.length c) (w' := w) (by
  rw [h4,hyv]
  cases A <;> simp [Builtin.append_,run_underlying he,sizeOf,typeInfo,hi1,Builtin.lenOf,h5,hf,storeCells])]
 obtain ⟨og,hog⟩ := ho.kap p _ hp
 have hκ := setK_same hog
 have hent := ho.ent p _ hp
 have hgd : κ.getD p none = og := by simp [List.getD_eq_getElem?_getD,hog]
 rw [hgd] at hent
 have hpl : p < own.length := (List.getElem?_eq_some_iff.1 hp).1
 obtain ⟨g1,g2⟩ := step_upd (m := m) (x' := .row (ver + 1) sz e (l ++ [])) (og' := og) (w' := w) ho hp hog rfl rfl rfl (Nat.le_refl _) (fun _ _ _ => rfl) (.inl rfl) (.inr rfl) (.inl (Nat.lt_succ_self ver)) (fun hst => by
  rw [hκ]
  unfold EntSat at hent ⊢
  rw [List.append_nil]
  exact hent)
 refine ⟨_,?_,g1,g2⟩
 rw [AV.sat]
 have hself : (own.set p (.row (ver + 1) sz e (l ++ [])))[p]? = some (.row (ver + 1) sz e (l ++ [])) := by rw [List.getElem?_set_self hpl]
 refine ⟨⟨_,hself,Nat.le_refl _,rfl⟩,fun sz2 e2 c2 hc => ?_⟩
 rw [hself] at hc
 obtain ⟨rfl,rfl,rfl⟩ : sz = sz2 ∧ e = e2 ∧ l ++ [] = c2 := by simpa using hc
 rw [hκ]
 exact ⟨by simp,A,c,by simp,by simpa using h5,h6,fun _ => h7 (.inr rfl)⟩
end
end
section
theorem frzL_map (own : List Ent) (js : List Nat) : ∀ l : List AV, AV.frzL own js l = l.map (AV.frz own js)
 | [] => by simp [AV.frzL]
 | x :: l => by rw [AV.frzL,frzL_map own js l];rfl
section
variable {P : Program} {m : Nat} {env : List (Nat × AV)} {own : List Ent} {dst : Option Tmp} {ty : TypeId} {pos : String} {af : Array Edge} {gd : Option (Nat × Bool)}
theorem e_stS {t : TypeId} {b : Bool} {x y : Operand} {i o : Nat} {l : List AV} {v : AV} {own' : List Ent} (hx : lookO env x = .opt i o) (hl : own[i]? = some (.box l)) (hy : lookO env y = v) (ht : tyInfo P t = some (b, 1)) (ho : own.set i (.box (l.set o v)) = own') (hc : cellsA v = some [v]) (hok : okPart v = true) (h1 : oneA v = true) (hlt : o < l.length) :
 Eff P m ⟨dst,.store t x y,ty,pos,af,gd⟩ env own [i] (.d (.v undef)) own' := by
 have := e_st_box (P := P) (m := m) (dst := dst) (ty := ty) (pos := pos) (af := af) (gd := gd) (cs := [v]) (b := b) ht hx hl (by rw [hy];exact hc) (by rw [hy];exact hok) (by simp [h1]) rfl (by omega)
 have e1 : l.take o ++ [v] ++ l.drop (o + [v].length) = l.set o v := by
  rw [List.set_eq_take_append_cons_drop,if_pos hlt];simp
 rw [e1,ho] at this
 exact this
theorem e_stK {t : TypeId} {b : Bool} {n : Nat} {x y : Operand} {i o : Nat} {l cs l' : List AV} {own' : List Ent} (hx : lookO env x = .opt i o) (hl : own[i]? = some (.box l)) (hc : cellsA (lookO env y) = some cs) (ht : tyInfo P t = some (b, n)) (hok : okPart (lookO env y) = true) (h1 : cs.all oneA = true) (hn : cs.length = n) (hs : l.take o ++ cs ++ l.drop (o + cs.length) = l') (ho : own.set i (.box l') = own') (hlt : o + n ≤ l.length) :
 Eff P m ⟨dst,.store t x y,ty,pos,af,gd⟩ env own [i] (.d (.v undef)) own' := by
 have := e_st_box (P := P) (m := m) (dst := dst) (ty := ty) (pos := pos) (af := af) (gd := gd) ht hx hl hc hok h1 hn hlt
 rw [hs,ho] at this
 exact this
end
end
section
section
variable {P : Program} {m : Nat} {env : List (Nat × AV)} {own : List Ent} {dst : Option Tmp} {ty : TypeId} {pos : String} {af : Array Edge} {gd : Option (Nat × Bool)}
theorem q_ix_ar {t e : TypeId} {n k j : Nat} {x y : Operand} {i o : Nat} {b : Bool} {ik : IntKind} {v : Int} (hx : lookO env x = .opt i o) (hy : lookO env y = .d (.v (.int ik v))) (ht : arInfo P t = some (n, e)) (he : tyInfo P e = some (b, k)) (hv : v = (j : Int)) (hj : j < n) :
 Quiet P m ⟨dst,.indexAddr t x y,ty,pos,af,gd⟩ env own [] (.opt i (o + j * k)) :=
 Quiet.val fun F own' κ a w hs _ _ _ => by
  have h1 := hs x (by simp [Op.operands]);rw [hx,AV.sat] at h1
  have h2 := hs y (by simp [Op.operands]);rw [hy,sat_v] at h2
  obtain ⟨g,l,g1,g2,g3⟩ := h1
  obtain ⟨_,inf,h7,h8⟩ := tyInfo_spec he
  subst hv
  refine ⟨.pointer (some ⟨g,o + j * k,none⟩),exec_v ?_,?_⟩
  ·rw [g3, h2]
   simp [Instr.indexAt,asIntOf,run_underlying (arInfo_spec ht),Instr.sureAddr,sizeOf,typeInfo,h7,h8,hj,add_none]
  ·rw [AV.sat]
   exact ⟨g,l,g1,g2,rfl⟩
theorem q_ld_ar {t : TypeId} {k : Nat} {x : Operand} {i : Nat} {l : List AV} (hx : lookO env x = .opt i 0) (hi : own[i]? = some (.box l)) (ht : tyInfo P t = some (true, k)) (hl : l.length = k) :
 Quiet P m ⟨dst,.load t x,ty,pos,af,gd⟩ env own [i] (.agg l) := by
 have := q_ld_boxs (P := P) (m := m) (dst := dst) (ty := ty) (pos := pos) (af := af) (gd := gd) ht hx hi (by omega)
 rwa [List.drop_zero,← hl,List.take_length] at this
end
end
end Go.Proofs.YtplpgijpmgbaiaaGreatDoor
