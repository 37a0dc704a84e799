import Derived.Test.YtplpgijpmgbaiaaGreatDoorMScrubLocates3
import Derived.ProofKit
import Derived.OpenShut
import Derived.ChangeOld
import Derived.ChangeSame
import Derived.Below
import Derived.Carry
import Derived.SizedLaws
import Derived.SliceStrings
import Derived.Deep.Slices
import Derived.LaidLaws
import Derived.Handed
import Derived.FnData
import Derived.Test.YtplpgijpmgbaiaaGreatDoorRows
import Derived.Test.YtplpgijpmgbaiaaGreatDoorProg
import Derived.WalkKit
/- Joined texts: Er5 Er6 Er7 Er8 Fd6 Fd7 Fd8 Er9 Er10 Er11 Open Kern13 Open8 Open10 Open11 Open12 Fld8 Rf0 Lw1 Lw2 La1 La2 La3 La4 La5 La6 La7 Ds1 Ds2. -/
set_option linter.unusedVariables false
set_option linter.unusedSimpArgs false
namespace Go.Proofs.YtplpgijpmgbaiaaGreatDoor
open Go.RowKit
set_option maxHeartbeats 4000000
set_option maxRecDepth 100000
section
attribute [local irreducible] Quiet Eff OpOk AWPG ACont ABlock ACalls AGoto
theorem frz_rowJ {own : List Ent} {js : List Nat} {i ver n sz : Nat} {e : TypeId} {l : List (List Dat)} (ho : own[i]? = some (.row ver sz e l)) (hj : plc js i = none) (hn : n = l.length) : AV.frz own js (.osl i ver 0 n) = .d (.sl sz l) := by
 simp [AV.frz,frzSl,ho,hj,hn]
theorem AVle.tup2 {x x' y y' : AV} (h1 : AVle x x') (h2 : AVle y y') : AVle (.tup [x,y]) (.tup [x',y']) := fun F own κ w u hs => by
 rw [AV.sat] at hs ⊢
 obtain ⟨vs,e,h⟩ := hs
 refine ⟨vs,e,?_⟩
 generalize vs.toList = us at h
 match us,h with
 | [a,b],h =>
   simp only [AV.satL] at h ⊢
   exact ⟨h1 _ _ _ _ _ h.1,h2 _ _ _ _ _ h.2.1,trivial⟩
theorem Ends.nil2 {P : Program} {env : List (Nat × AV)} {own : List Ent} {t t' sz : Nat} {y : AV} (hx : look env t = .d (.v (.slice none 0 0))) (hy : look env t' = y) (hf : AV.frz own [] y = y) : Ends P [.tmp t,.tmp t'] (.tup [.d (.sl sz []),y]) [] .ret ⟨env,own⟩ :=
 ⟨.inl rfl,[],[.d (.v (.slice none 0 0)),y],rfl,⟨hx,hy,trivial⟩,by
  show AVle (.tup [_,AV.frz own [] y]) _
  rw [hf]
  exact AVle.tup2 (AVle.nil sz) (AVle.of_eq rfl),rfl⟩
def presAt (hv : List Bool) (i : Nat) : List Nat := (List.range i).filter fun k => hv.getD k false
theorem presAt_succ (hv : List Bool) (i : Nat) : presAt hv (i + 1) = if hv.getD i false = true then presAt hv i ++ [i] else presAt hv i := by
 unfold presAt
 rw [List.range_succ,List.filter_append]
 cases h : hv.getD i false <;> (rw [List.getD_eq_getElem?_getD] at h;simp [List.filter_cons,h])
abbrev presN (hv : List Bool) : List Nat := presAt hv hv.length
theorem presAt_lt {hv : List Bool} {i x : Nat} (h : x ∈ presAt hv i) : x < i := by
 have := (List.mem_filter.1 h).1
 simpa using this
theorem presAt_length (hv : List Bool) (i : Nat) : (presAt hv i).length ≤ i := by
 unfold presAt
 exact Nat.le_trans (List.length_filter_le _ _) (by simp)
def basisN (M D : Nat) (ps : List (List Nat)) (hv : List Bool) : List Nat :=
 (red M D (presN hv).length (trN (presN hv).length D (pickN D (genN D ps) (presN hv))) (presN hv).length).2.map fun j => (presN hv).getD j 0
theorem red_lt {M R C : Nat} {L : List Nat} (n : Nat) : ∀ j ∈ (red M R C L n).2,j < n := by
 induction n with
 | zero => intro j hj;simp [red] at hj
 | succ n ih =>
   intro j hj
   rw [red,redStep] at hj
   dsimp only at hj
   split at hj
   ·have := ih j hj;omega
   ·rcases List.mem_append.1 hj with h | h
    ·have := ih j h;omega
    ·have : j = n := by simpa using h
     omega
theorem A_ebasis {M D : Nat} {ps : List (List Nat)} {hv : List Bool} (h : CodeOk M D ps) (hl : hv.length = D + ps.length) : ACalls Tryz.prog 249 [cdN M D ps,bools hv] [] (.tup [nats (basisN M D ps hv),iV 0]) [] := by
 refine acalls_of_body Tryz.func249 rfl (zU rfl) ?_
 have h1 := h.d
 have h2 := h.w
 have hgen := A_egen h
 have hok := gen_ok h
 have hpl : (presN hv).length ≤ hv.length := presAt_length hv hv.length
 have hplt : ∀ x ∈ presN hv,x < D + ps.length := fun x hx => by have := presAt_lt hx;omega
 have hpick := A_mpick hok h1 hplt (by omega)
 have hind := A_mindependent (pick_ok hok hplt (by omega))
 have hrl := red_lt (M := M) (R := D) (C := (presN hv).length) (L := trN (presN hv).length D (pickN D (genN D ps) (presN hv))) (presN hv).length
 have hBas : basisN M D ps hv = (red M D (presN hv).length (trN (presN hv).length D (pickN D (genN D ps) (presN hv))) (presN hv).length).2.map fun j => (presN hv).getD j 0 := rfl
 have hbe : presN hv = [] → basisN M D ps hv = [] := fun e => by rw [hBas,e];rfl
 have hred := red_ok (M := M) (R := D) (C := (presN hv).length) (L := trN (presN hv).length D (pickN D (genN D ps) (presN hv))) h.f (trN_length _ _ _) (trN_lt (pick_ok hok hplt (by omega)).e) (presN hv).length
 have hpr := hred.pr
 generalize (red M D (presN hv).length (trN (presN hv).length D (pickN D (genN D ps) (presN hv))) (presN hv).length).2 = J at *
 generalize pickN D (genN D ps) (presN hv) = PK at *
 generalize genN D ps = GN at *
 generalize basisN M D ps hv = B at *
 clear hok hred
 have hsucc := fun i => Lib.hid (presAt_succ hv i)
 have hpl0 := fun i => presAt_length hv i
 have hml : (hv.map tD).length = hv.length := List.length_map _
 (repeat' (first
  |(apply yFb;exact rfl;exact rfl)
  |(apply W.qd;(first
  |(exact zW (hgen))|(exact zM)|(exact zN)|(exact jAr)|(exact jAm)|(exact jAn)|(exact jAv)|(exact jBd)|(exact jB)
  |(apply (yDb (u := .d _));exact rfl;exact rfl)))
  |(apply W.ed;(first
  |(exact jAc)
  |(exact jAq)))|(apply W.ln;(exact jAh))|(apply yA)|(apply yB)|(refine jAe ?_)|(apply yE)|(apply yG)|(apply yH)
  |(refine W.cond _ rfl (fun hb => ?_) (fun hb => ?_) <;> ((try simp only [hb,zK]) <;> (try simp only [zL,zI] at hb) <;> (try (exfalso;omega))))))
 refine AWP.nilRow 8 1 3 rfl (by omega) ?_
 refine AWP.loopW (α := Nat) (fun i => i ≤ hv.length) (fun i => ⟨[(32,iV i),(31,iV hv.length),(30,bools hv),(8,.osl 2 (presAt hv i).length 0 (presAt hv i).length),(2,.opt 0 0),(6,.opt 1 0)],[.box [.d .any,iV M,iV D,rowsN ps,.d .any],.box [iV M,iV (D + ps.length : Nat),iV D,nats GN],.row (presAt hv i).length 1 3 ((presAt hv i).map kD)]⟩) (fun i => hv.length - i) 0 (by omega) ?wk0 fun i hi => ?_
 case wk0 =>
  rw [show presAt hv 0 = [] from rfl]
  exact ⟨[0,1,2],rfl,rfl,rfl,rfl,iV_eq (by simp),rfl,rfl,rfl,rfl,trivial⟩
 by_cases hil : i < hv.length
 ·have hs := hsucc i
  have hi0 := hpl0 i
  rw [List.getD_eq_getElem?_getD,List.getElem?_eq_getElem hil] at hs
  generalize presAt hv i = P at *
  (repeat' (first
   |(apply W.qd;(first
   |(exact zM)|(exact zN)|(exact jAj)|(exact jAg)|(exact jAd)|(exact jAl)
   |(exact jA)))|(apply W.ed;(apply e_app1F;(iterate 8 exact rfl);(first | omega | (focus (simp;omega)) | (focus (simp;done)))))|(apply yA)|(apply yB)|(refine jAe ?_)|(apply yE)|(apply yG)|(apply yH)|(apply yL)
   |(refine W.cond _ rfl (fun hb => ?_) (fun hb => ?_) <;> ((try simp only [hb,zK]) <;> (try simp only [zL,zI] at hb) <;> (try (exfalso;omega))))))
  ·rw [if_pos (by simpa using hb)] at hs
   refine ⟨i + 1,by omega,by omega,?_⟩
   rw [hs.out,show (P ++ [i]).length = P.length + 1 by simp]
   exact ⟨[0,1,2],rfl,rfl,rfl,iV_eq (by omega),rfl,rfl,congrArg (AV.osl 2 (P.length + 1) 0) (by simp),rfl,rfl,trivial⟩
  ·rw [if_neg (by simpa using hb)] at hs
   refine ⟨i + 1,by omega,by omega,?_⟩
   rw [hs.out]
   exact ⟨[0,1,2],rfl,rfl,rfl,iV_eq (by omega),rfl,rfl,rfl,rfl,rfl,trivial⟩
 ·have e : hv.length = i := by omega
  subst e
  change presAt hv hv.length = [] → _ at hbe
  change B = J.map fun j => (presAt hv hv.length).getD j 0 at hBas
  change (presAt hv hv.length).length ≤ hv.length at hpl
  change ∀ j ∈ J,j < (presAt hv hv.length).length at hrl
  change ACalls _ _ [_,nats (presAt hv hv.length)] _ (.tup [mx M (presAt hv hv.length).length D PK,_]) _ at hpick
  change ACalls _ _ [mx M (presAt hv hv.length).length D PK] _ _ _ at hind
  clear hplt hsucc hpl0
  generalize presAt hv hv.length = P at *
  refine AWP.wk ⟨[(32,iV hv.length),(31,iV hv.length),(8,nats P),(2,.opt 0 0),(6,.opt 1 0)],[.box [.d .any,iV M,iV D,rowsN ps,.d .any],.box [iV M,iV (D + ps.length : Nat),iV D,nats GN]]⟩ ⟨[0,1],rfl,rfl,rfl,rfl,rfl,(frz_rowJ rfl rfl (by simp)).symm,rfl,rfl,trivial⟩ ?_
  by_cases hP : P = []
  ·subst hP
   rw [hbe rfl]
   (repeat' (first
    |(apply W.qd;(first
    |(exact zM)|(exact zN)|(exact jAj)|(exact jBb)
    |(exact jB)))|(apply yA)|(apply yB)|(refine jAe ?_)|(apply yE)|(apply yI)|(apply yJ)|(apply yK)|(apply yP)|(apply yM)|(refine jBa ?_)
    |(refine W.cond _ rfl (fun hb => ?_) (fun hb => ?_) <;> ((try simp only [hb,zK]) <;> (try simp only [zL,zI] at hb) <;> (try (exfalso;omega))))))
   exact Ends.nil2 rfl rfl rfl
  ·have hP0 : 0 < P.length := List.length_pos_iff.2 hP
   have hmP : (P.map kD).length = P.length := List.length_map _
   (repeat' (first
    |(apply W.qd;(first
    |(exact zW (hpick))|(exact zW (hind))|(exact zM)|(exact zN)|(exact jAn)|(exact jAj)|(exact jBb)|(exact jBd)
    |(exact jB)))|(apply W.ed;(exact jAq))|(apply W.ln;(exact jAh))|(apply yA)|(apply yB)|(refine jAe ?_)|(apply yE)|(apply yG)|(apply yH)|(apply yI)|(apply yK)|(apply yM)
    |(refine W.cond _ rfl (fun hb => ?_) (fun hb => ?_) <;> ((try simp only [hb,zK]) <;> (try simp only [zL,zI] at hb) <;> (try (exfalso;omega))))))
   refine AWP.nilRow 13 1 3 rfl (by omega) ?_
   refine AWP.loopW (α := Nat) (fun k => k ≤ J.length) (fun k => ⟨[(55,iV k),(54,iV J.length),(53,nats J),(8,nats P),(13,.osl 3 k 0 ((J.take k).map fun j => P.getD j 0).length)],[.box [.d .any,iV M,iV D,rowsN ps,.d .any],.box [iV M,iV (D + ps.length : Nat),iV D,nats GN],.box [iV M,iV P.length,iV D,nats PK],.row k 1 3 (((J.take k).map fun j => P.getD j 0).map kD)]⟩) (fun k => J.length - k) 0 (by omega) ?wk1 fun k hk => ?_
   case wk1 =>
    exact ⟨[0,1,2,3],rfl,rfl,rfl,rfl,iV_eq (by simp),rfl,rfl,rfl,trivial⟩
   by_cases hkl : k < J.length
   ·have hx := hrl J[k] (List.getElem_mem _)
    have hs : (J.take (k + 1)).map (fun j => P.getD j 0) = (J.take k).map (fun j => P.getD j 0) ++ [P[J[k]]] := by
     rw [← List.take_append_getElem hkl,List.map_append]
     simp [List.getD_eq_getElem?_getD,hx]
    have hll : ((J.take k).map fun j => P.getD j 0).length ≤ 1024 := by simp;omega
    replace hs := Lib.hid hs
    generalize (J.take k).map (fun j => P.getD j 0) = A at *
    (repeat' (first
     |(apply W.qd;(first
     |(exact zM)|(exact zN)|(exact jAj)|(exact jAg)|(exact jAd)|(exact jAl)
     |(exact jA)))|(apply W.ed;(apply e_app1F;(iterate 8 exact rfl);(first | omega | (focus (simp;omega)) | (focus (simp;done)))))|(apply yA)|(apply yB)|(refine jAe ?_)|(apply yE)|(apply yG)|(apply yH)|(apply yL)
     |(refine W.cond _ rfl (fun hb => ?_) (fun hb => ?_) <;> ((try simp only [hb,zK]) <;> (try simp only [zL,zI] at hb) <;> (try (exfalso;omega))))))
    refine ⟨k + 1,by omega,by omega,?_⟩
    rw [hs.out]
    exact ⟨[0,1,2,3],rfl,rfl,rfl,iV_eq (by omega),rfl,rfl,rfl,rfl,trivial⟩
   ·have e : J.length = k := by omega
    subst e
    rw [List.take_length,← hBas]
    (repeat' (first
     |(apply W.qd;(first
     |(exact zM)|(exact zN)
     |(exact jAj)))|(apply yA)|(apply yB)|(refine jAe ?_)|(apply yE)|(apply yI)|(apply yJ)|(apply yK)|(apply yM)
     |(refine W.cond _ rfl (fun hb => ?_) (fun hb => ?_) <;> ((try simp only [hb,zK]) <;> (try simp only [zL,zI] at hb) <;> (try (exfalso;omega))))))
    exact Ends.two rfl rfl (congrArg (fun z => AV.tup [z,iV 0]) (frz_rowJ rfl rfl (by simp)))
end
section
attribute [local irreducible] Quiet Eff OpOk AWPG ACont ABlock ACalls AGoto
theorem A_clone {l : List Nat} (h0 : 0 < l.length) (hl : l.length ≤ 1000000) : ACalls Tryz.prog 281 [nats l] [] (.osl 0 1 0 l.length) [.row 1 1 3 (l.map kD)] := by
 refine acalls_of_bodyO Tryz.func281 rfl (zU rfl) ?_
 have hm : (l.map kD).length = l.length := List.length_map _
 (repeat' (first
  |(apply W.ed;(apply e_lit0F;(iterate 5 exact rfl)))
  |(apply W.qd;(first
  |(exact zM)|(exact zN)
  |(apply q_eqnilm;(iterate 3 exact rfl);(first | assumption | omega))))|(apply W.ed;(exact jAu))|(apply yA)|(apply yB)|(refine jAe ?_)|(apply yE)|(apply yH)|(apply yJ)
  |(refine jAw ?_)))
 refine ⟨.inl rfl,[0],[.osl 0 1 0 ((([] : List Nat).length) + (l.map kD).length)],rfl,rfl,⟨rfl,trivial⟩,AVle.of_eq ?_,rfl⟩
 show AV.osl 0 1 0 (0 + (l.map kD).length) = .osl 0 1 0 l.length
 rw [hm,Nat.zero_add]
def addV (M f : Nat) (T l : List Nat) : Nat → List Nat
 | 0 => T
 | k + 1 => (addV M f T l k).set k ((addV M f T l k).getD k 0 ^^^ Gf.mul M (modN M) f (l.getD k 0))
theorem addV_length (M f : Nat) (T l : List Nat) (k : Nat) : (addV M f T l k).length = T.length := by
 induction k with
 | zero => rfl
 | succ k ih => rw [addV,List.length_set,ih]
theorem addV_lt {M f : Nat} (hM : FldM M) (hf : f < 2 ^ M) {T l : List Nat} (h : ∀ x ∈ T,x < 2 ^ M) (k : Nat) : ∀ x ∈ addV M f T l k,x < 2 ^ M := by
 induction k with
 | zero => exact h
 | succ k ih =>
   intro x hx
   rw [addV] at hx
   rcases List.mem_or_eq_of_mem_set hx with hx | rfl
   ·exact ih x hx
   ·exact Nat.xor_lt_two_pow (getD_lt ih _) (Gf.mul_lt (FldM.gen hM).hm (FldM.gen hM).top (FldM.gen hM).lt hf _)
def redD (r : Nat × List Nat × List Nat) : List Dat := [.v (.int .i64 r.1),.sl 1 (r.2.1.map kD),.sl 1 (r.2.2.map kD)]
abbrev spB (M D : Nat) (ps : List (List Nat)) (us : List Nat) (rv rn : Nat) : Ent := .box [.d .any,iV M,iV D,rowsN ps,.d .any,nats us,.osl 1 rv 0 rn]
abbrev spR (rv : Nat) (rows : List (Nat × List Nat × List Nat)) : Ent := .row rv 3 318 (rows.map redD)
theorem A_sadd {M D f v rv rn nT : Nat} {ps : List (List Nat)} {us T l : List Nat} {rows : List (Nat × List Nat × List Nat)} (hM : FldM M) (hf : f < 2 ^ M) (hT : ∀ x ∈ T,x < 2 ^ M) (hl : ∀ x ∈ l,x < 2 ^ M) (hnT : T.length = nT) (hn : T.length = l.length) (hn2 : l.length ≤ 1000) : ACalls Tryz.prog 253 [.opt 0 0,.osl 2 v 0 nT,iV f,nats l] [spB M D ps us rv rn,spR rv rows,.row v 1 3 (T.map kD)] (.tup []) [spB M D ps us rv rn,spR rv rows,.row v 1 3 ((addV M f T l l.length).map kD)] := by
 refine acalls_of_bodyO Tryz.func253 rfl (zU rfl) ?_
 (repeat' (first
  |(apply W.qd;(first
  |(exact zM)
  |(exact jB)))|(apply yA)|(apply yB)|(refine jAe ?_)|(apply yE)
  |(apply yG)))
 refine AWP.loopW (α := Nat) (fun k => k ≤ l.length) (fun k => ⟨[(14,iV k),(13,iV l.length),(12,nats l),(0,.opt 0 0),(1,.osl 2 v 0 nT),(2,iV f)],[spB M D ps us rv rn,spR rv rows,.row v 1 3 ((addV M f T l k).map kD)]⟩) (fun k => l.length - k) 0 (by omega) ⟨[0,1,2],rfl,rfl,rfl,rfl,iV_eq (by simp),rfl,rfl,rfl,rfl,trivial⟩ fun k hk => ?_
 have hlen := addV_length M f T l k
 have hall := addV_lt hM hf (l := l) hT k
 by_cases hkl : k < l.length
 ·have hs := Lib.hid (show addV M f T l (k + 1) = (addV M f T l k).set k ((addV M f T l k).getD k 0 ^^^ Gf.mul M (modN M) f (l.getD k 0)) from rfl)
  generalize addV M f T l k = B at *
  have c1 := hl l[k] (List.getElem_mem _)
  have c2 := hall (B[k]'(by omega)) (List.getElem_mem _)
  have ht := A_mul hM hf c1
  have c3 := hM.cap c1
  have c4 := hM.cap c2
  have hm : Gf.mul M (modN M) f l[k] < 2 ^ M := Gf.mul_lt (FldM.gen hM).hm (FldM.gen hM).top (FldM.gen hM).lt hf _
  have c5 := hM.cap hm
  (repeat' (first
   |(apply W.qd;(first
   |(exact zW (ht))|(exact zM)|(exact zN)|(exact jAr)|(exact jAm)|(exact jAj)|(exact jAg)|(exact jBd)|(exact jAd)|(exact q_nil_opt rfl)|(exact jA)|(exact jAa)|(exact jAb)
   |(exact jAo)))|(apply W.ln;(exact jAi))|(apply yA)|(apply yB)|(refine jAe ?_)|(apply yE)|(apply yG)|(apply yH)|(apply yL)
   |(refine W.cond _ rfl (fun hb => ?_) (fun hb => ?_) <;> ((try simp only [hb,zK]) <;> (try simp only [zL,zI] at hb) <;> (try (exfalso;omega))))))
  refine ⟨k + 1,by omega,by omega,?_⟩
  rw [hs.out,List.getD_eq_getElem?_getD,List.getD_eq_getElem?_getD,List.getElem?_eq_getElem (show k < B.length by omega),List.getElem?_eq_getElem hkl]
  exact ⟨[0,1,2],rfl,rfl,rfl,iV_eq (by omega),rfl,rfl,rfl,rfl,rfl,trivial⟩
 ·have e : l.length = k := by omega
  subst e
  (repeat' (first
   |(apply W.qd;(exact jAj))|(apply yA)|(apply yB)|(refine jAe ?_)|(apply yE)|(apply yI)|(apply yK)|(apply yM)
   |(refine W.cond _ rfl (fun hb => ?_) (fun hb => ?_) <;> ((try simp only [hb,zK]) <;> (try simp only [zL,zI] at hb) <;> (try (exfalso;omega))))))
  exact ⟨.inr rfl,[0,1,2],[],rfl,rfl,trivial,AVle.of_eq rfl,rfl⟩
structure RedRow (M D n : Nat) (r : Nat × List Nat × List Nat) : Prop where
 c : r.1 < D
 l1 : r.2.1.length = D
 l2 : r.2.2.length = n
 e1 : ∀ x ∈ r.2.1,x < 2 ^ M
 e2 : ∀ x ∈ r.2.2,x < 2 ^ M
def subR (M : Nat) (s : List Nat × List Nat) (r : Nat × List Nat × List Nat) : List Nat × List Nat :=
 if s.1.getD r.1 0 = 0 then s else (addV M (s.1.getD r.1 0) s.1 r.2.1 r.2.1.length,addV M (s.1.getD r.1 0) s.2 r.2.2 r.2.2.length)
structure SubOk (M D n : Nat) (s : List Nat × List Nat) : Prop where
 l1 : s.1.length = D
 l2 : s.2.length = n
 e1 : ∀ x ∈ s.1,x < 2 ^ M
 e2 : ∀ x ∈ s.2,x < 2 ^ M
theorem sub_ok {M D n : Nat} {s : List Nat × List Nat} {r : Nat × List Nat × List Nat} (hM : FldM M) (h : SubOk M D n s) (hr : RedRow M D n r) : SubOk M D n (subR M s r) := by
 unfold subR
 split
 ·exact h
 ·exact ⟨by rw [addV_length];exact h.l1,by rw [addV_length];exact h.l2,addV_lt hM (getD_lt h.e1 _) h.e1 _,addV_lt hM (getD_lt h.e1 _) h.e2 _⟩
abbrev spEnv (M D n : Nat) (ps : List (List Nat)) (us : List Nat) (rv rn : Nat) (rows : List (Nat × List Nat × List Nat)) (R K : List Nat) : List Ent :=
 [spB M D ps us rv rn,spR rv rows,.row 1 1 3 (R.map kD),.row 0 1 3 (K.map kD),.box [.osl 2 1 0 D],.box [.osl 3 0 0 n],.box [.opt 0 0]]
theorem A_ssub {M D n rv rn : Nat} {ps : List (List Nat)} {us R K : List Nat} {rows : List (Nat × List Nat × List Nat)} {r : Nat × List Nat × List Nat} (hM : FldM M) (hD : D ≤ 32) (hn : n ≤ 32) (h : SubOk M D n (R,K)) (hr : RedRow M D n r) : ACalls Tryz.prog 282 [.agg [iV r.1,nats r.2.1,nats r.2.2],.opt 4 0,.opt 6 0,.opt 5 0] (spEnv M D n ps us rv rn rows R K) (.tup []) (spEnv M D n ps us rv rn rows (subR M (R,K) r).1 (subR M (R,K) r).2) := by
 refine acalls_of_bodyO Tryz.func282 rfl (zU rfl) ?_
 obtain ⟨c,rw',kf⟩ := r
 have h1 := h.l1
 have h2 := h.l2
 have h3 := hr.c
 have h4 := hr.l1
 have h5 := hr.l2
 dsimp only at h1 h2 h3 h4 h5
 have hf : R[c]'(by omega) < 2 ^ M := h.e1 _ (List.getElem_mem _)
 have a1 := A_sadd (D := D) (v := 1) (rv := rv) (rn := rn) (ps := ps) (us := us) (rows := rows) hM hf h.e1 hr.e1 h1 (by dsimp only;omega) (by dsimp only;omega)
 have a2 := A_sadd (D := D) (v := 0) (rv := rv) (rn := rn) (ps := ps) (us := us) (rows := rows) hM hf h.e2 hr.e2 h2 (by dsimp only;omega) (by dsimp only;omega)
 have hs : subR M (R,K) (c,rw',kf) = if R[c]'(by omega) = 0 then (R,K) else (addV M (R[c]'(by omega)) R rw' rw'.length,addV M (R[c]'(by omega)) K kf kf.length) := by
  unfold subR
  rw [List.getD_eq_getElem?_getD,List.getElem?_eq_getElem (show c < R.length by omega)]
  rfl
 replace hs := Lib.hid hs
 dsimp only at a1 a2
 (repeat' (first
  |(apply W.qd;(first
  |(exact zM)|(exact zN)|(exact jAr)|(exact jAm)|(exact jAv)|(exact jAb)
  |(exact jAo)))
  |(apply W.ed;(first
  |(apply (e_callJ (js := [0,1,2]) (a1));(iterate 5 exact rfl);kernel_rfl;kernel_rfl)|(apply (e_callJ (js := [0,1,3]) (a2));(iterate 5 exact rfl);kernel_rfl;kernel_rfl)
  |(exact jAc)))|(apply yA)|(apply yB)|(refine jAe ?_)|(apply yE)|(apply yH)
  |(refine W.cond _ rfl (fun hb => ?_) (fun hb => ?_) <;> ((try simp only [hb,zK]) <;> (try simp only [zL,zI] at hb) <;> (try (exfalso;omega))))))
 ·rw [hs.out, if_neg (by simpa using hb)]
  exact ⟨.inr rfl,[0,1,2,3,4,5,6],[],rfl,rfl,trivial,AVle.of_eq rfl,rfl⟩
 ·rw [hs.out, if_pos (by simpa using hb)]
  exact ⟨.inr rfl,[0,1,2,3,4,5,6],[],rfl,rfl,trivial,AVle.of_eq rfl,rfl⟩
def redV (M n : Nat) (row : List Nat) (rows : List (Nat × List Nat × List Nat)) : List Nat × List Nat := rows.foldl (subR M) (row,List.replicate n 0)
theorem redV_ok {M D n : Nat} {row : List Nat} {rows : List (Nat × List Nat × List Nat)} (hM : FldM M) (hl : row.length = D) (he : ∀ x ∈ row,x < 2 ^ M) (hr : ∀ r ∈ rows,RedRow M D n r) : SubOk M D n (redV M n row rows) := by
 unfold redV
 have h0 : SubOk M D n (row,List.replicate n 0) := ⟨hl,List.length_replicate,he,fun x hx => by rw [List.eq_of_mem_replicate hx];exact Nat.two_pow_pos M⟩
 revert h0
 generalize (row,List.replicate n 0) = s
 intro h0
 induction rows generalizing s with
 | nil => exact h0
 | cons r rows ih => exact ih (fun x hx => hr x (by simp [hx])) _ (sub_ok hM h0 (hr r (by simp)))
theorem A_sreduce {M D rv : Nat} {ps : List (List Nat)} {us row : List Nat} {rows : List (Nat × List Nat × List Nat)} (hM : FldM M) (h0 : 1 ≤ D) (hD : D ≤ 32) (hn : us.length ≤ 32) (hrl : rows.length ≤ 32) (hl : row.length = D) (he : ∀ x ∈ row,x < 2 ^ M) (hr : ∀ r ∈ rows,RedRow M D us.length r) : ACalls Tryz.prog 251 [.opt 0 0,nats row] [spB M D ps us rv rows.length,spR rv rows] (.tup [.osl 2 1 0 D,.osl 3 0 0 us.length]) [spB M D ps us rv rows.length,spR rv rows,.row 1 1 3 ((redV M us.length row rows).1.map kD),.row 0 1 3 ((redV M us.length row rows).2.map kD)] := by
 refine acalls_of_bodyO Tryz.func251 rfl (zU rfl) ?_
 have hcl := A_clone (l := row) (by omega) (by omega)
 have hK : redV M us.length row (rows.take 0) = (row,List.replicate us.length 0) := rfl
 have hS : ∀ k (hk : k < rows.length),redV M us.length row (rows.take (k + 1)) = subR M (redV M us.length row (rows.take k)) rows[k] := fun k hk => by
  unfold redV
  rw [← List.take_append_getElem hk,List.foldl_append]
  rfl
 have hO : ∀ k,SubOk M D us.length (redV M us.length row (rows.take k)) := fun k => redV_ok hM hl he fun r hr' => hr r (List.mem_of_mem_take hr')
 have hE : redV M us.length row (rows.take rows.length) = redV M us.length row rows := by rw [List.take_length]
 rw [hl] at hcl
 generalize hT : (fun k => redV M us.length row (rows.take k)) = T
 have hT : ∀ k,redV M us.length row (rows.take k) = T k := fun k => congrFun hT k
 simp only [hT] at hK hS hO hE
 rw [← hE]
 replace hT := Lib.hid hT
 have hml : (us.map kD).length = us.length := List.length_map _
 refine AWP.hole rfl (AWP.hole rfl (AWP.hole rfl (AWP.hole rfl ?_)))
 (repeat' (first
  |(apply W.qd;(first
  |(exact zM)|(exact zN)|(exact jAr)|(exact jAm)|(exact jB)|(exact q_len_osl rfl rfl rfl)|(apply q_makeFunc)
  |(exact q_nil_opt rfl)))
  |(apply W.ld;(first
  |(apply (l_call (hcl));(iterate 4 exact rfl);kernel_rfl;kernel_rfl)|(apply l_alloc;(iterate 3 exact rfl);kernel_rfl;kernel_rfl)
  |(apply (l_make (f := kD) 0);(iterate 3 exact rfl);(first | (with_reducible exact rfl) | exact natI_spec rfl | assumption | exact (Int.toNat_of_nonneg (by omega)).symm);(iterate 6 exact rfl);kernel_rfl;omega)))|(apply W.ed;(exact jAc))|(apply W.ln;(exact jAh))|(apply yA)|(apply yB)|(refine jAe ?_)|(refine jAs ?_)|(apply yE)|(refine jBc ?_)
  |(apply yG)))
 rw [hml]
 refine AWP.loopW (α := Nat) (fun k => k ≤ rows.length) (fun k => ⟨[(25,iV k),(24,iV rows.length),(23,.osl 1 rv 0 rows.length),(8,.fn 282 [.opt 4 0,.opt 6 0,.opt 5 0]),(6,.opt 4 0),(7,.opt 5 0),(2,.opt 6 0)],spEnv M D us.length ps us rv rows.length rows (T k).1 (T k).2⟩) (fun k => rows.length - k) 0 (by omega) ?wk0 fun k hk => ?_
 case wk0 =>
  rw [hK]
  exact ⟨[0,1,2,3,4,5,6],rfl,rfl,rfl,rfl,rfl,rfl,rfl,rfl,rfl,rfl,trivial⟩
 by_cases hkl : k < rows.length
 ·have hs := Lib.hid (hS k hkl)
  have ho := hO k
  generalize T k = s at *
  obtain ⟨A,B⟩ := s
  have hrr := hr rows[k] (List.getElem_mem _)
  have hsub := A_ssub (rv := rv) (rn := rows.length) (ps := ps) (us := us) (rows := rows) hM hD hn ho hrr
  generalize hZ : subR M (A,B) rows[k] = Z at *
  dsimp only
  (repeat' (first
   |(apply W.qd;(first
   |(exact zM)|(exact jAn)|(exact jAj)|(exact jAg)|(exact jAb)
   |(apply q_ld_rptsm;(iterate 4 exact rfl);(first | omega | (focus (simp only [List.length_map];omega)) | (focus (simp;done)) | (focus (simp;omega))))))
   |(apply W.ed;(first
   |(apply (e_callJ (js := [0,1,2,3,4,5,6]) (hsub));(iterate 5 exact rfl);kernel_rfl;kernel_rfl)
   |(exact jAq)))|(apply W.ln;(exact jAh))|(apply yA)|(apply yB)|(refine jAe ?_)|(apply yE)|(apply yG)|(apply yH)|(apply yL)
   |(refine W.cond _ rfl (fun hb => ?_) (fun hb => ?_) <;> ((try simp only [hb,zK]) <;> (try simp only [zL,zI] at hb) <;> (try (exfalso;omega))))))
  refine ⟨k + 1,by omega,by omega,?_⟩
  rw [hs.out]
  exact ⟨[0,1,2,3,4,5,6],rfl,rfl,rfl,iV_eq (by omega),rfl,rfl,rfl,rfl,rfl,rfl,trivial⟩
 ·have e : rows.length = k := by omega
  subst e
  generalize T rows.length = s at *
  (repeat' (first
   |(apply W.qd;(first
   |(exact zN)|(exact jAm)
   |(exact jAj)))|(apply yA)|(apply yB)|(refine jAe ?_)|(refine jAs ?_)|(apply yE)|(refine jBc ?_)|(apply yI)|(apply yJ)|(apply yK)|(apply yM)
   |(refine W.cond _ rfl (fun hb => ?_) (fun hb => ?_) <;> ((try simp only [hb,zK]) <;> (try simp only [zL,zI] at hb) <;> (try (exfalso;omega))))))
  exact ⟨.inl rfl,[0,1,2,3],[.osl 2 1 0 D,.osl 3 0 0 us.length],rfl,rfl,⟨rfl,rfl,trivial⟩,AVle.of_eq rfl,rfl⟩
end
section
attribute [local irreducible] Quiet Eff OpOk AWPG ACont ABlock ACalls AGoto
def findNZ (l : List Nat) : Nat := l.findIdx fun x => x != 0
def spanStep (M D n : Nat) (gen b : List Nat) (k : Nat) (rows : List (Nat × List Nat × List Nat)) : List (Nat × List Nat × List Nat) :=
 let s := redV M n ((gen.drop (b.getD k 0 * D)).take D) rows
 let c := s.2.set k (s.2.getD k 0 ^^^ 1)
 if findNZ s.1 < D then
  rows ++ [(findNZ s.1,addV M (invN M (s.1.getD (findNZ s.1) 0)) (List.replicate D 0) s.1 D,addV M (invN M (s.1.getD (findNZ s.1) 0)) (List.replicate n 0) c n)]
 else rows
def spanAt (M D n : Nat) (gen b : List Nat) : Nat → List (Nat × List Nat × List Nat)
 | 0 => []
 | k + 1 => spanStep M D n gen b k (spanAt M D n gen b k)
structure SpanOk (M D n k : Nat) (rows : List (Nat × List Nat × List Nat)) : Prop where
 r : ∀ r ∈ rows,RedRow M D n r
 l : rows.length ≤ k
theorem pick_row {M R D u : Nat} {gen : List Nat} (h : MxOk M R D gen) (hu : u < R) : ((gen.drop (u * D)).take D).length = D ∧ ∀ x ∈ (gen.drop (u * D)).take D,x < 2 ^ M := by
 have := Nat.mul_le_mul_right D (show u + 1 ≤ R from hu)
 rw [Nat.add_mul,Nat.one_mul] at this
 refine ⟨?_,fun x hx => h.e x (List.mem_of_mem_drop (List.mem_of_mem_take hx))⟩
 rw [List.length_take,List.length_drop,h.n];omega
theorem one_lt {M : Nat} (hM : FldM M) : 1 < 2 ^ M := by unfold FldM at hM;rcases hM with rfl | rfl <;> decide
theorem span_step {M R D n k : Nat} {gen b : List Nat} {rows : List (Nat × List Nat × List Nat)} (hM : FldM M) (hg : MxOk M R D gen) (hb : ∀ u ∈ b,u < R) (hk : k < b.length) (h : SpanOk M D n k rows) : SpanOk M D n (k + 1) (spanStep M D n gen b k rows) := by
 have hu : b.getD k 0 < R := by
  rw [List.getD_eq_getElem?_getD,List.getElem?_eq_getElem hk]
  exact hb _ (List.getElem_mem _)
 obtain ⟨p1,p2⟩ := pick_row hg hu
 have hs := redV_ok (n := n) (rows := rows) hM p1 p2 h.r
 rw [spanStep]
 generalize redV M n ((gen.drop (b.getD k 0 * D)).take D) rows = s at *
 split
 ·rename_i hf
  refine ⟨fun r hr => ?_,by have := h.l;simp;omega⟩
  rcases List.mem_append.1 hr with hr | hr
  ·exact h.r r hr
  ·obtain rfl : r = _ := by simpa using hr
   have hz : ∀ m,∀ x ∈ List.replicate m 0,x < 2 ^ M := fun m x hx => by rw [List.eq_of_mem_replicate hx];exact Nat.two_pow_pos M
   exact ⟨hf,by rw [addV_length,List.length_replicate],by rw [addV_length,List.length_replicate],addV_lt hM (invN_lt _) (hz _) _,addV_lt hM (invN_lt _) (hz _) _⟩
 ·exact ⟨h.r,by have := h.l;omega⟩
theorem span_ok {M R D n : Nat} {gen b : List Nat} (hM : FldM M) (hg : MxOk M R D gen) (hb : ∀ u ∈ b, u < R) : ∀ k, k ≤ b.length → SpanOk M D n k (spanAt M D n gen b k)
 | 0,_ => ⟨fun r hr => by simp [spanAt] at hr,Nat.le_refl _⟩
 | k + 1,hk => span_step hM hg hb (by omega) (span_ok hM hg hb k (by omega))
theorem basis_lt {M D : Nat} {ps : List (List Nat)} {hv : List Bool} (hl : hv.length = D + ps.length) : ∀ u ∈ basisN M D ps hv,u < D + ps.length := fun u hu => by
 obtain ⟨j,hj,rfl⟩ := List.mem_map.1 hu
 have h1 := red_lt _ j hj
 rw [List.getD_eq_getElem?_getD,List.getElem?_eq_getElem h1]
 have := presAt_lt (List.getElem_mem h1)
 simp only [Option.getD_some]
 omega
theorem basis_len {M D : Nat} {ps : List (List Nat)} {hv : List Bool} (h : CodeOk M D ps) (hl : hv.length = D + ps.length) : (basisN M D ps hv).length ≤ D := by
 have hpl : (presN hv).length ≤ hv.length := presAt_length hv hv.length
 have hplt : ∀ x ∈ presN hv,x < D + ps.length := fun x hx => by have := presAt_lt hx;omega
 have h2 := h.w
 have := (red_ok (M := M) (R := D) (C := (presN hv).length) (L := trN (presN hv).length D (pickN D (genN D ps) (presN hv))) h.f (trN_length _ _ _) (trN_lt (pick_ok (gen_ok h) hplt (by omega)).e) (presN hv).length).pr
 unfold basisN
 rwa [List.length_map]
def spanN (M D : Nat) (ps : List (List Nat)) (hv : List Bool) : List (Nat × List Nat × List Nat) := spanAt M D (basisN M D ps hv).length (genN D ps) (basisN M D ps hv) (basisN M D ps hv).length
theorem A_spanOf {M D : Nat} {ps : List (List Nat)} {hv : List Bool} (h : CodeOk M D ps) (hl : hv.length = D + ps.length) : ACalls Tryz.prog 209 [cdN M D ps,bools hv] [] (.tup [.opt 0 0,iV 0]) [spB M D ps (basisN M D ps hv) (spanN M D ps hv).length (spanN M D ps hv).length,spR (spanN M D ps hv).length (spanN M D ps hv)] := by
 refine acalls_of_bodyO Tryz.func209 rfl (zU rfl) ?_
 have h1 := h.d
 have h2 := h.w
 have hM := h.f
 have hbas := A_ebasis h hl
 have hgen := A_egen h
 have hgok := gen_ok h
 have hblt := basis_lt (M := M) (ps := ps) hl
 have hbl := basis_len h hl
 have hsp : spanN M D ps hv = spanAt M D (basisN M D ps hv).length (genN D ps) (basisN M D ps hv) (basisN M D ps hv).length := rfl
 generalize spanN M D ps hv = SP at *
 generalize basisN M D ps hv = B at *
 generalize genN D ps = G at *
 have hok := fun k hk => span_ok (n := B.length) hM hgok hblt k hk
 have hst : ∀ k,spanAt M D B.length G B (k + 1) = spanStep M D B.length G B k (spanAt M D B.length G B k) := fun _ => rfl
 have hs0 : spanAt M D B.length G B 0 = [] := rfl
 generalize spanAt M D B.length G B = S at *
 (repeat' (first
  |(apply W.qd;(first
  |(exact zW (hbas))|(exact zW (hgen))|(exact zM)|(exact zN)|(exact jAn)|(exact jAv)|(exact jBd)|(exact jB)
  |(exact jBe)))
  |(apply W.ed;(first
  |(exact jAc)
  |(exact jAq)))|(apply W.ln;(exact jAh))|(apply yA)|(apply yB)|(refine jAe ?_)|(apply yE)|(apply yG)|(apply yH)|(apply AWP.label)|(apply AWP.scope)
  |(refine jAw ?_)))
 refine AWP.nilBox (l' := [.d .any,iV M,iV D,rowsN ps,.d .any,nats B,.osl 3 0 0 0]) 2 6 3 318 rfl rfl (by omega) rfl rfl rfl rfl ?_
 refine AWP.loopW (α := Nat) (fun k => k ≤ B.length) (fun k => ⟨[(40,iV k),(39,iV B.length),(38,nats B),(10,.opt 2 0),(2,.opt 0 0),(8,.opt 1 0)],[.box [.d .any,iV M,iV D,rowsN ps,.d .any],.box [iV M,iV (D + ps.length : Nat),iV D,nats G],.box [.d .any,iV M,iV D,rowsN ps,.d .any,nats B,.osl 3 (S k).length 0 (S k).length],.row (S k).length 3 318 ((S k).map redD)]⟩) (fun k => B.length - k) 0 (by omega) ?wk0 fun k hk => ?_
 case wk0 =>
  rw [hs0]
  exact ⟨[0,1,2,3],rfl,rfl,rfl,rfl,iV_eq (by simp),rfl,rfl,rfl,rfl,trivial⟩
 by_cases hkl : k < B.length
 ·have hu := hblt B[k] (List.getElem_mem _)
  obtain ⟨p1,p2⟩ := pick_row hgok hu
  have hk1 := hok k hk
  have hS := Lib.hid (hst k)
  generalize S k = rows at *
  have hred := A_sreduce (rv := rows.length) (ps := ps) (us := B) hM h1 (by omega) (by omega) (by have := hk1.l;omega) p1 p2 hk1.r
  have hsub := redV_ok (n := B.length) (rows := rows) hM p1 p2 hk1.r
  generalize hZ : redV M B.length ((G.drop (B[k] * D)).take D) rows = Z at *
  replace hZ := Lib.hid hZ
  obtain ⟨R,K⟩ := Z
  have hr1 := hsub.l1
  have hr2 := hsub.l2
  dsimp only at hr1 hr2 hred
  have hc1 : K[k]'(by omega) < 2 ^ M := hsub.e2 _ (List.getElem_mem _)
  have hc2 := hM.cap hc1
  have hGn := hgok.n
  have hGl : B[k] * D + D ≤ (D + ps.length) * D := by
   have := Nat.mul_le_mul_right D (show B[k] + 1 ≤ D + ps.length from hu)
   rw [Nat.add_mul,Nat.one_mul] at this
   omega
  have hGu : (D + ps.length) * D ≤ 1024 := Nat.mul_le_mul (show D + ps.length ≤ 32 by omega) (show D ≤ 32 by omega)
  have h6 : ((B[k] : Int) + 1) * (D : Int) = ((B[k] : Int) * (D : Int)) + D := by rw [Int.add_mul,Int.one_mul]
  have h8 : -9223372036854775808 ≤ ((B[k] : Int) + 1) * (D : Int) ∧ ((B[k] : Int) + 1) * (D : Int) < 9223372036854775808 := by rw [h6];omega
  have h7 : (B[k] + 1) * D = B[k] * D + D := by rw [Nat.add_mul,Nat.one_mul]
  have hrow : (G.drop (B[k] * D)).take ((B[k] + 1) * D - B[k] * D) = (G.drop (B[k] * D)).take D := by rw [h7,Nat.add_sub_cancel_left]
  rw [← hrow] at hred
  clear p1 p2
  (repeat' (first
   |(apply W.qd;(first
   |(exact zM)|(exact zN)|(exact jAr)|(exact jAm)|(exact jAj)|(exact jAg)|(exact jBh)|(exact jBd)|(exact q_len_osl rfl rfl rfl)|(exact jAd)|(apply q_slc_map;exact rfl;exact rfl;(first | exact ⟨_,_,rfl,rfl⟩ | exact ⟨_,_,rfl,natI_spec rfl⟩ | exact ⟨_,_,rfl,(Int.toNat_of_nonneg (by omega)).symm⟩ | exact rfl);(first | exact ⟨_,_,rfl,rfl⟩ | exact ⟨_,_,rfl,natI_spec rfl⟩ | exact ⟨_,_,rfl,(Int.toNat_of_nonneg (by omega)).symm⟩ | exact rfl);(first | omega | (focus (simp only [List.length_map];omega)) | (focus (simp;done)) | (focus (simp;omega)));(first | omega | (focus (simp only [List.length_map];omega)) | (focus (simp;done)) | (focus (simp;omega)));exact Or.inl rfl)|(exact jA)|(exact jAa)|(exact jAb)
   |(exact jAo)))|(apply W.ed;(apply (e_callJ (js := [2,3]) (hred));(iterate 5 exact rfl);kernel_rfl;kernel_rfl))|(apply W.ln;(exact jAi))|(apply yA)|(apply yB)|(refine jAe ?_)|(apply yE)|(apply yG)|(apply yH)
   |(refine W.cond _ rfl (fun hb => ?_) (fun hb => ?_) <;> ((try simp only [hb,zK]) <;> (try simp only [zL,zI] at hb) <;> (try (exfalso;omega))))))
  have hC : (R,K).2.set k ((R,K).2.getD k 0 ^^^ 1) = K.set k (K[k]'(by omega) ^^^ 1) := by
   show K.set k (K.getD k 0 ^^^ 1) = _
   rw [List.getD_eq_getElem?_getD,List.getElem?_eq_getElem (show k < K.length by omega)]
   rfl
  have hBk : B.getD k 0 = B[k] := by
   rw [List.getD_eq_getElem?_getD,List.getElem?_eq_getElem hkl]
   rfl
  have hStep : ∀ j,findNZ R = j → spanStep M D B.length G B k rows = if j < D then rows ++ [(j,addV M (invN M (R.getD j 0)) (List.replicate D 0) R D,addV M (invN M (R.getD j 0)) (List.replicate B.length 0) (K.set k (K[k]'(by omega) ^^^ 1)) B.length)] else rows := fun j hj => by
   subst hj
   rw [spanStep,hBk,hZ.out,hC]
  have hCe : ∀ x ∈ K.set k (K[k]'(by omega) ^^^ 1),x < 2 ^ M := fun x hx => by
   rcases List.mem_or_eq_of_mem_set hx with hx | rfl
   ·exact hsub.e2 x hx
   ·exact Nat.xor_lt_two_pow hc1 (one_lt hM)
  have hCl : (K.set k (K[k]'(by omega) ^^^ 1)).length = B.length := by rw [List.length_set];exact hr2
  have hRe := hsub.e1
  dsimp only at hRe
  clear hC hBk hZ hsub hc2
  generalize K.set k (K[k]'(by omega) ^^^ 1) = C at *
  refine AWP.hole rfl (AWP.hole rfl (AWP.hole rfl ?_))
  refine AWP.loopW (α := Nat) (fun c => c ≤ D ∧ ∀ i,i < c → ∀ hi : i < R.length,R[i] = 0) (fun c => ⟨[(70,iV c),(69,iV D),(68,nats R),(13,nats R),(14,nats C),(11,iV k),(10,.opt 2 0),(2,.opt 0 0),(8,.opt 1 0),(40,iV k),(39,iV B.length),(38,nats B)],[.box [.d .any,iV M,iV D,rowsN ps,.d .any],.box [iV M,iV (D + ps.length : Nat),iV D,nats G],.box [.d .any,iV M,iV D,rowsN ps,.d .any,nats B,.osl 3 rows.length 0 rows.length],.row rows.length 3 318 (rows.map redD),hole,hole,hole]⟩) (fun c => D - c) 0 ⟨by omega,fun i hi => by omega⟩ ?wk1 fun c hc => ?_
  case wk1 =>
   exact ⟨[0,1,2,3,6,7,8],rfl,rfl,rfl,rfl,rfl,(frz_rowJ rfl rfl (by simp;omega)).symm,(frz_rowJ rfl rfl (by simp;omega)).symm,(frz_rowJ rfl rfl (by simp;omega)).symm,rfl,rfl,rfl,rfl,rfl,rfl,rfl,trivial⟩
  obtain ⟨hcD,hcz⟩ := hc
  by_cases hcl : c < D
  ·by_cases hz : R[c]'(by omega) = 0
   ·(repeat' (first
    |(apply W.qd;(first
    |(exact zM)|(exact zN)|(exact jAj)|(exact jBb)|(exact jAg)|(exact jAd)
    |(exact jA)))|(apply yA)|(apply yB)|(refine jAe ?_)|(apply yE)|(apply yG)|(apply yH)|(apply yI)|(apply yK)|(apply yM)
    |(refine W.cond _ rfl (fun hb => ?_) (fun hb => ?_) <;> ((try simp only [hb,zK]) <;> (try simp only [zL,zI] at hb) <;> (try (exfalso;omega))))))
    refine ⟨c + 1,⟨by omega,fun i hi hi2 => ?_⟩,by omega,[0,1,2,3,4,5,6],rfl,rfl,rfl,iV_eq (by omega),rfl,rfl,rfl,rfl,rfl,rfl,rfl,rfl,rfl,rfl,rfl,trivial⟩
    by_cases e : i = c
    ·subst e;exact hz
    ·exact hcz i (by omega) hi2
   ·have hx : R[c]'(by omega) < 2 ^ M := hRe _ (List.getElem_mem _)
    have hinv := A_inv hM hx hz
    have hfl : invN M (R[c]'(by omega)) < 2 ^ M := invN_lt _
    have hfz : findNZ R = c := by
     unfold findNZ
     rw [List.findIdx_eq (by omega)]
     refine ⟨by simpa using hz,fun j hj => ?_⟩
     simp [hcz j hj (by omega)]
    have hst2 := hStep c hfz
    rw [if_pos hcl,List.getD_eq_getElem?_getD,List.getElem?_eq_getElem (show c < R.length by omega)] at hst2
    simp only [Option.getD_some] at hst2
    generalize invN M (R[c]'(by omega)) = f at *
    have hzr : ∀ m,∀ x ∈ List.replicate m 0,x < 2 ^ M := fun m x hx => by rw [List.eq_of_mem_replicate hx];exact Nat.two_pow_pos M
    have hmR : (R.map kD).length = D := by rw [List.length_map];exact hr1
    have hmC : (C.map kD).length = B.length := by rw [List.length_map];exact hCl
    have a1 := A_sadd (D := D) (v := 0) (rv := rows.length) (rn := rows.length) (ps := ps) (us := B) (rows := rows) (T := List.replicate (R.map kD).length 0) (l := R) hM hfl (hzr _) hRe List.length_replicate (by rw [List.length_replicate];omega) (by omega)
    have a2 := A_sadd (D := D) (v := 0) (rv := rows.length) (rn := rows.length) (ps := ps) (us := B) (rows := rows) (T := List.replicate (C.map kD).length 0) (l := C) hM hfl (hzr _) hCe List.length_replicate (by rw [List.length_replicate];omega) (by omega)
    have hX : addV M f (List.replicate (R.map kD).length 0) R R.length = addV M f (List.replicate D 0) R D := by rw [hmR,hr1]
    have hY : addV M f (List.replicate (C.map kD).length 0) C C.length = addV M f (List.replicate B.length 0) C B.length := by rw [hmC,hCl]
    have hXl : (addV M f (List.replicate (R.map kD).length 0) R R.length).length = (R.map kD).length := by rw [addV_length,List.length_replicate]
    have hYl : (addV M f (List.replicate (C.map kD).length 0) C C.length).length = (C.map kD).length := by rw [addV_length,List.length_replicate]
    rw [← hX,← hY] at hst2
    generalize addV M f (List.replicate (R.map kD).length 0) R R.length = X at *
    generalize addV M f (List.replicate (C.map kD).length 0) C C.length = Y at *
    replace hst2 := Lib.hid hst2
    replace hX := Lib.hid hX
    replace hY := Lib.hid hY
    (repeat' (first
     |(apply W.qd;(first
     |(exact zW (hinv))|(exact zM)|(exact zN)|(exact jAr)|(exact jAm)|(exact jAj)|(exact jBb)|(exact jBd)|(exact jB)|(exact jAd)|(exact jBe)
     |(exact jA)))
     |(apply W.ld;(first
     |(apply l_alloc;(iterate 3 exact rfl);kernel_rfl;kernel_rfl)
     |(apply (l_make (f := kD) 0);(iterate 3 exact rfl);(first | (with_reducible exact rfl) | exact natI_spec rfl | assumption | exact (Int.toNat_of_nonneg (by omega)).symm);(iterate 6 exact rfl);kernel_rfl;omega)))|(apply W.ed;(apply (e_callJ (js := [2,3,4]) (a1));(iterate 5 exact rfl);kernel_rfl;kernel_rfl))|(apply W.ln;(exact jAh))|(apply yA)|(apply yB)|(refine jAe ?_)|(refine jAs ?_)|(apply yE)|(refine jBc ?_)|(apply yG)|(apply yH)
     |(refine W.cond _ rfl (fun hb => ?_) (fun hb => ?_) <;> ((try simp only [hb,zK]) <;> (try simp only [zL,zI] at hb) <;> (try (exfalso;omega))))))
    (iterate 1 (all_goals (try (first
     |(apply W.ed;(apply (e_callJ (js := [2,3,5]) (a2));(iterate 5 exact rfl);kernel_rfl;kernel_rfl))))))
    (iterate 1 (all_goals (try (first
     |(apply yE)))))
    (iterate 1 (all_goals (try (first
     |(apply yB)))))
    refine AWP.wk ⟨[(10,.opt 2 0),(19,.opt 4 0),(2,.opt 0 0),(8,.opt 1 0),(40,iV k),(39,iV B.length),(38,nats B)],[.box [.d .any,iV M,iV D,rowsN ps,.d .any],.box [iV M,iV (D + ps.length : Nat),iV D,nats G],.box [.d .any,iV M,iV D,rowsN ps,.d .any,nats B,.osl 3 rows.length 0 rows.length],.row rows.length 3 318 (rows.map redD),.box [iV c,nats X,nats Y]]⟩ ⟨[0,1,2,3,6],rfl,rfl,?wk2,rfl,rfl,rfl,rfl,rfl,rfl,rfl,trivial⟩ ?_
    case wk2 =>
     have z1 := frz_rowJ (own := [.box [.d .any,iV M,iV D,rowsN ps,.d .any],.box [iV M,iV (D + ps.length : Nat),iV D,nats G],.box [.d .any,iV M,iV D,rowsN ps,.d .any,nats B,.osl 3 rows.length 0 rows.length],.row rows.length 3 318 (rows.map redD),.row 0 1 3 (X.map kD),.row 0 1 3 (Y.map kD),.box [iV c,.osl 4 0 0 (R.map kD).length,.osl 5 0 0 (C.map kD).length]]) (js := [0,1,2,3,6]) (i := 4) (ver := 0) (n := (R.map kD).length) rfl rfl (by simp only [List.length_map] at hXl ⊢;exact hXl.symm)
     have z2 := frz_rowJ (own := [.box [.d .any,iV M,iV D,rowsN ps,.d .any],.box [iV M,iV (D + ps.length : Nat),iV D,nats G],.box [.d .any,iV M,iV D,rowsN ps,.d .any,nats B,.osl 3 rows.length 0 rows.length],.row rows.length 3 318 (rows.map redD),.row 0 1 3 (X.map kD),.row 0 1 3 (Y.map kD),.box [iV c,.osl 4 0 0 (R.map kD).length,.osl 5 0 0 (C.map kD).length]]) (js := [0,1,2,3,6]) (i := 5) (ver := 0) (n := (C.map kD).length) rfl rfl (by simp only [List.length_map] at hYl ⊢;exact hYl.symm)
     show _ = [Ent.box [.d .any,iV M,iV D,rowsN ps,.d .any],.box [iV M,iV (D + ps.length : Nat),iV D,nats G],.box [.d .any,iV M,iV D,rowsN ps,.d .any,nats B,.osl 3 rows.length 0 rows.length],.row rows.length 3 318 (rows.map redD),.box [iV c,AV.frz [.box [.d .any,iV M,iV D,rowsN ps,.d .any],.box [iV M,iV (D + ps.length : Nat),iV D,nats G],.box [.d .any,iV M,iV D,rowsN ps,.d .any,nats B,.osl 3 rows.length 0 rows.length],.row rows.length 3 318 (rows.map redD),.row 0 1 3 (X.map kD),.row 0 1 3 (Y.map kD),.box [iV c,.osl 4 0 0 (R.map kD).length,.osl 5 0 0 (C.map kD).length]] [0,1,2,3,6] (.osl 4 0 0 (R.map kD).length),AV.frz [.box [.d .any,iV M,iV D,rowsN ps,.d .any],.box [iV M,iV (D + ps.length : Nat),iV D,nats G],.box [.d .any,iV M,iV D,rowsN ps,.d .any,nats B,.osl 3 rows.length 0 rows.length],.row rows.length 3 318 (rows.map redD),.row 0 1 3 (X.map kD),.row 0 1 3 (Y.map kD),.box [iV c,.osl 4 0 0 (R.map kD).length,.osl 5 0 0 (C.map kD).length]] [0,1,2,3,6] (.osl 5 0 0 (C.map kD).length)]]
     rw [z1,z2]
    have hrl := hk1.l
    (repeat' (first
     |(apply W.qd;(first
     |(exact zM)|(exact jAr)|(exact jAm)|(exact jAn)|(exact jAg)|(exact q_nil_opt rfl)
     |(exact jAl)))|(apply W.ed;((apply (e_app1F (f := redD) (c,X,Y));(iterate 8 exact rfl);omega)))|(apply W.ln;(exact jAh))|(apply yA)|(apply yB)|(refine jAe ?_)|(refine jAs ?_)|(apply yE)|(refine jBc ?_)|(apply yI)|(apply yK)|(apply yM)
     |(apply yO;exact rfl)))
    have hS2 : S (k + 1) = rows ++ [(c,X,Y)] := hS.out.trans hst2.out
    refine ⟨k + 1,by omega,by omega,?_⟩
    rw [hS2,show (rows ++ [(c,X,Y)]).length = rows.length + 1 by simp]
    exact ⟨[0,1,2,3],rfl,rfl,rfl,iV_eq (by omega),rfl,rfl,rfl,rfl,rfl,trivial⟩
  ·have e : c = D := by omega
   have hfz : findNZ R = D := by
    unfold findNZ
    rw [← hr1]
    refine List.findIdx_eq_length.2 fun x hx => ?_
    obtain ⟨i,hi,rfl⟩ := List.mem_iff_getElem.1 hx
    simp [hcz i (by omega) hi]
   have hst2 := hStep D hfz
   rw [if_neg (Nat.lt_irrefl D)] at hst2
   have hS2 := Lib.hid (hS.out.trans hst2)
   (repeat' (first
    |(apply W.qd;(first
    |(exact zM)|(exact jAj)
    |(exact jAg)))|(apply yA)|(apply yB)|(refine jAe ?_)|(apply yE)|(apply yI)|(apply yK)|(apply yL)|(apply yM)
    |(refine W.cond _ rfl (fun hb => ?_) (fun hb => ?_) <;> ((try simp only [hb,zK]) <;> (try simp only [zL,zI] at hb) <;> (try (exfalso;omega))))))
   refine ⟨k + 1,by omega,by omega,?_⟩
   rw [hS2.out]
   exact ⟨[0,1,2,3],rfl,rfl,rfl,iV_eq (by omega),rfl,rfl,rfl,rfl,rfl,trivial⟩
 ·have e : B.length = k := by omega
  subst e
  rw [← hsp]
  (repeat' (first
   |(apply W.qd;(first
   |(exact zM)|(exact zN)
   |(exact jAj)))|(apply yA)|(apply yB)|(refine jAe ?_)|(apply yE)|(apply yI)|(apply yJ)|(apply yK)|(apply AGoto_ret)|(apply yM)
   |(refine W.cond _ rfl (fun hb => ?_) (fun hb => ?_) <;> ((try simp only [hb,zK]) <;> (try simp only [zL,zI] at hb) <;> (try (exfalso;omega))))))
  exact ⟨.inl rfl,[2,3],[.opt 2 0,iV 0],rfl,rfl,⟨rfl,rfl,trivial⟩,AVle.of_eq rfl,rfl⟩
end
section
attribute [local irreducible] Quiet Eff OpOk AWPG ACont ABlock ACalls AGoto
def tmD (t : Nat × Nat) : List Dat := [.v (.int .i64 t.1),.v (.int .i64 t.2)]
abbrev tmsA (l : List (Nat × Nat)) : AV := .d (.sl 2 (l.map tmD))
def tmsAt (us K : List Nat) (k : Nat) : List (Nat × Nat) := ((List.range k).filter fun i => K.getD i 0 != 0).map fun i => (us.getD i 0,K.getD i 0)
theorem tmsAt_succ (us K : List Nat) (k : Nat) : tmsAt us K (k + 1) = if K.getD k 0 = 0 then tmsAt us K k else tmsAt us K k ++ [(us.getD k 0,K.getD k 0)] := by
 unfold tmsAt
 rw [List.range_succ,List.filter_append,List.map_append]
 by_cases h : K.getD k 0 = 0
 ·rw [if_pos h];simp only [List.filter_cons,h];simp
 ·have h2 : (K.getD k 0 != 0) = true := by simpa using h
  rw [if_neg h];simp only [List.filter_cons,h2,if_true,List.filter_nil,List.map_cons,List.map_nil]
theorem tmsAt_length (us K : List Nat) (k : Nat) : (tmsAt us K k).length ≤ k := by
 unfold tmsAt
 rw [List.length_map]
 exact Nat.le_trans (List.length_filter_le _ _) (by simp)
def termsN (M D : Nat) (ps : List (List Nat)) (us : List Nat) (rows : List (Nat × List Nat × List Nat)) (u : Nat) : Option (List (Nat × Nat)) :=
 let s := redV M us.length (((genN D ps).drop (u * D)).take D) rows
 if s.1.all (fun x => decide (x = 0)) then some (tmsAt us s.2 us.length) else none
def termsA : Option (List (Nat × Nat)) → AV
 | some l => .tup [tmsA l,iV 0]
 | none => .tup [tmsA [],iV 11]
theorem A_tz1 (x : Int) : ACalls Tryz.prog 254 [iV x] [] (bV (decide (x = 0))) [] := by
 refine acalls_of_bodyO Tryz.func254 rfl (zU rfl) ?_
 (repeat' (first
  |(apply W.qd;(first
  |(exact zM)|(exact zN)
  |(exact jBb)))|(apply yA)|(apply yB)|(refine jAe ?_)|(apply yE)
  |(apply yJ)))
 exact ⟨.inl rfl,[],[bV (decide (x = 0))],rfl,rfl,⟨rfl,trivial⟩,AVle.of_eq rfl,rfl⟩
theorem EndsO.nil2 {P : Program} {m : Nat} {env : List (Nat × AV)} {own own' : List Ent} {t t' sz : Nat} {y : AV} (js : List Nat) (h1 : selOk own js = true) (h2 : js.take m = List.range m) (hx : look env t = .d (.v (.slice none 0 0))) (hy : look env t' = y) (hf : AV.frz own js y = y) (ho : selOwn own js = own') : EndsO P m [.tmp t,.tmp t'] (.tup [.d (.sl sz []),y]) own' .ret ⟨env,own⟩ :=
 ⟨.inl rfl,js,[.d (.v (.slice none 0 0)),y],h1,h2,⟨hx,hy,trivial⟩,by
  show AVle (.tup [_,AV.frz own js y]) _
  rw [hf]
  exact AVle.tup2 (AVle.nil sz) (AVle.of_eq rfl),ho⟩
theorem A_terms {M D rv u : Nat} {ps : List (List Nat)} {us : List Nat} {rows : List (Nat × List Nat × List Nat)} (h : CodeOk M D ps) (hu : u < D + ps.length) (hn : us.length ≤ 32) (hrl : rows.length ≤ 32) (hr : ∀ r ∈ rows,RedRow M D us.length r) : ACalls Tryz.prog 210 [.opt 0 0,iV u] [spB M D ps us rv rows.length,spR rv rows] (termsA (termsN M D ps us rows u)) [spB M D ps us rv rows.length,spR rv rows] := by
 refine acalls_of_bodyO Tryz.func210 rfl (zU rfl) ?_
 have h1 := h.d
 have h2 := h.w
 have hM := h.f
 have hgen := A_egen h
 have hgok := gen_ok h
 obtain ⟨p1,p2⟩ := pick_row hgok hu
 have hred := A_sreduce (rv := rv) (ps := ps) (us := us) hM h1 (by omega) hn hrl p1 p2 hr
 have hsub := redV_ok (n := us.length) (rows := rows) hM p1 p2 hr
 have hT : termsN M D ps us rows u = if (redV M us.length (((genN D ps).drop (u * D)).take D) rows).1.all (fun x => decide (x = 0)) then some (tmsAt us (redV M us.length (((genN D ps).drop (u * D)).take D) rows).2 us.length) else none := rfl
 replace hT := Lib.hid hT
 generalize termsN M D ps us rows u = TT at *
 generalize genN D ps = G at *
 generalize hZ : redV M us.length ((G.drop (u * D)).take D) rows = Z at *
 replace hZ := Lib.hid hZ
 obtain ⟨R,K⟩ := Z
 have hr1 := hsub.l1
 have hr2 := hsub.l2
 dsimp only at hr1 hr2 hred
 have hGn := hgok.n
 have hGl : u * D + D ≤ (D + ps.length) * D := by
  have := Nat.mul_le_mul_right D (show u + 1 ≤ D + ps.length from hu)
  rw [Nat.add_mul,Nat.one_mul] at this
  omega
 have hGu : (D + ps.length) * D ≤ 1024 := Nat.mul_le_mul (show D + ps.length ≤ 32 by omega) (show D ≤ 32 by omega)
 have h6 : ((u : Int) + 1) * (D : Int) = ((u : Int) * (D : Int)) + D := by rw [Int.add_mul,Int.one_mul]
 have h8 : -9223372036854775808 ≤ ((u : Int) + 1) * (D : Int) ∧ ((u : Int) + 1) * (D : Int) < 9223372036854775808 := by rw [h6];omega
 have h7 : (u + 1) * D = u * D + D := by rw [Nat.add_mul,Nat.one_mul]
 have hrow : (G.drop (u * D)).take ((u + 1) * D - u * D) = (G.drop (u * D)).take D := by rw [h7,Nat.add_sub_cancel_left]
 rw [← hrow] at hred
 clear p1 p2
 (repeat' (first
  |(apply W.qd;(first
  |(exact zW (hgen))|(exact zM)|(exact zN)|(exact jAr)|(exact jAm)|(exact jAn)|(exact jAg)|(exact jBh)|(exact jBd)|(exact q_nil_opt rfl)
  |(apply q_slc_map;exact rfl;exact rfl;(first | exact ⟨_,_,rfl,rfl⟩ | exact ⟨_,_,rfl,natI_spec rfl⟩ | exact ⟨_,_,rfl,(Int.toNat_of_nonneg (by omega)).symm⟩ | exact rfl);(first | exact ⟨_,_,rfl,rfl⟩ | exact ⟨_,_,rfl,natI_spec rfl⟩ | exact ⟨_,_,rfl,(Int.toNat_of_nonneg (by omega)).symm⟩ | exact rfl);(first | omega | (focus (simp only [List.length_map];omega)) | (focus (simp;done)) | (focus (simp;omega)));(first | omega | (focus (simp only [List.length_map];omega)) | (focus (simp;done)) | (focus (simp;omega)));exact Or.inl rfl)))
  |(apply W.ed;(first
  |(apply (e_callJ (js := [0,1]) (hred));(iterate 5 exact rfl);kernel_rfl;kernel_rfl)
  |(exact jAq)))|(apply W.ln;(exact jAh))|(apply yA)|(apply yB)|(apply (W.regionS 3);exact rfl;kernel_rfl)|(apply (W.regionDS 3);exact rfl;exact rfl;kernel_rfl)|(apply yE)
  |(refine jBc ?_)))
 refine AWP.wk ⟨[(0,.opt 0 0),(8,nats R),(9,nats K)],[spB M D ps us rv rows.length,spR rv rows]⟩ ⟨[0,1],rfl,rfl,rfl,rfl,(frz_rowJ rfl rfl (by simp;omega)).symm,(frz_rowJ rfl rfl (by simp;omega)).symm,trivial⟩ ?_
 have hev := A_every_tz0 (fun x => decide (x = 0)) (R.map fun n : Nat => (n : Int)) (by simp;omega) fun x _ => A_tz1 x
 rw [← nats_ints] at hev
 have hall : (R.map fun n : Nat => (n : Int)).all (fun x => decide (x = 0)) = R.all (fun x => decide (x = 0)) := by
  rw [List.all_map]
  congr 1
  funext x
  simp
 rw [hall] at hev
 have hT2 := hT.out
 dsimp only at hT2
 by_cases hz : R.all (fun x => decide (x = 0)) = true
 ·rw [hz] at hev hT2
  rw [if_pos rfl] at hT2
  rw [hT2]
  have hml : (K.map kD).length = us.length := by rw [List.length_map];exact hr2
  (repeat' (first
   |(apply W.qd;(first
   |(exact zW (hev))|(exact zM)|(exact zN)|(exact jBg)
   |(exact jB)))|(apply yA)|(apply yB)|(refine jAe ?_)|(apply yE)|(apply yG)|(apply yH)
   |(refine jAw ?_)))
  rw [hml]
  refine AWP.nilRow 10 2 252 rfl (by omega) ?_
  refine AWP.loopW (α := Nat) (fun k => k ≤ us.length) (fun k => ⟨[(49,iV k),(48,iV us.length),(47,nats K),(0,.opt 0 0),(10,.osl 2 (tmsAt us K k).length 0 (tmsAt us K k).length)],[spB M D ps us rv rows.length,spR rv rows,.row (tmsAt us K k).length 2 252 ((tmsAt us K k).map tmD)]⟩) (fun k => us.length - k) 0 (by omega) ?wk0 fun k hk => ?_
  case wk0 =>
   rw [show tmsAt us K 0 = [] from rfl]
   exact ⟨[0,1,2],rfl,rfl,rfl,rfl,rfl,rfl,rfl,rfl,trivial⟩
  by_cases hkl : k < us.length
  ·have hs := Lib.hid (tmsAt_succ us K k)
   have hl := tmsAt_length us K k
   have e1 : K.getD k 0 = K[k]'(by omega) := by
    rw [List.getD_eq_getElem?_getD,List.getElem?_eq_getElem (show k < K.length by omega)];rfl
   have e2 : us.getD k 0 = us[k] := by
    rw [List.getD_eq_getElem?_getD,List.getElem?_eq_getElem hkl];rfl
   rw [e1,e2] at hs
   generalize tmsAt us K k = A at *
   (repeat' (first
    |(apply W.qd;(first
    |(exact zM)|(exact zN)|(exact jAr)|(exact jAm)|(exact jAj)|(exact jAv)|(exact jAg)|(exact jAd)|(exact jBe)|(exact q_nil_opt rfl)|(exact jAl)
    |(exact jA)))|(apply W.ld;(apply (l_app1 (f := tmD) (us[k]'hkl,K[k]'(by omega)));(iterate 8 exact rfl);omega))|(apply yA)|(apply yB)|(refine jAe ?_)|(apply yE)|(apply yG)|(apply yH)|(apply yL)
    |(refine W.cond _ rfl (fun hb => ?_) (fun hb => ?_) <;> ((try simp only [hb,zK]) <;> (try simp only [zL,zI] at hb) <;> (try (exfalso;omega))))))
   ·rw [if_neg (by omega)] at hs
    refine ⟨k + 1,by omega,by omega,?_⟩
    rw [hs.out,show (A ++ [(us[k],K[k]'(by omega))]).length = A.length + 1 by simp]
    exact ⟨[0,1,2],rfl,rfl,rfl,iV_eq (by omega),rfl,rfl,rfl,rfl,trivial⟩
   ·rw [if_pos (by omega)] at hs
    refine ⟨k + 1,by omega,by omega,?_⟩
    rw [hs.out]
    exact ⟨[0,1,2],rfl,rfl,rfl,iV_eq (by omega),rfl,rfl,rfl,rfl,trivial⟩
  ·have e : us.length = k := by omega
   subst e
   generalize tmsAt us K us.length = A at *
   (repeat' (first
    |(apply W.qd;(first
    |(exact zM)|(exact zN)
    |(exact jAj)))|(apply yA)|(apply yB)|(refine jAe ?_)|(apply yE)|(apply yI)|(apply yJ)|(apply yK)|(apply yM)
    |(refine W.cond _ rfl (fun hb => ?_) (fun hb => ?_) <;> ((try simp only [hb,zK]) <;> (try simp only [zL,zI] at hb) <;> (try (exfalso;omega))))))
   refine ⟨.inl rfl,[0,1],[.osl 2 A.length 0 A.length,iV 0],rfl,rfl,⟨rfl,rfl,trivial⟩,AVle.of_eq ?_,rfl⟩
   exact congrArg (fun z => AV.tup [z,iV 0]) (frz_rowJ rfl rfl (by simp))
 ·have hz : R.all (fun x => decide (x = 0)) = false := by simpa using hz
  rw [hz] at hev hT2
  rw [if_neg (by simp)] at hT2
  rw [hT2]
  (repeat' (first
   |(apply W.qd;(first
   |(exact zW (hev))|(exact zM)|(exact zN)
   |(exact jBg)))|(apply yA)|(apply yB)|(refine jAe ?_)|(apply yE)|(apply yJ)|(apply yP)
   |(refine jBa ?_)))
  exact EndsO.nil2 [0,1] rfl rfl rfl rfl rfl rfl
def combN (M D : Nat) (ps : List (List Nat)) (hv : List Bool) (u : Nat) : Option (List (Nat × Nat)) := termsN M D ps (basisN M D ps hv) (spanN M D ps hv) u
theorem spanN_ok {M D : Nat} {ps : List (List Nat)} {hv : List Bool} (h : CodeOk M D ps) (hl : hv.length = D + ps.length) : SpanOk M D (basisN M D ps hv).length (basisN M D ps hv).length (spanN M D ps hv) :=
 span_ok h.f (gen_ok h) (basis_lt hl) _ (Nat.le_refl _)
theorem A_comb {M D u : Nat} {ps : List (List Nat)} {hv : List Bool} (h : CodeOk M D ps) (hl : hv.length = D + ps.length) (hu : u < D + ps.length) : ACalls Tryz.prog 147 [cdN M D ps,bools hv,iV u] [] (termsA (combN M D ps hv u)) [] := by
 refine acalls_of_bodyO Tryz.func147 rfl (zU rfl) ?_
 have hsp := A_spanOf h hl
 have hok := spanN_ok h hl
 have hbl := basis_len h hl
 have h2 := h.w
 have hokl := hok.l
 have ht := A_terms (rv := (spanN M D ps hv).length) (rows := spanN M D ps hv) (us := basisN M D ps hv) h hu (by omega) (by omega) hok.r
 have hc : combN M D ps hv u = termsN M D ps (basisN M D ps hv) (spanN M D ps hv) u := rfl
 rw [hc]
 have hml : (hv.map tD).length = D + ps.length := by rw [List.length_map];exact hl
 generalize termsN M D ps (basisN M D ps hv) (spanN M D ps hv) u = T at *
 generalize spanN M D ps hv = S at *
 generalize basisN M D ps hv = B at *
 cases T with
 | none =>
   unfold termsA at ht
   dsimp only at ht
   (repeat' (first
    |(apply yFb;exact rfl;exact rfl)
    |(apply W.qd;(first
    |(exact zM)|(exact zN)|(exact jAn)|(exact jAj)|(exact q_geq rfl rfl)|(exact jAv)|(exact jBd)|(exact jB)
    |(apply (yDb (u := .d _));exact rfl;exact rfl)))
    |(apply W.ed;(first
    |(apply (e_callJ (js := []) (hsp));(iterate 5 exact rfl);kernel_rfl;kernel_rfl)|(apply (e_callJ (js := [1,2]) (ht));(iterate 5 exact rfl);kernel_rfl;kernel_rfl)
    |(exact jAc)))|(apply yA)|(apply yB)|(refine jAe ?_)|(apply yE)|(apply yH)|(apply yJ)
    |(refine W.cond _ rfl (fun hb => ?_) (fun hb => ?_) <;> ((try simp only [hb,zK]) <;> (try simp only [zL,zI] at hb) <;> (try (exfalso;omega))))))
   all_goals exact ⟨.inl rfl,[],[tmsA [],iV 11],rfl,rfl,⟨rfl,rfl,trivial⟩,AVle.of_eq rfl,rfl⟩
 | some l =>
   unfold termsA at ht
   dsimp only at ht
   (repeat' (first
    |(apply yFb;exact rfl;exact rfl)
    |(apply W.qd;(first
    |(exact zM)|(exact zN)|(exact jAn)|(exact jAj)|(exact q_geq rfl rfl)|(exact jAv)|(exact jBd)|(exact jB)
    |(apply (yDb (u := .d _));exact rfl;exact rfl)))
    |(apply W.ed;(first
    |(apply (e_callJ (js := []) (hsp));(iterate 5 exact rfl);kernel_rfl;kernel_rfl)|(apply (e_callJ (js := [1,2]) (ht));(iterate 5 exact rfl);kernel_rfl;kernel_rfl)
    |(exact jAc)))|(apply yA)|(apply yB)|(refine jAe ?_)|(apply yE)|(apply yH)|(apply yJ)
    |(refine W.cond _ rfl (fun hb => ?_) (fun hb => ?_) <;> ((try simp only [hb,zK]) <;> (try simp only [zL,zI] at hb) <;> (try (exfalso;omega))))))
   all_goals exact ⟨.inl rfl,[],[tmsA l,iV 0],rfl,rfl,⟨rfl,rfl,trivial⟩,AVle.of_eq rfl,rfl⟩
end
section
def symF (l : List Nat) : Nat := l.foldl (fun x b => x <<< 8 ||| b) 0
theorem symF_snoc (l : List Nat) (b : Nat) : symF (l ++ [b]) = symF l <<< 8 ||| b := by simp [symF]
theorem symF_one (a : Nat) : symF [a] = a := by simp [symF]
theorem symF_two {a b : Nat} (hb : b < 256) : symF [a,b] = 256 * a + b := by
 show (0 <<< 8 ||| a) <<< 8 ||| b = _
 have h0 : (0 <<< 8 ||| a) = a := by simp
 rw [h0]
 have h1 : a <<< 8 ||| b = a <<< 8 + b := by
  have := Nat.shiftLeft_add_eq_or_of_lt (b := b) (i := 8) (by omega) a
  exact this.symm
 rw [h1,Nat.shiftLeft_eq]
 omega
theorem symF_lt : ∀ (l : List Nat), isB l → l.length ≤ 2 → symF l < 2 ^ (8 * l.length)
 | [],_,_ => by simp [symF]
 | [a],h,_ => by rw [symF_one];exact h a (by simp)
 | [a,b],h,_ => by
   have h1 := h a (by simp)
   have h2 := h b (by simp)
   rw [symF_two h2]
   show _ < 2 ^ 16
   omega
 | _ :: _ :: _ :: _,_,h => by simp at h
def wrS (T : List Nat) (at' z x : Nat) : Nat → List Nat
 | 0 => T
 | j + 1 => (wrS T at' z x j).set (at' + z - 1 - j) ((wrS T at' z x j).getD (at' + z - 1 - j) 0 ^^^ (x >>> (8 * j)) % 256)
theorem wrS_length (T : List Nat) (at' z x : Nat) : ∀ j, (wrS T at' z x j).length = T.length
 | 0 => rfl
 | j + 1 => by rw [wrS,List.length_set,wrS_length T at' z x j]
def accS (M c : Nat) (u T : List Nat) : Nat → List Nat
 | 0 => T
 | k + 1 => wrS (accS M c u T k) (k * (M / 8)) (M / 8) (Gf.mul M (modN M) c (symF ((u.drop (k * (M / 8))).take (M / 8)))) (M / 8)
theorem accS_length (M c : Nat) (u T : List Nat) : ∀ k, (accS M c u T k).length = T.length
 | 0 => rfl
 | k + 1 => by rw [accS,wrS_length,accS_length M c u T k]
theorem isB_set {l : List Nat} (h : isB l) (k : Nat) {v : Nat} (hv : v < 256) : isB (l.set k v) := fun x hx => by
 rcases List.mem_or_eq_of_mem_set hx with hx | rfl
 ·exact h x hx
 ·exact hv
theorem isB_getD {l : List Nat} (h : isB l) (k : Nat) : l.getD k 0 < 256 := by
 rw [List.getD_eq_getElem?_getD]
 cases hk : l[k]? with
 | none => simp
 | some v => exact h v (List.mem_of_getElem? hk)
theorem isB_wrS {T : List Nat} (h : isB T) (at' z x : Nat) : ∀ j, isB (wrS T at' z x j)
 | 0 => h
 | j + 1 => isB_set (isB_wrS h at' z x j) _ (Nat.xor_lt_two_pow (n := 8) (isB_getD (isB_wrS h at' z x j) _) (by omega))
theorem isB_accS {M c : Nat} {u T : List Nat} (h : isB T) : ∀ k, isB (accS M c u T k)
 | 0 => h
 | k + 1 => isB_wrS (isB_accS h k) _ _ _ _
theorem set_getD (l : List Nat) (k v i : Nat) (hi : i < l.length) : (l.set k v).getD i 0 = if i = k then v else l.getD i 0 := by
 simp only [List.getD_eq_getElem?_getD,List.getElem?_set]
 by_cases e : k = i
 ·subst e;simp [hi]
 ·rw [if_neg e,if_neg (fun h => e h.symm)]
theorem accS_get8 {c : Nat} {u T : List Nat} (hc : c < 2 ^ 8) (hu : isB u) (hT : T.length = u.length) : ∀ k, k ≤ u.length → ∀ i, i < u.length → (accS 8 c u T k).getD i 0 = if i < k then T.getD i 0 ^^^ (scale8 c u).getD i 0 else T.getD i 0
 | 0,_,i,_ => by simp [accS]
 | k + 1,hk,i,hi => by
   have ih := accS_get8 hc hu hT k (by omega)
   have hlen := accS_length 8 c u T k
   have hkl : k < u.length := by omega
   have e1 : (u.drop k).take 1 = [u[k]] := by
    rw [List.drop_eq_getElem_cons hkl];rfl
   have e2 : accS 8 c u T (k + 1) = (accS 8 c u T k).set k ((accS 8 c u T k).getD k 0 ^^^ (Gf.mul 8 (modN 8) c u[k]) % 256) := by
    show wrS (accS 8 c u T k) (k * 1) 1 (Gf.mul 8 (modN 8) c (symF ((u.drop (k * 1)).take 1))) 1 = _
    rw [Nat.mul_one,e1,symF_one]
    simp only [wrS,Nat.mul_zero,Nat.shiftRight_zero,Nat.add_sub_cancel,Nat.sub_zero]
   have hm : Gf.mul 8 (modN 8) c u[k] < 256 := isB_scale8 (l := u) hc _ (List.mem_map.2 ⟨_,List.getElem_mem hkl,rfl⟩)
   have e3 : (scale8 c u).getD k 0 = Gf.mul 8 (modN 8) c u[k] := by
    rw [List.getD_eq_getElem?_getD,scale8,List.getElem?_map,List.getElem?_eq_getElem hkl];rfl
   rw [e2,set_getD _ _ _ _ (by omega),Nat.mod_eq_of_lt hm]
   by_cases h : i = k
   ·subst h
    rw [if_pos rfl,if_pos (by omega),ih i hi,if_neg (by omega),e3]
   ·rw [if_neg h, ih i hi]
    by_cases h2 : i < k
    ·rw [if_pos h2,if_pos (by omega)]
    ·rw [if_neg h2,if_neg (by omega)]
theorem accS_get16 {c : Nat} {u T : List Nat} (hc : c < 2 ^ 16) (hu : isB u) (hT : T.length = u.length) : ∀ k, 2 * k ≤ u.length → ∀ i, i < u.length → (accS 16 c u T k).getD i 0 = if i < 2 * k then T.getD i 0 ^^^ (scale16 c u).getD i 0 else T.getD i 0
 | 0,_,i,_ => by simp [accS]
 | k + 1,hk,i,hi => by
   have ih := accS_get16 hc hu hT k (by omega)
   have hlen := accS_length 16 c u T k
   have hkl : 2 * k + 1 < u.length := by omega
   have e1 : (u.drop (k * 2)).take 2 = [u[2 * k],u[2 * k + 1]] := by
    rw [Nat.mul_comm,List.drop_eq_getElem_cons (show 2 * k < u.length by omega),List.drop_eq_getElem_cons hkl];rfl
   have hb := hu u[2 * k + 1] (List.getElem_mem _)
   have hm : Gf.mul 16 (modN 16) c (256 * u[2 * k] + u[2 * k + 1]) < 2 ^ 16 := Gf.mul_lt (FldM.gen f16).hm (FldM.gen f16).top (FldM.gen f16).lt hc (256 * u[2 * k] + u[2 * k + 1])
   obtain ⟨g1,g2⟩ := scale16_get c k u hkl
   generalize hz : Gf.mul 16 (modN 16) c (256 * u[2 * k] + u[2 * k + 1]) = v at *
   have e2 : accS 16 c u T (k + 1) = ((accS 16 c u T k).set (2 * k + 1) ((accS 16 c u T k).getD (2 * k + 1) 0 ^^^ v % 256)).set (2 * k) ((accS 16 c u T k).getD (2 * k) 0 ^^^ v / 256) := by
    show wrS (accS 16 c u T k) (k * 2) 2 (Gf.mul 16 (modN 16) c (symF ((u.drop (k * 2)).take 2))) 2 = _
    rw [e1,symF_two hb,hz]
    have i1 : k * 2 + 2 - 1 - 0 = 2 * k + 1 := by omega
    have i2 : k * 2 + 2 - 1 - (0 + 1) = 2 * k := by omega
    simp only [wrS,Nat.mul_zero,Nat.shiftRight_zero,i1]
    rw [show k * 2 + 2 - 1 - (0 + 1) = 2 * k from i2,set_getD _ _ _ _ (by omega),if_neg (by omega),show 8 * (0 + 1) = 8 from rfl,Nat.shiftRight_eq_div_pow,show 2 ^ 8 = 256 from rfl,Nat.mod_eq_of_lt (show v / 256 < 256 by omega)]
   rw [e2,set_getD _ _ _ _ (by rw [List.length_set];omega)]
   by_cases h : i = 2 * k
   ·subst h
    rw [if_pos rfl,if_pos (by omega),ih _ hi,if_neg (by omega)]
    simp only [List.getD_eq_getElem?_getD,g1,Option.getD_some]
   ·rw [if_neg h, set_getD _ _ _ _ (by omega)]
    by_cases h1 : i = 2 * k + 1
    ·subst h1
     rw [if_pos rfl,if_pos (by omega),ih _ hi,if_neg (by omega)]
     simp only [List.getD_eq_getElem?_getD,g2,Option.getD_some]
    ·rw [if_neg h1, ih i hi]
     by_cases h2 : i < 2 * k
     ·rw [if_pos h2,if_pos (by omega)]
     ·rw [if_neg h2,if_neg (by omega)]
theorem ext_getD {a b : List Nat} (hl : a.length = b.length) (h : ∀ i,i < a.length → a.getD i 0 = b.getD i 0) : a = b := by
 refine List.ext_getElem hl fun i h1 h2 => ?_
 have := h i h1
 rw [List.getD_eq_getElem?_getD,List.getD_eq_getElem?_getD,List.getElem?_eq_getElem h1,List.getElem?_eq_getElem h2] at this
 exact this
theorem xorL_getD {a b : List Nat} (h : a.length = b.length) (i : Nat) (hi : i < a.length) : (xorL a b).getD i 0 = a.getD i 0 ^^^ b.getD i 0 := by
 have h1 := xorL_length a b h
 rw [List.getD_eq_getElem?_getD,List.getD_eq_getElem?_getD,List.getD_eq_getElem?_getD,List.getElem?_eq_getElem (by omega),List.getElem?_eq_getElem hi,List.getElem?_eq_getElem (show i < b.length by omega)]
 exact xorL_get a b i (by omega) hi (by omega)
theorem accS_all {M c : Nat} {u T : List Nat} (hM : FldM M) (hc : c < 2 ^ M) (hu : isB u) (hT : T.length = u.length) (he : FitM M u.length) : accS M c u T (u.length / (M / 8)) = xorL T (scaleM M c u) := by
 have hsl := scaleM_length (c := c) (l := u) hM he
 refine ext_getD (by rw [accS_length,xorL_length _ _ (by omega)]) fun i hi => ?_
 rw [accS_length] at hi
 rw [xorL_getD (by omega) i hi]
 rcases hM with rfl | rfl
 ·rw [show u.length / (8 / 8) = u.length by simp,accS_get8 hc hu hT _ (Nat.le_refl _) i (by omega),if_pos (by omega)];rfl
 ·have := he rfl
  rw [show u.length / (16 / 8) = u.length / 2 from rfl,accS_get16 hc hu hT _ (by omega) i (by omega),if_pos (by omega)];rfl
attribute [local irreducible] Quiet Eff OpOk AWPG ACont ABlock ACalls AGoto
theorem A_symbols {M : Nat} {u : List Nat} : ACalls Tryz.prog 274 [iV M,bS u] [] (.fn 290 [.opt 0 0,.opt 1 0]) [.box [iV M],.box [bS u]] := by
 refine acalls_of_bodyO Tryz.func274 rfl (zU rfl) ?_
 (repeat' (first
  |(apply W.qd;(first
  |(exact zN)
  |(apply q_makeFunc)))|(apply W.ed;(exact jAc))|(apply yA)|(apply yB)|(refine jAe ?_)|(apply yE)
  |(apply yJ)))
 exact ⟨.inl rfl,[0,1],[.fn 290 [.opt 0 0,.opt 1 0]],rfl,rfl,⟨rfl,trivial⟩,AVle.of_eq rfl,rfl⟩
end
section
attribute [local irreducible] Quiet Eff OpOk AWPG ACont ABlock ACalls AGoto
def accO (e : TypeId) (v M c n : Nat) (u T : List Nat) : List Ent := [.row v 1 e (T.map nD),.box [.osl 0 v 0 n],.box [iV M],.box [iV c],.box [iV M],.box [bS u]]
def accL (e : TypeId) (v M c n : Nat) (u T : List Nat) (L : Ent) : List Ent := [.row v 1 e (T.map nD),.box [.osl 0 v 0 n],.box [iV M],.box [iV c],.box [iV M],.box [bS u],L]
def accEnv : List (Nat × AV) := [(13,.fn 290 [.opt 4 0,.opt 5 0]),(4,.opt 1 0),(5,.opt 2 0),(6,.opt 3 0)]
theorem A_symIter {M c v n N : Nat} {u T : List Nat} {L : Ent} (hM : FldM M) (hu : isB u) (hn : u.length ≤ 1000000) (hN : u.length / (M / 8) = N) (hL : u.length = N * (M / 8))
 (hy : ∀ k,k < N → YAt Tryz.prog 6 (accL 5 v M c n u (accS M c u T k) L) [iV (k * (M / 8) : Nat),iV (symF ((u.drop (k * (M / 8))).take (M / 8)) : Nat)] true (accL 5 v M c n u (accS M c u T (k + 1)) L)) :
 ACalls Tryz.prog 290 [.yl 6,.opt 4 0,.opt 5 0] (accL 5 v M c n u T L) (.tup []) (accL 5 v M c n u (accS M c u T N) L) := by
 refine acalls_of_bodyS Tryz.func290 rfl (zU rfl) ?_
 have hz : ((M : Int) / 8) = ((M / 8 : Nat) : Int) := by omega
 have hz1 : 1 ≤ M / 8 ∧ M / 8 ≤ 2 ∧ M = 8 * (M / 8) := by rcases hM with rfl | rfl <;> decide
 have hO0 : accL 5 v M c n u T L = accL 5 v M c n u (accS M c u T 0) L := rfl
 rw [hO0]
 unfold accL
 (repeat' (first
  |(apply W.qd;(first
  |(exact zN)|(exact jAm)
  |(apply q_quo;exact rfl;exact rfl;omega;omega;omega)))|(apply yA)|(apply yB)|(apply (W.regionS 10);exact rfl;kernel_rfl)|(apply yE)
  |(apply yG)))
 refine AWP.loopE (α := Nat) (fun k => k ≤ N) (fun k => ⟨[(5,iV (k * (M / 8) : Nat)),(4,iV (M / 8 : Nat)),(0,.yl 6),(1,.opt 4 0),(2,.opt 5 0)],accL 5 v M c n u (accS M c u T k) L⟩) (fun k => N - k) 0 (by omega) ⟨rfl,iV_eq (by simp),iV_eq (by omega),rfl,rfl,rfl,trivial⟩ fun k hk => ?_
 by_cases hkN : k < N
 ·have hle : k * (M / 8) + M / 8 ≤ u.length := by
   rw [hL]
   have := Nat.mul_le_mul_right (M / 8) (show k + 1 ≤ N by omega)
   rw [Nat.add_mul,Nat.one_mul] at this
   exact this
  have hr := hy k hkN
  unfold accL at hr ⊢
  have hkz : (k + 1) * (M / 8) = k * (M / 8) + M / 8 := by rw [Nat.add_mul,Nat.one_mul]
  generalize hat : k * (M / 8) = at' at *
  have hsub : ((u.drop at').take (M / 8)).length = M / 8 := by rw [List.length_take,List.length_drop];omega
  have hlb := isB_sub hu at' (M / 8)
  have hx := symF_lt _ hlb (by omega)
  have e0 : ((u.drop at').take (at' + M / 8 - at')) = (u.drop at').take (M / 8) := by rw [Nat.add_sub_cancel_left]
  (repeat' (first
   |(apply W.qd;(first
   |(exact zM)|(exact zN)|(exact jAm)|(exact q_leq rfl rfl)|(exact jAg)|(exact jB)|(exact jBl)|(apply q_bytes;(iterate 3 exact rfl);(first | assumption | exact isB_sub (by assumption) _ _);(first | omega | (focus (simp only [List.length_map];omega)) | (focus (simp;done)) | (focus (simp;omega))))
   |(apply q_slc_bs;exact rfl;exact rfl;(first | exact ⟨_,_,rfl,rfl⟩ | exact ⟨_,_,rfl,natI_spec rfl⟩ | exact ⟨_,_,rfl,(Int.toNat_of_nonneg (by omega)).symm⟩ | exact rfl);(first | exact ⟨_,_,rfl,rfl⟩ | exact ⟨_,_,rfl,natI_spec rfl⟩ | exact ⟨_,_,rfl,(Int.toNat_of_nonneg (by omega)).symm⟩ | exact rfl);(first | omega | (focus (simp only [List.length_map];omega)) | (focus (simp;done)) | (focus (simp;omega)));(first | omega | (focus (simp only [List.length_map];omega)) | (focus (simp;done)) | (focus (simp;omega))))))|(apply yA)|(apply yB)|(apply (W.regionS 10);exact rfl;kernel_rfl)|(apply yE)|(apply yG)|(apply yH)
   |(refine W.cond _ rfl (fun hb => ?_) (fun hb => ?_) <;> ((try simp only [hb,zK]) <;> (try simp only [zL,zI] at hb) <;> (try (exfalso;omega))))))
  generalize hl2 : (u.drop at').take (M / 8) = l2 at *
  refine AWP.loopE (α := Nat) (fun q => q ≤ l2.length) (fun q => ⟨[(28,iV q),(27,iV l2.length),(26,.d (.sl 1 (l2.map nD))),(6,iV (symF (l2.take q) : Nat)),(5,iV at'),(4,iV (M / 8 : Nat)),(0,.yl 6),(1,.opt 4 0),(2,.opt 5 0)],[.row v 1 5 ((accS M c u T k).map nD),.box [.osl 0 v 0 n],.box [iV M],.box [iV c],.box [iV M],.box [bS u],L]⟩) (fun q => l2.length - q) 0 (by omega) ⟨rfl,rfl,by rw [e0];exact iV_eq (by simp),by rw [e0];rfl,rfl,rfl,rfl,rfl,rfl,rfl,trivial⟩ fun q hq => ?_
  by_cases hql : q < l2.length
  ·have hs := symF_snoc (l2.take q) l2[q]
   rw [← List.take_succ_eq_append_getElem hql] at hs
   have hb1 := hlb l2[q] (List.getElem_mem hql)
   have h1 := symF_lt (l2.take q) (fun x hx => hlb x (List.mem_of_mem_take hx)) (by rw [List.length_take];omega)
   rw [List.length_take,show min q l2.length = q by omega] at h1
   have hcap1 : symF (l2.take q) < 9223372036854775808 := by
    have : (2 : Nat) ^ (8 * q) ≤ 2 ^ 8 := Nat.pow_le_pow_right (by omega) (by omega)
    omega
   have hcap2 : ∀ s,s ≤ 8 → symF (l2.take q) <<< s < 9223372036854775808 := fun s hs => by
    have : (2 : Nat) ^ (8 * q) ≤ 2 ^ 8 := Nat.pow_le_pow_right (by omega) (by omega)
    have h3 : (2 : Nat) ^ s ≤ 2 ^ 8 := Nat.pow_le_pow_right (by omega) hs
    rw [Nat.shiftLeft_eq]
    have : symF (l2.take q) * 2 ^ s ≤ 256 * 256 := Nat.mul_le_mul (by omega) h3
    omega
   (repeat' (first
    |(apply W.qd;(first
    |(exact zM)|(exact zN)|(exact jAj)|(exact jAg)|(exact jAd)|(exact jA)|(apply q_convI;(iterate 3 exact rfl);omega)|(apply q_orN;exact rfl;exact rfl;(first | (with_reducible exact rfl) | exact natI_spec rfl | assumption | exact (Int.toNat_of_nonneg (by omega)).symm);(first | (with_reducible exact rfl) | exact natI_spec rfl | assumption | exact (Int.toNat_of_nonneg (by omega)).symm);(first | (apply hcap1;omega) | (apply hcap2;omega) | (apply hcap3;omega) | (apply hcap4;omega) | (focus (show _ < 9223372036854775808;omega)) | (focus (show _ < 256;omega)) | assumption);(first | (apply hcap1;omega) | (apply hcap2;omega) | (apply hcap3;omega) | (apply hcap4;omega) | (focus (show _ < 9223372036854775808;omega)) | (focus (show _ < 256;omega)) | assumption))
    |(exact jAf)))|(apply yA)|(apply yB)|(apply (W.regionS 10);exact rfl;kernel_rfl)|(apply yE)|(apply yG)|(apply yH)|(apply yL)
    |(refine W.cond _ rfl (fun hb => ?_) (fun hb => ?_) <;> ((try simp only [hb,zK]) <;> (try simp only [zL,zI] at hb) <;> (try (exfalso;omega))))))
   exact ⟨q + 1,by omega,by omega,rfl,iV_eq (by omega),rfl,rfl,iV_eq (by rw [hs]),rfl,rfl,rfl,rfl,rfl,trivial⟩
  ·have : q = l2.length := by omega
   subst this
   rw [List.take_length]
   (repeat' (first
    |(apply W.qd;(first
    |(exact zM)|(exact zN)|(exact jAj)|(exact jBg)
    |(exact jAg)))|(apply W.ed;((exact e_yield hr rfl rfl)))|(apply yA)|(apply yB)|(refine jAe ?_)|(apply yE)|(apply yH)|(apply yI)|(apply yK)|(apply yL)|(apply yM)|(refine jAw ?_)
    |(refine W.cond _ rfl (fun hb => ?_) (fun hb => ?_) <;> ((try simp only [hb,zK]) <;> (try simp only [zL,zI] at hb) <;> (try (exfalso;omega))))))
   exact ⟨k + 1,by omega,by omega,rfl,iV_eq (by omega),rfl,rfl,rfl,rfl,trivial⟩
 ·have : k = N := by omega
  subst this
  unfold accL
  (repeat' (first
   |(apply W.qd;(first
   |(exact zM)|(exact jAm)|(exact q_leq rfl rfl)|(exact jAg)
   |(exact jBl)))|(apply yA)|(apply yB)|(refine jAe ?_)|(apply yE)|(apply yI)|(apply yK)|(apply yM)
   |(refine W.cond _ rfl (fun hb => ?_) (fun hb => ?_) <;> ((try simp only [hb,zK]) <;> (try simp only [zL,zI] at hb) <;> (try (exfalso;omega))))))
  exact ⟨.inr rfl,[],trivial,AVle.of_eq rfl,rfl⟩
theorem gen_ent {motive : Ent → Prop} (X : Ent) (h : ∀ L,motive L) : motive X := h X
theorem A_accumulate {M c v n : Nat} {u T : List Nat} (hM : FldM M) (hc : c < 2 ^ M) (hu : isB u) (hn : u.length ≤ 1000000) (hnT : n = T.length) (hT : T.length = u.length) (hTb : isB T) (he : FitM M u.length) :
 ACalls Tryz.prog 242 [.osl 0 v 0 n,iV M,iV c,bS u] [.row v 1 5 (T.map nD)] (.tup []) [.row v 1 5 ((xorL T (scaleM M c u)).map nD)] := by
 refine acalls_of_bodyO Tryz.func242 rfl (zU rfl) ?_
 have hsy := A_symbols (M := M) (u := u)
 have hz : ((M : Int) / 8) = ((M / 8 : Nat) : Int) := by omega
 have hz1 : 1 ≤ M / 8 ∧ M / 8 ≤ 2 ∧ M = 8 * (M / 8) := by rcases hM with rfl | rfl <;> decide
 have hcap := hM.cap hc
 have hall := accS_all (T := T) hM hc hu hT he
 have hL : u.length = u.length / (M / 8) * (M / 8) := by
  rcases hM with rfl | rfl
  ·show u.length = u.length / 1 * 1;omega
  ·have := he rfl
   show u.length = u.length / 2 * 2;omega
 generalize hN : u.length / (M / 8) = N at *
 rw [← hall]
 (repeat' (first
  |(apply W.qd;(first
  |(exact zM)
  |(exact jAm)))
  |(apply W.ed;(first
  |(apply (e_callJ (js := []) (hsy));(iterate 5 exact rfl);kernel_rfl;kernel_rfl)
  |(exact jAc)))|(apply yA)|(apply yB)|(refine jAe ?_)|(apply yE)
  |(apply yG)))
 refine AWP.wk ⟨accEnv,accO 5 v M c n u T⟩ ⟨[0,1,2,3,4,5],rfl,rfl,rfl,by (repeat (first | exact trivial | refine ⟨rfl,?_⟩))⟩ ?_
 unfold accEnv
 refine AWP.range (s2 := ⟨[],accO 5 v M c n u (accS M c u T N)⟩) rfl (by kernel_rfl) (A_symIter hM hu hn hN hL fun k hk => ?_) rfl (by decide) ⟨[0,1,2,3,4,5],rfl,rfl,rfl,by (repeat (first | exact trivial | refine ⟨rfl,?_⟩))⟩ ?_
 ·unfold accL
  refine YAt.ok (own1 := accL 5 v M c n u (accS M c u T (k + 1)) (.lp .busy none #[14,15] _ _ _)) (s2 := ⟨[(8,iV (k * (M / 8) : Nat)),(9,iV (symF ((u.drop (k * (M / 8))).take (M / 8)) : Nat)),(4,.opt 1 0),(5,.opt 2 0),(6,.opt 3 0)],_⟩) rfl rfl rfl rfl (fun g => ?_) rfl (fun g => ?_) rfl rfl
  ·refine AWP.toW ?_
   (repeat' (first
    |(apply W.qd;(exact zN))|(apply yA)|(apply yB)|(refine jAe ?_)
    |(apply yE)))
   exact ⟨rfl,⟨[0,1,2,3,4,5,6],rfl,rfl,rfl,by (repeat (first | exact trivial | refine ⟨rfl,?_⟩))⟩⟩
  refine gen_ent (motive := fun L => AWPG (Ctx.round g) Tryz.prog 40 7 _ (fun e s => e = .normal ∧ s.own = accL 5 v M c n u (accS M c u T (k + 1)) L) ⟨[(8,iV (k * (M / 8) : Nat)),(9,iV (symF ((u.drop (k * (M / 8))).take (M / 8)) : Nat)),(4,.opt 1 0),(5,.opt 2 0),(6,.opt 3 0)],accL 5 v M c n u (accS M c u T k) L⟩) _ fun L => ?_
  have hle : k * (M / 8) + M / 8 ≤ u.length := by
   rw [hL]
   have := Nat.mul_le_mul_right (M / 8) (show k + 1 ≤ N by omega)
   rw [Nat.add_mul,Nat.one_mul] at this
   exact this
  have hsub : ((u.drop (k * (M / 8))).take (M / 8)).length = M / 8 := by rw [List.length_take,List.length_drop];omega
  have hx := symF_lt _ (isB_sub hu (k * (M / 8)) (M / 8)) (by omega)
  rw [hsub,← hz1.2.2] at hx
  have hacc : accS M c u T (k + 1) = wrS (accS M c u T k) (k * (M / 8)) (M / 8) (Gf.mul M (modN M) c (symF ((u.drop (k * (M / 8))).take (M / 8)))) (M / 8) := rfl
  have hp := A_product hM hc hx
  have hm : Gf.mul M (modN M) c (symF ((u.drop (k * (M / 8))).take (M / 8))) < 2 ^ M := Gf.mul_lt (FldM.gen hM).hm (FldM.gen hM).top (FldM.gen hM).lt hc _
  have hm2 := hM.cap hm
  rw [hacc]
  have hAl := accS_length M c u T k
  have hAb := isB_accS (M := M) (c := c) (u := u) hTb k
  generalize symF ((u.drop (k * (M / 8))).take (M / 8)) = s0 at *
  generalize Gf.mul M (modN M) c s0 = x at *
  generalize accS M c u T k = A at *
  generalize k * (M / 8) = at' at *
  unfold accL
  generalize hzz : M / 8 = z at *
  (repeat' (first
   |(apply W.qd;(first
   |(exact zW (hp))|(exact zM)|(exact zN)|(exact jAm)|(exact jAg)|(exact q_sub rfl rfl (by omega))
   |(apply q_quo;exact rfl;exact rfl;omega;omega;omega)))|(apply yA)|(apply yB)|(refine jAe ?_)|(apply yE)
   |(apply yG)))
  refine AWP.loopE (α := Nat) (fun j => j ≤ z) (fun j => ⟨[(10,iV ((at' : Int) + z - 1 - j)),(8,iV at'),(9,iV (x >>> (8 * j) : Nat)),(4,.opt 1 0),(5,.opt 2 0),(6,.opt 3 0)],[.row v 1 5 ((wrS A at' z x j).map nD),.box [.osl 0 v 0 n],.box [iV M],.box [iV c],.box [iV M],.box [bS u],L]⟩) (fun j => z - j) 0 (by omega) ⟨rfl,iV_eq (by omega),rfl,rfl,rfl,rfl,rfl,trivial⟩ fun j hj => ?_
  by_cases hjz : j < z
  ·have hi : (at' : Int) + z - 1 - j = ((at' + z - 1 - j : Nat) : Int) := by omega
   have hw : wrS A at' z x (j + 1) = (wrS A at' z x j).set (at' + z - 1 - j) ((wrS A at' z x j).getD (at' + z - 1 - j) 0 ^^^ (x >>> (8 * j)) % 256) := rfl
   have hwl := wrS_length A at' z x j
   have hwb := isB_wrS hAb at' z x j
   generalize wrS A at' z x j = B at *
   rw [hi]
   have hil : at' + z - 1 - j < B.length := by omega
   have hge := List.getElem_eq_getD (h := hil) 0
   have hgb := isB_getD hwb (at' + z - 1 - j)
   have hgb2 : B[at' + z - 1 - j] < 256 := by rw [hge];exact hgb
   have hgm : (x >>> (8 * j)) % 256 < 256 := Nat.mod_lt _ (by omega)
   have hsh : x >>> (8 * j) ≤ x := by rw [Nat.shiftRight_eq_div_pow];exact Nat.div_le_self _ _
   generalize hI : at' + z - 1 - j = I at *
   (repeat' (first
    |(apply W.qd;(first
    |(exact zM)|(exact zN)|(exact jAm)|(exact q_geq rfl rfl)|(exact q_sub rfl rfl (by omega))|(exact jBf)|(exact jAa)|(exact jAt)|(exact jAb)
    |(exact jAo)))|(apply W.ln;(exact jAi))|(apply yA)|(apply yB)|(refine jAe ?_)|(apply yE)|(apply yG)|(apply yH)|(apply yL)
    |(refine W.cond _ rfl (fun hb => ?_) (fun hb => ?_) <;> ((try simp only [hb,zK]) <;> (try simp only [zL,zI] at hb) <;> (try (exfalso;omega))))))
   refine ⟨j + 1,by omega,by omega,?_,iV_eq (by omega),rfl,iV_eq (by rw [← Nat.shiftRight_add,Nat.mul_add]),rfl,rfl,rfl,trivial⟩
   rw [hw,← hge]
  ·have : j = z := by omega
   subst this
   (repeat' (first
    |(apply W.qd;(first
    |(exact zM)
    |(exact q_geq rfl rfl)))|(apply yA)|(apply yB)|(refine jAe ?_)|(apply yE)|(apply yI)|(apply yK)|(apply yL)|(apply yM)
    |(refine W.cond _ rfl (fun hb => ?_) (fun hb => ?_) <;> ((try simp only [hb,zK]) <;> (try simp only [zL,zI] at hb) <;> (try (exfalso;omega))))))
   exact ⟨rfl,rfl⟩
 (repeat' (first
  |(apply yL)))
 exact ⟨.inr rfl,[0],[],rfl,rfl,trivial,AVle.of_eq rfl,rfl⟩
end
section
attribute [local irreducible] Quiet Eff OpOk AWPG ACont ABlock ACalls AGoto
theorem allF_nats {M : Nat} {cs : List Nat} (hM : FldM M) (h : ∀ c ∈ cs,c < 2 ^ M) : allF M (cs.map fun n : Nat => (n : Int)) = true := by
 have h0 : allF M [((0 : Nat) : Int)] = true := all2 hM (Nat.two_pow_pos M)
 simp only [allF,Bool.and_eq_true,List.all_eq_true] at h0 ⊢
 refine ⟨h0.1,fun x hx => ?_⟩
 obtain ⟨n,hn,rfl⟩ := List.mem_map.1 hx
 exact inF_lt hM (h n hn)
theorem A_combine1 {n : Nat} (x : List Nat) (hx : x.length < 9223372036854775808) : ACalls Tryz.prog 241 [bS x,.opt 0 0] [.box [iV n]] (bV (decide ((x.length : Int) = n))) [.box [iV n]] := by
 refine acalls_of_bodyO Tryz.func241 rfl (zU rfl) ?_
 (repeat' (first
  |(apply W.qd;(first
  |(exact zM)|(exact zN)|(exact jAm)|(exact jBb)
  |(exact jBl)))|(apply yA)|(apply yB)|(refine jAe ?_)|(apply yE)
  |(apply yJ)))
 exact ⟨.inl rfl,[0],[bV (decide ((x.length : Int) = n))],rfl,rfl,⟨rfl,trivial⟩,AVle.of_eq rfl,rfl⟩
theorem A_fevery1 {n : Nat} (x : List Nat) (hx : x.length < 9223372036854775808) : ACalls Tryz.prog 273 [bS x,.opt 1 0] [.box [iV n],.box [.fn 241 [.opt 0 0]]] (bV (!decide ((x.length : Int) = n))) [.box [iV n],.box [.fn 241 [.opt 0 0]]] := by
 refine acalls_of_bodyO Tryz.func273 rfl (zU rfl) ?_
 have hg := A_combine1 (n := n) x hx
 (repeat' (first
  |(apply W.qd;(first
  |(exact zM)|(exact zN)|(exact jAm)
  |(exact jBg)))|(apply W.ed;(apply (e_callJ (js := [0]) (hg));(iterate 5 exact rfl);kernel_rfl;kernel_rfl))|(apply yA)|(apply yB)|(refine jAe ?_)|(apply yE)
  |(apply yJ)))
 exact ⟨.inl rfl,[0,1],[bV (!decide ((x.length : Int) = n))],rfl,rfl,⟨rfl,trivial⟩,AVle.of_eq rfl,rfl⟩
theorem A_fevery {n : Nat} (l : List (List Nat)) (hl : l.length ≤ 1000000000) (hx : ∀ x ∈ l,x.length < 9223372036854775808) : ACalls Tryz.prog 240 [strs l,.fn 241 [.opt 0 0]] [.box [iV n]] (bV (l.all fun x => decide ((x.length : Int) = n))) [.box [iV n]] := by
 refine acalls_of_bodyO Tryz.func240 rfl (zU rfl) ?_
 have hc := A_contains_str (O := [.box [iV n],.box [.fn 241 [.opt 0 0]]]) (g := 273) (caps := [.opt 1 0]) (fun x => !decide ((x.length : Int) = n)) l hl (by kernel_rfl) (fun x h => A_fevery1 x (hx x h))
 (repeat' (first
  |(apply W.qd;(first
  |(exact zM)|(exact zN)|(exact jBg)
  |(apply q_makeFunc)))
  |(apply W.ed;(first
  |(apply (e_callJ (js := [0,1]) (hc));(iterate 5 exact rfl);kernel_rfl;kernel_rfl)
  |(exact jAc)))|(apply yA)|(apply yB)|(refine jAe ?_)|(apply yE)
  |(apply yJ)))
 exact ⟨.inl rfl,[0],[bV (!l.any fun x => !decide ((x.length : Int) = n))],rfl,rfl,⟨rfl,trivial⟩,AVle.of_eq (by rw [List.all_eq_not_any_not];rfl),rfl⟩
theorem A_fcombine {M n : Nat} {cs : List Nat} {us : List (List Nat)} (hM : FldM M) (he : FitM M n) (hlen : cs.length = us.length) (hpos : 0 < cs.length) (hcs : ∀ c ∈ cs, c < 2 ^ M) (hus : ∀ u ∈ us, isB u ∧ u.length = n) (hn : n ≤ 1000000) (hk : cs.length ≤ 1000000) :
 ACalls Tryz.prog 187 [iV M,nats cs,strs us] [] (.tup [bS (combM M n cs us (List.replicate n 0)),iV 0]) [] := by
 refine acalls_of_bodyO Tryz.func187 rfl (zU rfl) ?_
 have hU : 0 < us.length := by omega
 have h0 := (hus (us[0]'hU) (List.getElem_mem _)).2
 have hall := A_all M (cs.map fun n : Nat => (n : Int)) (by rw [List.length_map];omega) (fun x hx => by
  obtain ⟨c,hc,rfl⟩ := List.mem_map.1 hx
  have := hM.cap (hcs c hc);omega)
 rw [← nats_ints,allF_nats hM hcs] at hall
 have hev := A_fevery (n := n) us (by omega) (fun x hx => by have := (hus x hx).2;omega)
 have hev2 : us.all (fun x => decide ((x.length : Int) = n)) = true := by
  rw [List.all_eq_true]
  intro x hx
  rw [decide_eq_true_eq,(hus x hx).2]
 rw [hev2] at hev
 have hB0 := isB_zero n
 have hz : ((M : Int) / 8) = ((M / 8 : Nat) : Int) := by omega
 have hz1 : 1 ≤ M / 8 ∧ M / 8 ≤ 2 := by rcases hM with rfl | rfl <;> decide
 have hmod : n % (M / 8) = 0 := by
  rcases hM with rfl | rfl
  ·show n % 1 = 0;omega
  ·exact he rfl
 have hmod2 : (n : Int) % ((M : Int) / 8) = 0 := by rw [hz];omega
 subst h0
 have hv1 : ((us[0]'hU).length : Int) < 9223372036854775808 := by omega
 (repeat' (first
  |(apply yFb;exact rfl;exact rfl)
  |(apply W.qd;(first
  |(exact zW (hall))|(exact zM)|(exact zN)|(exact jAm)|(exact jBb)|(exact jAv)|(exact jBg)|(apply q_quo;exact rfl;exact rfl;omega;omega;omega)|(apply q_rem;exact rfl;exact rfl;omega;omega)|(exact jB)|(exact jBl)|(exact jAd)|(apply q_makeFunc)|(exact jA)
  |(apply (yDb (u := .d _));exact rfl;exact rfl)))
  |(apply W.ed;(first
  |(apply (e_callJ (js := [0]) (hev));(iterate 5 exact rfl);kernel_rfl;kernel_rfl)|(exact jAq)
  |(apply (e_makeG (f := nD) 0);exact rfl;exact rfl;(first | (with_reducible exact rfl) | exact natI_spec rfl | assumption | exact (Int.toNat_of_nonneg (by omega)).symm);(iterate 7 exact rfl);omega)))|(apply W.ln;(exact jAh))|(apply yA)|(apply yB)|(refine jAe ?_)|(apply yE)|(apply yG)|(apply yH)|(refine jAw ?_)|(refine W.gF _ _ rfl rfl (fun hb => ?_) (fun hb => ?_) <;> ((try simp only [hb,zK]) <;> (try simp only [zL,zI] at hb) <;> (try (exfalso;omega))))
  |(refine W.cond _ rfl (fun hb => ?_) (fun hb => ?_) <;> ((try simp only [hb,zK]) <;> (try simp only [zL,zI] at hb) <;> (try (exfalso;omega))))))
 generalize (us[0]'hU).length = n at *
 refine AWP.loopW (α := Nat) (fun k => k ≤ cs.length) (fun k => ⟨[(47,iV k),(46,iV cs.length),(45,nats cs),(9,.osl 1 0 0 n),(0,iV M),(2,strs us)],[.box [iV n],.row 0 1 5 ((combM M n (cs.take k) (us.take k) (List.replicate n 0)).map nD)]⟩) (fun k => cs.length - k) 0 (by omega) ⟨[0,1],rfl,rfl,rfl,rfl,iV_eq (by simp),rfl,rfl,rfl,rfl,trivial⟩ fun k hk2 => ?_
 by_cases hkl : k < cs.length
 ·have hst := combM_step M n cs us (List.replicate n 0) k hkl (by omega)
  have hu := hus (us[k]'(by omega)) (List.getElem_mem _)
  have hok := combM_ok hM he (cs.take k) (us.take k) (List.replicate n 0) (fun c hc => hcs c (List.mem_of_mem_take hc)) (fun u hu => (hus u (List.mem_of_mem_take hu)).2) hB0 (by simp)
  have hcm := hcs cs[k] (List.getElem_mem hkl)
  have hac := A_accumulate (v := 0) (u := us[k]'(by omega)) hM hcm hu.1 (by omega) hok.2.symm (by omega) hok.1 (by rw [hu.2];exact he)
  rw [← hst] at hac
  (repeat' (first
   |(apply W.qd;(first
   |(exact zM)|(exact zN)|(exact jAj)|(exact jAg)|(exact jAd)
   |(exact jA)))|(apply W.ed;(apply (e_callJ (js := [1]) (hac));(iterate 5 exact rfl);kernel_rfl;kernel_rfl))|(apply yA)|(apply yB)|(refine jAe ?_)|(apply yE)|(apply yG)|(apply yH)|(apply yL)
   |(refine W.cond _ rfl (fun hb => ?_) (fun hb => ?_) <;> ((try simp only [hb,zK]) <;> (try simp only [zL,zI] at hb) <;> (try (exfalso;omega))))))
  exact ⟨k + 1,by omega,by omega,[0,1],rfl,rfl,rfl,iV_eq (by omega),rfl,rfl,rfl,rfl,rfl,trivial⟩
 ·have hok := combM_ok hM he (cs.take k) (us.take k) (List.replicate n 0) (fun c hc => hcs c (List.mem_of_mem_take hc)) (fun u hu => (hus u (List.mem_of_mem_take hu)).2) hB0 (by simp)
  have e1 : cs.take k = cs := List.take_of_length_le (by omega)
  have e2 : us.take k = us := List.take_of_length_le (by omega)
  rw [e1,e2] at hok ⊢
  have hB := hok.1
  have hL := hok.2
  generalize combM M n cs us (List.replicate n 0) = R at *
  subst hL
  (repeat' (first
   |(apply W.qd;(first
   |(exact zM)|(exact zN)|(exact jAj)
   |(apply q_str_osl;(iterate 4 exact rfl);(first | rfl | (focus (simp;done)));assumption)))|(apply yA)|(apply yB)|(refine jAe ?_)|(apply yE)|(apply yI)|(apply yJ)|(apply yK)|(apply yM)
   |(refine W.cond _ rfl (fun hb => ?_) (fun hb => ?_) <;> ((try simp only [hb,zK]) <;> (try simp only [zL,zI] at hb) <;> (try (exfalso;omega))))))
  exact ⟨.inl rfl,[],[bS R,iV 0],rfl,rfl,⟨rfl,rfl,trivial⟩,AVle.of_eq rfl,rfl⟩
end
section
attribute [local irreducible] Quiet Eff OpOk AWPG ACont ABlock ACalls AGoto
def uniQ (M : Int) (us : List (List Nat)) (x : List Nat) : Bool := decide ((x.length : Int) = ((us.headD []).length : Int)) && (decide (M = 8) || decide ((x.length : Int) % 2 = 0))
def uniB (M : Int) (us : List (List Nat)) : Bool := us.all (uniQ M us)
theorem A_uni1 {M D : Int} {par : List (List Int)} {us : List (List Nat)} (x : List Nat) (h0 : 0 < us.length) (hx : x.length < 9223372036854775808) (hu : (us[0]'h0).length < 9223372036854775808) : ACalls Tryz.prog 238 [bS x,.opt 1 0,.opt 0 0] [.box [.d .any,iV M,iV D,rowsA par,.d .any],.box [strs us]] (bV (uniQ M us x)) [.box [.d .any,iV M,iV D,rowsA par,.d .any],.box [strs us]] := by
 refine acalls_of_bodyO Tryz.func238 rfl (zU rfl) ?_
 have hd : us.headD [] = us[0]'h0 := by cases us with | nil => simp at h0 | cons a l => rfl
 unfold uniQ
 rw [hd]
 (repeat' (first
  |(apply yFb;exact rfl;exact rfl)
  |(apply W.qd;(first
  |(exact zM)|(exact zN)|(exact jAr)|(exact jAm)|(exact jBb)|(apply q_rem;exact rfl;exact rfl;omega;omega)|(exact jBl)|(exact jAd)|(exact jA)|(apply (yEb (u := .d _));exact rfl;exact rfl)
  |(apply (yDb (u := .d _));exact rfl;exact rfl)))|(refine W.gOff _ _ rfl rfl (by intro h;cases h) ?_)|(apply yA)|(apply yB)|(refine jAe ?_)|(apply yE)|(apply yJ)|(refine W.gT _ _ rfl rfl (fun hb => ?_) (fun hb => ?_) <;> ((try simp only [hb,zK]) <;> (try simp only [zL,zI] at hb) <;> (try (exfalso;omega))))
  |(refine W.gF _ _ rfl rfl (fun hb => ?_) (fun hb => ?_) <;> ((try simp only [hb,zK]) <;> (try simp only [zL,zI] at hb) <;> (try (exfalso;omega))))))
 all_goals exact ⟨.inl rfl,[0,1],[_],rfl,rfl,⟨rfl,trivial⟩,AVle.of_eq rfl,rfl⟩
theorem A_uniform {M D : Int} {par : List (List Int)} {us : List (List Nat)} (hl : us.length ≤ 1000000000) (hu : ∀ u ∈ us,u.length < 9223372036854775808) : ACalls Tryz.prog 185 [cdA M D par,strs us] [] (bV (uniB M us)) [] := by
 refine acalls_of_bodyO Tryz.func185 rfl (zU rfl) ?_
 have hev := A_every_str2 (M := M) (D := D) (par := par) (us := us) (uniQ M us) us hl fun x hx => A_uni1 x (List.length_pos_of_mem hx) (hu x hx) (hu _ (List.getElem_mem _))
 (repeat' (first
  |(apply W.qd;(first
  |(exact zN)|(exact jAm)
  |(apply q_makeFunc)))
  |(apply W.ed;(first
  |(apply (e_callJ (js := [0,1]) (hev));(iterate 5 exact rfl);kernel_rfl;kernel_rfl)
  |(exact jAc)))|(apply yA)|(apply yB)|(refine jAe ?_)|(apply yE)
  |(apply yJ)))
 exact ⟨.inl rfl,[],[bV (uniB M us)],rfl,rfl,⟨rfl,trivial⟩,AVle.of_eq rfl,rfl⟩
theorem A_clone_str {l : List (List Nat)} (h0 : 0 < l.length) (hl : l.length ≤ 1000000) : ACalls Tryz.prog 186 [strs l] [] (.osl 0 1 0 l.length) [.row 1 1 9 (l.map sD)] := by
 refine acalls_of_bodyO Tryz.func186 rfl (zU rfl) ?_
 have hm : (l.map sD).length = l.length := List.length_map _
 (repeat' (first
  |(apply W.ed;(apply e_lit0F;(iterate 5 exact rfl)))
  |(apply W.qd;(first
  |(exact zM)|(exact zN)
  |(apply q_eqnilm;(iterate 3 exact rfl);(first | assumption | omega))))|(apply W.ed;(exact jAu))|(apply yA)|(apply yB)|(refine jAe ?_)|(apply yE)|(apply yH)|(apply yJ)
  |(refine jAw ?_)))
 refine ⟨.inl rfl,[0],[.osl 0 1 0 ((([] : List Nat).length) + (l.map sD).length)],rfl,rfl,⟨rfl,trivial⟩,AVle.of_eq ?_,rfl⟩
 show AV.osl 0 1 0 (0 + (l.map sD).length) = .osl 0 1 0 l.length
 rw [hm,Nat.zero_add]
def havU (us : List (List Nat)) (hv : List Bool) (k : Nat) : List (List Nat) := ((List.range k).filter fun i => hv.getD i false).map fun i => us.getD i []
theorem havU_succ (us : List (List Nat)) (hv : List Bool) (k : Nat) : havU us hv (k + 1) = if hv.getD k false = true then havU us hv k ++ [us.getD k []] else havU us hv k := by
 unfold havU
 rw [List.range_succ,List.filter_append,List.map_append]
 by_cases h : hv.getD k false = true
 ·rw [if_pos h,List.filter_cons_of_pos (by simpa using h)];rfl
 ·rw [if_neg h,List.filter_cons_of_neg (by simpa using h)];simp
theorem havU_length (us : List (List Nat)) (hv : List Bool) (k : Nat) : (havU us hv k).length ≤ k := by
 unfold havU
 rw [List.length_map]
 exact Nat.le_trans (List.length_filter_le _ _) (by simp)
def fitN (M D : Nat) (ps : List (List Nat)) (us : List (List Nat)) (hv : List Bool) : Bool := decide (us.length = D + ps.length) && decide (hv.length = D + ps.length) && uniB M (havU us hv us.length)
theorem A_fit {M D : Nat} {ps us : List (List Nat)} {hv : List Bool} (h : CodeOk M D ps) (hul : us.length ≤ 1000000) (hhl : hv.length ≤ 1000000) (hu : ∀ u ∈ us,u.length < 9223372036854775808) : ACalls Tryz.prog 146 [cdN M D ps,strs us,bools hv] [] (bV (fitN M D ps us hv)) [] := by
 refine acalls_of_bodyO Tryz.func146 rfl (zU rfl) ?_
 have h1 := h.d
 have h2 := h.w
 have hw := A_ewidthN h
 by_cases hlen : us.length = D + ps.length ∧ hv.length = D + ps.length
 ·obtain ⟨hl1, hl2⟩ := hlen
  unfold fitN
  rw [decide_eq_true hl1,decide_eq_true hl2]
  have hv1 : ((D + ps.length : Nat) : Int) ≠ 0 := by omega
  have hlm1 : (us.map sD).length = D + ps.length := by rw [List.length_map];exact hl1
  have hlm2 : (hv.map tD).length = D + ps.length := by rw [List.length_map];exact hl2
  have hsucc := fun i => Lib.hid (havU_succ us hv i)
  have hpl0 := fun i => havU_length us hv i
  have hmem : ∀ i,∀ u ∈ havU us hv i,u.length < 9223372036854775808 := fun i u hx => by
   unfold havU at hx
   obtain ⟨j,_,rfl⟩ := List.mem_map.1 hx
   rw [List.getD_eq_getElem?_getD]
   by_cases hj : j < us.length
   ·rw [List.getElem?_eq_getElem hj]
    have := hu _ (List.getElem_mem hj)
    show (us[j]).length < _
    omega
   ·rw [List.getElem?_eq_none (by omega)]
    show (0 : Nat) < _
    omega
  have huni : ACalls Tryz.prog 185 [cdN M D ps,strs (havU us hv us.length)] [] (bV (uniB M (havU us hv us.length))) [] := by
   rw [cdN_A]
   exact A_uniform (by have := hpl0 us.length;omega) (hmem us.length)
  (repeat' (first
   |(apply yFb;exact rfl;exact rfl)
   |(apply W.qd;(first
   |(exact zW (hw))|(exact zM)|(exact zN)|(exact jAn)|(exact jBb)|(exact jAv)|(exact jB)
   |(apply (yDb (u := .d _));exact rfl;exact rfl)))|(apply W.ed;(exact jAc))|(apply yA)|(apply yB)|(refine jAe ?_)|(apply yE)|(apply yG)|(apply yH)|(refine W.gF _ _ rfl rfl (fun hb => ?_) (fun hb => ?_) <;> ((try simp only [hb,zK]) <;> (try simp only [zL,zI] at hb) <;> (try (exfalso;omega))))
   |(refine W.cond _ rfl (fun hb => ?_) (fun hb => ?_) <;> ((try simp only [hb,zK]) <;> (try simp only [zL,zI] at hb) <;> (try (exfalso;omega))))))
  refine AWP.nilRow 8 1 9 rfl (by omega) ?_
  refine AWP.loopW (α := Nat) (fun i => i ≤ us.length) (fun i => ⟨[(29,iV i),(28,iV us.length),(27,strs us),(2,bools hv),(8,.osl 1 (havU us hv i).length 0 (havU us hv i).length),(3,.opt 0 0)],[.box [.d .any,iV M,iV D,rowsN ps,.d .any],.row (havU us hv i).length 1 9 ((havU us hv i).map sD)]⟩) (fun i => us.length - i) 0 (by omega) ?wk0 fun i hi => ?_
  case wk0 =>
   rw [show havU us hv 0 = [] from rfl]
   exact ⟨[0,1],rfl,rfl,rfl,rfl,iV_eq (by simp),rfl,rfl,rfl,rfl,trivial⟩
  by_cases hil : i < us.length
  ·have hs := hsucc i
   have hi0 := hpl0 i
   have hih : i < hv.length := by omega
   rw [List.getD_eq_getElem?_getD,List.getD_eq_getElem?_getD,List.getElem?_eq_getElem hih,List.getElem?_eq_getElem hil] at hs
   generalize havU us hv i = P at *
   (repeat' (first
    |(apply W.qd;(first
    |(exact zM)|(exact zN)|(exact jAj)|(exact jAg)|(exact jAd)|(exact jAl)
    |(exact jA)))|(apply W.ld;(exact jAy))|(apply yA)|(apply yB)|(refine jAe ?_)|(apply yE)|(apply yG)|(apply yH)|(apply yL)
    |(refine W.cond _ rfl (fun hb => ?_) (fun hb => ?_) <;> ((try simp only [hb,zK]) <;> (try simp only [zL,zI] at hb) <;> (try (exfalso;omega))))))
   ·rw [if_pos (by simpa using hb)] at hs
    refine ⟨i + 1,by omega,by omega,?_⟩
    rw [hs.out,show (P ++ [(some us[i]).getD []]).length = P.length + 1 by simp]
    exact ⟨[0,1],rfl,rfl,rfl,iV_eq (by omega),rfl,rfl,rfl,congrArg (AV.osl 1 (P.length + 1) 0) (by simp),rfl,trivial⟩
   ·rw [if_neg (by simpa using hb)] at hs
    refine ⟨i + 1,by omega,by omega,?_⟩
    rw [hs.out]
    exact ⟨[0,1],rfl,rfl,rfl,iV_eq (by omega),rfl,rfl,rfl,rfl,rfl,trivial⟩
  ·have e : us.length = i := by omega
   subst e
   clear hsucc hpl0 hmem
   generalize havU us hv us.length = P at *
   refine AWP.wk ⟨[(29,iV us.length),(28,iV us.length),(8,strs P),(3,.opt 0 0)],[.box [.d .any,iV M,iV D,rowsN ps,.d .any]]⟩ ⟨[0],rfl,rfl,rfl,rfl,rfl,(frz_rowJ rfl rfl (by simp)).symm,rfl,trivial⟩ ?_
   (repeat' (first
    |(apply W.qd;(first
    |(exact zW (huni))|(exact zM)|(exact zN)|(exact jAn)
    |(exact jAj)))|(apply yA)|(apply yB)|(refine jAe ?_)|(apply yE)|(apply yI)|(apply yJ)|(apply yK)|(apply yM)
    |(refine W.cond _ rfl (fun hb => ?_) (fun hb => ?_) <;> ((try simp only [hb,zK]) <;> (try simp only [zL,zI] at hb) <;> (try (exfalso;omega))))))
   exact ⟨.inl rfl,[],[bV (uniB M P)],rfl,rfl,⟨rfl,trivial⟩,AVle.of_eq rfl,rfl⟩
 ·have hf : fitN M D ps us hv = false := by
   unfold fitN
   by_cases h3 : us.length = D + ps.length
   ·rw [decide_eq_false (show ¬ hv.length = D + ps.length from fun h4 => hlen ⟨h3,h4⟩)];simp
   ·rw [decide_eq_false h3];simp
  rw [hf]
  have hlm1 : (us.map sD).length = us.length := List.length_map _
  have hlm2 : (hv.map tD).length = hv.length := List.length_map _
  (repeat' (first
   |(apply yFb;exact rfl;exact rfl)
   |(apply W.qd;(first
   |(exact zW (hw))|(exact zM)|(exact zN)|(exact jAn)|(exact jBb)|(exact jAv)|(exact jB)|(apply (yEb (u := .d _));exact rfl;exact rfl)
   |(apply (yDb (u := .d _));exact rfl;exact rfl)))|(apply W.ed;(exact jAc))|(refine W.gOff _ _ rfl rfl (by intro h;cases h) ?_)|(apply yA)|(apply yB)|(refine jAe ?_)|(apply yE)|(apply yJ)|(apply yP)|(refine jBa ?_)|(refine W.gF _ _ rfl rfl (fun hb => ?_) (fun hb => ?_) <;> ((try simp only [hb,zK]) <;> (try simp only [zL,zI] at hb) <;> (try (exfalso;omega))))
   |(refine W.cond _ rfl (fun hb => ?_) (fun hb => ?_) <;> ((try simp only [hb,zK]) <;> (try simp only [zL,zI] at hb) <;> (try (exfalso;omega))))))
  all_goals exact ⟨.inl rfl,[],[bV false],rfl,rfl,⟨rfl,trivial⟩,AVle.of_eq rfl,rfl⟩
end
section
attribute [local irreducible] Quiet Eff OpOk AWPG ACont ABlock ACalls AGoto
def sumN (M n : Nat) (us : List (List Nat)) (l : List (Nat × Nat)) : List Nat := combM M n (l.map (·.2)) (l.map fun t => us.getD t.1 []) (List.replicate n 0)
theorem A_sum {M D n : Nat} {ps us : List (List Nat)} {l : List (Nat × Nat)} (hM : FldM M) (he : FitM M n) (hl0 : 0 < l.length) (hll : l.length ≤ 1000) (hn : n ≤ 1000000) (ht : ∀ t ∈ l,t.1 < us.length ∧ t.2 < 2 ^ M ∧ isB (us.getD t.1 []) ∧ (us.getD t.1 []).length = n) : ACalls Tryz.prog 148 [cdN M D ps,strs us,tmsA l] [] (bS (sumN M n us l)) [] := by
 refine acalls_of_bodyO Tryz.func148 rfl (zU rfl) ?_
 have hcomb := A_fcombine (cs := l.map (·.2)) (us := l.map fun t => us.getD t.1 []) hM he (by simp) (by rw [List.length_map];exact hl0) (fun c hc => by
  obtain ⟨t,h1,rfl⟩ := List.mem_map.1 hc;exact (ht t h1).2.1) (fun u hu => by
  obtain ⟨t,h1,rfl⟩ := List.mem_map.1 hu;exact (ht t h1).2.2) hn (by rw [List.length_map];omega)
 have hs : combM M n (l.map (·.2)) (l.map fun t => us.getD t.1 []) (List.replicate n 0) = sumN M n us l := rfl
 rw [hs] at hcomb
 have hml : (l.map tmD).length = l.length := List.length_map _
 (repeat' (first
  |(apply W.qd;(first
  |(exact zM)|(exact zN)
  |(exact jB)))|(apply W.ed;(exact jAc))|(apply yA)|(apply yB)|(refine jAe ?_)|(apply yE)
  |(apply yG)))
 refine AWP.nilRow 7 1 3 rfl (by omega) ?_
 refine AWP.nilRow 8 1 9 rfl (by omega) ?_
 refine AWP.loopW (α := Nat) (fun k => k ≤ l.length) (fun k => ⟨[(15,iV k),(14,iV l.length),(13,tmsA l),(1,strs us),(7,.osl 1 k 0 ((l.take k).map fun t : Nat × Nat => t.2).length),(8,.osl 2 k 0 ((l.take k).map fun t => us.getD t.1 []).length),(3,.opt 0 0)],[.box [.d .any,iV M,iV D,rowsN ps,.d .any],.row k 1 3 (((l.take k).map fun t : Nat × Nat => t.2).map kD),.row k 1 9 (((l.take k).map fun t => us.getD t.1 []).map sD)]⟩) (fun k => l.length - k) 0 (by omega) ?wk0 fun k hk => ?_
 case wk0 => exact ⟨[0,1,2],rfl,rfl,rfl,rfl,iV_eq (by simp),rfl,rfl,rfl,rfl,rfl,trivial⟩
 by_cases hkl : k < l.length
 ·have hx := ht l[k] (List.getElem_mem _)
  have hxl := hx.1
  have h1 : (l.take (k + 1)).map (fun t : Nat × Nat => t.2) = (l.take k).map (fun t : Nat × Nat => t.2) ++ [l[k].2] := by
   rw [← List.take_append_getElem hkl,List.map_append];rfl
  have h2 : (l.take (k + 1)).map (fun t => us.getD t.1 []) = (l.take k).map (fun t => us.getD t.1 []) ++ [us[l[k].1]'hxl] := by
   rw [← List.take_append_getElem hkl,List.map_append]
   simp [List.getD_eq_getElem?_getD,hxl]
  have hl1 : ((l.take k).map (fun t : Nat × Nat => t.2)).length ≤ 1024 := by simp;omega
  have hl2 : ((l.take k).map (fun t => us.getD t.1 [])).length ≤ 1024 := by simp;omega
  replace h1 := Lib.hid h1
  replace h2 := Lib.hid h2
  clear hx
  generalize (l.take k).map (fun t : Nat × Nat => t.2) = A at *
  generalize (l.take k).map (fun t => us.getD t.1 []) = B at *
  have hmu : (us.map sD).length = us.length := List.length_map _
  (repeat' (first
   |(apply W.qd;(first
   |(exact zM)|(exact zN)|(exact jAr)|(exact jAm)|(exact jAj)|(exact jAg)|(exact jAd)|(exact jAz)|(exact jAl)
   |(exact jA)))|(apply W.ld;(exact jAy))|(apply W.ed;(exact jAq))|(apply W.ln;(exact jAh))|(apply yA)|(apply yB)|(refine jAe ?_)|(refine jAs ?_)|(apply yE)|(refine jBc ?_)|(apply yG)|(apply yH)|(apply yL)
   |(refine W.cond _ rfl (fun hb => ?_) (fun hb => ?_) <;> ((try simp only [hb,zK]) <;> (try simp only [zL,zI] at hb) <;> (try (exfalso;omega))))))
  refine ⟨k + 1,by omega,by omega,?_⟩
  rw [h1.out,h2.out]
  exact ⟨[0,1,2],rfl,rfl,rfl,iV_eq (by omega),rfl,rfl,rfl,rfl,rfl,rfl,trivial⟩
 ·have e : l.length = k := by omega
  subst e
  rw [List.take_length]
  clear ht
  generalize sumN M n us l = R at *
  refine AWP.wk ⟨[(15,iV l.length),(14,iV l.length),(7,nats (l.map (·.2))),(8,strs (l.map fun t => us.getD t.1 [])),(3,.opt 0 0)],[.box [.d .any,iV M,iV D,rowsN ps,.d .any]]⟩ ⟨[0],rfl,rfl,rfl,rfl,rfl,(frz_rowJ rfl rfl (by simp)).symm,(frz_rowJ rfl rfl (by simp)).symm,rfl,trivial⟩ ?_
  (repeat' (first
   |(apply W.qd;(first
   |(exact zW (hcomb))|(exact zM)|(exact zN)|(exact jAr)|(exact jAm)|(exact jAj)
   |(exact jBd)))|(apply yA)|(apply yB)|(refine jAe ?_)|(apply yE)|(apply yI)|(apply yJ)|(apply yK)|(apply yM)
   |(refine W.cond _ rfl (fun hb => ?_) (fun hb => ?_) <;> ((try simp only [hb,zK]) <;> (try simp only [zL,zI] at hb) <;> (try (exfalso;omega))))))
  exact ⟨.inl rfl,[],[bS R],rfl,rfl,⟨rfl,trivial⟩,AVle.of_eq rfl,rfl⟩
def encN (M : Nat) (ps us : List (List Nat)) : List (List Nat) := us ++ ps.map fun r => combM M (us.headD []).length r us (List.replicate (us.headD []).length 0)
theorem EndsO.bad2 {P : Program} {m : Nat} {env : List (Nat × AV)} {t t' sz : Nat} {y : AV} {own : List Ent} (hm : m = 0) (hx : look env t = .d (.v (.slice none 0 0))) (hy : look env t' = y) (hf : AV.frz own [] y = y) : EndsO P m [.tmp t,.tmp t'] (.tup [.d (.sl sz []),y]) [] .ret ⟨env,own⟩ := by
 subst hm
 exact EndsO.nil2 [] rfl rfl hx hy hf rfl
theorem A_encode {M D n : Nat} {ps us : List (List Nat)} (h : CodeOk M D ps) (hl : us.length = D) (hu : ∀ u ∈ us,isB u ∧ u.length = n) (hn : n ≤ 1000000) (he : FitM M n) : ACalls Tryz.prog 125 [cdN M D ps,strs us] [] (.tup [strs (encN M ps us),iV 0]) [] := by
 refine acalls_of_bodyO Tryz.func125 rfl (zU rfl) ?_
 have h1 := h.d
 have h2 := h.w
 have hv := A_evalidN h
 have huh : (us.headD []).length = n := by
  cases us with
  | nil => simp at hl;omega
  | cons a t => exact (hu a (by simp)).2
 have huni : ACalls Tryz.prog 185 [cdN M D ps,strs us] [] (bV true) [] := by
  have := A_uniform (M := M) (D := D) (par := toZ ps) (us := us) (by omega) (fun u h => by have := (hu u h).2;omega)
  rw [← cdN_A] at this
  have e : uniB M us = true := by
   unfold uniB
   rw [List.all_eq_true]
   intro x hx
   unfold uniQ
   rw [huh,(hu x hx).2,decide_eq_true rfl,Bool.true_and]
   rcases h.f with rfl | rfl
   ·rfl
   ·have := he rfl
    rw [decide_eq_true (show (n : Int) % 2 = 0 by omega),Bool.or_true]
  rwa [e] at this
 have hcl := A_clone_str (l := us) (by omega) (by omega)
 have hml : (us.map sD).length = us.length := List.length_map _
 have hmp : (ps.map rnD).length = ps.length := List.length_map _
 have hen : encN M ps us = us ++ ps.map fun r => combM M n r us (List.replicate n 0) := by unfold encN;rw [huh]
 rw [hen]
 (repeat' (first
  |(apply yFb;exact rfl;exact rfl)
  |(apply W.qd;(first
  |(exact zW (hv))|(exact zW (huni))|(exact zM)|(exact zN)|(exact jAr)|(exact jAm)|(exact jAn)|(exact jAv)|(exact jBg)|(exact jB)
  |(apply (yDb (u := .d _));exact rfl;exact rfl)))
  |(apply W.ed;(first
  |(apply (e_callJ (js := []) (hcl));(iterate 5 exact rfl);kernel_rfl;kernel_rfl)
  |(exact jAc)))|(apply yA)|(apply yB)|(refine jAe ?_)|(apply yE)|(apply yG)|(apply yH)|(refine jAw ?_)
  |(refine W.gF _ _ rfl rfl (fun hb => ?_) (fun hb => ?_) <;> ((try simp only [hb,zK]) <;> (try simp only [zL,zI] at hb) <;> (try (exfalso;omega))))))
 refine AWP.loopW (α := Nat) (fun k => k ≤ ps.length) (fun k => ⟨[(32,iV k),(31,iV ps.length),(30,rowsN ps),(1,strs us),(6,.osl 1 (k + 1) 0 (us ++ (ps.take k).map fun r => combM M n r us (List.replicate n 0)).length),(2,.opt 0 0)],[.box [.d .any,iV M,iV D,rowsN ps,.d .any],.row (k + 1) 1 9 ((us ++ (ps.take k).map fun r => combM M n r us (List.replicate n 0)).map sD)]⟩) (fun k => ps.length - k) 0 (by omega) ?wk0 fun k hk => ?_
 case wk0 =>
  rw [show (us ++ (ps.take 0).map fun r => combM M n r us (List.replicate n 0)) = us by simp]
  exact ⟨[0,1],rfl,rfl,rfl,rfl,iV_eq (by simp),rfl,rfl,rfl,rfl,trivial⟩
 by_cases hkl : k < ps.length
 ·have hr := h.row ps[k] (List.getElem_mem _)
  have hcomb := A_fcombine (cs := ps[k]) (us := us) h.f he (by rw [hr.1,hl]) (by omega) hr.2.1 hu hn (by omega)
  have h5 : (ps.take (k + 1)).map (fun r => combM M n r us (List.replicate n 0)) = (ps.take k).map (fun r => combM M n r us (List.replicate n 0)) ++ [combM M n ps[k] us (List.replicate n 0)] := by
   rw [← List.take_append_getElem hkl,List.map_append];rfl
  have h6 : us ++ (ps.take (k + 1)).map (fun r => combM M n r us (List.replicate n 0)) = (us ++ (ps.take k).map (fun r => combM M n r us (List.replicate n 0))) ++ [combM M n ps[k] us (List.replicate n 0)] := by rw [h5,List.append_assoc]
  have hl2 : (us ++ (ps.take k).map (fun r => combM M n r us (List.replicate n 0))).length ≤ 1024 := by simp;omega
  clear h5
  replace h6 := Lib.hid h6
  generalize combM M n ps[k] us (List.replicate n 0) = R at *
  generalize us ++ (ps.take k).map (fun r => combM M n r us (List.replicate n 0)) = A at *
  clear hr
  (repeat' (first
   |(apply W.qd;(first
   |(exact zW (hcomb))|(exact zM)|(exact zN)|(exact jAr)|(exact jAm)|(exact jAj)|(exact jAg)|(exact jBd)|(exact jAd)|(exact jAl)
   |(exact jA)))|(apply W.ld;(exact jAy))|(apply yA)|(apply yB)|(refine jAe ?_)|(apply yE)|(apply yG)|(apply yH)|(apply yL)
   |(refine W.cond _ rfl (fun hb => ?_) (fun hb => ?_) <;> ((try simp only [hb,zK]) <;> (try simp only [zL,zI] at hb) <;> (try (exfalso;omega))))))
  refine ⟨k + 1,by omega,by omega,?_⟩
  rw [h6.out]
  exact ⟨[0,1],rfl,rfl,rfl,iV_eq (by omega),rfl,rfl,rfl,rfl,rfl,trivial⟩
 ·have e : ps.length = k := by omega
  subst e
  rw [List.take_length]
  have hl2 : (us ++ ps.map fun r => combM M n r us (List.replicate n 0)).length ≤ 1024 := by simp;omega
  generalize us ++ ps.map (fun r => combM M n r us (List.replicate n 0)) = A at *
  (repeat' (first
   |(apply W.qd;(first
   |(exact zM)|(exact zN)
   |(exact jAj)))|(apply yA)|(apply yB)|(refine jAe ?_)|(apply yE)|(apply yI)|(apply yJ)|(apply yK)|(apply yM)
   |(refine W.cond _ rfl (fun hb => ?_) (fun hb => ?_) <;> ((try simp only [hb,zK]) <;> (try simp only [zL,zI] at hb) <;> (try (exfalso;omega))))))
  refine ⟨.inl rfl,[],[.osl 1 (ps.length + 1) 0 A.length,iV 0],rfl,rfl,⟨rfl,rfl,trivial⟩,AVle.tup2 (AVle.of_eq (frz_rowJ rfl rfl (by simp))) (AVle.of_eq rfl),rfl⟩
end
section
attribute [local irreducible] Quiet Eff OpOk AWPG ACont ABlock ACalls AGoto
structure TermsIn (M n : Nat) (us : List (List Nat)) (l : List (Nat × Nat)) : Prop where
 p : 0 < l.length
 le : l.length ≤ 1000
 t : ∀ t ∈ l,t.1 < us.length ∧ t.2 < 2 ^ M ∧ isB (us.getD t.1 []) ∧ (us.getD t.1 []).length = n
theorem A_recover_lost {M D u : Nat} {ps us : List (List Nat)} {hv : List Bool} (h : CodeOk M D ps) (hul : us.length ≤ 1000000) (hhl : hv.length = D + ps.length) (hu : ∀ u ∈ us,u.length < 9223372036854775808) (hf : fitN M D ps us hv = true) (hlt : u < D + ps.length) (hc : combN M D ps hv u = none) : ACalls Tryz.prog 88 [cdN M D ps,strs us,bools hv,iV u] [] (.tup [bS [],iV 11]) [] := by
 refine acalls_of_bodyO Tryz.func88 rfl (zU rfl) ?_
 have h2 := h.w
 have hfit := A_fit (hv := hv) h hul (by omega) hu
 rw [hf] at hfit
 have hcomb := A_comb h hhl hlt
 rw [hc] at hcomb
 unfold termsA at hcomb
 dsimp only at hcomb
 (repeat' (first
  |(apply W.qd;(first
  |(exact zW (hfit))|(exact zW (hcomb))|(exact zM)|(exact zN)|(exact jAn)|(exact jAv)|(exact jBg)
  |(exact jBd)))|(apply W.ed;(exact jAc))|(apply yA)|(apply yB)|(refine jAe ?_)|(apply yE)|(apply yH)|(apply yJ)|(apply yP)|(refine jBa ?_)
  |(refine jAw ?_)))
 all_goals exact ⟨.inl rfl,[],[bS [],iV 11],rfl,rfl,⟨rfl,rfl,trivial⟩,AVle.of_eq rfl,rfl⟩
theorem A_recover_ok {M D u n : Nat} {ps us : List (List Nat)} {hv : List Bool} {l : List (Nat × Nat)} (h : CodeOk M D ps) (hul : us.length ≤ 1000000) (hhl : hv.length = D + ps.length) (hu : ∀ u ∈ us,u.length < 9223372036854775808) (hf : fitN M D ps us hv = true) (hlt : u < D + ps.length) (hc : combN M D ps hv u = some l) (ht : TermsIn M n us l) (he : FitM M n) (hn : n ≤ 1000000) : ACalls Tryz.prog 88 [cdN M D ps,strs us,bools hv,iV u] [] (.tup [bS (sumN M n us l),iV 0]) [] := by
 refine acalls_of_bodyO Tryz.func88 rfl (zU rfl) ?_
 have h2 := h.w
 have hfit := A_fit (hv := hv) h hul (by omega) hu
 rw [hf] at hfit
 have hcomb := A_comb h hhl hlt
 rw [hc] at hcomb
 unfold termsA at hcomb
 dsimp only at hcomb
 have hsum := A_sum (D := D) (ps := ps) h.f he ht.p ht.le hn ht.t
 generalize sumN M n us l = R at *
 (repeat' (first
  |(apply W.qd;(first
  |(exact zW (hfit))|(exact zW (hcomb))|(exact zW (hsum))|(exact zM)|(exact zN)|(exact jAn)|(exact jAv)|(exact jBg)
  |(exact jBd)))|(apply W.ed;(exact jAc))|(apply yA)|(apply yB)|(refine jAe ?_)|(apply yE)|(apply yH)|(apply yJ)
  |(refine jAw ?_)))
 all_goals exact ⟨.inl rfl,[],[bS R,iV 0],rfl,rfl,⟨rfl,rfl,trivial⟩,AVle.of_eq rfl,rfl⟩
def decR (M n : Nat) (us : List (List Nat)) (ls : Nat → List (Nat × Nat)) (W q : Nat) : AV := if q < W then .tup [strs [],iV 11] else .tup [strs ((List.range W).map fun i => sumN M n us (ls i)),iV 0]
theorem A_decode {M D n q : Nat} {ps us : List (List Nat)} {hv : List Bool} {ls : Nat → List (Nat × Nat)} (h : CodeOk M D ps) (hul : us.length = D + ps.length) (hhl : hv.length = D + ps.length) (hu : ∀ u ∈ us, u.length < 9223372036854775808) (hf : fitN M D ps us hv = true) (he : FitM M n) (hn : n ≤ 1000000) (hq : q ≤ D + ps.length)
 (hc : ∀ i,i < q → combN M D ps hv i = some (ls i) ∧ TermsIn M n us (ls i)) (hc2 : q < D + ps.length → combN M D ps hv q = none) : ACalls Tryz.prog 206 [cdN M D ps,strs us,bools hv] [] (decR M n us ls (D + ps.length) q) [] := by
 refine acalls_of_bodyO Tryz.func206 rfl (zU rfl) ?_
 have h1 := h.d
 have h2 := h.w
 have hfit := A_fit (us := us) (hv := hv) h (by omega) (by omega) hu
 rw [hf] at hfit
 have hsp := A_spanOf h hhl
 have hok := spanN_ok h hhl
 have hbl := basis_len h hhl
 have hokl := hok.l
 have ht : ∀ i,i < D + ps.length → ACalls Tryz.prog 210 [.opt 0 0,iV i] [spB M D ps (basisN M D ps hv) (spanN M D ps hv).length (spanN M D ps hv).length,spR (spanN M D ps hv).length (spanN M D ps hv)] (termsA (combN M D ps hv i)) [spB M D ps (basisN M D ps hv) (spanN M D ps hv).length (spanN M D ps hv).length,spR (spanN M D ps hv).length (spanN M D ps hv)] := fun i hi => A_terms (rv := (spanN M D ps hv).length) (rows := spanN M D ps hv) (us := basisN M D ps hv) h hi (by omega) (by omega) hok.r
 generalize spanN M D ps hv = S at *
 generalize basisN M D ps hv = B at *
 clear hok hbl
 have hmu : (us.map sD).length = us.length := List.length_map _
 (repeat' (first
  |(apply W.qd;(first
  |(exact zW (hfit))|(exact zM)|(exact zN)|(exact jAn)|(exact jBg)|(exact jBd)
  |(exact jB)))
  |(apply W.ed;(first
  |(apply (e_callJ (js := []) (hsp));(iterate 5 exact rfl);kernel_rfl;kernel_rfl)
  |(exact jAc)))|(apply yA)|(apply yB)|(refine jAe ?_)|(apply yE)|(apply yG)|(apply yH)
  |(refine jAw ?_)))
 refine AWP.nilRow 10 1 9 rfl (by omega) ?_
 refine AWP.loopW (α := Nat) (fun k => k ≤ q) (fun k => ⟨[(27,iV k),(26,iV us.length),(25,strs us),(1,strs us),(8,.opt 1 0),(3,.opt 0 0),(10,.osl 3 k 0 ((List.range k).map fun i => sumN M n us (ls i)).length)],[.box [.d .any,iV M,iV D,rowsN ps,.d .any],.box [.d .any,iV M,iV D,rowsN ps,.d .any,nats B,.osl 2 S.length 0 S.length],spR S.length S,.row k 1 9 (((List.range k).map fun i => sumN M n us (ls i)).map sD)]⟩) (fun k => q - k) 0 (by omega) ?wk0 fun k hk => ?_
 case wk0 => exact ⟨[0,1,2,3],rfl,rfl,rfl,rfl,iV_eq (by simp),rfl,rfl,rfl,rfl,rfl,trivial⟩
 by_cases hkq : k < q
 ·obtain ⟨hc3, hti⟩ := hc k hkq
  have htk := ht k (by omega)
  rw [hc3] at htk
  unfold termsA at htk
  dsimp only at htk
  have hsum := A_sum (D := D) (ps := ps) h.f he hti.p hti.le hn hti.t
  have hs : (List.range (k + 1)).map (fun i => sumN M n us (ls i)) = (List.range k).map (fun i => sumN M n us (ls i)) ++ [sumN M n us (ls k)] := by
   rw [List.range_succ,List.map_append];rfl
  have hl2 : ((List.range k).map (fun i => sumN M n us (ls i))).length ≤ 1024 := by simp;omega
  replace hs := Lib.hid hs
  generalize sumN M n us (ls k) = R at *
  generalize (List.range k).map (fun i => sumN M n us (ls i)) = A at *
  generalize ls k = L at *
  clear hti ht hc hc2
  (repeat' (first
   |(apply W.qd;(first
   |(exact zW (hsum))|(exact zM)|(exact zN)|(exact jAn)|(exact jAj)|(exact jAv)|(exact jAg)|(exact jBd)
   |(exact jAl)))|(apply W.ld;(exact jAy))|(apply W.ed;(apply (e_callJ (js := [1,2]) (htk));(iterate 5 exact rfl);kernel_rfl;kernel_rfl))|(apply yA)|(apply yB)|(refine jAe ?_)|(apply yE)|(apply yG)|(apply yH)|(apply yL)|(refine jAw ?_)
   |(refine W.cond _ rfl (fun hb => ?_) (fun hb => ?_) <;> ((try simp only [hb,zK]) <;> (try simp only [zL,zI] at hb) <;> (try (exfalso;omega))))))
  refine ⟨k + 1,by omega,by omega,?_⟩
  rw [hs.out]
  exact ⟨[0,1,2,3],rfl,rfl,rfl,iV_eq (by omega),rfl,rfl,rfl,rfl,rfl,rfl,trivial⟩
 ·have e : k = q := by omega
  subst e
  by_cases hkW : k < D + ps.length
  ·have htk := ht k hkW
   rw [hc2 hkW] at htk
   unfold termsA at htk
   dsimp only at htk
   clear ht hc hc2
   have hd : decR M n us ls (D + ps.length) k = .tup [strs [],iV 11] := if_pos hkW
   rw [hd]
   have hl2 : ((List.range k).map (fun i => sumN M n us (ls i))).length ≤ 1024 := by simp;omega
   generalize (List.range k).map (fun i => sumN M n us (ls i)) = A at *
   (repeat' (first
    |(apply W.qd;(first
    |(exact zM)|(exact zN)|(exact jAj)|(exact jAv)
    |(exact jBd)))|(apply W.ed;(apply (e_callJ (js := [1,2]) (htk));(iterate 5 exact rfl);kernel_rfl;kernel_rfl))|(apply yA)|(apply yB)|(refine jAe ?_)|(apply yE)|(apply yG)|(apply yH)|(apply yJ)|(apply yP)|(apply yN)|(refine jBa ?_)
    |(refine W.cond _ rfl (fun hb => ?_) (fun hb => ?_) <;> ((try simp only [hb,zK]) <;> (try simp only [zL,zI] at hb) <;> (try (exfalso;omega))))))
   exact EndsO.bad2 rfl rfl rfl rfl
  ·have e : D + ps.length = k := by omega
   have hd : decR M n us ls (D + ps.length) k = .tup [strs ((List.range k).map fun i => sumN M n us (ls i)),iV 0] := by rw [decR,if_neg (by omega),e]
   rw [hd]
   clear ht hc hc2
   have hl2 : ((List.range k).map (fun i => sumN M n us (ls i))).length ≤ 1024 := by simp;omega
   generalize (List.range k).map (fun i => sumN M n us (ls i)) = A at *
   (repeat' (first
    |(apply W.qd;(first
    |(exact zM)|(exact zN)
    |(exact jAj)))|(apply yA)|(apply yB)|(refine jAe ?_)|(apply yE)|(apply yI)|(apply yJ)|(apply yK)|(apply yM)
    |(refine W.cond _ rfl (fun hb => ?_) (fun hb => ?_) <;> ((try simp only [hb,zK]) <;> (try simp only [zL,zI] at hb) <;> (try (exfalso;omega))))))
   exact ⟨.inl rfl,[],[.osl 3 k 0 A.length,iV 0],rfl,rfl,⟨rfl,rfl,trivial⟩,AVle.tup2 (AVle.of_eq (frz_rowJ rfl rfl (by simp))) (AVle.of_eq rfl),rfl⟩
end
section
open Go.ChangeShapes Go.WideShapes Go.ChangeAt Go.RowKit
section
variable {H : Type} {enc : TypeId × Value → H} {P : Program} {w : World} {base : Nat} {spare : Nat → Bool} {held : Bool}
theorem open_field {t : TypeId} {fs : Array Field} {fuel : Nat} {cs : List Value} {x : DataW H × List MemPlace} (ht : P.underlying t = some (.struct fs)) (h : DataW.trod enc P w base spare held fuel t cs = some x) (i : Nat) (f : Field) (hf : fs[i]? = some f) :
 ∃ y n,DataW.trod enc P w base spare held n f.type ((cs.drop f.offset).take (P.cellsOf f.type)) = some y := by
 obtain ⟨xs,n,_,_,_,hlen,hg⟩ := DataW.trod_struct ht h
 have h1 := hg i f hf
 have hi : i < fs.size := (Array.getElem?_eq_some_iff.1 hf).1
 exact ⟨xs[i]'(by omega),n,by rw [h1];exact List.getElem?_eq_getElem (by omega)⟩
end
theorem list4 {α : Type} {l : List α} (h : l.length = 4) : ∃ a0 a1 a2 a3,l = [a0,a1,a2,a3] := by
 match l,h with
 | [a0,a1,a2,a3],_ => exact ⟨_,_,_,_,rfl⟩
end
section
theorem calls_of_acalls {P : Program} {f : FuncId} {args : List AV} {b : Bool} {own' : List Ent} (h : ACalls P f args [] (bV b) own') (vs : List Value) (W : World) (hg : ∀ p ∈ glbs, p.1 < W.heap.size ∧ some p.1 ∉ ([] : List (Option Nat)) ∧ ∃ t fz, W.heap[p.1]? = some (.cells p.2 t fz)) (ha : AV.satL (fun _ => False) [] [] W args vs) :
 Calls P f vs.toArray W fun e w' => e = .returned (.bool b) ∧ Below W.heap.size W w' := by
 refine (h (fun _ => False) [] W vs ⟨rfl,(fun _ h => h.elim),(fun _ h => nomatch h),(fun _ _ _ h => by cases h),(fun _ _ h => by cases h),hg⟩ ha).mono ?_
 intro e w' ⟨v,κ',he,hv,_,tr⟩
 refine ⟨?_,tr.os,tr.tape,tr.output,tr.size,fun k hk => tr.old k hk (by simp)⟩
 rw [he]
 have : v = .bool b := by simpa [AV.sat,Dat.sat] using hv
 rw [this]
end
section
open Go.ChangeShapes Go.WideShapes Go.ChangeAt Go.RowKit
section
variable {H : Type} {enc : TypeId × Value → H} {P : Program} {w : World} {base : Nat} {spare : Nat → Bool} {held : Bool}
def Opens (enc : TypeId × Value → H) (P : Program) (w : World) (base : Nat) (spare : Nat → Bool) (held : Bool) (t : TypeId) {α : Type} (f : α → List Dat) (ok : α → Prop) : Prop :=
 ∀ (fuel : Nat) (cs : List Value) (x : DataW H × List MemPlace), DataW.trod enc P w base spare held fuel t cs = some x →
  ∃ a,ok a ∧ (f a).length = cs.length ∧ ∀ (j : Nat) (y : Dat),(f a)[j]? = some y → ∃ u,cs[j]? = some u ∧ u.oneCell' = true ∧ Dat.sat (badK (fun _ => False) []) w y u
theorem opens_one {t : TypeId} {α : Type} {g : α → Dat} {ok : α → Prop} (h : ∀ (fuel : Nat) (cs : List Value) (x : DataW H × List MemPlace),DataW.trod enc P w base spare held fuel t cs = some x → ∃ a u,ok a ∧ cs = [u] ∧ u.oneCell' = true ∧ Dat.sat (badK (fun _ => False) []) w (g a) u) : Opens enc P w base spare held t (fun a => [g a]) ok := fun fuel cs x hx => by
 obtain ⟨a,u,h1,rfl,h2,h3⟩ := h fuel cs x hx
 refine ⟨a,h1,rfl,fun j y hy => ?_⟩
 cases j with
 | succ j => simp at hy
 | zero =>
   simp only [List.getElem?_cons_zero,Option.some.injEq] at hy
   subst hy
   exact ⟨u,rfl,h2,h3⟩
theorem opens_string {t : TypeId} (ht : P.underlying t = some .string) : Opens enc P w base spare held t sD (fun l => isB l ∧ l.length ≤ maxLen) :=
 opens_one fun fuel cs x hx => by
  obtain ⟨s,rfl,_,hs⟩ := DataW.trod_string ht hx
  refine ⟨s.data.toList.map (·.toNat),.string s,⟨isB_nat s,by rw [List.length_map];exact hs⟩,rfl,rfl,?_⟩
  rw [Dat.sat,bytesOf_nat]
theorem opens_int {t : TypeId} (ht : P.underlying t = some (.int .i64)) : Opens enc P w base spare held t iD (fun n => -9223372036854775808 ≤ n ∧ n < 9223372036854775808) :=
 opens_one fun fuel cs x hx => by
  obtain ⟨n,rfl,_,hw⟩ := DataW.trod_int ht hx
  refine ⟨n,_,?_,rfl,rfl,rfl⟩
  have h1 : IntKind.i64.max = 9223372036854775807 := by decide +kernel
  have h2 : IntKind.i64.min = -9223372036854775808 := by decide +kernel
  simp only [Lit.wf,Bool.and_eq_true,decide_eq_true_eq] at hw
  rw [h1,h2] at hw
  omega
theorem choose_list {α : Type} {Q : Nat → α → Prop} : ∀ n, (∀ i, i < n → ∃ a, Q i a) → ∃ l : List α, l.length = n ∧ ∀ i a, l[i]? = some a → Q i a
 | 0,_ => ⟨[],rfl,fun i a h => by simp at h⟩
 | n + 1,h => by
   obtain ⟨l,hl,hq⟩ := choose_list n (fun i hi => h i (by omega))
   obtain ⟨a,ha⟩ := h n (by omega)
   refine ⟨l ++ [a],by simp [hl],fun i b hb => ?_⟩
   by_cases hi : i < n
   ·rw [List.getElem?_append_left (by omega)] at hb;exact hq i b hb
   ·have : i = n := by
     have := (List.getElem?_eq_some_iff.1 hb).1
     simp [hl] at this;omega
    subst this
    rw [List.getElem?_append_right (by omega),hl,Nat.sub_self] at hb
    simp only [List.getElem?_cons_zero,Option.some.injEq] at hb
    subst hb;exact ha
theorem opens_slice {t e : TypeId} {sz : Nat} {α : Type} {f : α → List Dat} {ok : α → Prop} (ht : P.underlying t = some (.slice e)) (hc : P.cellsOf e = sz) (h0 : 0 < sz) (he : Opens enc P w base spare held e f ok) :
 Opens enc P w base spare held t (fun l : List α => [.sl sz (l.map f)]) (fun l => (∀ a ∈ l,ok a) ∧ l.length ≤ maxLen) :=
 opens_one fun fuel cs x hx => by
  rcases DataW.trod_slice ht hx with ⟨rfl,_⟩ | ⟨a,len,cap,elems,rest,n,_,rfl,_,hb,hl,hm,hlen,hel,_,_⟩
  ·refine ⟨[], .slice none 0 0, ⟨fun a h => by simp at h, Nat.zero_le _⟩, rfl, rfl, ?_⟩
   rw [Dat.sat]
   exact ⟨none,0,rfl,Nat.le_refl _,Nat.zero_le _,fun h => by simp at h⟩
  ·have each : ∀ i,i < len → ∃ el,ok el ∧ (f el).length = sz ∧ ∀ (j : Nat) (y : Dat),(f el)[j]? = some y → ∃ u,w.cell? ((a.add (i * sz)).add j) = some u ∧ u.oneCell' = true ∧ Dat.sat (badK (fun _ => False) []) w y u := fun i hi => by
    have h1 := hel i hi
    rw [List.getElem?_eq_getElem (by omega),hc,Option.bind_eq_some_iff] at h1
    obtain ⟨cs',h2,h3⟩ := h1
    obtain ⟨_,h4,h5⟩ := World.cells?_some h2
    obtain ⟨el,k1,k2,k3⟩ := he n cs' _ h3
    refine ⟨el,k1,by omega,fun j y hy => ?_⟩
    obtain ⟨u,k4,k5,k6⟩ := k3 j y hy
    have hj : j < sz := by rw [← h4];exact (List.getElem?_eq_some_iff.1 k4).1
    exact ⟨u,by rw [h5 j hj];exact k4,k5,k6⟩
   obtain ⟨l,hll,hlq⟩ := choose_list len each
   refine ⟨l,.slice (some a) len cap,⟨fun el hel2 => ?_,by omega⟩,rfl,rfl,?_⟩
   ·obtain ⟨i, hi, rfl⟩ := List.getElem_of_mem hel2
    exact (hlq i _ (List.getElem?_eq_getElem hi)).1
   ·rw [Dat.sat]
    refine ⟨some a,cap,by rw [List.length_map,hll],by rw [List.length_map];omega,hm,fun hp => ?_⟩
    rw [List.length_map] at hp
    have hfirst := hlq 0 _ (List.getElem?_eq_getElem hp)
    obtain ⟨_,k2,k3⟩ := hfirst
    obtain ⟨u,k4,_,_⟩ := k3 0 _ (List.getElem?_eq_getElem (by omega))
    have e0 : (a.add (0 * sz)).add 0 = a := by simp [Addr.add]
    rw [e0] at k4
    obtain ⟨b,o,sp⟩ := a
    have hsp : sp = none := by
     unfold World.cell? at k4
     split at k4
     ·split at k4
      ·cases k4
      ·rename_i h1;simpa using h1
     ·cases k4
    subst hsp
    have hlt : b < w.heap.size := by
     have := World.block_lt_of_cell? _ _ k4
     exact this
    refine ⟨b,o,rfl,hlt,by simp [badK],Dat.rowsSat_iff.2 fun j el hj => ?_⟩
    rw [List.getElem?_map] at hj
    cases hx : l[j]? with
    | none => rw [hx] at hj;cases hj
    | some v =>
      rw [hx] at hj
      simp only [Option.map_some,Option.some.injEq] at hj
      subst hj
      obtain ⟨_,k2',k3'⟩ := hlq j v hx
      refine ⟨k2',Dat.rowSat_iff.2 fun j2 y hy => ?_⟩
      obtain ⟨u',k4',k5',k6'⟩ := k3' j2 y hy
      refine ⟨u',?_,k5',k6'⟩
      rw [← k4']
      congr 1
      simp only [Addr.add]
      by_cases h1 : j * sz = 0
      ·rw [if_pos h1, h1]
       by_cases h2 : j2 = 0
       ·rw [if_pos h2,h2];simp
       ·rw [if_neg h2];simp
      ·rw [if_neg h1]
       by_cases h2 : j2 = 0
       ·rw [if_pos h2,h2];simp
       ·rw [if_neg h2]
theorem opens_cell {t : TypeId} {α : Type} {g : α → Dat} {ok : α → Prop} {fuel : Nat} {c : Value} {x : DataW H × List MemPlace} (h : Opens enc P w base spare held t (fun a => [g a]) ok) (hx : DataW.trod enc P w base spare held fuel t [c] = some x) : ∃ a,ok a ∧ Dat.sat (badK (fun _ => False) []) w (g a) c := by
 obtain ⟨a,h1,_,h3⟩ := h fuel [c] x hx
 obtain ⟨u,h4,_,h6⟩ := h3 0 (g a) rfl
 simp only [List.getElem?_cons_zero,Option.some.injEq] at h4
 subst h4
 exact ⟨a,h1,h6⟩
theorem opens_arg {t : TypeId} {α : Type} {g : α → Dat} {ok : α → Prop} {v : Value} {d : DataW H} {ps : List MemPlace} (h : Opens enc P w base spare held t (fun a => [g a]) ok) (hv : v.cells.toList = [v]) (hx : DataW.Trod enc P w base spare held t v d ps) : ∃ a,ok a ∧ AV.sat (fun _ => False) [] [] w (.d (g a)) v := by
 obtain ⟨fuel,hf⟩ := hx
 rw [hv] at hf
 obtain ⟨a,h1,h2⟩ := opens_cell h hf
 exact ⟨a,h1,by rw [AV.sat];exact h2⟩
variable {r : Reach} {b0 : Nat}
theorem cells_sl {t e : TypeId} {v : Value} (ht : P.underlying t = some (.slice e)) (h : Value.okWide P w r b0 t v) : v.cells.toList = [v] := by
 simp only [Value.okWide,ht,Cell.okWide] at h
 cases v <;> simp_all [Cell.ok,Value.cells]
theorem cells_str {t : TypeId} {v : Value} (ht : P.underlying t = some .string) (h : Value.okWide P w r b0 t v) : v.cells.toList = [v] := by
 simp only [Value.okWide,ht,Cell.okWide] at h
 cases v <;> simp_all [Cell.ok,Value.cells]
end
end
section
open Go.ChangeShapes Go.WideShapes Go.ChangeAt Go.RowKit
section
variable {H : Type} {enc : TypeId × Value → H} {P : Program} {w : World} {base : Nat} {spare : Nat → Bool} {held : Bool}
def OpensTo (enc : TypeId × Value → H) (P : Program) (w : World) (base : Nat) (spare : Nat → Bool) (held : Bool) (t : TypeId) (k : Nat) {α : Type} (f : α → List Dat) (ok : α → Prop) : Prop :=
 ∀ (fuel : Nat) (cs : List Value) (x : DataW H × List MemPlace), DataW.trod enc P w base spare held fuel t cs = some x →
  ∃ a,ok a ∧ (f a).length = k ∧ ∀ (j : Nat) (y : Dat),(f a)[j]? = some y → ∃ u,cs[j]? = some u ∧ u.oneCell' = true ∧ Dat.sat (badK (fun _ => False) []) w y u
theorem opens_to0 {t : TypeId} : OpensTo enc P w base spare held t 0 (fun _ : Unit => []) (fun _ => True) := fun fuel cs x hx =>
 ⟨(),trivial,rfl,fun j y hy => by simp at hy⟩
theorem opens_toS {t : TypeId} {fs : Array Field} {k m : Nat} (i : Nat) {fd : Field} {α β : Type} {f : α → List Dat} {g : β → List Dat} {okf : α → Prop} {okg : β → Prop} (ht : P.underlying t = some (.struct fs)) (h : OpensTo enc P w base spare held t k f okf) (hi : fs[i]? = some fd) (ho : fd.offset = k) (hc : P.cellsOf fd.type = m) (hn : k + m ≤ P.cellsOf t)
 (hg : Opens enc P w base spare held fd.type g okg) : OpensTo enc P w base spare held t (k + m) (fun p : α × β => f p.1 ++ g p.2) (fun p => okf p.1 ∧ okg p.2) := fun fuel cs x hx => by
 obtain ⟨a,h1,h2,h3⟩ := h fuel cs x hx
 obtain ⟨y,n,hy⟩ := open_field ht hx i fd hi
 obtain ⟨_,_,_,_,hl,_,_⟩ := DataW.trod_struct ht hx
 obtain ⟨b,k1,k2,k3⟩ := hg n _ y hy
 rw [ho,hc] at k2 k3
 have hlen : ((cs.drop k).take m).length = m := by rw [List.length_take,List.length_drop];omega
 refine ⟨(a,b),⟨h1,k1⟩,by show (f a ++ g b).length = _;rw [List.length_append,h2,k2,hlen],fun j y hy => ?_⟩
 have hy : (f a ++ g b)[j]? = some y := hy
 by_cases hj : j < k
 ·rw [List.getElem?_append_left (by omega)] at hy
  exact h3 j y hy
 ·rw [List.getElem?_append_right (by omega), h2] at hy
  obtain ⟨u,q1,q2,q3⟩ := k3 _ y hy
  refine ⟨u,?_,q2,q3⟩
  have hjm : j - k < m := by
   have := (List.getElem?_eq_some_iff.1 hy).1
   omega
  rw [List.getElem?_take,if_pos hjm,List.getElem?_drop] at q1
  rw [← q1]
  congr 1
  omega
theorem opens_all {t : TypeId} {fs : Array Field} {k : Nat} {α : Type} {f : α → List Dat} {ok : α → Prop} (ht : P.underlying t = some (.struct fs)) (hc : P.cellsOf t = k) (h : OpensTo enc P w base spare held t k f ok) : Opens enc P w base spare held t f ok := fun fuel cs x hx => by
 obtain ⟨a,h1,h2,h3⟩ := h fuel cs x hx
 obtain ⟨_,_,_,_,hl,_,_⟩ := DataW.trod_struct ht hx
 exact ⟨a,h1,by omega,h3⟩
theorem opens_map {t : TypeId} {α β : Type} {f : α → List Dat} {ok : α → Prop} (h : Opens enc P w base spare held t f ok) (φ : α → β) {g : β → List Dat} {okg : β → Prop} (he : ∀ a,ok a → g (φ a) = f a ∧ okg (φ a)) : Opens enc P w base spare held t g okg := fun fuel cs x hx => by
 obtain ⟨a,h1,h2,h3⟩ := h fuel cs x hx
 refine ⟨φ a,(he a h1).2,by rw [(he a h1).1];exact h2,by rw [(he a h1).1];exact h3⟩
theorem opens_agg {t : TypeId} {α : Type} {f : α → List Dat} {ok : α → Prop} {cs : List Value} {d : DataW H} {ps : List MemPlace} (h : Opens enc P w base spare held t f ok) (hv : (Value.agg cs.toArray).cells.toList = cs) (hx : DataW.Trod enc P w base spare held t (.agg cs.toArray) d ps) : ∃ a,ok a ∧ AV.sat (fun _ => False) [] [] w (.agg ((f a).map .d)) (.agg cs.toArray) := by
 obtain ⟨fuel,hf⟩ := hx
 rw [hv] at hf
 obtain ⟨a,h1,h2,h3⟩ := h fuel cs _ hf
 refine ⟨a,h1,?_⟩
 rw [AV.sat]
 refine ⟨_,rfl,satL_of (by simp [h2]) fun j x hj => ?_⟩
 rw [List.getElem?_map] at hj
 cases hy : (f a)[j]? with
 | none => rw [hy] at hj;cases hj
 | some y =>
   rw [hy] at hj
   obtain rfl : AV.d y = x := by simpa using hj
   obtain ⟨u,q1,q2,q3⟩ := h3 j y hy
   exact ⟨u,by simpa using q1,by rw [AV.sat];exact q3⟩
end
end
section
open Go.ChangeShapes Go.WideShapes Go.ChangeAt Go.RowKit
theorem bulk_each {H : Type} {α : Type} (wt : α → Nat) : ∀ (l : List α) (ds : List (DataW H)), l.length = ds.length → (∀ i (h1 : i < l.length) (h2 : i < ds.length), wt l[i] ≤ Rows.uptoBulk ds[i]) → (l.map wt).sum ≤ Rows.uptoBulkAll ds
 | [],ds,_,_ => by simp
 | a :: l,[],h,_ => by simp at h
 | a :: l,d :: ds,h,hw => by
   rw [List.map_cons,List.sum_cons,Rows.uptoBulkAll]
   have h1 := hw 0 (by simp) (by simp)
   have h2 := bulk_each wt l ds (by simpa using h) (fun i h3 h4 => by
    have := hw (i + 1) (by simpa using h3) (by simpa using h4)
    simpa using this)
   simp only [List.getElem_cons_zero] at h1
   omega
section
variable {H : Type} {enc : TypeId × Value → H} {P : Program} {w : World} {base : Nat} {spare : Nat → Bool} {held : Bool}
def OpensW (enc : TypeId × Value → H) (P : Program) (w : World) (base : Nat) (spare : Nat → Bool) (held : Bool) (t : TypeId) {α : Type} (f : α → List Dat) (ok : α → Prop) (wt : α → Nat) : Prop :=
 ∀ (fuel : Nat) (cs : List Value) (x : DataW H × List MemPlace), DataW.trod enc P w base spare held fuel t cs = some x →
  ∃ a,(ok a ∧ wt a ≤ Rows.uptoBulk x.1) ∧ (f a).length = cs.length ∧ ∀ (j : Nat) (y : Dat),(f a)[j]? = some y → ∃ u,cs[j]? = some u ∧ u.oneCell' = true ∧ Dat.sat (badK (fun _ => False) []) w y u
theorem opensW_slice {t e : TypeId} {sz : Nat} {α : Type} {f : α → List Dat} {ok : α → Prop} {wt : α → Nat} (ht : P.underlying t = some (.slice e)) (hc : P.cellsOf e = sz) (h0 : 0 < sz) (he : OpensW enc P w base spare held e f ok wt) :
 OpensW enc P w base spare held t (fun l : List α => [.sl sz (l.map f)]) (fun l => (∀ a ∈ l,ok a) ∧ l.length ≤ maxLen) (fun l => (l.map wt).sum) := fun fuel cs x hx => by
 rcases DataW.trod_slice ht hx with ⟨rfl,rfl⟩ | ⟨a,len,cap,elems,rest,n,_,rfl,rfl,hb,hl,hm,hlen,hel,_,_⟩
 ·refine ⟨[], ⟨⟨fun a h => by simp at h, Nat.zero_le _⟩, by simp⟩, rfl, fun j y hy => ?_⟩
  cases j with
  | succ j => simp at hy
  | zero =>
    obtain rfl : Dat.sl sz (([] : List α).map f) = y := by simpa using hy
    refine ⟨.slice none 0 0,rfl,rfl,?_⟩
    rw [Dat.sat]
    exact ⟨none,0,rfl,Nat.le_refl _,Nat.zero_le _,fun h => by simp at h⟩
 ·have each : ∀ i,i < len → ∃ el,(ok el ∧ ∀ (h : i < elems.length),wt el ≤ Rows.uptoBulk elems[i].1) ∧ (f el).length = sz ∧ ∀ (j : Nat) (y : Dat),(f el)[j]? = some y → ∃ u,w.cell? ((a.add (i * sz)).add j) = some u ∧ u.oneCell' = true ∧ Dat.sat (badK (fun _ => False) []) w y u := fun i hi => by
   have h1 := hel i hi
   rw [List.getElem?_eq_getElem (by omega),hc,Option.bind_eq_some_iff] at h1
   obtain ⟨cs',h2,h3⟩ := h1
   obtain ⟨_,h4,h5⟩ := World.cells?_some h2
   obtain ⟨el,⟨k1,kw⟩,k2,k3⟩ := he n cs' _ h3
   refine ⟨el,⟨k1,fun _ => kw⟩,by omega,fun j y hy => ?_⟩
   obtain ⟨u,k4,k5,k6⟩ := k3 j y hy
   have hj : j < sz := by rw [← h4];exact (List.getElem?_eq_some_iff.1 k4).1
   exact ⟨u,by rw [h5 j hj];exact k4,k5,k6⟩
  obtain ⟨l,hll,hlq⟩ := choose_list len each
  refine ⟨l,⟨⟨fun el hel2 => ?_,by omega⟩,?_⟩,rfl,fun j y hy => ?_⟩
  ·obtain ⟨i, hi, rfl⟩ := List.getElem_of_mem hel2
   exact (hlq i _ (List.getElem?_eq_getElem hi)).1.1
  ·have hbk := bulk_each wt l (elems.map (·.1)) (by rw [List.length_map];omega) (fun i h1 h2 => by
    rw [List.length_map] at h2
    rw [List.getElem_map]
    exact (hlq i _ (List.getElem?_eq_getElem h1)).1.2 h2)
   simp only [Rows.uptoBulk]
   omega
  ·cases j with
   | succ j => simp at hy
   | zero =>
   obtain rfl : Dat.sl sz (l.map f) = y := by simpa using hy
   refine ⟨.slice (some a) len cap,rfl,rfl,?_⟩
   rw [Dat.sat]
   refine ⟨some a,cap,by rw [List.length_map,hll],by rw [List.length_map];omega,hm,fun hp => ?_⟩
   rw [List.length_map] at hp
   have hfirst := hlq 0 _ (List.getElem?_eq_getElem hp)
   obtain ⟨_,k2,k3⟩ := hfirst
   obtain ⟨u,k4,_,_⟩ := k3 0 _ (List.getElem?_eq_getElem (by omega))
   have e0 : (a.add (0 * sz)).add 0 = a := by simp [Addr.add]
   rw [e0] at k4
   obtain ⟨b,o,sp⟩ := a
   have hsp : sp = none := by
    unfold World.cell? at k4
    split at k4
    ·split at k4
     ·cases k4
     ·rename_i h1;simpa using h1
    ·cases k4
   subst hsp
   have hlt : b < w.heap.size := by
    have := World.block_lt_of_cell? _ _ k4
    exact this
   refine ⟨b,o,rfl,hlt,by simp [badK],Dat.rowsSat_iff.2 fun j el hj => ?_⟩
   rw [List.getElem?_map] at hj
   cases hx : l[j]? with
   | none => rw [hx] at hj;cases hj
   | some v =>
     rw [hx] at hj
     simp only [Option.map_some,Option.some.injEq] at hj
     subst hj
     obtain ⟨_,k2',k3'⟩ := hlq j v hx
     refine ⟨k2',Dat.rowSat_iff.2 fun j2 y hy => ?_⟩
     obtain ⟨u',k4',k5',k6'⟩ := k3' j2 y hy
     refine ⟨u',?_,k5',k6'⟩
     rw [← k4']
     congr 1
     simp only [Addr.add]
     by_cases h1 : j * sz = 0
     ·rw [if_pos h1, h1]
      by_cases h2 : j2 = 0
      ·rw [if_pos h2,h2];simp
      ·rw [if_neg h2];simp
     ·rw [if_neg h1]
      by_cases h2 : j2 = 0
      ·rw [if_pos h2,h2];simp
      ·rw [if_neg h2]
theorem opensW_arg {t : TypeId} {α : Type} {g : α → Dat} {ok : α → Prop} {wt : α → Nat} {v : Value} {d : DataW H} {ps : List MemPlace} (h : OpensW enc P w base spare held t (fun a => [g a]) ok wt) (hv : v.cells.toList = [v]) (hx : DataW.Trod enc P w base spare held t v d ps) : ∃ a,(ok a ∧ wt a ≤ Rows.uptoBulk d) ∧ AV.sat (fun _ => False) [] [] w (.d (g a)) v := by
 obtain ⟨fuel,hf⟩ := hx
 rw [hv] at hf
 obtain ⟨a,h1,_,h3⟩ := h fuel [v] _ hf
 obtain ⟨u,h4,_,h6⟩ := h3 0 (g a) rfl
 simp only [List.getElem?_cons_zero,Option.some.injEq] at h4
 subst h4
 exact ⟨a,h1,by rw [AV.sat];exact h6⟩
end
end
section
open Go.ChangeShapes Go.WideShapes Go.ChangeAt Go.RowKit
section
variable {H : Type} {enc : TypeId × Value → H} {P : Program} {w : World} {base : Nat} {spare : Nat → Bool} {held : Bool}
theorem opensW_string {t : TypeId} (ht : P.underlying t = some .string) : OpensW enc P w base spare held t sD (fun l => isB l ∧ l.length ≤ maxLen) (fun l => l.length + 1) := fun fuel cs x hx => by
 obtain ⟨s,rfl,hx1,hs⟩ := DataW.trod_string ht hx
 refine ⟨s.data.toList.map (·.toNat),⟨⟨isB_nat s,by rw [List.length_map];exact hs⟩,?_⟩,rfl,fun j y hy => ?_⟩
 ·rw [hx1]
  simp [Rows.uptoBulk]
 ·cases j with
  | zero =>
    obtain rfl : Dat.v (.string (bytesOf (s.data.toList.map (·.toNat)))) = y := Option.some.inj hy
    exact ⟨.string s,rfl,rfl,by rw [Dat.sat,bytesOf_nat]⟩
  | succ j => simp [sD] at hy
end
theorem sum_each {l : List (List Nat)} {b : Nat} (h : (l.map fun u => u.length + 1).sum ≤ b) : ∀ u ∈ l,u.length ≤ b := fun u hu => by
 have h1 : ∀ (l : List (List Nat)),u ∈ l → u.length ≤ (l.map fun u => u.length + 1).sum := by
  intro l hu
  induction l with
  | nil => cases hu
  | cons x t ih =>
    rw [List.map_cons,List.sum_cons]
    rcases List.mem_cons.1 hu with rfl | hu
    ·omega
    ·have := ih hu;omega
 have := h1 l hu
 omega
end
section
open Go.ChangeShapes Go.WideShapes Go.ChangeAt Go.RowKit
section
variable {H : Type} {enc : TypeId × Value → H} {w : World} {base : Nat} {spare : Nat → Bool} {held : Bool}
theorem cellsI : Tryz.prog.cellsOf 3 = 1 := by kernel_rfl
theorem cells125 : Tryz.prog.cellsOf 341 = 2 := by kernel_rfl
theorem cells126 : Tryz.prog.cellsOf 342 = 4 := by kernel_rfl
theorem two_cells {fuel : Nat} {c0 c1 : Value} {a b : Int} {q : List MemPlace} (h : DataW.trod enc Tryz.prog w base spare held fuel 341 [c0,c1] = some (.agg [.lit (.int .i64 a),.lit (.int .i64 b)],q)) : c0 = .int .i64 a ∧ c1 = .int .i64 b := by
 obtain ⟨xs,n,_,hx,_,hlen,hg⟩ := DataW.trod_struct Tryz.underlying341 h
 have h0 := hg 0 _ rfl
 have h1 := hg 1 _ rfl
 obtain ⟨y0,y1,rfl⟩ : ∃ y0 y1,xs = [y0,y1] := by
  match xs,hlen with
  | [y0,y1],_ => exact ⟨_,_,rfl⟩
 replace h0 : DataW.trod enc Tryz.prog w base spare held n 3 [c0] = some y0 := by
  have e : List.take (Tryz.prog.cellsOf 3) [c0,c1] = [c0] := by rw [cellsI];rfl
  rw [← e];exact h0
 replace h1 : DataW.trod enc Tryz.prog w base spare held n 3 [c1] = some y1 := by
  have e : List.take (Tryz.prog.cellsOf 3) [c1] = [c1] := by rw [cellsI];rfl
  rw [← e];exact h1
 obtain ⟨m0,g0,e0,_⟩ := DataW.trod_int Tryz.underlying3 h0
 obtain ⟨m1,g1,e1,_⟩ := DataW.trod_int Tryz.underlying3 h1
 subst e0;subst e1
 obtain ⟨hx1,_⟩ := Prod.mk.inj hx
 simp only [List.map_cons,List.map_nil,DataW.agg.injEq,List.cons.injEq,DataW.lit.injEq,Lit.int.injEq,and_true,true_and] at hx1
 obtain ⟨rfl,rfl⟩ := hx1
 simp only [List.cons.injEq,and_true] at g0 g1
 exact ⟨g0,g1⟩
theorem fields_cells {fuel : Nat} {cs : Array Value} {q : List MemPlace} (h : DataW.trod enc Tryz.prog w base spare held fuel 342 cs.toList = some (Rows.laid_solvent_field_fields,q)) : cs = #[.int .i64 8,.int .i64 285,.int .i64 16,.int .i64 69643] := by
 obtain ⟨xs,m,_,hx,hcl,hlen,hg⟩ := DataW.trod_array Tryz.underlying342 h
 obtain ⟨l⟩ := cs
 obtain ⟨c0,c1,c2,c3,rfl⟩ := list4 (hcl.trans cells126)
 have h0 := hg 0 (by decide)
 have h1 := hg 1 (by decide)
 obtain ⟨y0,y1,rfl⟩ : ∃ y0 y1,xs = [y0,y1] := by
  match xs,hlen with
  | [y0,y1],_ => exact ⟨_,_,rfl⟩
 rw [cells125] at h0 h1
 replace h0 : DataW.trod enc Tryz.prog w base spare held m 341 [c0,c1] = some y0 := h0
 replace h1 : DataW.trod enc Tryz.prog w base spare held m 341 [c2,c3] = some y1 := h1
 obtain ⟨hx1,_⟩ := Prod.mk.inj hx
 unfold Rows.laid_solvent_field_fields at hx1
 simp only [List.map_cons,List.map_nil,DataW.agg.injEq,List.cons.injEq,and_true] at hx1
 obtain ⟨y00,y01⟩ := y0
 obtain ⟨y10,y11⟩ := y1
 obtain ⟨r0,r1⟩ := hx1
 dsimp only at r0 r1
 subst r0;subst r1
 obtain ⟨rfl,rfl⟩ := two_cells h0
 obtain ⟨rfl,rfl⟩ := two_cells h1
 rfl
theorem satL_cons {F : Nat → Prop} {own : List Ent} {κ : List (Option Nat)} {x : AV} {v : Value} {l : List AV} {vs : List Value} (h : AV.sat F own κ w x v) (hl : AV.satL F own κ w l vs) : AV.satL F own κ w (x :: l) (v :: vs) := by
 rw [AV.satL];exact ⟨h,hl⟩
theorem satL_nil {F : Nat → Prop} {own : List Ent} {κ : List (Option Nat)} : AV.satL F own κ w [] [] := by rw [AV.satL];trivial
end
end
section
set_option linter.unusedSectionVars false
theorem ACalls.le {P : Program} {f : FuncId} {args args' : List AV} {r : AV} {own own' : List Ent} (h : ACalls P f args own r own') (hle : ∀ F κ w vs,AV.satL F own κ w args' vs → AV.satL F own κ w args vs) : ACalls P f args' own r own' := fun F κ w vs ho hsat => h F κ w vs ho (hle F κ w vs hsat)
abbrev cdX (x y : Value) (M D : Nat) (ps : List (List Nat)) : AV := .agg [.d (.v x),iV M,iV D,rowsN ps,.d (.v y)]
theorem cdX_le {x y : Value} (hx : x.oneCell' = true) (hy : y.oneCell' = true) {M D : Nat} {ps : List (List Nat)} {F : Nat → Prop} {own : List Ent} {κ : List (Option Nat)} {w : World} {u : Value} (h : AV.sat F own κ w (cdX x y M D ps) u) : AV.sat F own κ w (cdN M D ps) u := by
 rw [AV.sat] at h ⊢
 obtain ⟨us,h1,h2⟩ := h
 refine ⟨us,h1,?_⟩
 generalize us.toList = l at h2
 rcases l with _ | ⟨a,_ | ⟨b,_ | ⟨c,_ | ⟨d,_ | ⟨e,l⟩⟩⟩⟩⟩ <;> simp only [AV.satL,and_false,and_assoc] at h2 ⊢
 obtain ⟨h3,h4,h5,h6,h7,h8⟩ := h2
 rw [sat_v] at h3 h7
 subst h3;subst h7
 refine ⟨?_,h4,h5,h6,?_,h8⟩
 ·rw [AV.sat,Dat.sat];exact hx
 ·rw [AV.sat,Dat.sat];exact hy
theorem satL_le1 {x x' : AV} {l : List AV} (h : ∀ F own κ w u,AV.sat F own κ w x' u → AV.sat F own κ w x u) : ∀ F own κ w vs,AV.satL F own κ w (x' :: l) vs → AV.satL F own κ w (x :: l) vs := fun F own κ w vs hs => by
 cases vs with
 | nil => simp [AV.satL] at hs
 | cons v vs =>
   rw [AV.satL] at hs ⊢
   exact ⟨h _ _ _ _ _ hs.1,hs.2⟩
attribute [local irreducible] Quiet Eff OpOk AWPG ACont ABlock ACalls AGoto
def smallB (D : Int) (par : List (List Int)) : Bool := decide (D ≤ 12) && (decide (par.length ≤ 8) && par.all fun r => decide (r.length ≤ 12))
theorem A_small {M D : Int} {par : List (List Int)} : ACalls Tryz.prog 84 [cdA M D par] [] (bV (smallB D par)) [] := by
 refine acalls_of_bodyO Tryz.func84 rfl (zU rfl) ?_
 have hmp : (par.map rD).length = par.length := List.length_map _
 by_cases hD : D ≤ 12
 ·by_cases hP : par.length ≤ 8
  ·unfold smallB
   rw [decide_eq_true hD,decide_eq_true hP]
   (repeat' (first
    |(apply yFb;exact rfl;exact rfl)
    |(apply W.qd;(first
    |(exact zM)|(exact zN)|(exact jAr)|(exact jAm)|(exact q_gtr rfl rfl)|(exact jB)
    |(apply (yDb (u := .d _));exact rfl;exact rfl)))|(apply W.ed;(exact jAc))|(apply yA)|(apply yB)|(refine jAe ?_)|(apply yE)|(apply yG)|(apply yH)|(refine W.gF _ _ rfl rfl (fun hb => ?_) (fun hb => ?_) <;> ((try simp only [hb,zK]) <;> (try simp only [zL,zI] at hb) <;> (try (exfalso;omega))))
    |(refine W.cond _ rfl (fun hb => ?_) (fun hb => ?_) <;> ((try simp only [hb,zK]) <;> (try simp only [zL,zI] at hb) <;> (try (exfalso;omega))))))
   refine AWP.loopW (α := Nat) (fun k => k ≤ par.length ∧ ∀ r ∈ par.take k,r.length ≤ 12) (fun k => ⟨[(3,iV k),(1,.opt 0 0)],[.box [.d .any,iV M,iV D,rowsA par,.d .any]]⟩) (fun k => par.length - k) 0 ⟨by omega,by simp⟩ ⟨[0],rfl,rfl,rfl,by (repeat (first | exact trivial | refine ⟨rfl,?_⟩))⟩ fun k hk => ?_
   by_cases hkl : k < par.length
   ·(repeat' (first
    |(apply W.qd;(first
    |(exact zM)|(exact zN)|(exact jAr)|(exact jAm)|(exact jAj)|(exact q_gtr rfl rfl)|(exact jAg)|(exact jB)|(exact jAd)
    |(exact jA)))|(apply yA)|(apply yB)|(refine jAe ?_)|(apply yE)|(apply yG)|(apply yH)|(apply yJ)|(apply yP)|(apply yL)|(apply yN)
    |(refine W.cond _ rfl (fun hb => ?_) (fun hb => ?_) <;> ((try simp only [hb,zK]) <;> (try simp only [zL,zI] at hb) <;> (try (exfalso;omega))))))
    ·have e : par.all (fun r => decide (r.length ≤ 12)) = false := by
      rw [List.all_eq_false]
      exact ⟨par[k],List.getElem_mem _,by simp;omega⟩
     rw [e]
     exact ⟨.inl rfl,[],[bV false],rfl,rfl,⟨rfl,trivial⟩,AVle.of_eq rfl,rfl⟩
    ·refine ⟨k + 1, ⟨by omega, fun r hr => ?_⟩, by omega, [0], rfl, rfl, rfl, iV_eq (by omega), rfl, trivial⟩
     rw [List.take_succ_eq_append_getElem hkl] at hr
     rcases List.mem_append.1 hr with hr | hr
     ·exact hk.2 r hr
     ·rw [List.mem_singleton.1 hr];omega
   ·have e : par.all (fun r => decide (r.length ≤ 12)) = true := by
     rw [List.all_eq_true]
     intro r hr
     rw [decide_eq_true_eq]
     exact hk.2 r (by rwa [List.take_of_length_le (by omega)])
    rw [e]
    (repeat' (first
     |(apply W.qd;(first
     |(exact zM)|(exact zN)|(exact jAr)|(exact jAm)|(exact jAj)
     |(exact jB)))|(apply yA)|(apply yB)|(refine jAe ?_)|(apply yE)|(apply yI)|(apply yJ)|(apply yK)|(apply yM)
     |(refine W.cond _ rfl (fun hb => ?_) (fun hb => ?_) <;> ((try simp only [hb,zK]) <;> (try simp only [zL,zI] at hb) <;> (try (exfalso;omega))))))
    exact ⟨.inl rfl,[],[bV true],rfl,rfl,⟨rfl,trivial⟩,AVle.of_eq rfl,rfl⟩
  ·unfold smallB
   rw [decide_eq_true hD,decide_eq_false hP]
   (repeat' (first
    |(apply yFb;exact rfl;exact rfl)
    |(apply W.qd;(first
    |(exact zM)|(exact zN)|(exact jAr)|(exact jAm)|(exact q_gtr rfl rfl)|(exact jB)
    |(apply (yDb (u := .d _));exact rfl;exact rfl)))|(apply W.ed;(exact jAc))|(apply yA)|(apply yB)|(refine jAe ?_)|(apply yE)|(apply yJ)|(apply yP)|(refine W.gF _ _ rfl rfl (fun hb => ?_) (fun hb => ?_) <;> ((try simp only [hb,zK]) <;> (try simp only [zL,zI] at hb) <;> (try (exfalso;omega))))
    |(refine W.cond _ rfl (fun hb => ?_) (fun hb => ?_) <;> ((try simp only [hb,zK]) <;> (try simp only [zL,zI] at hb) <;> (try (exfalso;omega))))))
   all_goals exact ⟨.inl rfl,[],[bV false],rfl,rfl,⟨rfl,trivial⟩,AVle.of_eq rfl,rfl⟩
 ·unfold smallB
  rw [decide_eq_false hD]
  (repeat' (first
   |(apply W.qd;(first
   |(exact zM)|(exact zN)|(exact jAr)|(exact jAm)|(exact q_gtr rfl rfl)
   |(apply (yEb (u := .d _));exact rfl;exact rfl)))|(apply W.ed;(exact jAc))|(refine W.gOff _ _ rfl rfl (by intro h;cases h) ?_)|(apply yA)|(apply yB)|(refine jAe ?_)|(apply yE)|(apply yJ)|(apply yP)|(refine jBa ?_)
   |(refine W.gF _ _ rfl rfl (fun hb => ?_) (fun hb => ?_) <;> ((try simp only [hb,zK]) <;> (try simp only [zL,zI] at hb) <;> (try (exfalso;omega))))))
  all_goals exact ⟨.inl rfl,[],[bV false],rfl,rfl,⟨rfl,trivial⟩,AVle.of_eq rfl,rfl⟩
end
section
def hv0 : List Bool := [true,false,false,false,true]
attribute [local irreducible] Quiet Eff OpOk AWPG ACont ABlock ACalls AGoto
end
section
theorem xorL_get? (a b : List Nat) (k : Nat) : (xorL a b)[k]? = match a[k]?,b[k]? with | some x,some y => some (x ^^^ y) | _,_ => none := by
 unfold xorL
 rw [List.getElem?_zipWith]
 cases a[k]? <;> cases b[k]? <;> rfl
theorem join_xor {a a' b b' : Nat} (h : b < 256) (h' : b' < 256) : 256 * (a ^^^ a') + (b ^^^ b') = (256 * a + b) ^^^ (256 * a' + b') := by
 have hx : b ^^^ b' < 2 ^ 8 := Nat.xor_lt_two_pow (n := 8) h h'
 have e : ∀ x y,y < 2 ^ 8 → 256 * x + y = x <<< 8 ||| y := fun x y hy => by
  have := Nat.shiftLeft_add_eq_or_of_lt hy x
  rw [← this,Nat.shiftLeft_eq];omega
 rw [e _ _ hx,e _ _ h,e _ _ h']
 apply Nat.eq_of_testBit_eq
 intro i
 simp only [Nat.testBit_xor,Nat.testBit_or,Nat.testBit_shiftLeft]
 by_cases hi : 8 ≤ i
 ·have t : ∀ y, y < 2 ^ 8 → y.testBit i = false := fun y hy => Nat.testBit_lt_two_pow (Nat.lt_of_lt_of_le hy (Nat.pow_le_pow_right (by omega) hi))
  simp [hi,t _ h,t _ h']
 ·simp [hi]
theorem headD_len {us : List (List Nat)} {n : Nat} (h : ∀ u ∈ us,u.length = n) (h0 : 0 < us.length) : (us.headD []).length = n := by
 cases us with
 | nil => simp at h0
 | cons a t => exact h a (by simp)
theorem encN_ok {M D n : Nat} {ps us : List (List Nat)} (h : CodeOk M D ps) (hl : us.length = D) (hu : ∀ u ∈ us,isB u ∧ u.length = n) (he : FitM M n) : ∀ u ∈ encN M ps us,isB u ∧ u.length = n := fun u hx => by
 unfold encN at hx
 rcases List.mem_append.1 hx with hx | hx
 ·exact hu u hx
 ·obtain ⟨r, hr, rfl⟩ := List.mem_map.1 hx
  rw [headD_len (fun u hu' => (hu u hu').2) (by have := h.d;omega)]
  exact combM_ok h.f he r us _ (h.row r hr).2.1 (fun u hu' => (hu u hu').2) (isB_zero n) (by simp)
theorem encN_length (M : Nat) (ps us : List (List Nat)) : (encN M ps us).length = us.length + ps.length := by simp [encN]
theorem uni_ok {M : Nat} {us : List (List Nat)} (hM : FldM M) (h : uniB M us = true) (h0 : 0 < us.length) : (∀ u ∈ us,u.length = (us.headD []).length) ∧ FitM M (us.headD []).length := by
 unfold uniB at h
 rw [List.all_eq_true] at h
 have key : ∀ u ∈ us,u.length = (us.headD []).length ∧ (M = 8 ∨ u.length % 2 = 0) := fun u hu => by
  have := h u hu
  unfold uniQ at this
  simp only [Bool.and_eq_true,Bool.or_eq_true,decide_eq_true_eq] at this
  omega
 refine ⟨fun u hu => (key u hu).1,fun hm => ?_⟩
 cases us with
 | nil => simp at h0
 | cons a t =>
   have := (key a (by simp)).2
   show a.length % 2 = 0
   omega
end
section
set_option linter.unusedSectionVars false
abbrev mu (M a b : Nat) : Nat := Gf.mul M (modN M) a b
section
variable {M : Nat} (hM : FldM M)
theorem mu_xor (a b c : Nat) : mu M a (b ^^^ c) = mu M a b ^^^ mu M a c := Gf.mul_xor a b c
theorem xor_mu (a b c : Nat) : mu M (a ^^^ b) c = mu M a c ^^^ mu M b c := Gf.xor_mul a b c
theorem mu_zero (a : Nat) : mu M a 0 = 0 := Gf.mul_zero a
theorem zero_mu (a : Nat) : mu M 0 a = 0 := Gf.zero_mul a
include hM
theorem mu_lt {a : Nat} (ha : a < 2 ^ M) (b : Nat) : mu M a b < 2 ^ M := Gf.mul_lt (FldM.gen hM).hm (FldM.gen hM).top (FldM.gen hM).lt ha b
theorem mu_one {a : Nat} (ha : a < 2 ^ M) : mu M a 1 = a := Gf.mul_one (FldM.gen hM).hm ha
theorem one_mu {a : Nat} (ha : a < 2 ^ M) : mu M 1 a = a := Gf.one_mul ha
theorem mu_comm {a b : Nat} (ha : a < 2 ^ M) (hb : b < 2 ^ M) : mu M a b = mu M b a := Gf.mul_comm ha hb
theorem mu_assoc {a b c : Nat} (ha : a < 2 ^ M) (hb : b < 2 ^ M) (hc : c < 2 ^ M) : mu M (mu M a b) c = mu M a (mu M b c) := Gf.mul_assoc (FldM.gen hM).hm (FldM.gen hM).top (FldM.gen hM).lt ha hb hc
theorem inv_mu {a : Nat} (h0 : a ≠ 0) (ha : a < 2 ^ M) : mu M (invN M a) a = 1 ∧ mu M a (invN M a) = 1 := by
 obtain ⟨b,h1,_,h3⟩ := (FldM.gen hM).inv h0 ha
 have e := invN_eq hM ha h1 h3
 rw [e]
 exact ⟨by rw [mu_comm hM h1 ha];exact h3,h3⟩
end
theorem xor_lt' {M a b : Nat} (ha : a < 2 ^ M) (hb : b < 2 ^ M) : a ^^^ b < 2 ^ M := Nat.xor_lt_two_pow ha hb
theorem xor_self_cancel (a b : Nat) : (a ^^^ b) ^^^ b = a := by rw [Nat.xor_assoc,Nat.xor_self,Nat.xor_zero]
theorem eq_of_xor {a b : Nat} (h : a ^^^ b = 0) : a = b := by
 have : (a ^^^ b) ^^^ b = 0 ^^^ b := by rw [h]
 rwa [xor_self_cancel,Nat.zero_xor] at this
def sg (f : Nat → Nat) : Nat → Nat
 | 0 => 0
 | n + 1 => sg f n ^^^ f n
theorem sg_congr {f g : Nat → Nat} : ∀ n, (∀ i, i < n → f i = g i) → sg f n = sg g n
 | 0,_ => rfl
 | n + 1,h => by rw [sg,sg,sg_congr n (fun i hi => h i (by omega)),h n (by omega)]
theorem sg_zero (n : Nat) : sg (fun _ => 0) n = 0 := by
 induction n with
 | zero => rfl
 | succ n ih => rw [sg,ih,Nat.xor_zero]
theorem sg_xor (f g : Nat → Nat) (n : Nat) : sg (fun i => f i ^^^ g i) n = sg f n ^^^ sg g n := by
 induction n with
 | zero => simp [sg]
 | succ n ih => rw [sg,sg,sg,ih];exact Gf.xor4 _ _ _ _
theorem sg_mu {M : Nat} (c : Nat) (f : Nat → Nat) (n : Nat) : mu M c (sg f n) = sg (fun i => mu M c (f i)) n := by
 induction n with
 | zero => exact mu_zero c
 | succ n ih => rw [sg,sg,mu_xor,ih]
theorem sg_one {f : Nat → Nat} {k : Nat} : ∀ n, (∀ i, i < n → i ≠ k → f i = 0) → sg f n = if k < n then f k else 0
 | 0,_ => by simp [sg]
 | n + 1,h => by
   rw [sg,sg_one n (fun i hi => h i (by omega))]
   by_cases e : n = k
   ·subst e;rw [if_neg (by omega),if_pos (by omega),Nat.zero_xor]
   ·rw [h n (by omega) e, Nat.xor_zero]
    by_cases hk : k < n
    ·rw [if_pos hk,if_pos (by omega)]
    ·rw [if_neg hk,if_neg (by omega)]
def Vc (M D : Nat) (v : Nat → Nat) : Prop := ∀ x,x < D → v x < 2 ^ M
inductive Sp (M D : Nat) (S : (Nat → Nat) → Prop) : (Nat → Nat) → Prop
 | zero {v : Nat → Nat} (h : ∀ x,x < D → v x = 0) : Sp M D S v
 | step {u s v : Nat → Nat} {c : Nat} (hu : Sp M D S u) (hs : S s) (hc : c < 2 ^ M) (h : ∀ x,x < D → v x = u x ^^^ mu M c (s x)) : Sp M D S v
section
variable {M D : Nat} {S S' : (Nat → Nat) → Prop} {u v s : Nat → Nat}
theorem Sp.congr (h : Sp M D S u) (e : ∀ x,x < D → v x = u x) : Sp M D S v := by
 cases h with
 | zero h => exact .zero fun x hx => by rw [e x hx,h x hx]
 | step hu hs hc h => exact .step hu hs hc fun x hx => by rw [e x hx,h x hx]
theorem Sp.add (hu : Sp M D S u) (hv : Sp M D S v) : Sp M D S (fun x => u x ^^^ v x) := by
 induction hv with
 | zero h => exact hu.congr fun x hx => by rw [h x hx,Nat.xor_zero]
 | step h1 hs hc h ih => exact .step ih hs hc fun x hx => by rw [h x hx,Nat.xor_assoc]
theorem Sp.smul (hM : FldM M) (hS : ∀ s,S s → Vc M D s) {c : Nat} (hc : c < 2 ^ M) (hu : Sp M D S u) : Sp M D S (fun x => mu M c (u x)) := by
 induction hu with
 | zero h => exact .zero fun x hx => by rw [h x hx,mu_zero]
 | step h1 hs hc2 h ih => exact .step ih hs (mu_lt hM hc _) fun x hx => by rw [h x hx,mu_xor,mu_assoc hM hc hc2 (hS _ hs x hx)]
theorem Sp.of (hM : FldM M) (hS : ∀ s,S s → Vc M D s) (hs : S s) : Sp M D S s :=
 .step (.zero (v := fun _ => 0) fun _ _ => rfl) hs (one_lt hM) fun x hx => by rw [Nat.zero_xor,one_mu hM (hS s hs x hx)]
theorem Sp.trans (hM : FldM M) (hS' : ∀ s,S' s → Vc M D s) (h : ∀ s,S s → Sp M D S' s) (hv : Sp M D S v) : Sp M D S' v := by
 induction hv with
 | zero h => exact .zero h
 | step h1 hs hc h2 ih => exact (ih.add ((h _ hs).smul hM hS' hc)).congr h2
theorem Sp.mono (h : ∀ s,S s → S' s) (hv : Sp M D S v) : Sp M D S' v := by
 induction hv with
 | zero h => exact .zero h
 | step h1 hs hc h2 ih => exact .step ih (h _ hs) hc h2
theorem Sp.vc (hM : FldM M) (hS : ∀ s,S s → Vc M D s) (hv : Sp M D S v) : Vc M D v := by
 induction hv with
 | zero h => exact fun x hx => by rw [h x hx];exact Nat.two_pow_pos M
 | step h1 hs hc h2 ih => exact fun x hx => by rw [h2 x hx];exact xor_lt' (ih x hx) (mu_lt hM hc _)
theorem Sp.vanish {x : Nat} (hx : x < D) (h : ∀ s,S s → s x = 0) (hv : Sp M D S v) : v x = 0 := by
 induction hv with
 | zero h => exact h x hx
 | step h1 hs hc h2 ih => rw [h2 x hx,ih,h _ hs,mu_zero,Nat.xor_zero]
theorem Sp.sum (hM : FldM M) (hS : ∀ s, S s → Vc M D s) {c : Nat → Nat} {w : Nat → Nat → Nat} : ∀ n, (∀ j, j < n → c j < 2 ^ M ∧ Sp M D S (w j)) → Sp M D S (fun x => sg (fun j => mu M (c j) (w j x)) n)
 | 0,_ => .zero fun _ _ => rfl
 | n + 1,h => (Sp.sum hM hS n fun j hj => h j (by omega)).add ((h n (by omega)).2.smul hM hS (h n (by omega)).1)
theorem Sp.split {r : Nat → Nat} (h : Sp M D (fun s => s = r ∨ S s) v) : ∃ c u,c < 2 ^ M ∧ Sp M D S u ∧ ∀ x,x < D → v x = u x ^^^ mu M c (r x) := by
 induction h with
 | zero h => exact ⟨0,fun _ => 0,Nat.two_pow_pos M,.zero fun _ _ => rfl,fun x hx => by rw [h x hx,zero_mu,Nat.xor_zero]⟩
 | step h1 hs hc h2 ih =>
   obtain ⟨c0,u0,e1,e2,e3⟩ := ih
   rcases hs with rfl | hs
   ·exact ⟨_,u0,xor_lt' e1 hc,e2,fun x hx => by rw [h2 x hx,e3 x hx,xor_mu,Nat.xor_assoc]⟩
   ·refine ⟨c0, _, e1, .step e2 hs hc fun x hx => rfl, fun x hx => ?_⟩
    rw [h2 x hx,e3 x hx,Nat.xor_assoc,Nat.xor_assoc,Nat.xor_comm (mu M c0 _)]
end
end
section
set_option linter.unusedSectionVars false
structure Iso (M D : Nat) (T S : (Nat → Nat) → Nat → Nat) : Prop where
 congr : ∀ u v,(∀ i,i < D → u i = v i) → ∀ i,i < D → T u i = T v i
 congrS : ∀ u v,(∀ i,i < D → u i = v i) → ∀ i,i < D → S u i = S v i
 lt : ∀ v,Vc M D v → Vc M D (T v)
 ltS : ∀ v,Vc M D v → Vc M D (S v)
 add : ∀ u v i,i < D → T (fun k => u k ^^^ v k) i = T u i ^^^ T v i
 smul : ∀ c v,c < 2 ^ M → Vc M D v → ∀ i,i < D → T (fun k => mu M c (v k)) i = mu M c (T v i)
 ts : ∀ v,Vc M D v → ∀ i,i < D → T (S v) i = v i
 st : ∀ v,Vc M D v → ∀ i,i < D → S (T v) i = v i
theorem Iso.id (M D : Nat) : Iso M D (fun v => v) (fun v => v) := ⟨fun _ _ h => h,fun _ _ h => h,fun _ h => h,fun _ h => h,fun _ _ _ _ => rfl,fun _ _ _ _ _ _ => rfl,fun _ _ _ _ => rfl,fun _ _ _ _ => rfl⟩
section
variable {M D : Nat} {T S T' S' : (Nat → Nat) → Nat → Nat}
theorem Iso.comp (h' : Iso M D T' S') (h : Iso M D T S) : Iso M D (fun v => T' (T v)) (fun v => S (S' v)) where
 congr u v e := h'.congr _ _ (h.congr u v e)
 congrS u v e := h.congrS _ _ (h'.congrS u v e)
 lt v hv := h'.lt _ (h.lt v hv)
 ltS v hv := h.ltS _ (h'.ltS v hv)
 add u v i hi := by
  rw [h'.congr _ _ (fun k hk => h.add u v k hk) i hi]
  exact h'.add _ _ i hi
 smul c v hc hv i hi := by
  rw [h'.congr _ _ (fun k hk => h.smul c v hc hv k hk) i hi]
  exact h'.smul c _ hc (h.lt v hv) i hi
 ts v hv i hi := by
  rw [h'.congr _ _ (fun k hk => h.ts _ (h'.ltS v hv) k hk) i hi]
  exact h'.ts v hv i hi
 st v hv i hi := by
  rw [h.congrS _ _ (fun k hk => h'.st _ (h.lt v hv) k hk) i hi]
  exact h.st v hv i hi
theorem Iso.zero (h : Iso M D T S) {v : Nat → Nat} (hv : ∀ i,i < D → v i = 0) (i : Nat) (hi : i < D) : T v i = 0 := by
 have h1 := h.add v v i hi
 rw [Nat.xor_self] at h1
 rw [← h1]
 exact h.congr _ _ (fun k hk => by rw [hv k hk,Nat.xor_self]) i hi
theorem Iso.sum (h : Iso M D T S) {c : Nat → Nat} {w : Nat → Nat → Nat} : ∀ n, (∀ j, j < n → c j < 2 ^ M ∧ Vc M D (w j)) → ∀ i, i < D → T (fun x => sg (fun j => mu M (c j) (w j x)) n) i = sg (fun j => mu M (c j) (T (w j) i)) n
 | 0,_,i,hi => h.zero (fun _ _ => rfl) i hi
 | n + 1,hc,i,hi => by
   show T (fun x => sg (fun j => mu M (c j) (w j x)) n ^^^ mu M (c n) (w n x)) i = _
   rw [h.add (fun x => sg (fun j => mu M (c j) (w j x)) n) (fun x => mu M (c n) (w n x)) i hi,Iso.sum h n (fun j hj => hc j (by omega)) i hi,h.smul _ _ (hc n (by omega)).1 (hc n (by omega)).2 i hi]
   rfl
theorem Iso.inj (h : Iso M D T S) {u v : Nat → Nat} (hu : Vc M D u) (hv : Vc M D v) (e : ∀ i,i < D → T u i = T v i) : ∀ i,i < D → u i = v i := fun i hi => by
 rw [← h.st u hu i hi,← h.st v hv i hi]
 exact h.congrS _ _ e i hi
theorem iso_swap {i k : Nat} (hi : i < D) (hk : k < D) : Iso M D (fun v r => if r = i then v k else if r = k then v i else v r) (fun v r => if r = i then v k else if r = k then v i else v r) where
 congr u v e r hr := by
  (try dsimp only)
  split
  ·exact e k hk
  ·split
   ·exact e i hi
   ·exact e r hr
 congrS u v e r hr := by
  (try dsimp only)
  split
  ·exact e k hk
  ·split
   ·exact e i hi
   ·exact e r hr
 lt v hv r hr := by
  (try dsimp only)
  split
  ·exact hv k hk
  ·split
   ·exact hv i hi
   ·exact hv r hr
 ltS v hv r hr := by
  (try dsimp only)
  split
  ·exact hv k hk
  ·split
   ·exact hv i hi
   ·exact hv r hr
 add u v r hr := by
  (try dsimp only)
  split
  ·rfl
  ·split <;> rfl
 smul c v hc hv r hr := by
  (try dsimp only)
  split
  ·rfl
  ·split <;> rfl
 ts v hv r hr := by
  (try dsimp only)
  by_cases h1 : r = i
  ·subst h1
   by_cases h2 : k = r
   ·subst h2;simp
   ·simp [h2]
  ·by_cases h2 : r = k
   ·subst h2;simp [h1]
   ·simp [h1,h2]
 st v hv r hr := by
  (try dsimp only)
  by_cases h1 : r = i
  ·subst h1
   by_cases h2 : k = r
   ·subst h2;simp
   ·simp [h2]
  ·by_cases h2 : r = k
   ·subst h2;simp [h1]
   ·simp [h1,h2]
theorem iso_scale (hM : FldM M) {p f g : Nat} (hp : p < D) (hf : f < 2 ^ M) (hg : g < 2 ^ M) (h1 : mu M f g = 1) : Iso M D (fun v r => if r = p then mu M f (v p) else v r) (fun v r => if r = p then mu M g (v p) else v r) where
 congr u v e r hr := by
  show (if _ then _ else _) = if _ then _ else _
  split
  ·rw [e p hp]
  ·exact e r hr
 congrS u v e r hr := by
  show (if _ then _ else _) = if _ then _ else _
  split
  ·rw [e p hp]
  ·exact e r hr
 lt v hv r hr := by
  (try dsimp only)
  split
  ·exact mu_lt hM hf _
  ·exact hv r hr
 ltS v hv r hr := by
  (try dsimp only)
  split
  ·exact mu_lt hM hg _
  ·exact hv r hr
 add u v r hr := by
  (try dsimp only)
  split
  ·exact mu_xor _ _ _
  ·rfl
 smul c v hc hv r hr := by
  (try dsimp only)
  split
  ·rw [← mu_assoc hM hf hc (hv p hp),mu_comm hM hf hc,mu_assoc hM hc hf (hv p hp)]
  ·rfl
 ts v hv r hr := by
  (try dsimp only)
  by_cases h : r = p
  ·subst h
   rw [if_pos rfl,if_pos rfl,← mu_assoc hM hf hg (hv r hr),h1,one_mu hM (hv r hr)]
  ·rw [if_neg h,if_neg h]
 st v hv r hr := by
  (try dsimp only)
  by_cases h : r = p
  ·subst h
   rw [if_pos rfl,if_pos rfl,← mu_assoc hM hg hf (hv r hr),mu_comm hM hg hf,h1,one_mu hM (hv r hr)]
  ·rw [if_neg h,if_neg h]
theorem iso_clear (hM : FldM M) {p : Nat} {g : Nat → Nat} (hp : p < D) (hg : ∀ r, r < D → g r < 2 ^ M) : Iso M D (fun v r => if r = p then v p else v r ^^^ mu M (g r) (v p)) (fun v r => if r = p then v p else v r ^^^ mu M (g r) (v p)) where
 congr u v e r hr := by
  (try dsimp only)
  split
  ·exact e p hp
  ·rw [e r hr,e p hp]
 congrS u v e r hr := by
  (try dsimp only)
  split
  ·exact e p hp
  ·rw [e r hr,e p hp]
 lt v hv r hr := by
  (try dsimp only)
  split
  ·exact hv p hp
  ·exact xor_lt' (hv r hr) (mu_lt hM (hg r hr) _)
 ltS v hv r hr := by
  (try dsimp only)
  split
  ·exact hv p hp
  ·exact xor_lt' (hv r hr) (mu_lt hM (hg r hr) _)
 add u v r hr := by
  (try dsimp only)
  split
  ·rfl
  ·rw [mu_xor];exact Gf.xor4 _ _ _ _
 smul c v hc hv r hr := by
  (try dsimp only)
  split
  ·rfl
  ·rw [mu_xor,← mu_assoc hM (hg r hr) hc (hv p hp),mu_comm hM (hg r hr) hc,mu_assoc hM hc (hg r hr) (hv p hp)]
 ts v hv r hr := by
  (try dsimp only)
  by_cases h : r = p
  ·subst h;simp
  ·rw [if_neg h,if_neg h,if_pos rfl,xor_self_cancel]
 st v hv r hr := by
  (try dsimp only)
  by_cases h : r = p
  ·subst h;simp
  ·rw [if_neg h,if_neg h,if_pos rfl,xor_self_cancel]
end
structure RedTo (M R C n : Nat) (L A : List Nat) (pv : List Nat) (T S : (Nat → Nat) → Nat → Nat) : Prop where
 iso : Iso M R T S
 col : ∀ c,c < C → ∀ r,r < R → gt C A r c = T (fun r => gt C L r c) r
 piv : ∀ q,q < pv.length → pv.getD q 0 < n ∧ ∀ r,r < R → gt C A r (pv.getD q 0) = if r = q then 1 else 0
 inc : ∀ q q',q < q' → q' < pv.length → pv.getD q 0 < pv.getD q' 0
 low : ∀ j,j < n → ∀ r,r < R → gt C A r j ≠ 0 → r < pv.length ∧ pv.getD r 0 ≤ j
theorem getD_app {α : Type} (l : List α) (x d : α) (q : Nat) : (l ++ [x]).getD q d = if q < l.length then l.getD q d else if q = l.length then x else d := by
 simp only [List.getD_eq_getElem?_getD]
 by_cases h : q < l.length
 ·rw [if_pos h,List.getElem?_append_left h]
 ·rw [if_neg h, List.getElem?_append_right (by omega)]
  by_cases e : q = l.length
  ·subst e;simp
  ·rw [if_neg e]
   have : q - l.length ≠ 0 := by omega
   obtain ⟨m,hm⟩ := Nat.exists_eq_succ_of_ne_zero this
   rw [hm];simp
theorem red_to {M R C : Nat} {L : List Nat} (hM : FldM M) (hn : L.length = R * C) (hL : ∀ x ∈ L, x < 2 ^ M) : ∀ n, n ≤ C → ∃ T S, RedTo M R C n L (red M R C L n).1 (red M R C L n).2 T S
 | 0,_ => ⟨_,_,Iso.id M R,fun _ _ _ _ => rfl,fun q hq => by simp [red] at hq,fun q q' _ hq => by simp [red] at hq,fun j hj => by omega⟩
 | n + 1,hnC => by
   obtain ⟨T,S,ih⟩ := red_to hM hn hL n (by omega)
   have hok := red_ok hM hn hL n
   rw [red]
   generalize red M R C L n = s at ih hok
   obtain ⟨A,pv⟩ := s
   have h1 := hok.len
   have h2 := hok.lt
   have h3 := hok.pr
   dsimp only at ih h1 h2 h3
   have hf := findP_le n A (R - pv.length) pv.length (C := C)
   have hs := findP_spec (C := C) (L := A) n (R - pv.length) pv.length
   rw [redStep]
   dsimp only
   generalize findP C n A (R - pv.length) pv.length = i at hf hs
   have hAl : ∀ r c,gt C A r c < 2 ^ M := fun r c => getD_lt h2 _
   by_cases hiR : i = R
   ·rw [if_pos hiR]
    refine ⟨T,S,ih.iso,ih.col,fun q hq => ⟨Nat.lt_succ_of_lt (ih.piv q hq).1,(ih.piv q hq).2⟩,ih.inc,fun j hj r hr h0 => ?_⟩
    by_cases hjn : j < n
    ·exact ih.low j hjn r hr h0
    ·have : j = n := by omega
     subst this
     by_cases hrp : r < pv.length
     ·exact ⟨hrp,Nat.le_of_lt (ih.piv r hrp).1⟩
     ·exact absurd (hs.1 r (by omega) (by omega)) h0
   ·rw [if_neg hiR]
    have hiR' : i < R := by omega
    have hp : pv.length < R := by omega
    have hne := hs.2 (by omega)
    have hnC' : n < C := by omega
    have s1 : ∀ r c,c < C → gt C (swapAt (i * C) (pv.length * C) A C) r c = if r = i then gt C A pv.length c else if r = pv.length then gt C A i c else gt C A r c := fun r c hc => gt_swap h1 hiR' hp hc
    have l1 : (swapAt (i * C) (pv.length * C) A C).length = R * C := by rw [swapAt_length];exact h1
    have b1 : ∀ x ∈ swapAt (i * C) (pv.length * C) A C,x < 2 ^ M := swapAt_lt _ _ h2 _
    have hx : gt C (swapAt (i * C) (pv.length * C) A C) pv.length n = gt C A i n := by
     rw [s1 _ _ hnC']
     by_cases e : pv.length = i
     ·rw [if_pos e,e]
     ·rw [if_neg e,if_pos rfl]
    have hxe : (swapAt (i * C) (pv.length * C) A C).getD (pv.length * C + n) 0 = gt C A i n := hx
    rw [hxe]
    generalize swapAt (i * C) (pv.length * C) A C = L1 at *
    have hxl := hAl i n
    obtain ⟨v1,v2⟩ := inv_mu hM hne hxl
    have hvl : invN M (gt C A i n) < 2 ^ M := invN_lt _
    generalize invN M (gt C A i n) = f at *
    generalize hxx : gt C A i n = x at *
    have s2 : ∀ r c,c < C → gt C (scaleAt M f (pv.length * C) L1 C) r c = if r = pv.length then mu M f (gt C L1 pv.length c) else gt C L1 r c := fun r c hc => gt_scale l1 hp hc
    have l2 : (scaleAt M f (pv.length * C) L1 C).length = R * C := by rw [scaleAt_length];exact l1
    have b2 : ∀ y ∈ scaleAt M f (pv.length * C) L1 C,y < 2 ^ M := scaleAt_lt hM hvl _ b1 _
    generalize scaleAt M f (pv.length * C) L1 C = L2 at *
    have s3 : ∀ r c,r < R → c < C → gt C (clearAt M C n pv.length L2 R) r c = if r = pv.length then gt C L2 pv.length c else gt C L2 r c ^^^ mu M (gt C L2 r n) (gt C L2 pv.length c) := fun r c hr hc => gt_clear l2 hnC' hr hc
    generalize clearAt M C n pv.length L2 R = A2 at *
    have hg2 : ∀ r,r < R → gt C L2 r n < 2 ^ M := fun r _ => getD_lt b2 _
    -- the column of an earlier pivot or of none: nothing changes there
    have keep : ∀ c,c < C → (∀ r,pv.length ≤ r → r < R → gt C A r c = 0) → ∀ r,r < R → gt C A2 r c = gt C A r c := fun c hc hz r hr => by
     have z1 : ∀ r,r < R → gt C L1 r c = gt C A r c := fun r hr => by
      rw [s1 r c hc]
      by_cases e1 : r = i
      ·rw [if_pos e1,e1,hz _ (Nat.le_refl _) hp,hz i (by omega) hiR']
      ·rw [if_neg e1]
       by_cases e2 : r = pv.length
       ·rw [if_pos e2,e2,hz _ (Nat.le_refl _) hp,hz i (by omega) hiR']
       ·rw [if_neg e2]
     have z2 : ∀ r,r < R → gt C L2 r c = gt C A r c := fun r hr => by
      rw [s2 r c hc]
      by_cases e2 : r = pv.length
      ·rw [if_pos e2,z1 _ hp,e2,hz _ (Nat.le_refl _) hp,mu_zero]
      ·rw [if_neg e2,z1 r hr]
     rw [s3 r c hr hc]
     by_cases e2 : r = pv.length
     ·rw [if_pos e2,e2,z2 _ hp]
     ·rw [if_neg e2,z2 r hr,z2 _ hp,hz _ (Nat.le_refl _) hp,mu_zero,Nat.xor_zero]
    have pivn : ∀ r,r < R → gt C A2 r n = if r = pv.length then 1 else 0 := fun r hr => by
     have e0 : gt C L2 pv.length n = 1 := by rw [s2 _ _ hnC',if_pos rfl,hx];exact v1
     rw [s3 r n hr hnC',e0]
     by_cases e2 : r = pv.length
     ·rw [if_pos e2,if_pos e2]
     ·rw [if_neg e2,if_neg e2,mu_one hM (hg2 r hr),Nat.xor_self]
    have i1 := iso_swap (M := M) (D := R) hiR' hp
    have i2 := iso_scale (M := M) (D := R) hM hp hvl hxl v1
    have i3 := iso_clear (M := M) (D := R) hM hp hg2
    have i4 := (i3.comp (i2.comp i1)).comp ih.iso
    refine ⟨_,_,i4,fun c hc r hr => ?_,fun q hq => ?_,fun q q' hqq hq => ?_,fun j hj r hr h0 => ?_⟩
    ·have e1 : ∀ k, k < R → gt C A k c = T (fun r => gt C L r c) k := ih.col c hc
     have := (i3.comp (i2.comp i1)).congr _ _ e1 r hr
     rw [← this]
     rw [s3 r c hr hc,s2 _ _ hc,s2 _ _ hc,s1 _ _ hc,s1 _ _ hc]
    ·rw [List.length_append, List.length_singleton] at hq
     rw [getD_app]
     by_cases hq1 : q < pv.length
     ·rw [if_pos hq1]
      obtain ⟨q1,q2⟩ := ih.piv q hq1
      refine ⟨by omega,fun r hr => ?_⟩
      rw [keep _ (by omega) (fun r h4 h5 => by rw [q2 r h5,if_neg (by omega)]) r hr,q2 r hr]
     ·have : q = pv.length := by omega
      subst this
      rw [if_neg (by omega),if_pos rfl]
      exact ⟨by omega,pivn⟩
    ·rw [List.length_append, List.length_singleton] at hq
     rw [getD_app,getD_app,if_pos (by omega)]
     by_cases hq1 : q' < pv.length
     ·rw [if_pos hq1];exact ih.inc q q' hqq hq1
     ·rw [if_neg hq1, if_pos (by omega)]
      exact (ih.piv q (by omega)).1
    ·rw [List.length_append, List.length_singleton]
     by_cases hjn : j < n
     ·have hz : ∀ r,pv.length ≤ r → r < R → gt C A r j = 0 := fun r h4 h5 => by
       by_cases e : gt C A r j = 0
       ·exact e
       ·have := (ih.low j hjn r h5 e).1;(try dsimp only at this);omega
      rw [keep j (by omega) hz r hr] at h0
      have := ih.low j hjn r hr h0
      (try dsimp only at this)
      refine ⟨by omega,?_⟩
      rw [getD_app,if_pos this.1];exact this.2
     ·have : j = n := by omega
      subst this
      rw [pivn r hr] at h0
      have e : r = pv.length := by
       by_cases e : r = pv.length
       ·exact e
       ·rw [if_neg e] at h0;exact absurd rfl h0
      subst e
      refine ⟨by omega,?_⟩
      rw [getD_app,if_neg (by omega),if_pos rfl]
      exact Nat.le_refl _
end
section
set_option linter.unusedSectionVars false
theorem gt_trAt {R C : Nat} {L B : List Nat} (hB : B.length = C * R) : ∀ n, n ≤ R * C → ∀ r c, r < R → c < C → gt R (trAt R C L B n) c r = if r * C + c < n then gt C L r c else gt R B c r
 | 0,_,r,c,_,_ => by rw [if_neg (by omega)];rfl
 | n + 1,hn,r,c,hr,hc => by
   have ih := gt_trAt (L := L) hB n (by omega) r c hr hc
   have hC : 0 < C := by omega
   have h1 : n % C < C := Nat.mod_lt _ hC
   have h2 : n / C < R := by
    rw [Nat.div_lt_iff_lt_mul hC];omega
   have h3 : n / C * C + n % C = n := by rw [Nat.mul_comm];exact Nat.div_add_mod n C
   rw [trAt,gt_set (R := C) (C := R) (by rw [trAt_length];exact hB) h1 h2 hr,ih]
   by_cases e : c = n % C ∧ r = n / C
   ·obtain ⟨e1, e2⟩ := e
    rw [if_pos ⟨e1,e2⟩,if_pos (by rw [e1,e2,h3];omega)]
    show L.getD n 0 = L.getD (r * C + c) 0
    rw [e1,e2,h3]
   ·rw [if_neg e]
    have hne : r * C + c ≠ n := fun h => e (by
     rw [← h3] at h
     obtain ⟨a,b⟩ := idx_inj hc h1 h
     exact ⟨b,a⟩)
    by_cases hlt : r * C + c < n
    ·rw [if_pos hlt,if_pos (by omega)]
    ·rw [if_neg hlt,if_neg (by omega)]
theorem gt_tr {R C : Nat} {L : List Nat} {r c : Nat} (hr : r < R) (hc : c < C) : gt R (trN R C L) c r = gt C L r c := by
 unfold trN
 rw [gt_trAt (by simp) _ (Nat.le_refl _) r c hr hc,if_pos (idx_lt hr hc)]
theorem gt_pick {R C : Nat} {l : List Nat} (hn : l.length = R * C) {c : Nat} (hc : c < C) : ∀ (is : List Nat), (∀ i ∈ is, i < R) → ∀ k, k < is.length → gt C (pickN C l is) k c = gt C l (is.getD k 0) c
 | [],_,k,hk => by simp at hk
 | i :: is,h,k,hk => by
   have hi := h i (by simp)
   have h1 := Nat.mul_le_mul_right C (show i + 1 ≤ R from hi)
   rw [Nat.add_mul,Nat.one_mul] at h1
   have hl : ((l.drop (i * C)).take C).length = C := by rw [List.length_take,List.length_drop];omega
   unfold gt
   rw [pickN,List.getD_eq_getElem?_getD]
   cases k with
   | zero =>
     rw [List.getElem?_append_left (by omega),Nat.zero_mul,Nat.zero_add,List.getElem?_take_of_lt hc,List.getElem?_drop]
     rfl
   | succ k =>
     rw [List.getElem?_append_right (by rw [hl,Nat.add_mul];omega),hl,show (k + 1) * C + c - C = k * C + c by rw [Nat.add_mul];omega]
     have := gt_pick hn hc is (fun x hx => h x (by simp [hx])) k (by simpa using hk)
     unfold gt at this
     rw [List.getD_eq_getElem?_getD] at this
     rw [this]
     rfl
def U (D : Nat) (gen : List Nat) (u : Nat) : Nat → Nat := fun x => gt D gen u x
theorem U_vc {M R D : Nat} {gen : List Nat} (h : MxOk M R D gen) (u : Nat) : Vc M D (U D gen u) := fun x _ => getD_lt h.e _
theorem pres_inc (hv : List Bool) (n : Nat) : (presAt hv n).Pairwise (· < ·) := List.Pairwise.filter _ List.pairwise_lt_range
theorem getD_inc {l : List Nat} (h : l.Pairwise (· < ·)) {q q' : Nat} (hq : q < q') (hq' : q' < l.length) : l.getD q 0 < l.getD q' 0 := by
 rw [List.getD_eq_getElem?_getD,List.getD_eq_getElem?_getD,List.getElem?_eq_getElem hq',List.getElem?_eq_getElem (show q < l.length by omega)]
 exact List.pairwise_iff_getElem.1 h q q' _ _ hq
theorem getD_mem {l : List Nat} {q : Nat} (h : q < l.length) : l.getD q 0 ∈ l := by
 rw [List.getD_eq_getElem?_getD,List.getElem?_eq_getElem h]
 exact List.getElem_mem h
theorem mem_pres {hv : List Bool} {u : Nat} : u ∈ presN hv ↔ hv.getD u false = true := by
 unfold presN presAt
 rw [List.mem_filter,List.mem_range]
 constructor
 ·exact fun h => h.2
 ·intro h
  refine ⟨?_,h⟩
  by_cases hl : u < hv.length
  ·exact hl
  ·rw [List.getD_eq_getElem?_getD, List.getElem?_eq_none (by omega)] at h
   cases h
structure Bas (M D : Nat) (gen : List Nat) (hv : List Bool) (B : List Nat) (T S : (Nat → Nat) → Nat → Nat) : Prop where
 iso : Iso M D T S
 le : B.length ≤ D
 mem : ∀ q,q < B.length → hv.getD (B.getD q 0) false = true
 inc : ∀ q q',q < q' → q' < B.length → B.getD q 0 < B.getD q' 0
 unit : ∀ q,q < B.length → ∀ r,r < D → T (U D gen (B.getD q 0)) r = if r = q then 1 else 0
 low : ∀ u,hv.getD u false = true → ∀ r,r < D → T (U D gen u) r ≠ 0 → r < B.length ∧ B.getD r 0 ≤ u
theorem map_getD {α : Type} {f : Nat → α} {l : List Nat} {q : Nat} (d : α) (h : q < l.length) : (l.map f).getD q d = f (l.getD q 0) := by
 rw [List.getD_eq_getElem?_getD,List.getD_eq_getElem?_getD,List.getElem?_map,List.getElem?_eq_getElem h]
 rfl
theorem basis_to {M D : Nat} {ps : List (List Nat)} {hv : List Bool} (h : CodeOk M D ps) (hl : hv.length = D + ps.length) : ∃ T S,Bas M D (genN D ps) hv (basisN M D ps hv) T S := by
 have hgok := gen_ok h
 have hplt : ∀ x ∈ presN hv,x < D + ps.length := fun x hx => by have := presAt_lt hx;omega
 have hpl : (presN hv).length ≤ 32 := by have := presAt_length hv hv.length;have := h.w;show (presAt hv hv.length).length ≤ 32;omega
 have hpk := pick_ok hgok hplt hpl
 have hbl := basis_len h hl
 have hcol : ∀ c,c < (presN hv).length → ∀ r,r < D → gt (presN hv).length (trN (presN hv).length D (pickN D (genN D ps) (presN hv))) r c = U D (genN D ps) ((presN hv).getD c 0) r := fun c hc r hr => by
  rw [gt_tr hc hr,gt_pick hgok.n hr _ hplt c hc]
  rfl
 obtain ⟨T,S,hr⟩ := red_to (M := M) (R := D) (C := (presN hv).length) (L := trN (presN hv).length D (pickN D (genN D ps) (presN hv))) h.f (trN_length _ _ _) (trN_lt hpk.e) (presN hv).length (Nat.le_refl _)
 have hB : basisN M D ps hv = (red M D (presN hv).length (trN (presN hv).length D (pickN D (genN D ps) (presN hv))) (presN hv).length).2.map fun j => (presN hv).getD j 0 := rfl
 generalize (red M D (presN hv).length (trN (presN hv).length D (pickN D (genN D ps) (presN hv))) (presN hv).length).1 = A at *
 generalize (red M D (presN hv).length (trN (presN hv).length D (pickN D (genN D ps) (presN hv))) (presN hv).length).2 = pv at *
 have hBl : (basisN M D ps hv).length = pv.length := by rw [hB,List.length_map]
 have hBq : ∀ q,q < pv.length → (basisN M D ps hv).getD q 0 = (presN hv).getD (pv.getD q 0) 0 := fun q hq => by rw [hB];exact map_getD 0 hq
 have hT : ∀ c,c < (presN hv).length → ∀ r,r < D → T (U D (genN D ps) ((presN hv).getD c 0)) r = gt (presN hv).length A r c := fun c hc r hr' => by
  rw [hr.col c hc r hr']
  exact hr.iso.congr _ _ (fun k hk => (hcol c hc k hk).symm) r hr'
 refine ⟨T,S,hr.iso,hbl,fun q hq => ?_,fun q q' h1 h2 => ?_,fun q hq r hr' => ?_,fun u hu r hr' h0 => ?_⟩
 ·rw [hBl] at hq
  rw [hBq q hq]
  exact mem_pres.1 (getD_mem (hr.piv q hq).1)
 ·rw [hBl] at h2
  rw [hBq q (by omega),hBq q' h2]
  exact getD_inc (pres_inc hv _) (hr.inc q q' h1 h2) (hr.piv q' h2).1
 ·rw [hBl] at hq
  rw [hBq q hq,hT _ (hr.piv q hq).1 r hr']
  exact (hr.piv q hq).2 r hr'
 ·obtain ⟨c, hc, e⟩ := List.getElem_of_mem (mem_pres.2 hu)
  have e2 : (presN hv).getD c 0 = u := by rw [List.getD_eq_getElem?_getD,List.getElem?_eq_getElem hc];exact e
  rw [← e2,hT c hc r hr'] at h0
  obtain ⟨h1,h2⟩ := hr.low c hc r hr' h0
  refine ⟨by omega,?_⟩
  rw [hBq r h1,← e2]
  by_cases e3 : pv.getD r 0 = c
  ·rw [e3];exact Nat.le_refl _
  ·exact Nat.le_of_lt (getD_inc (pres_inc hv _) (by omega) hc)
section
variable {M D : Nat} {gen : List Nat} {hv : List Bool} {B : List Nat} {T S : (Nat → Nat) → Nat → Nat}
def BS (D : Nat) (gen B : List Nat) : (Nat → Nat) → Prop := fun s => ∃ q,q < B.length ∧ s = U D gen (B.getD q 0)
theorem Bas.span (hM : FldM M) (hg : ∀ u,Vc M D (U D gen u)) (h : Bas M D gen hv B T S) {v : Nat → Nat} (hv' : Vc M D v) (hz : ∀ r,r < D → B.length ≤ r → T v r = 0) : Sp M D (BS D gen B) v := by
 have hS : ∀ s,BS D gen B s → Vc M D s := fun s ⟨q,_,e⟩ => by rw [e];exact hg _
 have hsum := Sp.sum (M := M) (D := D) (S := BS D gen B) hM hS (c := fun q => T v q) (w := fun q => U D gen (B.getD q 0)) B.length (fun q hq => ⟨h.iso.lt v hv' q (by have := h.le;omega),Sp.of hM hS ⟨q,hq,rfl⟩⟩)
 refine hsum.congr fun x hx => ?_
 have hw : Vc M D (fun x => sg (fun q => mu M (T v q) (U D gen (B.getD q 0) x)) B.length) := hsum.vc hM hS
 refine (h.iso.inj hv' hw fun i hi => ?_) x hx
 rw [h.iso.sum B.length (fun q hq => ⟨h.iso.lt v hv' q (by have := h.le;omega),hg _⟩) i hi]
 rw [sg_congr B.length (fun q hq => show mu M (T v q) (T (U D gen (B.getD q 0)) i) = if q = i then T v i else 0 by
  rw [h.unit q hq i hi]
  by_cases e : i = q
  ·subst e;rw [if_pos rfl,if_pos rfl,mu_one hM (h.iso.lt v hv' i hi)]
  ·rw [if_neg e,if_neg (fun e2 => e e2.symm),mu_zero])]
 rw [sg_one (k := i) B.length (fun q _ hne => if_neg hne),if_pos rfl]
 by_cases e : i < B.length
 ·rw [if_pos e]
 ·rw [if_neg e,hz i hi (by omega)]
theorem Bas.low' (hM : FldM M) (hg : ∀ u,Vc M D (U D gen u)) (h : Bas M D gen hv B T S) {v : Nat → Nat} (hsp : Sp M D (BS D gen B) v) : ∀ r,r < D → B.length ≤ r → T v r = 0 := by
 induction hsp with
 | zero h0 => exact fun r hr _ => h.iso.zero h0 r hr
 | step h1 hs hc h2 ih =>
   obtain ⟨q,hq,rfl⟩ := hs
   intro r hr hle
   rename_i u v c
   have hUv : T (U D gen (B.getD q 0)) r = 0 := by rw [h.unit q hq r hr,if_neg (by omega)]
   rw [h.iso.congr _ _ h2 r hr,h.iso.add u (fun x => mu M c (U D gen (B.getD q 0) x)) r hr,ih r hr hle,Nat.zero_xor]
   rw [h.iso.smul c _ hc (hg _) r hr,hUv,mu_zero]
theorem Bas.present (hM : FldM M) (hg : ∀ u,Vc M D (U D gen u)) (h : Bas M D gen hv B T S) {u : Nat} (hu : hv.getD u false = true) : Sp M D (BS D gen B) (U D gen u) :=
 h.span hM hg (hg u) fun r hr hle => by
  by_cases e : T (U D gen u) r = 0
  ·exact e
  ·have := (h.low u hu r hr e).1;omega
end
end
section
set_option linter.unusedSectionVars false
theorem addV_get (M f : Nat) (T l : List Nat) : ∀ k, k ≤ T.length → ∀ i, i < T.length → (addV M f T l k).getD i 0 = if i < k then T.getD i 0 ^^^ mu M f (l.getD i 0) else T.getD i 0
 | 0,_,i,_ => by rw [if_neg (by omega)];rfl
 | k + 1,hk,i,hi => by
   have ih := addV_get M f T l k (by omega)
   rw [addV,set_getD _ _ _ _ (by rw [addV_length];exact hi)]
   by_cases e : i = k
   ·subst e
    rw [if_pos rfl,if_pos (by omega),ih i hi,if_neg (by omega)]
   ·rw [if_neg e, ih i hi]
    by_cases h : i < k
    ·rw [if_pos h,if_pos (by omega)]
    ·rw [if_neg h,if_neg (by omega)]
abbrev Rd := Nat × List Nat × List Nat
section
variable {M D n : Nat} {s : List Nat × List Nat} {r : Rd}
theorem subR_1 (hs : SubOk M D n s) (hr : RedRow M D n r) {x : Nat} (hx : x < D) : (subR M s r).1.getD x 0 = s.1.getD x 0 ^^^ mu M (s.1.getD r.1 0) (r.2.1.getD x 0) := by
 unfold subR
 by_cases e : s.1.getD r.1 0 = 0
 ·rw [if_pos e,e,zero_mu,Nat.xor_zero]
 ·rw [if_neg e]
  show (addV M _ s.1 r.2.1 r.2.1.length).getD x 0 = _
  rw [addV_get _ _ _ _ _ (by rw [hs.l1,hr.l1];exact Nat.le_refl _) x (by rw [hs.l1];exact hx),if_pos (by rw [hr.l1];exact hx)]
theorem subR_2 (hs : SubOk M D n s) (hr : RedRow M D n r) {q : Nat} (hq : q < n) : (subR M s r).2.getD q 0 = s.2.getD q 0 ^^^ mu M (s.1.getD r.1 0) (r.2.2.getD q 0) := by
 unfold subR
 by_cases e : s.1.getD r.1 0 = 0
 ·rw [if_pos e,e,zero_mu,Nat.xor_zero]
 ·rw [if_neg e]
  show (addV M _ s.2 r.2.2 r.2.2.length).getD q 0 = _
  rw [addV_get _ _ _ _ _ (by rw [hs.l2,hr.l2];exact Nat.le_refl _) q (by rw [hs.l2];exact hq),if_pos (by rw [hr.l2];exact hq)]
end
structure Rw (M D n : Nat) (W : Nat → Nat → Nat) (r : Rd) : Prop where
 ok : RedRow M D n r
 comb : ∀ x,x < D → r.2.1.getD x 0 = sg (fun q => mu M (r.2.2.getD q 0) (W q x)) n
 lead : r.2.1.getD r.1 0 = 1
def Tri (rows : List Rd) : Prop := rows.Pairwise fun a b => b.2.1.getD a.1 0 = 0
def RS (rows : List Rd) : (Nat → Nat) → Prop := fun s => ∃ r,r ∈ rows ∧ s = fun x => r.2.1.getD x 0
section
variable {M D n : Nat} {W : Nat → Nat → Nat} {rows : List Rd}
theorem RS_vc (h : ∀ r ∈ rows,Rw M D n W r) : ∀ s,RS rows s → Vc M D s := fun s ⟨r,hr,e⟩ x hx => by rw [e];exact getD_lt (h r hr).ok.e1 _
theorem tri_zero (hM : FldM M) : ∀ {rows : List Rd}, (∀ r ∈ rows, Rw M D n W r) → Tri rows → ∀ {v : Nat → Nat}, Sp M D (RS rows) v → (∀ r ∈ rows, v r.1 = 0) → ∀ x, x < D → v x = 0
 | [],_,_,v,hv,_ => by
   cases hv with
   | zero h => exact h
   | step _ hs _ _ => obtain ⟨r,hr,_⟩ := hs;simp at hr
 | r :: rows,h,ht,v,hv,h0 => by
   have hr := h r (by simp)
   obtain ⟨t1,t2⟩ := List.pairwise_cons.1 ht
   have hv2 : Sp M D (fun s => s = (fun x => r.2.1.getD x 0) ∨ RS rows s) v := hv.mono fun s ⟨a,ha,e⟩ => by
    rcases List.mem_cons.1 ha with rfl | ha
    ·exact .inl e
    ·exact .inr ⟨a,ha,e⟩
   obtain ⟨c,u,hc,hu,e⟩ := hv2.split
   have hcz : c = 0 := by
    have e1 := e r.1 hr.ok.c
    rw [h0 r (by simp),hr.lead,mu_one hM hc,hu.vanish hr.ok.c (fun s ⟨a,ha,e⟩ => by rw [e];exact t1 a ha),Nat.zero_xor] at e1
    exact e1.symm
   subst hcz
   have e2 : ∀ x,x < D → v x = u x := fun x hx => by rw [e x hx,zero_mu,Nat.xor_zero]
   intro x hx
   rw [e2 x hx]
   exact tri_zero hM (fun a ha => h a (by simp [ha])) t2 hu (fun a ha => by rw [← e2 a.1 (h a (by simp [ha])).ok.c];exact h0 a (by simp [ha])) x hx
structure Rst (M D n : Nat) (W : Nat → Nat → Nat) (row : Nat → Nat) (s : List Nat × List Nat) : Prop where
 ok : SubOk M D n s
 sum : ∀ x,x < D → s.1.getD x 0 = row x ^^^ sg (fun q => mu M (s.2.getD q 0) (W q x)) n
theorem fold_rst (hM : FldM M) (hW : ∀ q, Vc M D (W q)) {row : Nat → Nat} : ∀ (rows : List Rd), (∀ r ∈ rows, Rw M D n W r) → ∀ s, Rst M D n W row s → Rst M D n W row (rows.foldl (subR M) s)
 | [],_,s,h => h
 | r :: rows,hr,s,h => by
   refine fold_rst hM hW rows (fun a ha => hr a (by simp [ha])) _ ⟨sub_ok hM h.ok (hr r (by simp)).ok,fun x hx => ?_⟩
   have hr1 := hr r (by simp)
   rw [subR_1 h.ok hr1.ok hx,h.sum x hx,hr1.comb x hx,Nat.xor_assoc,sg_mu,← sg_xor]
   congr 1
   refine sg_congr n fun q hq => ?_
   rw [subR_2 h.ok hr1.ok hq,xor_mu,mu_assoc hM (getD_lt h.ok.e1 _) (getD_lt hr1.ok.e2 _) (hW q x hx)]
theorem fold_keep {c : Nat} (hc : c < D) (hM : FldM M) : ∀ (rows : List Rd), (∀ r ∈ rows, RedRow M D n r ∧ r.2.1.getD c 0 = 0) → ∀ s, SubOk M D n s → (rows.foldl (subR M) s).1.getD c 0 = s.1.getD c 0
 | [],_,s,_ => rfl
 | r :: rows,hr,s,h => by
   obtain ⟨h1,h2⟩ := hr r (by simp)
   show (rows.foldl (subR M) (subR M s r)).1.getD c 0 = _
   rw [fold_keep hc hM rows (fun a ha => hr a (by simp [ha])) _ (sub_ok hM h h1),subR_1 h h1 hc,h2,mu_zero,Nat.xor_zero]
theorem fold_zero (hM : FldM M) : ∀ (rows : List Rd), (∀ r ∈ rows, Rw M D n W r) → Tri rows → ∀ s, SubOk M D n s → ∀ r ∈ rows, (rows.foldl (subR M) s).1.getD r.1 0 = 0
 | [],_,_,_,_,r,hr => by simp at hr
 | a :: rows,h,ht,s,hs,r,hr => by
   obtain ⟨t1,t2⟩ := List.pairwise_cons.1 ht
   have ha := h a (by simp)
   show (rows.foldl (subR M) (subR M s a)).1.getD r.1 0 = 0
   rcases List.mem_cons.1 hr with rfl | hr
   ·rw [fold_keep ha.ok.c hM rows (fun b hb => ⟨(h b (by simp [hb])).ok,t1 b hb⟩) _ (sub_ok hM hs ha.ok),subR_1 hs ha.ok ha.ok.c,ha.lead,mu_one hM (getD_lt hs.e1 _),Nat.xor_self]
   ·exact fold_zero hM rows (fun b hb => h b (by simp [hb])) t2 _ (sub_ok hM hs ha.ok) r hr
theorem fold_span (hM : FldM M) {all : List Rd} (hall : ∀ r ∈ all, Rw M D n W r) : ∀ (rows : List Rd), (∀ r ∈ rows, r ∈ all) → ∀ s, SubOk M D n s → Sp M D (RS all) (fun x => s.1.getD x 0 ^^^ (rows.foldl (subR M) s).1.getD x 0)
 | [],_,s,_ => .zero fun x hx => by simp
 | r :: rows,hr,s,hs => by
   have h1 := hall r (hr r (by simp))
   have ih := fold_span hM hall rows (fun a ha => hr a (by simp [ha])) _ (sub_ok hM hs h1.ok)
   refine .step ih ⟨r,hr r (by simp),rfl⟩ (c := s.1.getD r.1 0) (getD_lt hs.e1 _) fun x hx => ?_
   show s.1.getD x 0 ^^^ (rows.foldl (subR M) (subR M s r)).1.getD x 0 = _
   rw [subR_1 hs h1.ok hx]
   generalize s.1.getD x 0 = a
   generalize (rows.foldl (subR M) (subR M s r)).1.getD x 0 = b
   generalize mu M (s.1.getD r.1 0) (r.2.1.getD x 0) = c
   rw [Nat.xor_assoc a c b,Nat.xor_comm c b,← Nat.xor_assoc,xor_self_cancel]
end
theorem findNZ_lt {l : List Nat} (h : findNZ l < l.length) : l.getD (findNZ l) 0 ≠ 0 := by
 have := List.findIdx_getElem (xs := l) (p := fun x => x != 0) (w := h)
 rw [List.getD_eq_getElem?_getD,List.getElem?_eq_getElem h]
 have h3 : ¬ (l[List.findIdx (fun x => x != 0) l]'h = 0) := by simpa using this
 exact h3
theorem findNZ_ge {l : List Nat} (h : ¬ findNZ l < l.length) (x : Nat) : l.getD x 0 = 0 := by
 rw [List.getD_eq_getElem?_getD]
 by_cases hx : x < l.length
 ·rw [List.getElem?_eq_getElem hx]
  have h2 : findNZ l = l.length := by
   have := List.findIdx_le_length (xs := l) (p := fun x => x != 0)
   unfold findNZ at *;omega
  have := List.findIdx_eq_length.1 h2 l[x] (List.getElem_mem hx)
  simpa using this
 ·rw [List.getElem?_eq_none (by omega)];rfl
theorem row_getD {M R D u : Nat} {gen : List Nat} (h : MxOk M R D gen) (hu : u < R) {x : Nat} (hx : x < D) : ((gen.drop (u * D)).take D).getD x 0 = U D gen u x := by
 rw [List.getD_eq_getElem?_getD,List.getElem?_take_of_lt hx,List.getElem?_drop]
 unfold U gt
 rw [List.getD_eq_getElem?_getD]
structure SpTo (M D : Nat) (gen B : List Nat) (k : Nat) (rows : List Rd) : Prop where
 rw : ∀ r ∈ rows,Rw M D B.length (fun q => U D gen (B.getD q 0)) r
 tri : Tri rows
 all : ∀ q,q < k → Sp M D (RS rows) (U D gen (B.getD q 0))
theorem span_to {M R D : Nat} {gen B : List Nat} (hM : FldM M) (hg : MxOk M R D gen) (hB : ∀ u ∈ B, u < R) : ∀ k, k ≤ B.length → SpTo M D gen B k (spanAt M D B.length gen B k)
 | 0,_ => ⟨fun r hr => by simp [spanAt] at hr,List.Pairwise.nil,fun q hq => by omega⟩
 | k + 1,hk => by
   have ih := span_to hM hg hB k (by omega)
   have hok := span_ok (n := B.length) hM hg hB k (by omega)
   rw [spanAt]
   generalize spanAt M D B.length gen B k = rows at ih hok
   have hbk : B.getD k 0 < R := hB _ (getD_mem (by omega))
   obtain ⟨p1,p2⟩ := pick_row hg hbk
   have hW : ∀ q,Vc M D (U D gen (B.getD q 0)) := fun q => U_vc hg _
   have hs0 : SubOk M D B.length ((gen.drop (B.getD k 0 * D)).take D,List.replicate B.length 0) := ⟨p1,List.length_replicate,p2,fun x hx => by rw [List.eq_of_mem_replicate hx];exact Nat.two_pow_pos M⟩
   have hr0 : Rst M D B.length (fun q => U D gen (B.getD q 0)) (U D gen (B.getD k 0)) ((gen.drop (B.getD k 0 * D)).take D,List.replicate B.length 0) := ⟨hs0,fun x hx => by
    rw [row_getD hg hbk hx,sg_congr B.length (fun q hq => show mu M ((List.replicate B.length 0).getD q 0) _ = 0 by
     rw [List.getD_eq_getElem?_getD,List.getElem?_replicate,if_pos hq];exact zero_mu _),sg_zero,Nat.xor_zero]⟩
   have hr := fold_rst hM hW rows ih.rw _ hr0
   have hz := fold_zero hM rows ih.rw ih.tri _ hs0
   have hsp := fold_span hM ih.rw rows (fun _ h => h) _ hs0
   unfold spanStep
   dsimp only
   change Rst M D B.length _ _ (redV M B.length ((gen.drop (B.getD k 0 * D)).take D) rows) at hr
   change ∀ r ∈ rows,(redV M B.length ((gen.drop (B.getD k 0 * D)).take D) rows).1.getD r.1 0 = 0 at hz
   change Sp M D (RS rows) (fun x => ((gen.drop (B.getD k 0 * D)).take D).getD x 0 ^^^ (redV M B.length ((gen.drop (B.getD k 0 * D)).take D) rows).1.getD x 0) at hsp
   generalize redV M B.length ((gen.drop (B.getD k 0 * D)).take D) rows = s at *
   have hsp2 : Sp M D (RS rows) (fun x => U D gen (B.getD k 0) x ^^^ s.1.getD x 0) := hsp.congr fun x hx => by rw [row_getD hg hbk hx]
   have h1 := hr.ok
   have hc : ∀ x,x < D → s.1.getD x 0 = sg (fun q => mu M ((s.2.set k (s.2.getD k 0 ^^^ 1)).getD q 0) (U D gen (B.getD q 0) x)) B.length := fun x hx => by
    rw [hr.sum x hx,Nat.xor_comm]
    have e1 : U D gen (B.getD k 0) x = sg (fun q => if q = k then U D gen (B.getD k 0) x else 0) B.length := by
     rw [sg_one (k := k) B.length (fun q _ hne => if_neg hne),if_pos (by omega),if_pos rfl]
    rw [e1,← sg_xor]
    refine sg_congr _ fun q hq => ?_
    rw [set_getD _ _ _ _ (by rw [h1.l2];exact hq)]
    by_cases e : q = k
    ·subst e
     rw [if_pos rfl,if_pos rfl,xor_mu,one_mu hM (hW q x hx)]
    ·rw [if_neg e,if_neg e,Nat.xor_zero]
   have hcl : ∀ x ∈ s.2.set k (s.2.getD k 0 ^^^ 1),x < 2 ^ M := fun x hx => by
    rcases List.mem_or_eq_of_mem_set hx with hx | rfl
    ·exact h1.e2 x hx
    ·exact xor_lt' (getD_lt h1.e2 _) (one_lt hM)
   have hcn : (s.2.set k (s.2.getD k 0 ^^^ 1)).length = B.length := by rw [List.length_set];exact h1.l2
   generalize s.2.set k (s.2.getD k 0 ^^^ 1) = c at *
   by_cases hf : findNZ s.1 < D
   ·rw [if_pos hf]
    have hne := findNZ_lt (l := s.1) (by rw [h1.l1];exact hf)
    generalize findNZ s.1 = col at *
    have hxl := getD_lt h1.e1 col
    obtain ⟨v1,v2⟩ := inv_mu hM hne hxl
    have hvl : invN M (s.1.getD col 0) < 2 ^ M := invN_lt _
    generalize invN M (s.1.getD col 0) = f at *
    have hrep : ∀ m i,(List.replicate m 0).getD i 0 = 0 := fun m i => by
     rw [List.getD_eq_getElem?_getD,List.getElem?_replicate];split <;> rfl
    have hnr : ∀ x,x < D → (addV M f (List.replicate D 0) s.1 D).getD x 0 = mu M f (s.1.getD x 0) := fun x hx => by
     rw [addV_get _ _ _ _ _ (by simp) x (by simpa using hx),if_pos hx,hrep,Nat.zero_xor]
    have hnc : ∀ q,q < B.length → (addV M f (List.replicate B.length 0) c B.length).getD q 0 = mu M f (c.getD q 0) := fun q hq => by
     rw [addV_get _ _ _ _ _ (by simp) q (by simpa using hq),if_pos hq,hrep,Nat.zero_xor]
    have hz0 : ∀ m,∀ x ∈ List.replicate m 0,x < 2 ^ M := fun m x hx => by rw [List.eq_of_mem_replicate hx];exact Nat.two_pow_pos M
    have hok1 : RedRow M D B.length (col,addV M f (List.replicate D 0) s.1 D,addV M f (List.replicate B.length 0) c B.length) :=
     ⟨hf,by rw [addV_length,List.length_replicate],by rw [addV_length,List.length_replicate],addV_lt hM hvl (hz0 _) _,addV_lt hM hvl (hz0 _) _⟩
    have hrw1 : Rw M D B.length (fun q => U D gen (B.getD q 0)) (col,addV M f (List.replicate D 0) s.1 D,addV M f (List.replicate B.length 0) c B.length) := by
     refine ⟨hok1,fun x hx => ?_,?_⟩
     ·show (addV M f (List.replicate D 0) s.1 D).getD x 0 = _
      rw [hnr x hx,hc x hx,sg_mu]
      refine sg_congr _ fun q hq => ?_
      show _ = mu M ((addV M f (List.replicate B.length 0) c B.length).getD q 0) _
      rw [hnc q hq,mu_assoc hM hvl (getD_lt hcl _) (hW q x hx)]
     ·show (addV M f (List.replicate D 0) s.1 D).getD col 0 = 1
      rw [hnr col hf];exact v1
    have hmono : ∀ t,RS rows t → RS (rows ++ [(col,addV M f (List.replicate D 0) s.1 D,addV M f (List.replicate B.length 0) c B.length)]) t := fun t ⟨r,hr,e⟩ => ⟨r,by simp [hr],e⟩
    have hrwA : ∀ r ∈ rows ++ [(col,addV M f (List.replicate D 0) s.1 D,addV M f (List.replicate B.length 0) c B.length)],Rw M D B.length (fun q => U D gen (B.getD q 0)) r := fun r hr => by
     rcases List.mem_append.1 hr with hr | hr
     ·exact ih.rw r hr
     ·rw [List.mem_singleton.1 hr];exact hrw1
    refine ⟨hrwA,?_,fun q hq => ?_⟩
    ·refine List.pairwise_append.2 ⟨ih.tri, List.pairwise_singleton _ _, fun a ha b hb => ?_⟩
     rw [List.mem_singleton.1 hb]
     show (addV M f (List.replicate D 0) s.1 D).getD a.1 0 = 0
     rw [hnr _ (ih.rw a ha).ok.c,hz a ha,mu_zero]
    ·by_cases hqk : q < k
     ·exact (ih.all q hqk).mono hmono
     ·have : q = k := by omega
      subst this
      refine .step (hsp2.mono hmono) ⟨_,List.mem_append_right _ (List.mem_singleton.2 rfl),rfl⟩ (c := s.1.getD col 0) hxl fun x hx => ?_
      show U D gen (B.getD q 0) x = (U D gen (B.getD q 0) x ^^^ s.1.getD x 0) ^^^ mu M (s.1.getD col 0) ((addV M f (List.replicate D 0) s.1 D).getD x 0)
      rw [hnr x hx,← mu_assoc hM hxl hvl (getD_lt h1.e1 _),v2,one_mu hM (getD_lt h1.e1 _),xor_self_cancel]
   ·rw [if_neg hf]
    refine ⟨ih.rw,ih.tri,fun q hq => ?_⟩
    by_cases hqk : q < k
    ·exact ih.all q hqk
    ·have : q = k := by omega
     subst this
     exact hsp2.congr fun x hx => by rw [findNZ_ge (l := s.1) (by rw [h1.l1];exact hf),Nat.xor_zero]
end
section
set_option linter.unusedSectionVars false
def PS (D : Nat) (gen : List Nat) (hv : List Bool) : (Nat → Nat) → Prop := fun s => ∃ u,hv.getD u false = true ∧ s = U D gen u
theorem U_all {M D : Nat} {ps : List (List Nat)} (h : CodeOk M D ps) (u : Nat) : Vc M D (U D (genN D ps) u) := U_vc (gen_ok h) u
section
variable {M D : Nat} {ps : List (List Nat)} {hv : List Bool} (h : CodeOk M D ps) (hl : hv.length = D + ps.length)
include h hl
theorem hv_lt {u : Nat} (hu : hv.getD u false = true) : u < D + ps.length := by
 by_cases e : u < hv.length
 ·omega
 ·rw [List.getD_eq_getElem?_getD,List.getElem?_eq_none (by omega)] at hu;cases hu
theorem sp_BP {v : Nat → Nat} : Sp M D (BS D (genN D ps) (basisN M D ps hv)) v ↔ Sp M D (PS D (genN D ps) hv) v := by
 obtain ⟨T,S,hb⟩ := basis_to h hl
 constructor
 ·exact Sp.mono fun s ⟨q,hq,e⟩ => ⟨_,hb.mem q hq,e⟩
 ·exact Sp.trans h.f (fun s ⟨q,_,e⟩ => by rw [e];exact U_all h _) fun s ⟨u,hu,e⟩ => by rw [e];exact hb.present h.f (U_all h) hu
theorem red_left {u : Nat} (hu : u < D + ps.length) :
 Rst M D (basisN M D ps hv).length (fun q => U D (genN D ps) ((basisN M D ps hv).getD q 0)) (U D (genN D ps) u) (redV M (basisN M D ps hv).length (((genN D ps).drop (u * D)).take D) (spanN M D ps hv)) ∧
 ((redV M (basisN M D ps hv).length (((genN D ps).drop (u * D)).take D) (spanN M D ps hv)).1.all (fun x => decide (x = 0)) = true ↔ Sp M D (PS D (genN D ps) hv) (U D (genN D ps) u)) := by
 have hg := gen_ok h
 have hM := h.f
 have hsp := span_to hM hg (basis_lt hl) (basisN M D ps hv).length (Nat.le_refl _)
 have hW : ∀ q,Vc M D (U D (genN D ps) ((basisN M D ps hv).getD q 0)) := fun q => U_all h _
 obtain ⟨p1,p2⟩ := pick_row hg hu
 have hs0 : SubOk M D (basisN M D ps hv).length (((genN D ps).drop (u * D)).take D,List.replicate (basisN M D ps hv).length 0) := ⟨p1,List.length_replicate,p2,fun x hx => by rw [List.eq_of_mem_replicate hx];exact Nat.two_pow_pos M⟩
 have hr0 : Rst M D (basisN M D ps hv).length (fun q => U D (genN D ps) ((basisN M D ps hv).getD q 0)) (U D (genN D ps) u) (((genN D ps).drop (u * D)).take D,List.replicate (basisN M D ps hv).length 0) := ⟨hs0,fun x hx => by
  rw [row_getD hg hu hx,sg_congr (basisN M D ps hv).length (fun q hq => show mu M ((List.replicate (basisN M D ps hv).length 0).getD q 0) _ = 0 by
   rw [List.getD_eq_getElem?_getD,List.getElem?_replicate,if_pos hq];exact zero_mu _),sg_zero,Nat.xor_zero]⟩
 have hr := fold_rst hM hW (spanN M D ps hv) hsp.rw _ hr0
 have hz := fold_zero hM (spanN M D ps hv) hsp.rw hsp.tri _ hs0
 have hfs := fold_span hM hsp.rw (spanN M D ps hv) (fun _ h => h) _ hs0
 refine ⟨hr,?_⟩
 rw [← sp_BP h hl]
 have hbs : ∀ s,BS D (genN D ps) (basisN M D ps hv) s → Vc M D s := fun s ⟨q,_,e⟩ => by rw [e];exact U_all h _
 constructor
 ·intro h0
  rw [List.all_eq_true] at h0
  have hsum := Sp.sum (M := M) (D := D) hM hbs (c := fun q => (redV M (basisN M D ps hv).length (((genN D ps).drop (u * D)).take D) (spanN M D ps hv)).2.getD q 0) (w := fun q => U D (genN D ps) ((basisN M D ps hv).getD q 0)) (basisN M D ps hv).length (fun q hq => ⟨getD_lt hr.ok.e2 _,Sp.of hM hbs ⟨q,hq,rfl⟩⟩)
  refine hsum.congr fun x hx => ?_
  have h1 := hr.sum x hx
  have h2 : (List.foldl (subR M) (((genN D ps).drop (u * D)).take D,List.replicate (basisN M D ps hv).length 0) (spanN M D ps hv)).1.getD x 0 = 0 := by
   have hx2 : x < (redV M (basisN M D ps hv).length (((genN D ps).drop (u * D)).take D) (spanN M D ps hv)).1.length := by
    have := hr.ok.l1;unfold redV;omega
   have := h0 _ (List.getElem_mem hx2)
   rw [List.getD_eq_getElem?_getD]
   have e : (redV M (basisN M D ps hv).length (((genN D ps).drop (u * D)).take D) (spanN M D ps hv)).1[x]? = some ((redV M (basisN M D ps hv).length (((genN D ps).drop (u * D)).take D) (spanN M D ps hv)).1[x]) := List.getElem?_eq_getElem hx2
   unfold redV at e this
   rw [e]
   simpa using this
  rw [h2] at h1
  exact eq_of_xor h1.symm
 ·intro hs
  have hv2 : Sp M D (RS (spanN M D ps hv)) (U D (genN D ps) u) := Sp.trans hM (RS_vc hsp.rw) (fun s ⟨q,hq,e⟩ => by rw [e];exact hsp.all q hq) hs
  have hrest : Sp M D (RS (spanN M D ps hv)) (fun x => (redV M (basisN M D ps hv).length (((genN D ps).drop (u * D)).take D) (spanN M D ps hv)).1.getD x 0) := (hv2.add hfs).congr fun x hx => by
   show _ = U D (genN D ps) u x ^^^ ((((genN D ps).drop (u * D)).take D).getD x 0 ^^^ _)
   rw [row_getD hg hu hx,← Nat.xor_assoc,Nat.xor_self,Nat.zero_xor]
   rfl
  have h0 := tri_zero hM hsp.rw hsp.tri hrest hz
  rw [List.all_eq_true]
  intro y hy
  obtain ⟨x,hx,rfl⟩ := List.getElem_of_mem hy
  have hxD : x < D := by have := hr.ok.l1;unfold redV at hx;omega
  have := h0 x hxD
  rw [List.getD_eq_getElem?_getD,List.getElem?_eq_getElem hx] at this
  simpa using this
theorem comb_iff {u : Nat} (hu : u < D + ps.length) : (combN M D ps hv u).isSome = true ↔ Sp M D (PS D (genN D ps) hv) (U D (genN D ps) u) := by
 rw [← (red_left h hl hu).2]
 unfold combN termsN
 dsimp only
 split
 ·rename_i e;simp [e]
 ·rename_i e;simp [e]
theorem comb_some {u : Nat} (hu : u < D + ps.length) {l : List (Nat × Nat)} (hc : combN M D ps hv u = some l) : ∃ K : List Nat, K.length = (basisN M D ps hv).length ∧ (∀ x ∈ K, x < 2 ^ M) ∧ l = tmsAt (basisN M D ps hv) K (basisN M D ps hv).length ∧
 ∀ x,x < D → U D (genN D ps) u x = sg (fun q => mu M (K.getD q 0) (U D (genN D ps) ((basisN M D ps hv).getD q 0) x)) (basisN M D ps hv).length := by
 obtain ⟨hr,_⟩ := red_left h hl hu
 unfold combN termsN at hc
 dsimp only at hc
 generalize redV M (basisN M D ps hv).length (((genN D ps).drop (u * D)).take D) (spanN M D ps hv) = s at *
 split at hc
 ·rename_i e
  refine ⟨s.2,hr.ok.l2,hr.ok.e2,(Option.some.inj hc).symm,fun x hx => ?_⟩
  have h1 := hr.sum x hx
  have hx2 : x < s.1.length := by have := hr.ok.l1;omega
  have h2 : s.1.getD x 0 = 0 := by
   rw [List.getD_eq_getElem?_getD,List.getElem?_eq_getElem hx2]
   rw [List.all_eq_true] at e
   simpa using e _ (List.getElem_mem hx2)
  rw [h2] at h1
  exact eq_of_xor h1.symm
 ·cases hc
end
def eu' (q : Nat) : Nat → Nat := fun x => if x = q then 1 else 0
theorem eu_vc {M D : Nat} (hM : FldM M) (q : Nat) : Vc M D (eu' q) := fun x _ => by
 unfold eu'
 split
 ·exact one_lt hM
 ·exact Nat.two_pow_pos M
def WS (w : Nat → Nat → Nat) (p : Nat) : (Nat → Nat) → Prop := fun s => ∃ r,r < p ∧ s = w r
theorem Iso.sp {M D : Nat} {T S : (Nat → Nat) → Nat → Nat} (h : Iso M D T S) {A A' : (Nat → Nat) → Prop} (hA : ∀ s,A s → Vc M D s ∧ A' (T s)) {v : Nat → Nat} (hv : Sp M D A v) : Sp M D A' (T v) := by
 induction hv with
 | zero h0 => exact .zero fun x hx => h.zero h0 x hx
 | step h1 hs hc h2 ih =>
   rename_i u s v c
   obtain ⟨a1,a2⟩ := hA _ hs
   refine .step ih a2 hc fun x hx => ?_
   rw [h.congr _ _ h2 x hx,h.add u (fun k => mu M c (s k)) x hx,h.smul c s hc a1 x hx]
end
section
set_option linter.unusedSectionVars false
theorem gt_id {D : Nat} : ∀ n, n ≤ D → ∀ r c, r < D → c < D → gt D (idAt D n) r c = if r < n ∧ r = c then 1 else 0
 | 0,_,r,c,_,_ => by
   rw [if_neg (by omega)]
   unfold gt idAt
   rw [List.getD_eq_getElem?_getD,List.getElem?_replicate]
   split <;> rfl
 | n + 1,hn,r,c,hr,hc => by
   rw [idAt,gt_set (R := D) (by rw [idAt_length]) (by omega) (by omega) hc,gt_id n (by omega) r c hr hc]
   by_cases h : r = n ∧ c = n
   ·rw [if_pos h,if_pos (by omega)]
   ·rw [if_neg h]
    by_cases h2 : r < n ∧ r = c
    ·rw [if_pos h2,if_pos (by omega)]
    ·rw [if_neg h2,if_neg (by omega)]
theorem U_data {D : Nat} {ps : List (List Nat)} {u x : Nat} (hu : u < D) (hx : x < D) : U D (genN D ps) u x = eu' u x := by
 have h := gt_id D (Nat.le_refl _) u x hu hx
 unfold U gt genN
 unfold gt at h
 rw [List.getD_eq_getElem?_getD] at h ⊢
 rw [List.getElem?_append_left (by rw [idAt_length];exact idx_lt hu hx),h]
 unfold eu'
 by_cases e : u = x
 ·subst e;rw [if_pos ⟨hu,rfl⟩,if_pos rfl]
 ·rw [if_neg (by omega),if_neg (fun e2 => e e2.symm)]
theorem flat_get {D x : Nat} (hx : x < D) : ∀ {ps : List (List Nat)} (_ : ∀ r ∈ ps, r.length = D) (i : Nat), i < ps.length → ps.flatten.getD (i * D + x) 0 = (ps.getD i []).getD x 0
 | [],_,i,h => by simp at h
 | r :: ps,hr,i,h => by
   have h0 := hr r (by simp)
   rw [List.flatten_cons,List.getD_eq_getElem?_getD]
   cases i with
   | zero => rw [List.getElem?_append_left (by omega),Nat.zero_mul,Nat.zero_add,← List.getD_eq_getElem?_getD];rfl
   | succ i =>
     have e : (i + 1) * D + x - r.length = i * D + x := by rw [Nat.add_mul];omega
     rw [List.getElem?_append_right (by rw [Nat.add_mul];omega),e,← List.getD_eq_getElem?_getD,flat_get hx (fun s hs => hr s (by simp [hs])) i (by simpa using h)]
     rfl
theorem U_par {M D : Nat} {ps : List (List Nat)} (h : CodeOk M D ps) {i x : Nat} (hi : i < ps.length) (hx : x < D) : U D (genN D ps) (D + i) x = (ps.getD i []).getD x 0 := by
 rw [← flat_get hx (fun r hr => (h.row r hr).1) i hi]
 unfold U gt genN
 have e : (D + i) * D + x - (idAt D D).length = i * D + x := by rw [idAt_length,Nat.add_mul];omega
 rw [List.getD_eq_getElem?_getD,List.getElem?_append_right (by rw [idAt_length,Nat.add_mul];omega),e,← List.getD_eq_getElem?_getD]
theorem U_ne {M D : Nat} {ps : List (List Nat)} (h : CodeOk M D ps) {u : Nat} (hu : u < D + ps.length) : ∃ x,x < D ∧ U D (genN D ps) u x ≠ 0 := by
 by_cases hd : u < D
 ·exact ⟨u,hd,by rw [U_data hd hd];simp [eu']⟩
 ·obtain ⟨i, rfl⟩ : ∃ i, u = D + i := ⟨u - D, by omega⟩
  have hi : i < ps.length := by omega
  obtain ⟨h1,h2,y,h3,h4⟩ := h.row _ (List.getElem_mem hi)
  obtain ⟨x,hx,rfl⟩ := List.getElem_of_mem h3
  refine ⟨x,by omega,?_⟩
  rw [U_par h hi (by omega),List.getD_eq_getElem?_getD (l := ps),List.getElem?_eq_getElem hi,Option.getD_some,List.getD_eq_getElem?_getD,List.getElem?_eq_getElem hx]
  exact h4
def wd (M : Nat) (l : List Nat) (j : Nat) : Nat := if M = 8 then l.getD j 0 else 256 * l.getD (2 * j) 0 + l.getD (2 * j + 1) 0
theorem isB_getW {l : List Nat} (h : isB l) (j : Nat) : l.getD j 0 < 256 := by
 rw [List.getD_eq_getElem?_getD]
 by_cases hj : j < l.length
 ·rw [List.getElem?_eq_getElem hj];exact h _ (List.getElem_mem hj)
 ·rw [List.getElem?_eq_none (by omega)];show 0 < 256;omega
theorem wd_lt {M : Nat} (hM : FldM M) {l : List Nat} (h : isB l) (j : Nat) : wd M l j < 2 ^ M := by
 unfold wd
 rcases hM with rfl | rfl
 ·rw [if_pos rfl];exact isB_getW h j
 ·rw [if_neg (by decide)]
  have := isB_getW h (2 * j)
  have := isB_getW h (2 * j + 1)
  show _ < 65536
  omega
theorem xorL_getW (a b : List Nat) (hl : a.length = b.length) (j : Nat) : (xorL a b).getD j 0 = a.getD j 0 ^^^ b.getD j 0 := by
 rw [List.getD_eq_getElem?_getD,List.getD_eq_getElem?_getD,List.getD_eq_getElem?_getD,xorL_get?]
 by_cases hj : j < a.length
 ·rw [List.getElem?_eq_getElem hj,List.getElem?_eq_getElem (show j < b.length by omega)];rfl
 ·rw [List.getElem?_eq_none (show a.length ≤ j by omega),List.getElem?_eq_none (show b.length ≤ j by omega)];rfl
theorem wd_xor (M : Nat) {a b : List Nat} (ha : isB a) (hb : isB b) (hl : a.length = b.length) (j : Nat) : wd M (xorL a b) j = wd M a j ^^^ wd M b j := by
 unfold wd
 split
 ·exact xorL_getW a b hl j
 ·rw [xorL_getW a b hl,xorL_getW a b hl,join_xor (isB_getW ha _) (isB_getW hb _)]
theorem scale16_getD (c : Nat) : ∀ (l : List Nat), l.length % 2 = 0 → ∀ j, 256 * (scale16 c l).getD (2 * j) 0 + (scale16 c l).getD (2 * j + 1) 0 = mu 16 c (256 * l.getD (2 * j) 0 + l.getD (2 * j + 1) 0)
 | [],_,j => by simp [scale16,mu_zero]
 | [_],h,_ => by simp at h
 | a :: b :: l,h,j => by
   simp only [scale16]
   cases j with
   | zero =>
     show 256 * (Gf.mul 16 (modN 16) c (256 * a + b) / 256) + Gf.mul 16 (modN 16) c (256 * a + b) % 256 = Gf.mul 16 (modN 16) c (256 * a + b)
     omega
   | succ j =>
     have ih := scale16_getD c l (by rw [List.length_cons,List.length_cons] at h;omega) j
     have e1 : 2 * (j + 1) = 2 * j + 1 + 1 := by omega
     rw [e1]
     simpa using ih
theorem wd_scale {M c : Nat} (hM : FldM M) {l : List Nat} (he : FitM M l.length) (j : Nat) : wd M (scaleM M c l) j = mu M c (wd M l j) := by
 unfold wd scaleM
 rcases hM with rfl | rfl
 ·rw [if_pos rfl, if_pos rfl, if_pos rfl]
  unfold scale8
  rw [List.getD_eq_getElem?_getD,List.getD_eq_getElem?_getD,List.getElem?_map]
  cases l[j]? with
  | none => exact (mu_zero c).symm
  | some x => rfl
 ·rw [if_neg (by decide), if_neg (by decide), if_neg (by decide)]
  exact scale16_getD c l (he rfl) j
theorem wd_zero (M n j : Nat) : wd M (List.replicate n 0) j = 0 := by
 have h : ∀ i,(List.replicate n 0).getD i 0 = 0 := fun i => by
  rw [List.getD_eq_getElem?_getD,List.getElem?_replicate];split <;> rfl
 unfold wd
 rw [h,h,h]
 split <;> rfl
theorem wd_ext {M : Nat} (hM : FldM M) {a b : List Nat} (ha : isB a) (hb : isB b) (hl : a.length = b.length) (he : FitM M a.length) (h : ∀ j,wd M a j = wd M b j) : a = b := by
 apply List.ext_getElem hl
 intro k h1 h2
 have key : a.getD k 0 = b.getD k 0 := by
  rcases hM with rfl | rfl
  ·exact h k
  ·have h3 := h (k / 2)
   unfold wd at h3
   rw [if_neg (by decide),if_neg (by decide)] at h3
   have a1 := isB_getW ha (2 * (k / 2))
   have a2 := isB_getW ha (2 * (k / 2) + 1)
   have b1 := isB_getW hb (2 * (k / 2))
   have b2 := isB_getW hb (2 * (k / 2) + 1)
   by_cases e : k % 2 = 0
   ·have : k = 2 * (k / 2) := by omega
    rw [this];omega
   ·have : k = 2 * (k / 2) + 1 := by omega
    rw [this];omega
 rw [List.getD_eq_getElem?_getD,List.getD_eq_getElem?_getD,List.getElem?_eq_getElem h1,List.getElem?_eq_getElem h2] at key
 exact key
def lx {α : Type} (f : α → Nat) : List α → Nat
 | [] => 0
 | a :: l => f a ^^^ lx f l
theorem lx_append {α : Type} (f : α → Nat) : ∀ l l' : List α, lx f (l ++ l') = lx f l ^^^ lx f l'
 | [],l' => by simp [lx]
 | a :: l,l' => by rw [List.cons_append,lx,lx,lx_append f l l',Nat.xor_assoc]
theorem lx_congr {α : Type} {f g : α → Nat} : ∀ {l : List α}, (∀ a ∈ l, f a = g a) → lx f l = lx g l
 | [],_ => rfl
 | a :: l,h => by rw [lx,lx,h a (by simp),lx_congr fun b hb => h b (by simp [hb])]
theorem wd_comb {M n : Nat} (hM : FldM M) (he : FitM M n) {α : Type} (c : α → Nat) (f : α → List Nat) (j : Nat) : ∀ (l : List α) (acc : List Nat), (∀ a ∈ l, c a < 2 ^ M ∧ isB (f a) ∧ (f a).length = n) → isB acc → acc.length = n →
 wd M (combM M n (l.map c) (l.map f) acc) j = wd M acc j ^^^ lx (fun a => mu M (c a) (wd M (f a) j)) l
 | [],acc,_,_,_ => by simp [combM,lx]
 | a :: l,acc,h,h1,h2 => by
   obtain ⟨g1,g2,g3⟩ := h a (by simp)
   have hs : (scaleM M (c a) (f a)).length = n := by rw [scaleM_length hM (by rw [g3];exact he)];exact g3
   have hb := isB_scaleM (l := f a) hM g1
   rw [List.map_cons,List.map_cons,combM,wd_comb hM he c f j l _ (fun b hb => h b (by simp [hb])) (isB_xor h1 hb) (by rw [xorL_length _ _ (by omega)];exact h2),wd_xor M h1 hb (by omega),wd_scale hM (by rw [g3];exact he),lx,Nat.xor_assoc]
theorem comb_idx {M n : Nat} (cs : List Nat) (us : List (List Nat)) (acc : List Nat) (h : cs.length = us.length) : combM M n cs us acc = combM M n ((List.range cs.length).map fun q => cs.getD q 0) ((List.range cs.length).map fun q => us.getD q []) acc := by
 have e1 : (List.range cs.length).map (fun q => cs.getD q 0) = cs := by
  apply List.ext_getElem (by simp)
  intro i h1 h2
  simp [List.getD_eq_getElem?_getD,h2]
 have e2 : (List.range cs.length).map (fun q => us.getD q []) = us := by
  apply List.ext_getElem (by simp [h])
  intro i h1 h2
  simp [List.getD_eq_getElem?_getD,h2]
 rw [e1,e2]
theorem lx_range (f : Nat → Nat) : ∀ n, lx f (List.range n) = sg f n
 | 0 => rfl
 | n + 1 => by rw [List.range_succ,lx_append,lx_range f n];simp [lx,sg]
theorem mem_isB {us : List (List Nat)} {n : Nat} (hu : ∀ u ∈ us,isB u ∧ u.length = n) {q : Nat} (hq : q < us.length) : isB (us.getD q []) ∧ (us.getD q []).length = n := by
 rw [List.getD_eq_getElem?_getD,List.getElem?_eq_getElem hq]
 exact hu _ (List.getElem_mem hq)
section
variable {M D n : Nat} {ps us : List (List Nat)} (h : CodeOk M D ps) (hl : us.length = D) (hu : ∀ u ∈ us,isB u ∧ u.length = n) (he : FitM M n)
include h hl hu he
theorem wd_enc {u : Nat} (hlt : u < D + ps.length) (j : Nat) : wd M ((encN M ps us).getD u []) j = sg (fun x => mu M (U D (genN D ps) u x) (wd M (us.getD x []) j)) D := by
 have hM := h.f
 by_cases hd : u < D
 ·rw [sg_congr D (fun x hx => show _ = if x = u then wd M (us.getD u []) j else 0 by
   rw [U_data hd hx]
   unfold eu'
   by_cases e : x = u
   ·subst e
    rw [if_pos rfl,if_pos rfl,one_mu hM (wd_lt hM (mem_isB hu (by omega)).1 j)]
   ·rw [if_neg e,if_neg e,zero_mu]),sg_one (k := u) D (fun x _ hne => if_neg hne),if_pos hd,if_pos rfl]
  congr 1
  unfold encN
  rw [List.getD_eq_getElem?_getD,List.getElem?_append_left (by omega),← List.getD_eq_getElem?_getD]
 ·obtain ⟨i, rfl⟩ : ∃ i, u = D + i := ⟨u - D, by omega⟩
  have hi : i < ps.length := by omega
  have h1 := h.d
  have hn : (us.headD []).length = n := headD_len (fun u hx => (hu u hx).2) (by omega)
  have e0 : (encN M ps us).getD (D + i) [] = combM M n ps[i] us (List.replicate n 0) := by
   unfold encN
   rw [List.getD_eq_getElem?_getD,List.getElem?_append_right (by omega),show D + i - us.length = i by omega,List.getElem?_map,List.getElem?_eq_getElem hi,hn]
   rfl
  obtain ⟨r1,r2,_⟩ := h.row _ (List.getElem_mem hi)
  rw [e0,comb_idx _ _ _ (by omega),wd_comb hM he _ _ j (List.range ps[i].length) _ (fun q hq => ⟨getD_lt r2 _,mem_isB hu (by have := List.mem_range.1 hq;omega)⟩) (isB_zero n) (by simp),wd_zero,Nat.zero_xor,r1,lx_range]
  refine sg_congr D fun x hx => ?_
  rw [U_par h hi hx,List.getD_eq_getElem?_getD (l := ps),List.getElem?_eq_getElem hi]
  rfl
end
def Sound (M D : Nat) (ps : List (List Nat)) (u : Nat) (l : List (Nat × Nat)) : Prop := ∀ x,x < D → lx (fun t => mu M t.2 (U D (genN D ps) t.1 x)) l = U D (genN D ps) u x
theorem lx_sg {M D : Nat} {G : Nat → Nat → Nat} {w : Nat → Nat} (hM : FldM M) (hG : ∀ u, Vc M D (G u)) (hw : ∀ x, x < D → w x < 2 ^ M) : ∀ l : List (Nat × Nat), (∀ t ∈ l, t.2 < 2 ^ M) → lx (fun t => mu M t.2 (sg (fun x => mu M (G t.1 x) (w x)) D)) l = sg (fun x => mu M (lx (fun t => mu M t.2 (G t.1 x)) l) (w x)) D
 | [],_ => by
   rw [sg_congr D (fun x _ => show mu M (lx _ []) (w x) = 0 from zero_mu _),sg_zero];rfl
 | t :: l,h => by
   rw [lx,lx_sg hM hG hw l (fun s hs => h s (by simp [hs])),sg_mu,← sg_xor]
   refine sg_congr D fun x hx => ?_
   rw [lx,xor_mu,mu_assoc hM (h t (by simp)) (hG _ x hx) (hw x hx)]
section
variable {M D n : Nat} {ps us : List (List Nat)} (h : CodeOk M D ps) (hl : us.length = D) (hu : ∀ u ∈ us,isB u ∧ u.length = n) (he : FitM M n)
include h hl hu he
theorem sum_sound {u : Nat} (hlt : u < D + ps.length) {l : List (Nat × Nat)} (hs : Sound M D ps u l) {vs : List (List Nat)} (ht : ∀ t ∈ l,t.2 < 2 ^ M ∧ t.1 < D + ps.length ∧ vs.getD t.1 [] = (encN M ps us).getD t.1 []) : sumN M n vs l = (encN M ps us).getD u [] := by
 have hM := h.f
 have hst : ∀ k,k < D + ps.length → isB ((encN M ps us).getD k []) ∧ ((encN M ps us).getD k []).length = n := fun k hk => mem_isB (encN_ok h hl hu he) (by rw [encN_length];omega)
 have hcl : ∀ t ∈ l,t.2 < 2 ^ M ∧ isB (vs.getD t.1 []) ∧ (vs.getD t.1 []).length = n := fun t htm => by
  obtain ⟨h1,h2,h3⟩ := ht t htm
  rw [h3];exact ⟨h1,hst _ h2⟩
 obtain ⟨c1,c2⟩ := combM_ok hM he (l.map (·.2)) (l.map fun t => vs.getD t.1 []) (List.replicate n 0) (fun c hc => by
  obtain ⟨t,htm,rfl⟩ := List.mem_map.1 hc;exact (ht t htm).1) (fun v hv => by
  obtain ⟨t,htm,rfl⟩ := List.mem_map.1 hv;exact (hcl t htm).2.2) (isB_zero n) (by simp)
 obtain ⟨s1,s2⟩ := hst u hlt
 refine wd_ext hM c1 s1 (by rw [s2];exact c2) (by rw [show (sumN M n vs l).length = n from c2];exact he) fun j => ?_
 unfold sumN
 rw [wd_comb hM he (fun t : Nat × Nat => t.2) (fun t => vs.getD t.1 []) j l _ hcl (isB_zero n) (by simp),wd_zero,Nat.zero_xor]
 rw [lx_congr (g := fun t => mu M t.2 (sg (fun x => mu M (U D (genN D ps) t.1 x) (wd M (us.getD x []) j)) D)) fun t htm => by
  obtain ⟨h1,h2,h3⟩ := ht t htm
  rw [h3,wd_enc h hl hu he h2]]
 rw [lx_sg (G := fun u => U D (genN D ps) u) hM (U_all h) (fun x hx => wd_lt hM (mem_isB hu (by omega)).1 j) l (fun t htm => (ht t htm).1),wd_enc h hl hu he hlt]
 exact sg_congr D fun x hx => by rw [hs x hx]
end
theorem lx_tms (M : Nat) (B K : List Nat) (G : Nat → Nat) : ∀ n, lx (fun t => mu M t.2 (G t.1)) (tmsAt B K n) = sg (fun q => mu M (K.getD q 0) (G (B.getD q 0))) n
 | 0 => rfl
 | n + 1 => by
   rw [tmsAt_succ,sg]
   split
   ·rename_i e
    rw [e,zero_mu,Nat.xor_zero];exact lx_tms M B K G n
   ·rw [lx_append, lx_tms M B K G n]
    simp [lx]
structure CombOk (M D : Nat) (ps : List (List Nat)) (hv : List Bool) (u : Nat) (l : List (Nat × Nat)) : Prop where
 snd : Sound M D ps u l
 lt : ∀ t ∈ l,t.2 < 2 ^ M ∧ t.2 ≠ 0
 pres : ∀ t ∈ l,hv.getD t.1 false = true
 inc : l.Pairwise fun a b => a.1 < b.1
 le : l.length ≤ (basisN M D ps hv).length
theorem comb_ok {M D : Nat} {ps : List (List Nat)} {hv : List Bool} (h : CodeOk M D ps) (hl : hv.length = D + ps.length) {u : Nat} (hu : u < D + ps.length) {l : List (Nat × Nat)} (hc : combN M D ps hv u = some l) : CombOk M D ps hv u l := by
 obtain ⟨K,k1,k2,rfl,k4⟩ := comb_some h hl hu hc
 obtain ⟨T,S,hb⟩ := basis_to h hl
 have hmem : ∀ t ∈ tmsAt (basisN M D ps hv) K (basisN M D ps hv).length,∃ q,q < (basisN M D ps hv).length ∧ K.getD q 0 ≠ 0 ∧ t = ((basisN M D ps hv).getD q 0,K.getD q 0) := fun t ht => by
  unfold tmsAt at ht
  obtain ⟨q,hq,rfl⟩ := List.mem_map.1 ht
  obtain ⟨q1,q2⟩ := List.mem_filter.1 hq
  exact ⟨q,List.mem_range.1 q1,by simpa using q2,rfl⟩
 refine ⟨fun x hx => ?_,fun t ht => ?_,fun t ht => ?_,?_,tmsAt_length _ _ _⟩
 ·rw [lx_tms M (basisN M D ps hv) K (fun u => U D (genN D ps) u x),k4 x hx]
 ·obtain ⟨q, q1, q2, rfl⟩ := hmem t ht
  exact ⟨getD_lt k2 _,q2⟩
 ·obtain ⟨q, q1, q2, rfl⟩ := hmem t ht
  exact hb.mem q q1
 ·unfold tmsAt
  rw [List.pairwise_map]
  refine (List.Pairwise.filter _ List.pairwise_lt_range).imp_of_mem fun {a b} ha hb2 hab => ?_
  have hb3 := List.mem_range.1 (List.mem_filter.1 hb2).1
  exact hb.inc a b hab hb3
theorem CombOk.pos {M D : Nat} {ps : List (List Nat)} {hv : List Bool} (h : CodeOk M D ps) {u : Nat} (hu : u < D + ps.length) {l : List (Nat × Nat)} (hc : CombOk M D ps hv u l) : 0 < l.length := by
 cases l with
 | nil =>
   obtain ⟨x,hx,hne⟩ := U_ne h hu
   exact absurd (hc.snd x hx).symm hne
 | cons a l => simp
end
section
set_option linter.unusedSectionVars false
theorem sp_all {M D : Nat} (hM : FldM M) {S : (Nat → Nat) → Prop} (hS : ∀ s,S s → Vc M D s) (h : ∀ q,q < D → Sp M D S (eu' q)) {v : Nat → Nat} (hv : Vc M D v) : Sp M D S v := by
 refine (Sp.sum hM hS (c := v) (w := eu') D fun q hq => ⟨hv q hq,h q hq⟩).congr fun x hx => ?_
 rw [sg_congr D (fun q hq => show mu M (v q) (eu' q x) = if q = x then v x else 0 by
  unfold eu'
  by_cases e : x = q
  ·subst e;rw [if_pos rfl,if_pos rfl,mu_one hM (hv x hx)]
  ·rw [if_neg e,if_neg (fun e2 => e e2.symm),mu_zero]),sg_one (k := x) D (fun q _ hne => if_neg hne),if_pos hx,if_pos rfl]
section
variable {M D : Nat} {ps : List (List Nat)} {hv : List Bool} (h : CodeOk M D ps) (hl : hv.length = D + ps.length)
include h hl
theorem full_iff : (basisN M D ps hv).length = D ↔ ∀ v,Vc M D v → Sp M D (PS D (genN D ps) hv) v := by
 obtain ⟨T,S,hb⟩ := basis_to h hl
 constructor
 ·intro e v hv'
  exact (sp_BP h hl).1 (hb.span h.f (U_all h) hv' fun r hr hle => by omega)
 ·intro hall
  apply Classical.byContradiction
  intro hne
  have hlt : (basisN M D ps hv).length < D := by have := hb.le;omega
  have hS := hb.iso.ltS _ (eu_vc (D := D) h.f (basisN M D ps hv).length)
  have h1 := hb.low' h.f (U_all h) ((sp_BP h hl).2 (hall _ hS)) (basisN M D ps hv).length hlt (Nat.le_refl _)
  rw [hb.iso.ts _ (eu_vc h.f _) _ hlt] at h1
  simp [eu'] at h1
theorem full_iff_rec : (basisN M D ps hv).length = D ↔ ∀ u,u < D + ps.length → (combN M D ps hv u).isSome = true := by
 rw [full_iff h hl]
 constructor
 ·intro hall u hu
  exact (comb_iff h hl hu).2 (hall _ (U_all h u))
 ·intro hall v hv'
  have hS : ∀ s,PS D (genN D ps) hv s → Vc M D s := fun s ⟨u,_,e⟩ => by rw [e];exact U_all h _
  refine sp_all h.f hS (fun q hq => ?_) hv'
  exact ((comb_iff h hl (by omega)).1 (hall q (by omega))).congr fun x hx => (U_data hq hx).symm
end
section
variable {M D k : Nat} {ps : List (List Nat)} {hv : List Bool} (h : CodeOk M D ps) (hl : hv.length = D + ps.length) (hk : k < D + ps.length)
include h hl hk
end
section
variable {M D n : Nat} {ps us : List (List Nat)} {hv : List Bool} {nz : List Nat} (h : CodeOk M D ps) (hl : us.length = D) (hu : ∀ u ∈ us,isB u ∧ u.length = n) (he : FitM M n) (hvl : hv.length = D + ps.length)
include h hl hu he hvl
end
def allS {α : Type} (C : Nat → Option α) (k : Nat) : Bool := (List.range k).all fun i => (C i).isSome
theorem allS_succ {α : Type} (C : Nat → Option α) (k : Nat) : allS C (k + 1) = (allS C k && (C k).isSome) := by
 unfold allS;rw [List.range_succ,List.all_append];simp
theorem first_none {α : Type} (C : Nat → Option α) : ∀ W, ∃ q, q ≤ W ∧ (∀ i, i < q → (C i).isSome = true) ∧ (q < W → C q = none) ∧ allS C W = decide (q = W)
 | 0 => ⟨0,Nat.le_refl _,fun i h => by omega,fun h => by omega,rfl⟩
 | W + 1 => by
   obtain ⟨q,h1,h2,h3,h4⟩ := first_none C W
   by_cases e : q = W
   ·subst e
    cases hc : C q with
    | none => exact ⟨q,by omega,h2,fun _ => hc,by rw [allS_succ,hc];simp⟩
    | some x => exact ⟨q + 1,by omega,fun i hi => by
     by_cases e : i = q
     ·rw [e,hc];rfl
     ·exact h2 i (by omega),fun h => by omega,by rw [allS_succ,h4,hc];simp⟩
   ·exact ⟨q,by omega,h2,fun _ => h3 (by omega),by rw [allS_succ,h4,decide_eq_false e,decide_eq_false (by omega)];rfl⟩
end
section
def minusN (hv : List Bool) (L : List Nat) : List Bool := L.foldl (fun h u => h.set u false) hv
theorem minusN_length : ∀ (L : List Nat) (hv : List Bool), (minusN hv L).length = hv.length
 | [],hv => rfl
 | u :: L,hv => by
   have := minusN_length L (hv.set u false)
   rw [List.length_set] at this
   exact this
theorem getD_setB (hv : List Bool) (u j : Nat) (b : Bool) : (hv.set u b).getD j false = if j = u then (if u < hv.length then b else false) else hv.getD j false := by
 rw [List.getD_eq_getElem?_getD,List.getD_eq_getElem?_getD,List.getElem?_set]
 by_cases e : j = u
 ·subst e
  rw [if_pos rfl,if_pos rfl]
  split <;> rfl
 ·rw [if_neg (Ne.symm e),if_neg e]
theorem minusN_get : ∀ (L : List Nat) (hv : List Bool) (j : Nat), (minusN hv L).getD j false = if j ∈ L then false else hv.getD j false
 | [],hv,j => by simp [minusN]
 | u :: L,hv,j => by
   have := minusN_get L (hv.set u false) j
   rw [show minusN hv (u :: L) = minusN (hv.set u false) L from rfl,this,getD_setB]
   by_cases h : j ∈ L
   ·rw [if_pos h,if_pos (by simp [h])]
   ·rw [if_neg h]
    by_cases e : j = u
    ·have h8 : j ∈ u :: L := by rw [e]; exact List.mem_cons_self
     rw [if_pos e,if_pos h8];split <;> rfl
    ·have h8 : j ∉ u :: L := fun h9 => (List.mem_cons.1 h9).elim e h
     rw [if_neg e,if_neg h8]
theorem boolL_ext {a b : List Bool} (hl : a.length = b.length) (h : ∀ j,a.getD j false = b.getD j false) : a = b := by
 apply List.ext_getElem hl
 intro j h1 h2
 have := h j
 rw [List.getD_eq_getElem?_getD,List.getD_eq_getElem?_getD,List.getElem?_eq_getElem h1,List.getElem?_eq_getElem h2] at this
 exact this
def upN (hv : List Bool) : List Nat := (List.range hv.length).filter fun i => hv.getD i false
theorem mem_upN {hv : List Bool} {i : Nat} : i ∈ upN hv ↔ hv.getD i false = true := by
 unfold upN
 rw [List.mem_filter,List.mem_range]
 constructor
 ·exact fun h => h.2
 ·intro h
  refine ⟨?_,h⟩
  by_cases e : i < hv.length
  ·exact e
  ·rw [List.getD_eq_getElem?_getD,List.getElem?_eq_none (by omega)] at h;cases h
theorem upN_nodup (hv : List Bool) : (upN hv).Nodup := List.Nodup.sublist List.filter_sublist List.nodup_range
def subsN : List Nat → Nat → List (List Nat)
 | _,0 => [[]]
 | [],_ + 1 => []
 | x :: l,k + 1 => (subsN l k).map (x :: ·) ++ subsN l (k + 1)
theorem mem_subsN : ∀ {l : List Nat} {k : Nat} {s : List Nat}, s ∈ subsN l k ↔ s.Sublist l ∧ s.length = k
 | l,0,s => by
   unfold subsN
   rw [List.mem_singleton]
   constructor
   ·rintro rfl;exact ⟨List.nil_sublist _,rfl⟩
   ·exact fun h => List.eq_nil_of_length_eq_zero h.2
 | [],k + 1,s => by
   unfold subsN
   constructor
   ·intro h;cases h
   ·rintro ⟨h1, h2⟩
    have := h1.length_le
    simp only [List.length_nil] at this
    omega
 | x :: l,k + 1,s => by
   unfold subsN
   rw [List.mem_append,List.mem_map]
   constructor
   ·rintro (⟨t, h1, rfl⟩ | h1)
    ·obtain ⟨h2, h3⟩ := mem_subsN.1 h1
     exact ⟨h2.cons_cons x,by simp [h3]⟩
    ·obtain ⟨h2, h3⟩ := mem_subsN.1 h1
     exact ⟨h2.cons x,h3⟩
   ·rintro ⟨h1, h2⟩
    cases h1 with
    | cons _ h3 => exact .inr (mem_subsN.2 ⟨h3,h2⟩)
    | cons_cons _ h3 => exact .inl ⟨_,mem_subsN.2 ⟨h3,by simpa using h2⟩,rfl⟩
theorem nodup_le : ∀ (T L : List Nat), T.Nodup → (∀ x ∈ T, x ∈ L) → T.length ≤ L.length
 | [],L,_,_ => by simp
 | x :: T,L,hn,h => by
   rw [List.nodup_cons] at hn
   have hx := h x (by simp)
   have ih := nodup_le T (L.erase x) hn.2 fun y hy => (List.mem_erase_of_ne (fun e => hn.1 (by rw [← e];exact hy))).2 (h y (by simp [hy]))
   rw [List.length_erase_of_mem hx] at ih
   have := List.length_pos_of_mem hx
   simp only [List.length_cons]
   omega
def badN (dec : List Bool → Bool) (hv : List Bool) (f : Nat) : Bool := (subsN (upN hv) (f + 1)).any fun s => !dec (minusN hv s)
def leftN (dec : List Bool → Bool) (hv : List Bool) : Int := if dec hv then (((List.range 4).find? (badN dec hv)).getD 4 : Nat) else -1
theorem find_lt {p : Nat → Bool} {n f : Nat} (hf : f ≤ n) : f ≤ ((List.range n).find? p).getD n ↔ ∀ g,g < f → p g = false := by
 cases hq : (List.range n).find? p with
 | none =>
   rw [List.find?_eq_none] at hq
   simp only [Option.getD_none]
   refine ⟨fun _ g hg => ?_,fun _ => hf⟩
   have := hq g (List.mem_range.2 (by omega))
   simpa using this
 | some x =>
   simp only [Option.getD_some]
   rw [List.find?_range_eq_some] at hq
   obtain ⟨h1,h2,h3⟩ := hq
   constructor
   ·intro h g hg
    have := h3 g (by omega)
    simpa using this
   ·intro h
    by_cases e : f ≤ x
    ·exact e
    ·have := h x (by omega)
     rw [h1] at this;cases this
theorem left_iff {dec : List Bool → Bool} {hv : List Bool} {f : Nat} (hf : f ≤ 4) : (f : Int) ≤ leftN dec hv ↔ ∀ L : List Nat,L.length ≤ f → dec (minusN hv L) = true := by
 unfold leftN
 constructor
 ·intro h L hL
  cases hd : dec hv with
  | false => rw [hd,if_neg (by decide)] at h;omega
  | true =>
    rw [hd,if_pos rfl] at h
    have h2 := (find_lt (p := badN dec hv) hf).1 (by omega)
    have hT : minusN hv L = minusN hv ((upN hv).filter fun i => decide (i ∈ L)) := boolL_ext (by rw [minusN_length,minusN_length]) fun j => by
     rw [minusN_get,minusN_get]
     by_cases h5 : j ∈ L
     ·rw [if_pos h5]
      by_cases h6 : hv.getD j false = true
      ·rw [if_pos (List.mem_filter.2 ⟨mem_upN.2 h6,by simpa using h5⟩)]
      ·rw [if_neg (fun h7 => h6 (mem_upN.1 (List.mem_filter.1 h7).1))]
       simpa using h6
     ·rw [if_neg h5,if_neg (fun h7 => h5 (by simpa using (List.mem_filter.1 h7).2))]
    have hsub : ((upN hv).filter fun i => decide (i ∈ L)).Sublist (upN hv) := List.filter_sublist
    have hlen : ((upN hv).filter fun i => decide (i ∈ L)).length ≤ L.length := nodup_le _ _ ((upN_nodup hv).sublist hsub) fun x hx => by simpa using (List.mem_filter.1 hx).2
    rw [hT]
    generalize (upN hv).filter (fun i => decide (i ∈ L)) = T at *
    cases hTl : T.length with
    | zero => rw [List.eq_nil_of_length_eq_zero hTl];exact hd
    | succ g =>
      have h8 := h2 g (by omega)
      unfold badN at h8
      rw [List.any_eq_false] at h8
      have := h8 T (mem_subsN.2 ⟨hsub,hTl⟩)
      simpa using this
 ·intro h
  have hd : dec hv = true := h [] (Nat.zero_le _)
  rw [hd,if_pos rfl]
  have := (find_lt (p := badN dec hv) hf).2 fun g hg => by
   unfold badN
   rw [List.any_eq_false]
   intro s hs
   have := h s (by rw [(mem_subsN.1 hs).2];omega)
   simp [this]
  omega
end
section
def decN (M D : Nat) (ps : List (List Nat)) (hv : List Bool) : Bool := decide (hv.length = D + ps.length) && decide ((basisN M D ps hv).length = D)
end
end Go.Proofs.YtplpgijpmgbaiaaGreatDoor
