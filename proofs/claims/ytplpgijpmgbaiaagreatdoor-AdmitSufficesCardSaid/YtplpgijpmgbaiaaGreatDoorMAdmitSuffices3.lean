import Derived.Test.YtplpgijpmgbaiaaGreatDoorMAdmitSuffices2
import Derived.RangeFuncRecord
import Derived.RangeFuncLeaves
import Derived.Maps.Keyed
import Derived.ArgAppend
import Derived.ProofKit
import Derived.OpenShut
import Derived.ChangeOld
import Derived.ChangeSame
import Derived.Below
import Derived.Carry
import Derived.SizedLaws
import Derived.SliceStrings
import Derived.Deep.Slices
import Derived.LaidLaws
import Derived.Handed
import Derived.FnData
/- Joined texts: Kern26 Kern27 Kern28 Kern29 Kern30 Kern32 Kern33 Kern35 Kern37 Kern38 Kern39 Kern40 Kern41 Kern42 Mx1 Mx2 Mx3 Mx4 Mx4b Mx5 Mx6 Mx7 Er1 Er2 Er3 Er4 Er5 Er6 Er7 Er8 Fd6 Er9 Open Kern13 Open8. -/
set_option linter.unusedVariables false
set_option linter.unusedSimpArgs false
namespace Go.Proofs.YtplpgijpmgbaiaaGreatDoor
open Go.RowKit
set_option maxHeartbeats 4000000
set_option maxRecDepth 100000
section
abbrev hole : Ent:=.box [.tup []]
theorem hole_none {F : Nat → Prop} {own : List Ent} {κ : List (Option Nat)} {w : World} (ho : OwnSat F own κ w) {h : Nat} (hh : own[h]? = some hole) : κ[h]? = some none:=by
 obtain ⟨og,hog⟩:=ho.kap h _ hh
 have e : κ.getD h none = og:=by simp [List.getD_eq_getElem?_getD,hog]
 have:=ho.ent h _ hh
 rw [e] at this
 rcases this with ⟨rfl,_⟩ | ⟨g,hg,cur,t,h1,h2,h3⟩
 ·exact hog
 ·have hl := satL_length h2
  obtain ⟨u,h4,h5⟩:=satL_get h2 0 (.tup []) (by simp)
  have h6:=h3 u (List.mem_of_getElem? h4)
  rw [AV.sat] at h5
  obtain ⟨vs,rfl,_⟩:=h5
  simp [Value.oneCell'] at h6
def Ent.closed : Ent → Prop
 | .row ..=>True
 | .box l=>∀ x ∈ l,∃ d,x = .d d
 | .lp ..=>False
 | .mp _=>False
def refAt (k : Nat × Nat × Nat ⊕ Nat) (n : Nat) : AV:=match k with | .inl (ver,o,l)=>.osl n ver o l | .inr o=>.opt n o
section
variable {P : Program} {m : Nat} {env : List (Nat × AV)} {own : List Ent} {o : Oper}
theorem satL_data {F F' : Nat → Prop} {own own' : List Ent} {κ κ' : List (Option Nat)} {w w' : World} (hw : Wide (badK F κ) (badK F' κ') w w') : ∀ {l : List AV} {us : List Value}, (∀ x ∈ l, ∃ d, x = .d d) → AV.satL F own κ w l us → AV.satL F' own' κ' w' l us
 | [],[],_,h=>by simp [AV.satL]
 | x :: xs,u :: us,hd,h=>by
   rw [AV.satL] at h ⊢
   obtain ⟨d,rfl⟩:=hd x (by simp)
   refine ⟨?_,satL_data hw (fun y hy=>hd y (by simp [hy])) h.2⟩
   have h1:=h.1
   rw [AV.sat] at h1 ⊢
   exact Dat.sat_wide hw d h1
 | [],_ :: _,_,h=>by simp [AV.satL] at h
 | _ :: _,[],_,h=>by simp [AV.satL] at h
section
variable {F : Nat → Prop} {own own' own'' : List Ent} {κ κ' κ'' : List (Option Nat)} {w w' : World}
mutual
theorem keepTwo (ref : ∀ (x : AV) {u u' : Value}, (∃ i ver o n, x = .osl i ver o n) ∨ (∃ i ver j o, x = .rpt i ver j o) ∨ (∃ i o, x = .opt i o) ∨ (∃ i, x = .yl i) ∨ (∃ i, x = .mp i) ∨ (∃ i ver o n, x = .win i ver o n) → AV.sat F own κ w x u → AV.sat F own' κ' w' x u' → AV.sat F own'' κ'' w' x u') (hw : Wide (badK F κ') (badK F κ'') w' w') : ∀ (x : AV) (u u' : Value), AV.sat F own κ w x u → AV.sat F own' κ' w' x u' → AV.sat F own'' κ'' w' x u'
 | .top,u,u',_,_=>by simp [AV.sat]
 | .d x,u,u',_,hs=>by
   rw [AV.sat] at hs ⊢
   exact Dat.sat_wide hw x hs
 | .cl sz l,u,u',_,hs=>by
   rw [AV.sat] at hs ⊢
   exact ⟨Dat.sat_wide hw (.sl sz l) hs.1,hs.2⟩
 | .fpt sz l j o,u,u',_,hs=>by
   rw [AV.sat] at hs ⊢
   obtain ⟨b,q,h1,h2,h3,h4⟩:=hs
   exact ⟨b,q,h1,h2,hw.free b h2 h3,Dat.rowsSat_wide hw rfl l h4⟩
 | .osl i ver o n,u,u',h1,hs=>ref _ (.inl ⟨i,ver,o,n,rfl⟩) h1 hs
 | .win i ver o n,u,u',h1,hs=>ref _ (.inr (.inr (.inr (.inr (.inr ⟨i,ver,o,n,rfl⟩))))) h1 hs
 | .rpt i ver j o,u,u',h1,hs=>ref _ (.inr (.inl ⟨i,ver,j,o,rfl⟩)) h1 hs
 | .opt i o,u,u',h1,hs=>ref _ (.inr (.inr (.inl ⟨i,o,rfl⟩))) h1 hs
 | .bsl i n c,u,u',h1,hs=>by
   rw [AV.sat] at h1 hs ⊢
   obtain ⟨g,l,a1,a2,a3⟩:=h1
   obtain ⟨g2,l2,b1,b2,b3⟩:=hs
   have h4:=ref (.opt i 0) (u:=.pointer (some ⟨g,0,none⟩)) (u':=.pointer (some ⟨g2,0,none⟩)) (.inr (.inr (.inl ⟨i,0,rfl⟩))) (by rw [AV.sat];exact ⟨g,l,a1,a2,rfl⟩) (by rw [AV.sat];exact ⟨g2,l2,b1,b2,rfl⟩)
   rw [AV.sat] at h4
   obtain ⟨g',l',h5,h6,h7⟩:=h4
   obtain rfl : g2 = g':=by simpa using h7
   exact ⟨g2,l',h5,h6,b3⟩
 | .yl i,u,u',h1,hs=>ref _ (.inr (.inr (.inr (.inl ⟨i,rfl⟩)))) h1 hs
 | .mp i,u,u',h1,hs=>ref _ (.inr (.inr (.inr (.inr (.inl ⟨i,rfl⟩))))) h1 hs
 | .gh l vs,u,u',h1,hs=>by
   rw [AV.sat] at h1 hs ⊢
   exact keepTwoL ref hw l vs vs h1 hs
 | .fn f l,u,u',h1,hs=>by
   rw [AV.sat] at h1 hs ⊢
   obtain ⟨vs,_,h3⟩:=h1
   obtain ⟨vs',h4,h5⟩:=hs
   exact ⟨vs',h4,keepTwoL ref hw l vs.toList vs'.toList h3 h5⟩
 | .bd f l,u,u',h1,hs=>by
   rw [AV.sat] at h1 hs ⊢
   obtain ⟨vs,_,h3⟩:=h1
   obtain ⟨vs',h4,h5⟩:=hs
   exact ⟨vs',h4,keepTwoL ref hw l vs.toList vs'.toList h3 h5⟩
 | .agg l,u,u',h1,hs=>by
   rw [AV.sat] at h1 hs ⊢
   obtain ⟨vs,_,h3⟩:=h1
   obtain ⟨vs',h4,h5⟩:=hs
   exact ⟨vs',h4,keepTwoL ref hw l vs.toList vs'.toList h3 h5⟩
 | .tup l,u,u',h1,hs=>by
   rw [AV.sat] at h1 hs ⊢
   obtain ⟨vs,_,h3⟩:=h1
   obtain ⟨vs',h4,h5⟩:=hs
   exact ⟨vs',h4,keepTwoL ref hw l vs.toList vs'.toList h3 h5⟩
theorem keepTwoL (ref : ∀ (x : AV) {u u' : Value}, (∃ i ver o n, x = .osl i ver o n) ∨ (∃ i ver j o, x = .rpt i ver j o) ∨ (∃ i o, x = .opt i o) ∨ (∃ i, x = .yl i) ∨ (∃ i, x = .mp i) ∨ (∃ i ver o n, x = .win i ver o n) → AV.sat F own κ w x u → AV.sat F own' κ' w' x u' → AV.sat F own'' κ'' w' x u') (hw : Wide (badK F κ') (badK F κ'') w' w') : ∀ (l : List AV) (us us' : List Value), AV.satL F own κ w l us → AV.satL F own' κ' w' l us' → AV.satL F own'' κ'' w' l us'
 | [],[],[],_,_=>by simp [AV.satL]
 | x :: xs,u :: us,u' :: us',h1,hs=>by
   rw [AV.satL] at h1 hs ⊢
   exact ⟨keepTwo ref hw x u u' h1.1 hs.1,keepTwoL ref hw xs us us' h1.2 hs.2⟩
 | [],_ :: _,_,h1,_=>by simp [AV.satL] at h1
 | [],_,_ :: _,_,hs=>by simp [AV.satL] at hs
 | _ :: _,[],_,h1,_=>by simp [AV.satL] at h1
 | _ :: _,_,[],_,hs=>by simp [AV.satL] at hs
end
end
theorem Loc.fill {h : Nat} {x : Ent} {k : Nat × Nat × Nat ⊕ Nat} {fp : List Nat} (hh : own[h]? = some hole) (hm : 0 ≤ h) (hx : x.closed)
 (hq : ∀ env' own2,(∀ t ∈ (seenOf o),look env' t = look env t) → same fp own own2 → OpOk P m o env' own2 (refAt k own2.length) (own2 ++ [x])) : Loc P m o env own [h] fp (refAt k h) (own.set h x):=by
 refine ⟨fun env' own2 hag hsame=>⟨own2.set h x,fun F κ a w he ho hmk=>?_,fun t ht=>?_,fun t ht=>by rw [List.getElem?_set_ne (by simpa using Ne.symm (by simpa using ht))]⟩,fun i hi=>by rw [List.getElem?_set_ne (by simpa using Ne.symm (by simpa using hi))]⟩
 ·have hh2 : own2[h]? = some hole := by rw [hsame h (by simp)]; exact hh
  have hhl : h < own2.length:=(List.getElem?_eq_some_iff.1 hh2).1
  have h1:=hq env' own2 hag (fun t ht=>hsame t (by simp [ht])) F κ a w he ho hmk
  have hκh:=hole_none ho hh2
  have key : ∀ (v : Value) (w' : World),(∃ κ',AV.sat F (own2 ++ [x]) κ' w' (refAt k own2.length) v ∧ OwnSat F (own2 ++ [x]) κ' w' ∧ Tr F m own2 κ w (own2 ++ [x]) κ' w') → ∃ κ',AV.sat F (own2.set h x) κ' w' (refAt k h) v ∧ OwnSat F (own2.set h x) κ' w' ∧ Tr F m own2 κ w (own2.set h x) κ' w':=by
   rintro v w' ⟨κ',hv,hO,tr⟩
   have hlen : κ'.length = own2.length + 1:=by have:=hO.len;simp at this;omega
   have hnew : (own2 ++ [x])[own2.length]? = some x:=by rw [List.getElem?_concat_length]
   obtain ⟨og,hog⟩:=hO.kap own2.length x hnew
   -- the places
   have hK : ∀ i,i < own2.length → i ≠ h → ((κ'.take own2.length).set h og)[i]? = κ'[i]?:=fun i hi hne=>by
    rw [List.getElem?_set_ne (Ne.symm hne),List.getElem?_take,if_pos hi]
   have hKh : ((κ'.take own2.length).set h og)[h]? = some og:=by
    rw [List.getElem?_set,if_pos rfl,if_pos (by rw [List.length_take];omega)]
   have hκ'h : κ'[h]? = some none:=by
    have h3 : (own2 ++ [x])[h]? = some hole:=by rw [List.getElem?_append_left hhl];exact hh2
    exact hole_none hO h3
   have hmem : ∀ b,some b ∈ (κ'.take own2.length).set h og ↔ some b ∈ κ':=fun b=>by
    constructor
    ·intro hb
     obtain ⟨i,hi⟩:=List.mem_iff_getElem?.1 hb
     by_cases hih : i = h
     ·subst hih
      rw [hKh] at hi
      have : og = some b:=by simpa using hi
      subst this
      exact List.mem_of_getElem? hog
     ·have hil : i < own2.length:=by
       have:=(List.getElem?_eq_some_iff.1 hi).1
       rw [List.length_set,List.length_take] at this;omega
      rw [hK i hil hih] at hi
      exact List.mem_of_getElem? hi
    ·intro hb
     obtain ⟨i,hi⟩:=List.mem_iff_getElem?.1 hb
     have hil:=(List.getElem?_eq_some_iff.1 hi).1
     by_cases hin : i = own2.length
     ·subst hin
      rw [hog] at hi
      have : og = some b:=by simpa using hi
      subst this
      exact List.mem_of_getElem? hKh
     ·have hih : i ≠ h := fun e => by subst e; rw [hκ'h] at hi; cases hi
      have:=hK i (by omega) hih
      rw [hi] at this
      exact List.mem_of_getElem? this
   have hwide : ∀ b,badK F ((κ'.take own2.length).set h og) b ↔ badK F κ' b:=fun b=>or_congr Iff.rfl (hmem b)
   have hW : Wide (badK F κ') (badK F ((κ'.take own2.length).set h og)) w' w':=.of (Nat.le_refl _) (fun _ _ _=>rfl) fun b _ hb hb'=>hb ((hwide b).1 hb')
   have hown : ∀ i,i < own2.length → i ≠ h → (own2.set h x)[i]? = (own2 ++ [x])[i]?:=fun i hi hne=>by
    rw [List.getElem?_set_ne (Ne.symm hne),List.getElem?_append_left hi]
   have hownh : (own2.set h x)[h]? = some x:=by rw [List.getElem?_set,if_pos rfl,if_pos hhl]
   -- what refers to old entries
   have mv : ∀ (y : AV) {u u' : Value},(∃ i ver o n,y = .osl i ver o n) ∨ (∃ i ver j o,y = .rpt i ver j o) ∨ (∃ i o,y = .opt i o) ∨ (∃ i,y = .yl i) ∨ (∃ i,y = .mp i) ∨ (∃ i ver o n,y = .win i ver o n) → AV.sat F own2 κ w y u → AV.sat F (own2 ++ [x]) κ' w' y u' → AV.sat F (own2.set h x) ((κ'.take own2.length).set h og) w' y u':=by
    intro y u u' hy hs hs'
    rcases hy with ⟨i,ver,o,n,rfl⟩ | ⟨i,ver,j,o,rfl⟩ | ⟨i,o,rfl⟩ | ⟨i,rfl⟩ | ⟨i,rfl⟩ | ⟨i,ver,o,n,rfl⟩
    ·rw [AV.sat] at hs hs' ⊢
     obtain ⟨⟨z,hz,hzu,hz1⟩,_⟩:=hs
     have hil : i < own2.length:=(List.getElem?_eq_some_iff.1 hz).1
     have hne : i ≠ h := fun e => by subst e; rw [hh2] at hz; obtain rfl : hole = z := by simpa using hz
                                     exact hzu.elim
     rw [hown i hil hne]
     refine ⟨hs'.1,fun sz e cells hc=>?_⟩
     obtain ⟨q1,A,c,q2,q3,q4,q5⟩:=hs'.2 sz e cells hc
     refine ⟨q1,A,c,q2,q3,q4,fun hp=>?_⟩
     rcases q5 hp with ⟨g,r1,r2⟩ | ⟨r1,r2⟩
     ·exact .inl ⟨g,by rw [hK i hil hne];exact r1,r2⟩
     ·exact .inr ⟨by rw [hK i hil hne];exact r1,r2⟩
    ·rw [AV.sat] at hs hs' ⊢
     obtain ⟨⟨z,hz,hzu,hz1⟩,_⟩:=hs
     have hil : i < own2.length:=(List.getElem?_eq_some_iff.1 hz).1
     have hne : i ≠ h := fun e => by subst e; rw [hh2] at hz; obtain rfl : hole = z := by simpa using hz
                                     exact hzu.elim
     rw [hown i hil hne,hK i hil hne]
     exact hs'
    ·rw [AV.sat] at hs hs' ⊢
     obtain ⟨g,l,hz,hz2,_⟩:=hs
     have hil : i < own2.length:=(List.getElem?_eq_some_iff.1 hz).1
     have hne : i ≠ h:=fun e=>by subst e;rw [hκh] at hz2;cases hz2
     rw [hown i hil hne,hK i hil hne]
     exact hs'
    ·rw [AV.sat] at hs hs' ⊢
     obtain ⟨g,st,pe,ps,asn,bdy,l,hz,hz2,_⟩:=hs
     have hil : i < own2.length:=(List.getElem?_eq_some_iff.1 hz).1
     have hne : i ≠ h:=fun e=>by subst e;rw [hκh] at hz2;cases hz2
     rw [hown i hil hne,hK i hil hne]
     exact hs'
    ·rw [AV.sat] at hs hs' ⊢
     obtain ⟨g,ks,hz,hz2,_⟩:=hs
     have hil : i < own2.length:=(List.getElem?_eq_some_iff.1 hz).1
     have hne : i ≠ h:=fun e=>by subst e;rw [hκh] at hz2;cases hz2
     rw [hown i hil hne,hK i hil hne]
     exact hs'
    ·rw [AV.sat] at hs hs' ⊢
     obtain ⟨⟨z,hz,hzu,hz1⟩,_⟩:=hs
     have hil : i < own2.length:=(List.getElem?_eq_some_iff.1 hz).1
     have hne : i ≠ h := fun e => by subst e; rw [hh2] at hz; obtain rfl : hole = z := by simpa using hz
                                     exact hzu.elim
     rw [hown i hil hne]
     refine ⟨hs'.1,fun sz e cells hc=>?_⟩
     obtain ⟨q1,A,c,q2,q3,q4,q5⟩:=hs'.2 sz e cells hc
     refine ⟨q1,A,c,q2,q3,q4,fun hp=>?_⟩
     rcases q5 hp with ⟨g,r1,r2⟩ | ⟨r1,r2⟩
     ·exact .inl ⟨g,by rw [hK i hil hne];exact r1,r2⟩
     ·exact .inr ⟨by rw [hK i hil hne];exact r1,r2⟩
   have keep:=fun y u hs=>keepTwo (F:=F) (own:=own2) (κ:=κ) (w:=w) mv hW y u u hs (tr.keep y u hs)
   refine ⟨(κ'.take own2.length).set h og,?_,⟨by simp [hlen],hO.frame,fun g hg=>hO.lt g ((hmem g).1 hg),fun i j g hi hj=>?_,fun i y hy=>?_,glb_keep ho.glb tr.size tr.old fun b hb=>tr.new b ((hmem b).1 hb)⟩,⟨tr.os,tr.tape,tr.output,tr.size,tr.old,fun b hb=>tr.new b ((hmem b).1 hb),?_,keep⟩⟩
   ·cases k with
    | inl q =>
      obtain ⟨ver,oo,l⟩:=q
      simp only [refAt] at hv ⊢
      rw [AV.sat] at hv ⊢
      rw [hnew] at hv
      rw [hownh]
      refine ⟨hv.1,fun sz e cells hc=>?_⟩
      obtain ⟨q1,A,c,q2,q3,q4,q5⟩:=hv.2 sz e cells hc
      refine ⟨q1,A,c,q2,q3,q4,fun hp=>?_⟩
      rcases q5 hp with ⟨g,r1,r2⟩ | ⟨r1,r2⟩
      ·exact .inl ⟨g,by rw [hKh,← hog];exact r1,r2⟩
      ·exact .inr ⟨by rw [hKh,← hog];exact r1,r2⟩
    | inr oo =>
      simp only [refAt] at hv ⊢
      rw [AV.sat] at hv ⊢
      obtain ⟨g,l,q1,q2,q3⟩:=hv
      rw [hnew] at q1
      exact ⟨g,l,by rw [hownh];exact q1,by rw [hKh,← hog];exact q2,q3⟩
   ·have loc : ∀ i,((κ'.take own2.length).set h og)[i]? = some (some g) → ∃ i',κ'[i']? = some (some g) ∧ ((i = h ∧ i' = own2.length) ∨ (i ≠ h ∧ i' = i ∧ i < own2.length)):=fun i hi=>by
     by_cases hih : i = h
     ·subst hih
      rw [hKh] at hi
      exact ⟨own2.length,by rw [hog];exact hi,.inl ⟨rfl,rfl⟩⟩
     ·have hil : i < own2.length:=by
       have:=(List.getElem?_eq_some_iff.1 hi).1
       rw [List.length_set,List.length_take] at this;omega
      rw [hK i hil hih] at hi
      exact ⟨i,hi,.inr ⟨hih,rfl,hil⟩⟩
    obtain ⟨i',h3,h4⟩:=loc i hi
    obtain ⟨j',h5,h6⟩:=loc j hj
    have:=hO.inj i' j' g h3 h5
    omega
   ·by_cases hih : i = h
    ·subst hih
     rw [hownh] at hy
     obtain rfl : x = y:=by simpa using hy
     have e1 : ((κ'.take own2.length).set i og).getD i none = og:=by rw [List.getD_eq_getElem?_getD,hKh];rfl
     have e2 : κ'.getD own2.length none = og:=by simp [List.getD_eq_getElem?_getD,hog]
     have he2:=hO.ent own2.length x hnew
     rw [e2] at he2
     rw [e1]
     cases x with
     | box l =>
       rcases he2 with h3 | ⟨g,hg,cur,t,h3,h4,h5⟩
       ·exact .inl h3
       ·exact .inr ⟨g,hg,cur,t,h3,satL_data hW hx h4,h5⟩
     | lp=>exact hx.elim
     | mp=>exact hx.elim
     | row v s e c =>
       obtain ⟨h0,h3⟩:=he2
       refine ⟨h0,h3.imp id ?_⟩
       rintro ⟨g,hg,cur,h4,h5,h6⟩
       exact ⟨g,hg,cur,h4,h5,Dat.rowsSat_wide hW rfl c h6⟩
    ·have hil : i < own2.length:=by
      have:=(List.getElem?_eq_some_iff.1 hy).1
      rw [List.length_set] at this;exact this
     have hy2 : own2[i]? = some y:=by rw [List.getElem?_set_ne (Ne.symm hih)] at hy;exact hy
     have he2:=ho.ent i y hy2
     obtain ⟨ogi,hogi⟩:=ho.kap i y hy2
     -- the entry now,by the operation's own word
     have he3:=hO.ent i y (by rw [List.getElem?_append_left hil];exact hy2)
     have e1 : ((κ'.take own2.length).set h og).getD i none = κ'.getD i none:=by
      rw [List.getD_eq_getElem?_getD,List.getD_eq_getElem?_getD,hK i hil hih]
     rw [e1]
     cases y with
     | row v s e c =>
       obtain ⟨h0,h3⟩:=he3
       refine ⟨h0,h3.imp id ?_⟩
       rintro ⟨g,hg,cur,h4,h5,h6⟩
       exact ⟨g,hg,cur,h4,h5,Dat.rowsSat_wide hW rfl c h6⟩
     | box l =>
       rcases he3 with h3 | ⟨g,hg,cur,t,h3,h4,h5⟩
       ·exact .inl h3
       ·refine .inr ⟨g, hg, cur, t, h3, ?_, h5⟩
        rcases he2 with ⟨_,rfl⟩ | ⟨g2,hg2,cur2,t2,h6,h7,h8⟩
        ·exfalso
         obtain ⟨u,h9,h10⟩:=satL_get h4 0 (.tup []) (by simp)
         have h11:=h5 u (List.mem_of_getElem? h9)
         rw [AV.sat] at h10
         obtain ⟨vs,rfl,_⟩:=h10
         simp [Value.oneCell'] at h11
        ·exact keepTwoL mv hW l _ _ h7 h4
     | lp st pe ps asn bdy l =>
       obtain ⟨g,hg,r,h3,h4,h5⟩:=he3
       obtain ⟨g2,hg2,r2,h6,h7,h8⟩:=he2
       exact ⟨g,hg,r,h3,h4,keepTwoL mv hW l _ _ h8 h5⟩
     | mp ks =>
       obtain ⟨g,hg,es,clock,h3,h4⟩:=he3
       obtain ⟨g2,hg2,es2,clock2,h6,h7⟩:=he2
       refine ⟨g,hg,es,clock,h3,?_⟩
       cases ks with
       | inl ks=>exact h4
       | inr l =>
         obtain ⟨a,h8,h9⟩:=h4
         obtain ⟨b,h10,h11⟩:=h7
         exact ⟨a,h8,fun j x hx=>⟨keepTwo mv hW x _ _ (h11 j x hx).1 (h9 j x hx).1,(h9 j x hx).2⟩⟩
   ·intro _
    have h9:=hO.len
    have h8:=ho.len
    simp only [List.length_append,List.length_cons,List.length_nil] at h9
    rw [List.length_set,List.length_take,Nat.min_eq_left (by omega)]
    omega
  generalize (execOp a.eval o).run P w = res at h1 ⊢
  cases res with
  | ok nx w' =>
    cases nx<;>simp only [OutOk] at h1 ⊢
    case value v=>exact key v w' h1
    case skip=>exact key undef w' h1
    case enter f args=>exact h1.mono fun e w'' ⟨v,he,h2⟩=>⟨v,he,key v w'' h2⟩
    case round l f tmps asn bdy=>exact RoundIn.mono h1 fun e w'' ⟨v,he,h2⟩=>⟨v,he,key v w'' h2⟩
  | halt y w'=>exact h1.elim
 ·have hh2 : own2[h]? = some hole := by rw [hsame h (by simp)]; exact hh
  have hhl : h < own2.length:=(List.getElem?_eq_some_iff.1 hh2).1
  have hhl1 : h < own.length:=(List.getElem?_eq_some_iff.1 hh).1
  obtain rfl : t = h:=by simpa using ht
  rw [List.getElem?_set,List.getElem?_set]
  simp [hhl,hhl1]
end
end
section
def isHole : Ent → Bool
 | .box [.tup []]=>true
 | _=>false
theorem isHole_spec {x : Ent} (h : isHole x = true) : x = hole:=by
 unfold isHole at h
 split at h
 ·rfl
 ·cases h
def holeF : List Ent → Nat → Option Nat
 | [],_=>none
 | x :: l,k=>match isHole x with | true=>some k | false=>holeF l (Nat.succ k)
theorem holeF_spec : ∀ {l : List Ent} {k h : Nat}, holeF l k = some h → k ≤ h ∧ l[h - k]? = some hole
 | [],k,h,e=>by simp [holeF] at e
 | x :: l,k,h,e=>by
   simp only [holeF] at e
   cases hx : isHole x with
   | true =>
     simp only [hx,Option.some.injEq] at e
     subst e
     rw [Nat.sub_self,isHole_spec hx]
     exact ⟨Nat.le_refl _,rfl⟩
   | false =>
     simp only [hx] at e
     obtain ⟨h1,h2⟩:=holeF_spec e
     refine ⟨by omega,?_⟩
     rw [show h - k = (h - (k + 1)) + 1 by omega,List.getElem?_cons_succ]
     exact h2
section
variable {Γ : Ctx} {P : Program} {n m : Nat} {Q : Exit → St → Prop} {env : List (Nat × AV)} {own own' : List Ent} {c : Code}
theorem AWP.hole (ho : pushF own hole = some own') (hc : AWPG Γ P n m c Q ⟨env,own'⟩) : AWPG Γ P n m c Q ⟨env,own⟩:=fun F W κ0 a κ w hH hm hsim=>by
 have e1:=pushF_spec ho
 subst e1
 have hle : m ≤ κ.length:=by rw [← hm];exact hsim.pre
 obtain ⟨g1,g2⟩:=step_push (m:=m) (x:=Go.Proofs.YtplpgijpmgbaiaaGreatDoor.hole) (og:=none) (w':=w) hle hsim.own rfl rfl rfl (Nat.le_refl _) (fun _ _=>rfl) (.inl rfl) (fun hst=>.inl ⟨rfl,rfl⟩)
 exact hc F W κ0 a (κ ++ [none]) w hH hm (hsim.step hm g2 hsim.tm rfl (fun u=>g2.keep _ _ (hsim.env u)) g1)
end
section
variable {P : Program} {m : Nat} {env : List (Nat × AV)} {own : List Ent} {dst : Option Tmp} {ty : TypeId} {pos : String} {af : Array Edge} {gd : Option (Nat × Bool)}
theorem l_alloc {t : TypeId} {zs : List Value} {h : Nat} {own' : List Ent} (hh : holeF own 0 = some h) (hz : zeroInfo P t = some zs) (ho : setF own h (.box (zs.map fun z => .d (.v z))) = some own') (h1 : (zs.all (·.oneCell')) = true) (hm : Nat.ble 0 h = true) :
 Loc P m ⟨dst,.alloc t,ty,pos,af,gd⟩ env own [h] [] (.opt h 0) own':=by
 rw [setF_spec ho]
 refine Loc.fill (k:=.inr 0) (x:=.box (zs.map fun z=>.d (.v z))) (holeF_spec hh).2 (Nat.le_of_ble_eq_true hm) (fun x hx=>?_) fun env' own2 hag hsame=>?_
 ·obtain ⟨z, _, rfl⟩ := List.mem_map.1 hx
  exact ⟨_,rfl⟩
 ·exact (e_alloc (P:=P) (m:=m) (env:=env') (own:=own2) (dst:=dst) (ty:=ty) (pos:=pos) (af:=af) (gd:=gd) hz h1).1 env' fun _ _=>rfl
theorem l_make {α : Type} {f : α → List Dat} {t e : TypeId} {by' : Nat} {z : Value} {x y : Operand} {k k' : IntKind} {i : Int} {n h : Nat} {own' : List Ent} (v0 : α) (hh : holeF own 0 = some h) (hx : lookO env x = .d (.v (.int k i))) (hy : lookO env y = .d (.v (.int k' i))) (hi : i = n) (ht : slInfo P t = some (e, 1, by', z)) (hz : f v0 = [.v z]) (ho : setF own h (.row 0 1 e ((List.replicate n v0).map f)) = some own') (hz' : z.cells = #[z]) (h1 : z.oneCell' = true) (hby : Nat.ble by' 1024 = true) (hm : Nat.ble 0 h = true) (hn : n ≤ 1000000000) :
 Loc P m ⟨dst,.makeSlice t x y,ty,pos,af,gd⟩ env own [h] [] (.osl h 0 0 n) own':=by
 rw [setF_spec ho]
 refine Loc.fill (k:=.inl (0,0,n)) (x:=.row 0 1 e ((List.replicate n v0).map f)) (holeF_spec hh).2 (Nat.le_of_ble_eq_true hm) trivial fun env' own2 hag hsame=>?_
 have hx' : lookO env' x = .d (.v (.int k i)):=by rw [← hx];exact lookO_seen (o:=⟨dst,.makeSlice t x y,ty,pos,af,gd⟩) hag (by simp [Op.operands])
 have hy' : lookO env' y = .d (.v (.int k' i)):=by rw [← hy];exact lookO_seen (o:=⟨dst,.makeSlice t x y,ty,pos,af,gd⟩) hag (by simp [Op.operands])
 have:=(e_make (P:=P) (m:=m) (env:=env') (own:=own2) (dst:=dst) (ty:=ty) (pos:=pos) (af:=af) (gd:=gd) n ht (by rw [hz'];rfl) rfl (by rw [hz'];simpa using h1) hby hx' hy' hi hn).1 env' fun _ _=>rfl
 rw [hz'] at this
 rw [List.map_replicate,hz]
 exact this
theorem W.ln {ops : Array Oper} {Q : List Part → List (Nat × AV) → List Ent → Prop} {done : List Part} {op : Op} {rest : List Oper} {mod fp : List Nat} {r : AV} {own' : List Ent} (hq : Loc P m ⟨none,op,ty,pos,af,none⟩ env own mod fp r own') (h : Walk P m ops Q (.l mod fp :: done) rest env own') : Walk P m ops Q done (⟨none,op,ty,pos,af,none⟩ :: rest) env own:=Walk.l mod fp r own' trivial hq h
theorem Loc.set {o : Oper} {i : Nat} {x y : Ent} {r : AV} (hi : own[i]? = some x) (hq : ∀ env' own2,(∀ t ∈ (seenOf o),look env' t = look env t) → own2[i]? = some x → OpOk P m o env' own2 r (own2.set i y)) : Loc P m o env own [i] [] r (own.set i y):=by
 refine ⟨fun env' own2 hag hsame=>⟨own2.set i y,hq env' own2 hag (by rw [hsame i (by simp)];exact hi),fun t ht=>?_,fun t ht=>by rw [List.getElem?_set_ne (by simpa using Ne.symm (by simpa using ht))]⟩,fun j hj=>by rw [List.getElem?_set_ne (by simpa using Ne.symm (by simpa using hj))]⟩
 obtain rfl : t = i:=by simpa using ht
 have h2 : own2[t]? = some x:=by rw [hsame t (by simp)];exact hi
 have h3 : t < own2.length:=(List.getElem?_eq_some_iff.1 h2).1
 have h4 : t < own.length:=(List.getElem?_eq_some_iff.1 hi).1
 rw [List.getElem?_set,List.getElem?_set]
 simp [h3,h4]
theorem l_st_box {t : TypeId} {n : Nat} {b : Bool} {x y : Operand} {i o : Nat} {l cs l' : List AV} {own' : List Ent} (hx : lookO env x = .opt i o) (hl : own[i]? = some (.box l)) (hc : cellsF (lookO env y) = some cs) (hs : spliceF o cs l = some l') (ho : setF own i (.box l') = some own') (ht : tyInfo P t = some (b, n)) (hok : okPart (lookO env y) = true) (h1 : cs.all oneA = true) (hn : Nat.beq cs.length n = true) :
 Loc P m ⟨dst,.store t x y,ty,pos,af,gd⟩ env own [i] [] (.d (.v undef)) own':=by
 have hn:=Nat.eq_of_beq_eq_true hn
 obtain ⟨h2,h3⟩:=spliceF_spec hs
 rw [setF_spec ho]
 refine Loc.set hl fun env' own2 hag hi=>?_
 have hx' : lookO env' x = .opt i o:=by rw [← hx];exact lookO_seen (o:=⟨dst,.store t x y,ty,pos,af,gd⟩) hag (by simp [Op.operands])
 have hy' : lookO env' y = lookO env y:=lookO_seen (o:=⟨dst,.store t x y,ty,pos,af,gd⟩) hag (by simp [Op.operands])
 have:=(e_st_box (P:=P) (m:=m) (env:=env') (own:=own2) (dst:=dst) (ty:=ty) (pos:=pos) (af:=af) (gd:=gd) ht hx' hi (by rw [hy'];exact cellsF_A hc) (by rw [hy'];exact hok) h1 hn (by omega)).1 env' fun _ _=>rfl
 rwa [h2]
theorem l_st_rpt {α : Type} {f : α → List Dat} {l : List α} {t : TypeId} {x y : Operand} {i ver j : Nat} {e : TypeId} {d : Dat} {own' : List Ent} (v : α) (hx : lookO env x = .rpt i ver j 0) (hi : own[i]? = some (.row ver 1 e (l.map f))) (ht : tyInfo P t = some (false, 1)) (hy : cellsD (lookO env y) = some [d]) (hd : f v = [d]) (ho : setF own i (.row ver 1 e ((l.set j v).map f)) = some own') (h1 : oneA (.d d) = true) (hf : ∀ x, (f x).length = 1) (hj : j < l.length) :
 Loc P m ⟨dst,.store t x y,ty,pos,af,gd⟩ env own [i] [] (.d (.v undef)) own':=by
 rw [setF_spec ho]
 refine Loc.set hi fun env' own2 hag hi2=>?_
 have hx' : lookO env' x = .rpt i ver j 0:=by rw [← hx];exact lookO_seen (o:=⟨dst,.store t x y,ty,pos,af,gd⟩) hag (by simp [Op.operands])
 have hy' : lookO env' y = lookO env y:=lookO_seen (o:=⟨dst,.store t x y,ty,pos,af,gd⟩) hag (by simp [Op.operands])
 have hc : (l.map f)[j]? = some (f l[j]):=by rw [List.getElem?_map,List.getElem?_eq_getElem hj];rfl
 have:=(e_st_rpt (P:=P) (m:=m) (env:=env') (own:=own2) (dst:=dst) (ty:=ty) (pos:=pos) (af:=af) (gd:=gd) (k:=1) ht rfl hx' hi2 hc (by omega) (by rw [hy'];exact hy) h1).1 env' fun _ _=>rfl
 have e1 : (f l[j]).set 0 d = [d]:=by
  have:=hf l[j]
  match hq : f l[j],this with
  | [a],_=>rfl
 rw [e1,← hd] at this
 rw [List.map_set]
 exact this
end
section
variable {P : Program} {m : Nat} {env : List (Nat × AV)} {own : List Ent} {dst : Option Tmp} {ty : TypeId} {pos : String} {af : Array Edge} {gd : Option (Nat × Bool)}
theorem jAh {t : TypeId} {n : Nat} {b : Bool} {x y : Operand} {i o : Nat} {l cs l' : List AV} {own' : List Ent} (hx : lookO env x = .opt i o:=by exact rfl) (hl : own[i]? = some (.box l):=by exact rfl) (hc : cellsF (lookO env y) = some cs:=by exact rfl) (hs : spliceF o cs l = some l':=by exact rfl) (ho : setF own i (.box l') = some own':=by exact rfl) (ht : tyInfo P t = some (b,n):=by exact rfl) (hok : okPart (lookO env y) = true:=by kernel_rfl) (h1 : cs.all oneA = true:=by kernel_rfl) (hn : Nat.beq cs.length n = true:=by kernel_rfl) : Loc P m ⟨dst,.store t x y,ty,pos,af,gd⟩ env own [i] [] (.d (.v undef)) own':=l_st_box hx hl hc hs ho ht hok h1 hn
end
end
section
section
variable {P : Program} {m : Nat} {env : List (Nat × AV)} {own : List Ent} {dst : Option Tmp} {ty : TypeId} {pos : String} {af : Array Edge} {gd : Option (Nat × Bool)}
theorem run_eqnil {t e : TypeId} (he : P.underlying t = some (.slice e)) (d : Nat) (a : Addr) (n c : Nat) (w : World) : (Op.equalIn (d + 1) t (.slice (some a) n c) (.slice none 0 0)).run P w = .ok false w:=by
 simp [Op.equalIn,run_underlying he]
theorem W.regionS {Γ : Ctx} {n : Nat} {Q : Exit → St → Prop} {id : Nat} {l : List Oper} (N : Nat) (hN : Nat.beq id N = false) (hf : fitsB n ⟨l⟩ = true) (h : Walk P m ⟨l⟩ (fun _ env own=>Q .normal ⟨env,own⟩) [] l env own) : AWPG Γ P n m (.region id ⟨l⟩ false) Q ⟨env,own⟩:=AWP.region hf h
theorem W.regionDS {Γ : Ctx} {n : Nat} {Q : Exit → St → Prop} {id : Nat} {l : List Oper} (N : Nat) (hN : Nat.beq id N = false) (hmo : P.follows .mixedOrders = true) (hf : fitsB n ⟨l⟩ = true) (h : Walk P m ⟨l⟩ (fun done env own=>chkOps ⟨l⟩ done.reverse = true ∧ Q .normal ⟨env,own⟩) [] l env own) : AWPG Γ P n m (.region id ⟨l⟩ true) Q ⟨env,own⟩:=AWP.regionD hmo hf h
theorem l_app1 {α : Type} {f : α → List Dat} {l : List α} {t e : TypeId} {sz by' : Nat} {z : Value} {x y : Operand} {p ver : Nat} {own' : List Ent} (v : α) (hx : lookO env x = .osl p ver 0 l.length) (hp : own[p]? = some (.row ver sz e (l.map f))) (hy : lookO env y = .d (.sl sz [f v])) (ho : setF own p (.row (ver + 1) sz e ((l ++ [v]).map f)) = some own') (ht : slInfo P t = some (e, sz, by', z)) (hz : z.cells.size = sz) (hby : Nat.ble by' 1024 = true) (hm : Nat.ble 0 p = true)
 (hb : l.length + 1 ≤ 1000000000) :
 Loc P m ⟨dst,.call ⟨.builtin .append,#[x,y],#[t,t]⟩,ty,pos,af,gd⟩ env own [p] [] (.osl p (ver + 1) 0 (l ++ [v]).length) own':=by
 rw [setF_spec ho]
 refine Loc.set hp fun env' own2 hag hi=>?_
 have hx' : lookO env' x = .osl p ver 0 l.length:=by rw [← hx];exact lookO_seen (o:=⟨dst,.call ⟨.builtin .append,#[x,y],#[t,t]⟩,ty,pos,af,gd⟩) hag (by simp [Op.operands,Call.operands])
 have hy' : lookO env' y = .d (.sl sz [f v]):=by rw [← hy];exact lookO_seen (o:=⟨dst,.call ⟨.builtin .append,#[x,y],#[t,t]⟩,ty,pos,af,gd⟩) hag (by simp [Op.operands,Call.operands])
 exact (e_app1 (P:=P) (m:=m) (env:=env') (own:=own2) (dst:=dst) (ty:=ty) (pos:=pos) (af:=af) (gd:=gd) v ht hz hby hx' hi hy' hm hb).1 env' fun _ _=>rfl
theorem q_eqnil {t t' : TypeId} {x y : Operand} {sz : Nat} {l : List (List Dat)} (hx : lookO env x = .d (.sl sz l)) (hy : lookO env y = .d (.v (.slice none 0 0))) (ht : isSl P t = true) (hl : 0 < l.length) :
 Quiet P m ⟨dst,.binOp .eql t x y t',ty,pos,af,gd⟩ env own [] (bV false) :=
 Quiet.val fun F own' κ a w hs _ _ _=>by
  have h1:=hs x (by simp [Op.operands]);rw [hx,AV.sat,Dat.sat] at h1
  have h2:=hs y (by simp [Op.operands]);rw [hy,sat_v] at h2
  obtain ⟨A,c,h3,_,_,h4⟩:=h1
  obtain ⟨b,o,rfl,_⟩:=h4 hl
  obtain ⟨e,he⟩:=isSl_spec ht
  refine ⟨.bool false,exec_v ?_,sat_v.2 rfl⟩
  rw [h2,h3]
  have he2:=run_eqnil (P:=P) he 9999 ⟨b,o,none⟩ l.length c w
  have h5 : (eqGuard .eql t x y (.slice (some ⟨b,o,none⟩) l.length c) (.slice none 0 0)).run P w = .ok () w:=by simp [eqGuard]
  have h6 : (binOp .eql t (.slice (some ⟨b,o,none⟩) l.length c) (.slice none 0 0)).run P w = .ok (.bool false) w:=by
   simp only [binOp,Sem.run_bind,Op.equal]
   rw [show Op.maxDepth = 9999 + 1 from rfl,he2]
   rfl
  simp only [Sem.run_bind,h5,Result.andThen_ok,h6]
theorem q_eqnilm {α : Type} {f : α → List Dat} {l : List α} {t t' : TypeId} {x y : Operand} {sz : Nat} (hx : lookO env x = .d (.sl sz (l.map f))) (hy : lookO env y = .d (.v (.slice none 0 0))) (ht : isSl P t = true) (hl : 0 < l.length) :
 Quiet P m ⟨dst,.binOp .eql t x y t',ty,pos,af,gd⟩ env own [] (bV false):=q_eqnil hx hy ht (by simpa using hl)
theorem e_lit0F {t e : TypeId} {sz by' q : Nat} {z : Value} {own' : List Ent} (hq : lenF own 0 = some q) (ht : slInfo P t = some (e, sz, by', z)) (ho : pushF own (.row 0 sz e []) = some own') (hz : Nat.beq z.cells.size sz = true) (h0 : Nat.ble 1 sz = true) :
 Eff P m ⟨dst,.buildSlice t 0 #[],ty,pos,af,gd⟩ env own [q] (.osl q 0 0 0) own':=by
 have e1:=lenF_spec hq
 rw [Nat.add_zero] at e1
 rw [pushF_spec ho,e1]
 exact e_lit [] ht (Nat.eq_of_beq_eq_true hz) (Nat.le_of_ble_eq_true h0) trivial rfl (by omega)
theorem q_ld_rpts {t : TypeId} {k : Nat} {x : Operand} {i ver j sz : Nat} {e : TypeId} {l : List (List Dat)} {c : List Dat} (ht : tyInfo P t = some (true, k)) (hx : lookO env x = .rpt i ver j 0) (hi : own[i]? = some (.row ver sz e l)) (hk : k = sz) (hc : l[j]? = some c) :
 Quiet P m ⟨dst,.load t x,ty,pos,af,gd⟩ env own [i] (.agg (c.map .d)) :=
 Quiet.val fun F own' κ a w hs ho hsame _=>by
  have h1:=hs x (by simp [Op.operands]);rw [hx,AV.sat] at h1
  have hp' : own'[i]? = some (.row ver sz e l):=by rw [hsame i (by simp)];exact hi
  obtain ⟨h2,b,h3,h4⟩:=h1.2 sz e l hp'
  obtain ⟨h0,h5⟩:=ho.ent i _ hp'
  rw [getD_some h3] at h5
  rcases h5 with ⟨h5,_⟩ | ⟨g',h5,cur,h6',h7',h8'⟩
  ·cases h5
  ·obtain rfl : b = g' := by simpa using h5
   obtain ⟨h6,h7⟩:=Dat.rowsSat_iff.1 h8' j c hc
   have h7:=Dat.rowSat_iff.1 h7
   let us:=(List.range c.length).map fun i=>((w.cell? ⟨b,0 + j * sz + i,none⟩).getD undef)
   have hus : ∀ (i : Nat) (y : Dat),c[i]? = some y → ∃ u,us[i]? = some u ∧ w.cell? ⟨b,0 + j * sz + i,none⟩ = some u ∧ Dat.sat (badK F κ) w y u:=fun i y hy=>by
    obtain ⟨u,h8,h9,h10⟩:=h7 i y hy
    have hlt : i < c.length:=(List.getElem?_eq_some_iff.1 hy).1
    exact ⟨u,by simp [us,hlt,Nat.zero_add] at h8 ⊢;rw [h8];rfl,h8,h10⟩
   have hrun : (Instr.loadAt t (.pointer (some ⟨b,j * sz + 0,none⟩))).run P w = .ok (.agg us.toArray) w:=by
    refine run_loadAt_agg ht us (by simp [us,h6,hk]) fun i u hu=>?_
    have hlt : i < c.length:=by have:=(List.getElem?_eq_some_iff.1 hu).1;simpa [us] using this
    obtain ⟨u',h8,h9,_⟩:=hus i _ (List.getElem?_eq_getElem hlt)
    rw [hu] at h8;obtain rfl : u = u':=by simpa using h8
    rw [Nat.add_zero];rw [Nat.zero_add] at h9;exact h9
   refine ⟨.agg us.toArray,exec_v (by rw [h4];exact hrun),?_⟩
   ·rw [AV.sat]
    refine ⟨_,rfl,satL_of (by simp [us]) fun i y hy=>?_⟩
    rw [List.getElem?_map] at hy
    cases he' : c[i]? with
    | none=>simp [he'] at hy
    | some d =>
      obtain rfl : AV.d d = y:=by simpa [he'] using hy
      obtain ⟨u,h8,_,h9⟩:=hus i d he'
      exact ⟨u,by simpa using h8,by rw [AV.sat];exact h9⟩
theorem q_ld_rptsm {α : Type} {f : α → List Dat} {l : List α} {t : TypeId} {k : Nat} {x : Operand} {i ver j sz : Nat} {e : TypeId} (hx : lookO env x = .rpt i ver j 0) (hi : own[i]? = some (.row ver sz e (l.map f))) (ht : tyInfo P t = some (true, k)) (hk : k = sz) (hj : j < l.length) :
 Quiet P m ⟨dst,.load t x,ty,pos,af,gd⟩ env own [i] (.agg ((f (l[j]'hj)).map .d)):=q_ld_rpts ht hx hi hk (by rw [List.getElem?_map,List.getElem?_eq_getElem hj];rfl)
end
end
section
theorem Sim.start {F : Nat → Prop} {own : List Ent} {κ : List (Option Nat)} {w : World} {n : Nat} {env : List (Nat × AV)} {a : Act} (htm : a.tmps.size = n) (hdf : a.defers = []) (he : EnvSat F own κ w env a) (ho : OwnSat F own κ w) : Sim F ⟨w,own⟩ κ n ⟨env,own⟩ a κ w :=
 ⟨htm,hdf ▸ Marks.nil,he,ho,by simp,rfl,rfl,rfl,Nat.le_refl _,fun _ _ _=>rfl,fun _ h=>.inl h,ho.len,fun _ _ h=>h⟩
theorem Tr.weak {F : Nat → Prop} {m m' : Nat} {own own' : List Ent} {κ κ' : List (Option Nat)} {w w' : World} (h : Tr F m own κ w own' κ' w') (hm : m' ≤ m) (hk : m ≤ κ.length) : Tr F m' own κ w own' κ' w' :=
 ⟨h.os,h.tape,h.output,h.size,h.old,h.new,fun _=>Nat.le_trans hm (h.pre hk),h.keep⟩
def Ctx.round (l : Nat) : Ctx:=⟨Fence.wide.inRound l,fun _ _ _=>True,.inr ⟨l,rfl⟩⟩
def tmpsOf (env : List (Nat × AV)) (n : Nat) : List AV:=(List.range n).map (look env)
def envIn (n : Nat) (env : List (Nat × AV)) : Bool:=env.all fun p=>decide (p.1 < n)
theorem envIn_look {n : Nat} : ∀ {env : List (Nat × AV)}, envIn n env = true → ∀ t, n ≤ t → look env t = .top
 | [],_,t,_=>rfl
 | (s,x) :: rest,h,t,ht=>by
   simp only [envIn,List.all_cons,Bool.and_eq_true,decide_eq_true_eq] at h
   simp only [look]
   rw [if_neg (by omega)]
   exact envIn_look h.2 t ht
theorem tmpsOf_get {env : List (Nat × AV)} {n t : Nat} (h : t < n) : (tmpsOf env n)[t]? = some (look env t):=by simp [tmpsOf,h]
theorem tmpsOf_sat {F : Nat → Prop} {own : List Ent} {κ : List (Option Nat)} {w : World} {env : List (Nat × AV)} {n : Nat} {tmps : Array Value} (hin : envIn n env = true) (h : AV.satL F own κ w (tmpsOf env n) tmps.toList) : ∀ t,AV.sat F own κ w (look env t) (tmps.getD t undef):=fun t=>by
 by_cases ht : t < n
 ·obtain ⟨u, h1, h2⟩ := satL_get h t _ (tmpsOf_get ht)
  have : tmps.getD t undef = u:=by rw [Array.getD_eq_getD_getElem?];rw [Array.getElem?_toList] at h1;rw [h1];rfl
  rw [this];exact h2
 ·rw [envIn_look hin t (by omega)];simp [AV.sat]
theorem tmpsOf_of {F : Nat → Prop} {own : List Ent} {κ : List (Option Nat)} {w : World} {env : List (Nat × AV)} {n : Nat} {tmps : Array Value} (hsz : tmps.size = n) (h : ∀ t,AV.sat F own κ w (look env t) (tmps.getD t undef)) : AV.satL F own κ w (tmpsOf env n) tmps.toList:=by
 refine satL_of (by simp [tmpsOf,hsz]) fun j x hx=>?_
 have hj : j < n:=by have:=(List.getElem?_eq_some_iff.1 hx).1;simpa [tmpsOf] using this
 rw [tmpsOf_get hj] at hx
 obtain rfl : look env j = x:=by simpa using hx
 have:=h j
 refine ⟨tmps.getD j undef,?_,this⟩
 rw [Array.getElem?_toList,Array.getD_eq_getD_getElem?,Array.getElem?_eq_getElem (by omega)];rfl
def putP : List Nat → List AV → List (Nat × AV) → List (Nat × AV)
 | p :: ps,x :: xs,env=>putP ps xs ((p,x) :: env)
 | _,_,env=>env
theorem putP_sat {F : Nat → Prop} {own : List Ent} {κ : List (Option Nat)} {w : World} : ∀ {ps : List Nat} {xs : List AV} {us : List Value} {env : List (Nat × AV)} {tmps : Array Value}, AV.satL F own κ w xs us → (∀ p ∈ ps, p < tmps.size) → (∀ t, AV.sat F own κ w (look env t) (tmps.getD t undef)) →
 ∀ t,AV.sat F own κ w (look (putP ps xs env) t) (((ps.zip us).foldl (fun tmps (p : Nat × Value)=>tmps.setIfInBounds p.1 p.2) tmps).getD t undef)
 | [],xs,us,env,tmps,hx,hp,he=>by simpa [putP] using he
 | p :: ps,[],[],env,tmps,hx,hp,he=>by simpa [putP] using he
 | p :: ps,[],_ :: _,env,tmps,hx,hp,he=>by simp [AV.satL] at hx
 | p :: ps,_ :: _,[],env,tmps,hx,hp,he=>by simp [AV.satL] at hx
 | p :: ps,x :: xs,u :: us,env,tmps,hx,hp,he=>by
   rw [AV.satL] at hx
   rw [putP,List.zip_cons_cons,List.foldl_cons]
   refine putP_sat hx.2 (fun q hq=>by rw [Array.size_setIfInBounds];exact hp q (by simp [hq])) fun t=>?_
   simp only [look]
   by_cases e : p = t
   ·subst e
    have hlt:=hp p (by simp)
    rw [if_pos rfl]
    have : (tmps.setIfInBounds p u).getD p undef = u:=by simp [Array.getD_eq_getD_getElem?,hlt]
    rw [this];exact hx.1
   ·rw [if_neg e]
    have : (tmps.setIfInBounds p u).getD t undef = tmps.getD t undef:=by rw [Array.getD_eq_getD_getElem?,Array.getD_eq_getD_getElem?,Array.getElem?_setIfInBounds_ne e]
    rw [this];exact he t
theorem fold_size : ∀ {l : List (Nat × Value)} {tmps : Array Value}, (l.foldl (fun tmps (p : Nat × Value) => tmps.setIfInBounds p.1 p.2) tmps).size = tmps.size
 | [],_=>rfl
 | p :: l,tmps=>by rw [List.foldl_cons,fold_size];simp
theorem lp_set {F : Nat → Prop} {own : List Ent} {κ : List (Option Nat)} {w : World} {i : Nat} {st : LoopState} {pe : Option Code} {ps : Array Tmp} {asn bdy : Code} {l : List AV} (ho : OwnSat F own κ w) (hi : own[i]? = some (.lp st pe ps asn bdy l)) :
 ∃ g r, κ[i]? = some (some g) ∧ w.heap[g]? = some (.loop r) ∧ (r.state = st ∧ r.pending = pe ∧ r.params = ps ∧ r.assign = asn ∧ r.body = bdy) ∧ AV.satL F own κ w l r.tmps.toList ∧
  ∀ st' pe',OwnSat F (own.set i (.lp st' pe' ps asn bdy l)) κ (w.putObj g (.loop { r with state:=st',pending:=pe' })) ∧ ∀ m,Tr F m own κ w (own.set i (.lp st' pe' ps asn bdy l)) κ (w.putObj g (.loop { r with state:=st',pending:=pe' })):=by
 obtain ⟨og,hog⟩:=ho.kap i _ hi
 have hent:=ho.ent i _ hi
 have e : κ.getD i none = og:=by simp [List.getD_eq_getElem?_getD,hog]
 rw [e] at hent
 obtain ⟨g,rfl,r,h1,h2,h3⟩:=hent
 refine ⟨g,r,hog,h1,h2,h3,fun st' pe'=>?_⟩
 have hlt : g < w.heap.size:=(Array.getElem?_eq_some_iff.1 h1).1
 have ek : κ.set i (some g) = κ:=List.ext_getElem? fun j=>by
  by_cases hj : j = i
  ·subst hj;rw [List.getElem?_set_self (List.getElem?_eq_some_iff.1 hog).1,hog]
  ·rw [List.getElem?_set_ne (Ne.symm hj)]
 have key := fun m => step_upd (m := m) (x' := .lp st' pe' ps asn bdy l) (og' := some g) (w' := w.putObj g (.loop { r with state := st', pending := pe' })) ho hi hog rfl rfl rfl (by simp) (fun b hb hne => World.putObj_heap_other fun e => hne (by rw [e])) (.inl rfl) (.inr rfl) rfl
  (fun hst=>⟨g,rfl,_,World.putObj_heap_same hlt,⟨rfl,rfl,h2.2.2.1,h2.2.2.2.1,h2.2.2.2.2⟩,AV.satL_stab hst ho.kap l h3⟩)
 rw [ek] at key
 exact ⟨(key 0).1,fun m=>(key m).2⟩
def YAt (P : Program) (i : Nat) (own : List Ent) (xs : List AV) (b : Bool) (own' : List Ent) : Prop :=
 ∀ (F : Nat → Prop) (κ : List (Option Nat)) (w : World) (us : List Value) (g : Nat), OwnSat F own κ w → κ[i]? = some (some g) → AV.satL F own κ w xs us →
  ∃ r : Loop,w.heap[g]? = some (.loop r) ∧ us.length = r.params.size ∧ RoundIn Fence.wide 0 P g r.fn ((r.params.zip us.toArray).foldl (fun tmps (t,x)=>tmps.setIfInBounds t x) r.tmps) r.assign r.body w fun e w'=>e = .returned (.bool b) ∧ ∃ κ',OwnSat F own' κ' w' ∧ Tr F own.length own κ w own' κ' w'
section
variable {P : Program} {m : Nat} {env : List (Nat × AV)} {own : List Ent} {dst : Option Tmp} {ty : TypeId} {pos : String} {af : Array Edge} {gd : Option (Nat × Bool)}
theorem e_yield {fo : Operand} {args : Array Operand} {ts : Array TypeId} {i : Nat} {xs : List AV} {b : Bool} {own' : List Ent} (hy : YAt P i own xs b own') (hfo : lookO env fo = .yl i) (ha : args.toList.map (lookO env) = xs) :
 Eff P m ⟨dst,.call ⟨.value fo,args,ts⟩,ty,pos,af,gd⟩ env own (List.range (own.length + own'.length)) (.d (.v (.bool b))) own' :=
 Eff.mk (fun j hj=>by
  rw [List.mem_range] at hj
  rw [List.getElem?_eq_none (by omega),List.getElem?_eq_none (by omega)]) fun F κ a w hs hO hm=>by
  have h1:=hs fo (by simp [Op.operands,Call.operands])
  rw [hfo,AV.sat] at h1
  obtain ⟨g,st,pe,ps,asn,bdy,l,h2,h3,h4⟩:=h1
  have hus : AV.satL F own κ w xs (args.toList.map a.eval):=by
   rw [← ha]
   refine satL_of (by simp) fun j y hy=>?_
   rw [List.getElem?_map] at hy
   cases h : args.toList[j]? with
   | none=>simp [h] at hy
   | some c =>
     obtain rfl : lookO env c = y:=by simpa [h] using hy
     have hmem : c ∈ args:=by have:=List.mem_of_getElem? h;simpa using this
     exact ⟨a.eval c,by rw [List.getElem?_map,h];rfl,hs c (by simp [Op.operands,Call.operands,hmem])⟩
  obtain ⟨r,h5,h6,h7⟩:=hy F κ w _ g hO h3 hus
  have e : (args.toList.map a.eval).toArray = args.map a.eval:=by rw [← Array.toList_map]
  rw [e] at h7
  have hx : (execOp a.eval ⟨dst,.call ⟨.value fo,args,ts⟩,ty,pos,af,gd⟩).run P w = .ok (.round g r.fn ((r.params.zip (args.map a.eval)).foldl (fun tmps (t,x)=>tmps.setIfInBounds t x) r.tmps) r.assign r.body) w:=by
   simp only [execOp,resolve,h4,Deferred.ofValue,Sem.run_bind,Sem.run_pure,Result.andThen_ok,invoke]
   have:=run_yield (P:=P) (args:=#[] ++ args.map a.eval) h5 (by rw [← h6];simp)
   simpa using this
  rw [hx]
  refine RoundIn.mono h7 ?_
  rintro e' w' ⟨he,κ',h8,h9⟩
  exact ⟨_,he,κ',by simp [AV.sat,Dat.sat],h8,h9.weak (by rw [hO.len];exact hm) (by rw [hO.len];exact Nat.le_refl _)⟩
end
def jumpOf : Exit → Option Code
 | .ret=>some .ret
 | .exit id=>some (.exit id)
 | .goto t=>some (.goto t)
 | _=>none
def okEnd : Exit → Bool
 | .normal | .ret | .exit _ | .goto _=>true
 | _=>false
theorem YAt.mk {P : Program} {n i : Nat} {ps : Array Tmp} {asn bdy : Code} {envC : List (Nat × AV)} {xs : List AV} {own own1 : List Ent} {e0 : Exit} {s2 : St} {l3 : List AV}
 (hi : own[i]? = some (.lp .ready none ps asn bdy (tmpsOf envC n))) (hin : envIn n envC = true) (hxs : xs.length = ps.size) (hps : (ps.toList.all fun p=>decide (p < n)) = true)
 (hA : ∀ g,AWPG (Ctx.round g) P n own.length asn (fun e s=>e = .normal ∧ s = s2) ⟨putP ps.toList xs envC,own⟩) (h2 : s2.own = own)
 (hB : ∀ g,AWPG (Ctx.round g) P n own.length bdy (fun e s=>e = e0 ∧ s.own = own1) ⟨s2.env,own.set i (.lp .busy none ps asn bdy (tmpsOf envC n))⟩)
 (h1 : own1[i]? = some (.lp .busy none ps asn bdy l3)) (he : okEnd e0 = true) :
 YAt P i own xs (jumpOf e0).isNone (own1.set i (.lp (if (jumpOf e0).isNone then .ready else .done) (jumpOf e0) ps asn bdy l3)):=fun F κ w us g ho hκ hus=>by
 obtain ⟨g',r,hg',hr,⟨rst,rpe,rps,ras,rbd⟩,hsat,-⟩:=lp_set ho hi
 obtain rfl : g = g':=by rw [hκ] at hg';simpa using hg'
 have hil : i < own.length:=(List.getElem?_eq_some_iff.1 hi).1
 have hsz : r.tmps.size = n:=by have:=satL_length hsat;simpa [tmpsOf] using this.symm
 refine ⟨r,hr,by rw [rps,← hxs];exact (satL_length hus).symm,?_⟩
 rw [ras,rbd,rps]
 have ez : (ps.zip us.toArray).foldl (fun tmps (t,x)=>tmps.setIfInBounds t x) r.tmps = (ps.toList.zip us).foldl (fun tmps (p : Nat × Value)=>tmps.setIfInBounds p.1 p.2) r.tmps:=by
  rw [← Array.foldl_toList,Array.toList_zip]
 rw [ez]
 have henv : EnvSat F own κ w (putP ps.toList xs envC) { tmps:=(ps.toList.zip us).foldl (fun tmps (p : Nat × Value)=>tmps.setIfInBounds p.1 p.2) r.tmps,defers:=[] } :=
  putP_sat hus (fun p hp=>by have:=List.all_eq_true.1 hps p hp;rw [hsz];simpa using this) (tmpsOf_sat hin hsat)
 refine roundIn_of_wpIn trivial (wpIn_mono (hA g F ⟨w,own⟩ κ _ κ w trivial ho.len.symm (Sim.start (by rw [← hsz];exact fold_size) rfl henv ho)) ?_)
 rintro e a1 w1 ⟨s',κ1,⟨rfl,rfl⟩,hs1⟩
 obtain ⟨env2,own2⟩:=s'
 subst h2
 have hroot : AV.sat F own2 κ w (.yl i) (.func (.yield g) #[] #[]):=by rw [AV.sat];exact ⟨g,_,_,_,_,_,_,hi,hκ,rfl⟩
 have at1 : ∀ {own' : List Ent} {κ' : List (Option Nat)} {w' : World} {g' : Nat},AV.sat F own' κ' w' (.yl i) (.func (.yield g) #[] #[]) → κ'[i]? = some (some g') → g = g':=fun h hg=>by
  rw [AV.sat] at h
  obtain ⟨g2,_,_,_,_,_,_,_,h2,h3⟩:=h
  rw [h2] at hg
  obtain rfl : g2 = _:=by simpa using hg
  simpa using h3
 obtain ⟨g1,r1,hg1,hr1,hf1,-,hset1⟩:=lp_set hs1.own hi
 obtain rfl : g = g1:=at1 (hs1.keep _ _ hroot) hg1
 refine ⟨_,run_beginRound hr1 hf1.1,?_⟩
 have hs2:=hs1.step (m:=own2.length) ho.len.symm ((hset1 .busy none).2 _) hs1.tm rfl (fun t=>((hset1 .busy none).2 0).keep _ _ (hs1.env t)) (hset1 .busy none).1
 have er : ({ r1 with state:=.busy } : Loop) = { r1 with state:=.busy,pending:=none }:=by rw [← hf1.2.1]
 rw [er]
 refine wpIn_mono (hB g F _ κ a1 κ1 _ trivial ho.len.symm hs2) ?_
 rintro e a3 w3 ⟨s3,κ4,⟨rfl,rfl⟩,hs4⟩
 obtain ⟨g4,r4,hg4,hr4,hf4,-,hset4⟩:=lp_set hs4.own h1
 obtain rfl : g = g4:=at1 (hs4.keep _ _ hroot) hg4
 have htr : Tr F own2.length own2 κ w s3.own κ4 w3:=⟨hs4.os,hs4.tape,hs4.output,hs4.size,hs4.old,hs4.new,(fun _=>by rw [show own2.length = κ.length from ho.len];exact hs4.pre),hs4.keep⟩
 cases e with
 | normal=>exact ⟨_,_,run_endRound none hr4,rfl,κ4,(hset4 _ _).1,htr.trans ((hset4 _ _).2 _)⟩
 | ret=>exact ⟨_,_,run_endRound (some .ret) hr4,rfl,κ4,(hset4 _ _).1,htr.trans ((hset4 _ _).2 _)⟩
 | exit id=>exact ⟨_,_,run_endRound (some (.exit id)) hr4,rfl,κ4,(hset4 _ _).1,htr.trans ((hset4 _ _).2 _)⟩
 | goto t=>exact ⟨_,_,run_endRound (some (.goto t)) hr4,rfl,κ4,(hset4 _ _).1,htr.trans ((hset4 _ _).2 _)⟩
 | panic c=>cases he
 | outgrown=>cases he
theorem YAt.ok {P : Program} {n i : Nat} {ps : Array Tmp} {asn bdy : Code} {envC : List (Nat × AV)} {xs : List AV} {own own1 own' : List Ent} {s2 : St} {l3 : List AV}
 (hi : own[i]? = some (.lp .ready none ps asn bdy (tmpsOf envC n))) (hin : envIn n envC = true) (hxs : xs.length = ps.size) (hps : (ps.toList.all fun p=>decide (p < n)) = true)
 (hA : ∀ g,AWPG (Ctx.round g) P n own.length asn (fun e s=>e = .normal ∧ s = s2) ⟨putP ps.toList xs envC,own⟩) (h2 : s2.own = own)
 (hB : ∀ g,AWPG (Ctx.round g) P n own.length bdy (fun e s=>e = .normal ∧ s.own = own1) ⟨s2.env,own.set i (.lp .busy none ps asn bdy (tmpsOf envC n))⟩)
 (h1 : own1[i]? = some (.lp .busy none ps asn bdy l3)) (h' : own1.set i (.lp .ready none ps asn bdy l3) = own') :
 YAt P i own xs true own':=by
 subst h'
 exact YAt.mk hi hin hxs hps hA h2 hB h1 rfl
theorem YAt.ret {P : Program} {n i : Nat} {ps : Array Tmp} {asn bdy : Code} {envC : List (Nat × AV)} {xs : List AV} {own own1 own' : List Ent} {s2 : St} {l3 : List AV}
 (hi : own[i]? = some (.lp .ready none ps asn bdy (tmpsOf envC n))) (hin : envIn n envC = true) (hxs : xs.length = ps.size) (hps : (ps.toList.all fun p=>decide (p < n)) = true)
 (hA : ∀ g,AWPG (Ctx.round g) P n own.length asn (fun e s=>e = .normal ∧ s = s2) ⟨putP ps.toList xs envC,own⟩) (h2 : s2.own = own)
 (hB : ∀ g,AWPG (Ctx.round g) P n own.length bdy (fun e s=>e = .ret ∧ s.own = own1) ⟨s2.env,own.set i (.lp .busy none ps asn bdy (tmpsOf envC n))⟩)
 (h1 : own1[i]? = some (.lp .busy none ps asn bdy l3)) (h' : own1.set i (.lp .done (some .ret) ps asn bdy l3) = own') :
 YAt P i own xs false own':=by
 subst h'
 exact YAt.mk hi hin hxs hps hA h2 hB h1 rfl
end
section
set_option maxHeartbeats 1000000 in
theorem AWP.range {P : Program} {n m g gf : Nat} {ps : Array Tmp} {asn bdy : Code} {env : List (Nat × AV)} {own ownE : List Ent} {caps : List AV} {Q : Exit → St → Prop} {st : LoopState} {pe : Option Code} {l : List AV} {s2 : St}
 (hg : look env g = .fn gf caps) (hf : isFn P gf = true)
 (hit : ACalls P gf (.yl own.length :: caps) (own ++ [.lp .ready none ps asn bdy (tmpsOf env n)]) (.tup []) ownE)
 (hE : ownE[own.length]? = some (.lp st pe ps asn bdy l)) (hst : st ≠ .busy)
 (hwk : Wk m ⟨env,ownE.set own.length (.lp .exhausted pe ps asn bdy l)⟩ s2)
 (hQ : match pe with | none=>Q .normal s2 | some c=>AWPG Ctx.plain P n m c Q s2) :
 AWPG Ctx.plain P n m (.rangeFunc (.tmp g) ps asn bdy) Q ⟨env,own⟩:=fun F W κ0 a κ w hH hκ0 hs=>by
 refine wpIn_rangeFunc fun fnid _=>?_
 have hle : m ≤ κ.length:=by rw [← hκ0];exact hs.pre
 have hlen : own.length = κ.length:=hs.own.len
 have hsg:=hs.env g
 rw [show (St.env ⟨env,own⟩) = env from rfl,hg,AV.sat] at hsg
 obtain ⟨lb,hg1,hg2⟩:=hsg
 generalize hrec : ({ state:=.ready,pending:=none,fn:=fnid,tmps:=a.tmps,params:=ps,assign:=asn,body:=bdy,defers:=w.heap.size } : Loop) = rec
 obtain ⟨W0,hW0⟩ : ∃ W0,w.alloc (.deferred (some [])) = W0:=⟨_,rfl⟩
 obtain ⟨W1,hW1⟩ : ∃ W1,W0.alloc (.loop rec) = W1:=⟨_,rfl⟩
 have hs0 : W0.heap.size = w.heap.size + 1:=by rw [← hW0];simp
 have hs1 : W1.heap.size = w.heap.size + 2:=by rw [← hW1];simp [hs0]
 have ho0 : ∀ b,b < w.heap.size → W0.heap[b]? = w.heap[b]?:=fun b hb=>by rw [← hW0];exact Below.heap_alloc _ _ _ hb
 have ho1 : ∀ b,b < W0.heap.size → W1.heap[b]? = W0.heap[b]?:=fun b hb=>by rw [← hW1];exact Below.heap_alloc _ _ _ hb
 have hD0 : W0.heap[w.heap.size]? = some (.deferred (some [])):=by rw [← hW0];exact World.alloc_heap_new w _
 have hL1 : W1.heap[w.heap.size + 1]? = some (.loop rec):=by
  have:=World.alloc_heap_new W0 (.loop rec);rw [hW1,hs0] at this;exact this
 obtain ⟨hO0,t0⟩:=step_more (m:=m) (w':=W0) hs.own (by rw [← hW0];rfl) (by rw [← hW0];rfl) (by rw [← hW0];rfl) (by omega) ho0
 obtain ⟨hO1, t1⟩ := step_push (m := m) (x := .lp .ready none ps asn bdy (tmpsOf env n)) (og := some (w.heap.size + 1)) (w' := W1) hle hO0 (by rw [← hW1]; rfl) (by rw [← hW1]; rfl) (by rw [← hW1]; rfl) (by omega) ho1 (.inr ⟨_, rfl, by omega, by omega⟩)
  (fun hst=>⟨_,rfl,rec,hL1,by rw [← hrec];exact ⟨rfl,rfl,rfl,rfl,rfl⟩,AV.satL_stab hst hO0.kap _ (by rw [← hrec];exact tmpsOf_of hs.tm fun t=>t0.keep _ _ (hs.env t))⟩)
 have t01:=t0.trans t1
 have hsat : AV.satL F (own ++ [.lp .ready none ps asn bdy (tmpsOf env n)]) (κ ++ [some (w.heap.size + 1)]) W1 (.yl own.length :: caps) (.func (.yield (w.heap.size + 1)) #[] #[] :: lb.toList):=by
  rw [AV.satL]
  refine ⟨?_,keepL t01.keep caps hg2⟩
  rw [AV.sat]
  exact ⟨w.heap.size + 1,_,_,_,_,_,_,List.getElem?_concat_length,by rw [hlen];exact List.getElem?_concat_length,rfl⟩
 have hcall:=hit F _ W1 _ hO1 hsat
 have harr : (Value.func (.yield (w.heap.size + 1)) #[] #[] :: lb.toList).toArray = #[.func (.yield (w.heap.size + 1)) #[] #[]] ++ lb:=by simp
 rw [harr] at hcall
 refine ⟨w.heap.size + 1, [mark w.heap.size], W1, { target := .fn (.func gf) lb, args := #[.func (.yield (w.heap.size + 1)) #[] #[]] }, W1, gf,
  #[.func (.yield (w.heap.size + 1)) #[] #[]] ++ lb,W1,?_,?_,fun _ _=>trivial,?_,(fun h=>by cases h),?_⟩
 ·show (Instr.enterLoop fnid a.tmps ps asn bdy none).run P w = _
  rw [run_enterLoop_outer,hrec,hW0,hW1];rfl
 ·have e : a.tmps[g]?.getD undef = .func (.func gf) #[] lb := by rw [← Array.getD_eq_getD_getElem?]; exact hg1
  simp [resolve,e,go_sem]
 ·have := run_callFunc (P := P) hf (#[.func (.yield (w.heap.size + 1)) #[] #[]] ++ lb) W1
  simpa [invoke,go_sem] using this
 ·refine (callsIn_wide.2 hcall).mono ?_
  rintro e w3 ⟨v,κ3,rfl,-,hO3,t3⟩
  obtain ⟨g3,r3,hg3,hr3,hf3,-,hset⟩:=lp_set hO3 hE
  obtain rfl : g3 = w.heap.size + 1:=by
   have h5:=t3.keep (.yl own.length) (.func (.yield (w.heap.size + 1)) #[] #[]) (by rw [AV.satL] at hsat;exact hsat.1)
   rw [AV.sat] at h5
   obtain ⟨g2,_,_,_,_,_,_,_,h6,h7⟩:=h5
   rw [hg3] at h6
   obtain rfl : g3 = g2:=by simpa using h6
   simpa using h7.symm
  obtain ⟨hO4,t4⟩:=hset .exhausted pe
  have hend:=run_endLoop (P:=P) hr3 (by rw [hf3.1];exact hst)
  have er : ({ r3 with state:=.exhausted } : Loop) = { r3 with state:=.exhausted,pending:=pe }:=by rw [← hf3.2.1]
  rw [er,hf3.2.1] at hend
  generalize w3.putObj (w.heap.size + 1) (.loop { r3 with state:=.exhausted,pending:=pe }) = w4 at hend hO4 t4
  have htot : Tr F m own κ w _ κ3 w4:=t01.trans ((t3.weak (by simp;omega) (by simp [hlen])).trans (t4 m))
  have hsim:=hs.step (a':=a) hκ0 htot hs.tm rfl (fun t=>htot.keep _ _ (hs.env t)) hO4
  have hD1 : W1.heap[w.heap.size]? = some (.deferred (some [])):=by rw [ho1 _ (by omega)];exact hD0
  have nD1 : some w.heap.size ∉ κ ++ [some (w.heap.size + 1)]:=fun h=>by
   rcases List.mem_append.1 h with h1 | h1
   ·have:=(hs.own.lt _ h1).1;omega
   ·simp at h1
  have t34:=(t3.weak (Nat.zero_le _) (by simp [hlen])).trans (t4 0)
  have hD4 : w4.heap[w.heap.size]? = some (.deferred (some [])):=(t34.old _ (by omega) nD1).trans hD1
  have nD4 : some w.heap.size ∉ κ3:=fun h=>by
   rcases t34.new _ h with h1 | h1
   ·exact nD1 h1
   ·omega
  have hmk : Marks W κ3 w4 (mark w.heap.size :: a.defers):=by
   obtain ⟨Ds,h1,h2,h3⟩:=hsim.df
   obtain ⟨Ds',h1',h2',h3'⟩:=hs.df
   refine ⟨w.heap.size :: Ds,by rw [h1];rfl,List.nodup_cons.2 ⟨fun hm=>?_,h2⟩,fun D hD=>?_⟩
   ·have e : Ds = Ds':=by
     have:=h1.symm.trans h1'
     exact (List.map_inj_right (fun x y h=>by simpa [mark] using h)).1 this
    subst e
    obtain ⟨_,_,h6⟩:=h3' _ hm
    have:=(Array.getElem?_eq_some_iff.1 h6).1
    omega
   ·rcases List.mem_cons.1 hD with rfl | h4
    ·exact ⟨hs.size,nD4,hD4⟩
    ·exact h3 D h4
  have hsim2 : Sim F W κ0 n ⟨env,ownE.set own.length (.lp .exhausted pe ps asn bdy l)⟩ { a with defers:=[mark w.heap.size] ++ a.defers } κ3 w4 :=
   ⟨hsim.tm,hmk,hsim.env,hsim.own,hsim.pre,hsim.os,hsim.tape,hsim.output,hsim.size,hsim.old,hsim.new,hsim.len,hsim.keep⟩
  obtain ⟨κ5,hsim5⟩:=hsim2.wk hκ0 hwk
  refine ⟨pe,w4,hend,?_⟩
  cases pe with
  | none=>exact ⟨s2,κ5,hQ,hsim5⟩
  | some c=>exact hQ F W κ0 _ κ5 w4 hH hκ0 hsim5
end
section
theorem AWP.toW {Γ : Ctx} {P : Program} {n m : Nat} {c : Code} {s s1 : St} (h : AWPG Γ P n m c (fun e s=>e = .normal ∧ Wk m s s1) s) : AWPG Γ P n m c (fun e s=>e = .normal ∧ s = s1) s:=fun F W κ0 a κ w hH hm hs =>
 wpIn_mono (h F W κ0 a κ w hH hm hs) fun e a' w' ⟨s',κ',⟨he,hw⟩,hs'⟩=>by
  obtain ⟨κ2,h2⟩:=hs'.wk hm hw
  exact ⟨s1,κ2,⟨he,rfl⟩,h2⟩
theorem AWP.toO {Γ : Ctx} {P : Program} {n m : Nat} {c : Code} {s : St} {own' : List Ent} (h : AWPG Γ P n m c (fun e s=>e = .normal ∧ Wk m s ⟨[],own'⟩) s) : AWPG Γ P n m c (fun e s=>e = .normal ∧ s.own = own') s:=fun F W κ0 a κ w hH hm hs =>
 wpIn_mono (h F W κ0 a κ w hH hm hs) fun e a' w' ⟨s',κ',⟨he,hw⟩,hs'⟩=>by
  obtain ⟨κ2,h2⟩:=hs'.wk hm hw
  exact ⟨_,κ2,⟨he,rfl⟩,h2⟩
section
variable {P : Program} {m : Nat} {env : List (Nat × AV)} {own : List Ent} {dst : Option Tmp} {ty : TypeId} {pos : String} {af : Array Edge} {gd : Option (Nat × Bool)}
end
end
section
section
variable {P : Program} {m : Nat} {env : List (Nat × AV)} {own : List Ent} {dst : Option Tmp} {ty : TypeId} {pos : String} {af : Array Edge} {gd : Option (Nat × Bool)}
theorem isB_nil : isB []:=fun x hx=>by simp at hx
theorem beq_bytes {l l' : List Nat} (h1 : isB l) (h2 : isB l') : ((bytesOf l).toList == (bytesOf l').toList) = decide (l = l'):=by
 by_cases e : l = l'
 ·subst e;simp
 ·rw [decide_eq_false e, beq_eq_false_iff_ne]
  intro h
  rw [ByteArray.toList_eq,ByteArray.toList_eq] at h
  exact e (bytesOf_inj h1 h2 (ByteArray.ext (Array.ext' h)))
theorem q_eqlS {t t' : TypeId} {x y : Operand} {l l' : List Nat} (hx : lookO env x = bS l) (hy : lookO env y = bS l') (h1 : isB l) (h2 : isB l') :
 Quiet P m ⟨dst,.binOp .eql t x y t',ty,pos,af,gd⟩ env own [] (bV (decide (l = l'))):=q_bin hx hy fun w=>by
 rw [← beq_bytes h1 h2]
 simp [eqGuard,binOp,Op.stringOp]
theorem q_neqS {t t' : TypeId} {x y : Operand} {l l' : List Nat} (hx : lookO env x = bS l) (hy : lookO env y = bS l') (h1 : isB l) (h2 : isB l') :
 Quiet P m ⟨dst,.binOp .neq t x y t',ty,pos,af,gd⟩ env own [] (bV (!decide (l = l'))):=q_bin hx hy fun w=>by
 rw [← beq_bytes h1 h2]
 simp [eqGuard,binOp,Op.stringOp]
end
section
variable {P : Program} {m : Nat} {env : List (Nat × AV)} {own : List Ent} {dst : Option Tmp} {ty : TypeId} {pos : String} {af : Array Edge} {gd : Option (Nat × Bool)}
theorem jBd {t t' : TypeId} {x y : Operand} {l l' : List Nat} (hx : lookO env x = bS l:=by exact rfl) (hy : lookO env y = bS l':=by exact rfl) (h1 : isB l:=by first | assumption | exact isB_nil | exact isB_xor (by assumption) (by assumption)) (h2 : isB l':=by first | assumption | exact isB_nil | exact isB_xor (by assumption) (by assumption)) : Quiet P m ⟨dst,.binOp .eql t x y t',ty,pos,af,gd⟩ env own [] (bV (decide (l = l'))):=q_eqlS hx hy h1 h2
end
end
section
section
variable {P : Program} {m : Nat} {env : List (Nat × AV)} {own : List Ent} {dst : Option Tmp} {ty : TypeId} {pos : String} {af : Array Edge} {gd : Option (Nat × Bool)}
theorem q_len_bsl {t : TypeId} {x : Operand} {i n c : Nat} (hx : lookO env x = .bsl i n c) (ht : isSl P t = true) :
 Quiet P m ⟨dst,.call ⟨.builtin .len,#[x],#[t]⟩,ty,pos,af,gd⟩ env own [] (iV n) :=
 Quiet.val fun F own' κ a w hs _ hsame _=>by
  have h1:=hs x (by simp [Op.operands,Call.operands]);rw [hx,AV.sat] at h1
  obtain ⟨g,l,_,_,c',_,_,h2⟩:=h1
  refine ⟨.int .i64 n,?_,sat_v.2 rfl⟩
  rw [exec_builtin]
  simp only [builtin]
  exact exec_v (by simp only [List.map_toArray,List.map_cons,List.map_nil,h2];exact run_len_sl ht _ _ c' w)
theorem q_ix_bsl {t e : TypeId} {by' : Nat} {z : Value} {x y : Operand} {i n c : Nat} {k : IntKind} {v : Int} {j : Nat} (hx : lookO env x = .bsl i n c) (ht : slInfo P t = some (e, 1, by', z)) (hy : lookO env y = .d (.v (.int k v))) (hij : v = j) (hj : j < n) :
 Quiet P m ⟨dst,.indexAddr t x y,ty,pos,af,gd⟩ env own [] (.opt i j) :=
 Quiet.val fun F own' κ a w hs _ hsame _=>by
  have h1:=hs x (by simp [Op.operands]);rw [hx,AV.sat] at h1
  have h2:=hs y (by simp [Op.operands]);rw [hy,sat_v] at h2
  obtain ⟨g,l,g1,g2,c',_,_,g3⟩:=h1
  refine ⟨.pointer (some ⟨g,0 + j * 1,none⟩),exec_v ?_,?_⟩
  ·rw [g3,h2,hij];exact run_indexAt ht g _ _ c' k j hj w
  ·rw [AV.sat]
   exact ⟨g,l,g1,g2,by simp⟩
end
section
variable {Γ : Ctx} {P : Program} {n m : Nat} {Q : Exit → St → Prop} {env : List (Nat × AV)} {own : List Ent} {c : Code}
theorem AWP.name {ver sz nn : Nat} {e : TypeId} {cells : List (List Dat)} {l : List AV} {vs : List Value} (t G i : Nat) (hx : look env t = .osl i ver 0 nn) (hi : own[i]? = some (.row ver sz e cells)) (hG : look env G = .gh l vs) (hpos : 0 < nn)
 (hc : ∀ g cc,AWPG Γ P n m c Q ⟨(t,.d (.v (.slice (some ⟨g,0,none⟩) nn cc))) :: (G,.gh (l ++ [.osl i ver 0 nn]) (vs ++ [.slice (some ⟨g,0,none⟩) nn cc])) :: env,own⟩) : AWPG Γ P n m c Q ⟨env,own⟩:=fun F W κ0 a κ w hH hm hsim=>by
 have h1:=hsim.env t
 rw [hx] at h1
 have h1':=h1
 rw [AV.sat] at h1
 obtain ⟨h2,A,cc,h3,h4,h5,h6⟩:=h1.2 sz e cells hi
 rcases h6 (.inl hpos) with ⟨g,g1,g2,_⟩ | ⟨_,_,h7⟩
 ·rw [Nat.zero_mul] at g2
  subst g2
  have hu : a.tmps.getD t undef = .slice (some ⟨g,0,none⟩) nn cc:=h3
  rw [hu] at h1'
  refine hc g cc F W κ0 a κ w hH hm ⟨hsim.tm,hsim.df,fun u=>?_,hsim.own,hsim.pre,hsim.os,hsim.tape,hsim.output,hsim.size,hsim.old,hsim.new,hsim.len,hsim.keep⟩
  simp only [look]
  by_cases hu1 : t = u
  ·subst hu1;rw [if_pos rfl];exact sat_v.2 hu
  ·rw [if_neg hu1]
   by_cases hu2 : G = u
   ·subst hu2
    rw [if_pos rfl,AV.sat]
    have h8:=hsim.env G
    rw [hG,AV.sat] at h8
    refine satL_append h8 ?_
    rw [AV.satL]
    exact ⟨h1',by rw [AV.satL];trivial⟩
   ·rw [if_neg hu2];exact hsim.env u
 ·omega
theorem AWP.recast {α : Type} (s' : α → St) (hm0 : m = 0) (h : ∀ (F : Nat → Prop) (κ : List (Option Nat)) (w : World) (a : Act), EnvSat F own κ w env a → OwnSat F own κ w → ∃ x, EnvSat F (s' x).own κ w (s' x).env a ∧ OwnSat F (s' x).own κ w)
 (hc : ∀ x,AWPG Γ P n m c Q (s' x)) : AWPG Γ P n m c Q ⟨env,own⟩:=fun F W κ0 a κ w hH hm hsim=>by
 obtain ⟨x,h1,h2⟩:=h F κ w a hsim.env hsim.own
 have hκ0 : κ0 = []:=List.length_eq_zero_iff.1 (hm.trans hm0)
 subst hκ0
 have hW0 : W.own = []:=List.length_eq_zero_iff.1 (hsim.len.trans rfl)
 have hwide : Wide (badK F []) (badK F κ) W.w w:=.of hsim.size (fun b hb _=>hsim.old b hb (by simp)) fun b hb hn hbad=>by
  rcases hbad with hf | hk
  ·exact hn (.inl hf)
  ·rcases hsim.new b hk with h3 | h3
   ·simp at h3
   ·omega
 refine hc x F W [] a κ w hH hm ⟨hsim.tm,hsim.df,h1,h2,hsim.pre,hsim.os,hsim.tape,hsim.output,hsim.size,hsim.old,hsim.new,hsim.len,fun y u hy=>?_⟩
 rw [hW0] at hy
 refine keepAll (F:=F) (own:=[]) (κ:=[]) (w:=W.w) (fun z v hz hs=>?_) hwide y u hy
 rcases hz with ⟨i,ver,o,k,rfl⟩ | ⟨i,ver,j,o,rfl⟩ | ⟨i,o,rfl⟩ | ⟨i,rfl⟩ | ⟨i,rfl⟩ | ⟨i,ver,o,k,rfl⟩
 ·rw [AV.sat] at hs;obtain ⟨⟨_,h3,_⟩,_⟩:=hs;simp at h3
 ·rw [AV.sat] at hs;obtain ⟨⟨_,h3,_⟩,_⟩:=hs;simp at h3
 ·rw [AV.sat] at hs;obtain ⟨_,_,h3,_⟩:=hs;simp at h3
 ·rw [AV.sat] at hs;obtain ⟨_,_,_,_,_,_,_,h3,_⟩:=hs;simp at h3
 ·rw [AV.sat] at hs;obtain ⟨_,_,h3,_⟩:=hs;simp at h3
 ·rw [AV.sat] at hs;obtain ⟨⟨_,h3,_⟩,_⟩:=hs;simp at h3
end
end
section
section
variable {P : Program} {m : Nat} {env : List (Nat × AV)} {own : List Ent} {dst : Option Tmp} {ty : TypeId} {pos : String} {af : Array Edge} {gd : Option (Nat × Bool)}
theorem e_callA {fo : Operand} {args : Array Operand} {ts : Array TypeId} {f : FuncId} {caps l : List AV} {r : AV} {own' : List Ent} (hc : ACalls P f l own r own') (hfo : lookO env fo = .fn f caps) (ha : args.toList.map (lookO env) ++ caps = l) (hf : isFn P f = true) :
 Eff P m ⟨dst,.call ⟨.value fo,args,ts⟩,ty,pos,af,gd⟩ env own (List.range (own.length + own'.length)) r own' :=
 Eff.mk (fun j hj=>by
  rw [List.mem_range] at hj
  rw [List.getElem?_eq_none (by omega),List.getElem?_eq_none (by omega)]) fun F κ a w hs hO hm=>by
  obtain ⟨vs,h1,h2⟩:=exec_call (P:=P) (dst:=dst) (ty:=ty) (pos:=pos) (af:=af) (gd:=gd) hf hfo hs
  rw [h1]
  subst ha
  refine (hc F κ w vs hO h2).mono ?_
  rintro e w' ⟨v,κ',he,h3,h4,h5⟩
  exact ⟨v,he,κ',h3,h4,h5.weak (by rw [hO.len];exact hm) (by rw [hO.len];exact Nat.le_refl _)⟩
end
end
section
section
variable {P : Program} {m : Nat} {env : List (Nat × AV)} {own : List Ent} {dst : Option Tmp} {ty : TypeId} {pos : String} {af : Array Edge} {gd : Option (Nat × Bool)}
theorem Quiet.wk {o : Oper} {fp fp' : List Nat} {r : AV} (h : Quiet P m o env own fp r) (hs : ∀ i ∈ fp,i ∈ fp') : Quiet P m o env own fp' r:=fun env' own' he hsame=>h env' own' he fun i hi=>hsame i (hs i hi)
theorem Eff.wk {o : Oper} {mod mod' : List Nat} {r : AV} {own' : List Ent} (h : Eff P m o env own mod r own') (hs : ∀ i ∈ mod,i ∈ mod') : Eff P m o env own mod' r own':=⟨h.1,fun i hi=>h.2 i fun hm=>hi (hs i hm)⟩
theorem s_ld {t : TypeId} {k : Nat} {x : Operand} {i o : Nat} {l : List AV} {y : AV} (hx : lookO env x = .opt i o) (hl : own[i]? = some (.box l)) (hy : l[o]? = some y) (ht : tyInfo P t = some (false, k)) :
 Quiet P m ⟨dst,.load t x,ty,pos,af,gd⟩ env own [0,i] y:=(q_ld_box ht hx hl hy).wk (by simp)
theorem s_ix {t e e' : TypeId} {sz by' : Nat} {z : Value} {x y : Operand} {p ver n : Nat} {l : List (List Dat)} {k : IntKind} {i : Int} {j : Nat} (hx : lookO env x = .osl p ver 0 n) (hp : own[p]? = some (.row ver sz e' l)) (ht : slInfo P t = some (e, sz, by', z)) (hy : lookO env y = .d (.v (.int k i))) (hij : i = j) (hj : j < n) :
 Quiet P m ⟨dst,.indexAddr t x y,ty,pos,af,gd⟩ env own [0,p] (.rpt p ver j 0):=(q_ix_osl0 hx hp ht hy hij hj).wk (by simp)
theorem s_ldr {α : Type} {f : α → List Dat} {l : List α} {t : TypeId} {k : Nat} {x : Operand} {i ver j o sz : Nat} {e : TypeId} {y : Dat} (hx : lookO env x = .rpt i ver j o) (hi : own[i]? = some (.row ver sz e (l.map f))) (ht : tyInfo P t = some (false, k)) (hj : j < l.length) (hy : (f (l[j]'hj))[o]? = some y) :
 Quiet P m ⟨dst,.load t x,ty,pos,af,gd⟩ env own [0,i] (.d y):=(q_ld_rptm hx hi ht hj hy).wk (by simp)
theorem s_len {t : TypeId} {x : Operand} {i ver j n sz : Nat} {e : TypeId} {l : List (List Dat)} (hx : lookO env x = .osl i ver j n) (hi : own[i]? = some (.row ver sz e l)) (ht : isSl P t = true) :
 Quiet P m ⟨dst,.call ⟨.builtin .len,#[x],#[t]⟩,ty,pos,af,gd⟩ env own [0,i] (iV n):=(q_len_osl ht hx hi).wk (by simp)
theorem s_str {α : Type} {f : α → List Dat} {l : List α} {t : TypeId} {x y : Operand} {i ver j : Nat} {e : TypeId} {d : Dat} {own' : List Ent} (v : α) (hx : lookO env x = .rpt i ver j 0) (hi : own[i]? = some (.row ver 1 e (l.map f))) (ht : tyInfo P t = some (false, 1)) (hy : cellsD (lookO env y) = some [d]) (hv : f v = [d]) (ho : own.set i (.row ver 1 e ((l.set j v).map f)) = own') (h1 : oneA (.d d) = true) (hl : ∀ a, (f a).length = 1) (hj : j < l.length) :
 Eff P m ⟨dst,.store t x y,ty,pos,af,gd⟩ env own [0,i] (.d (.v undef)) own':=by
 have:=e_st_rpt (P:=P) (m:=m) (dst:=dst) (ty:=ty) (pos:=pos) (af:=af) (gd:=gd) (c:=f l[j]) ht rfl hx hi (by rw [List.getElem?_map,List.getElem?_eq_getElem hj];rfl) (by omega) hy h1
 have e1 : (l.map f).set j ((f l[j]).set 0 d) = (l.set j v).map f:=by
  rw [List.map_set,hv]
  congr 1
  have:=hl l[j]
  match hq : f l[j],this with
  | [c],_=>rfl
 rw [e1,ho] at this
 exact this.wk (by simp)
theorem s_stb {t : TypeId} {b : Bool} {x y : Operand} {i o p ver q n : Nat} {l : List AV} {own' : List Ent} (hx : lookO env x = .opt i o) (hl : own[i]? = some (.box l)) (hy : lookO env y = .osl p ver q n) (ht : tyInfo P t = some (b, 1)) (ho : own.set i (.box (l.set o (.osl p ver q n))) = own') (hlt : o < l.length) :
 Eff P m ⟨dst,.store t x y,ty,pos,af,gd⟩ env own [0,i] (.d (.v undef)) own':=by
 have:=e_st_box (P:=P) (m:=m) (dst:=dst) (ty:=ty) (pos:=pos) (af:=af) (gd:=gd) (cs:=[.osl p ver q n]) (b:=b) ht hx hl (by rw [hy];rfl) (by rw [hy];rfl) rfl rfl (by omega)
 have e1 : l.take o ++ [AV.osl p ver q n] ++ l.drop (o + [AV.osl p ver q n].length) = l.set o (.osl p ver q n):=by
  rw [List.set_eq_take_append_cons_drop,if_pos hlt];simp
 rw [e1,ho] at this
 exact this.wk (by simp)
end
def ptrS (v C : Nat) (p : Nat) : AV:=.osl (p + 2) v 0 C
def rowE (t : TypeId) (v : Nat) (l : List Nat) : Ent:=.row v 1 t (l.map kD)
def sysO (t : TypeId) (M v C c D : Nat) (pm : List Nat) (Bl : List (List Nat)) : List Ent:=.box [iV M,.bsl 1 D c] :: .box (pm.map (ptrS v C)) :: Bl.map (rowE t v)
theorem sys_len (t : TypeId) (M v C c D : Nat) (pm : List Nat) (Bl : List (List Nat)) : (sysO t M v C c D pm Bl).length = Bl.length + 2:=by simp [sysO]
theorem sys_get {t : TypeId} {v p : Nat} {E0 E1 : Ent} {Bl : List (List Nat)} (hp : p < Bl.length) : (E0 :: E1 :: Bl.map (rowE t v))[p + 2]? = some (.row v 1 t ((Bl.getD p []).map kD)):=by
 show (Bl.map (rowE t v))[p]? = _
 rw [List.getElem?_map,List.getElem?_eq_getElem hp,List.getD_eq_getElem?_getD,List.getElem?_eq_getElem hp];rfl
theorem sys_ld {v C p : Nat} {pm : List Nat} (hp : p < pm.length) : (pm.map (ptrS v C))[p]? = some (.osl (pm.getD p 0 + 2) v 0 C):=by
 rw [List.getElem?_map,List.getElem?_eq_getElem hp,List.getD_eq_getElem?_getD,List.getElem?_eq_getElem hp];rfl
theorem sys_set {t : TypeId} {v p : Nat} {E0 E1 : Ent} {Bl : List (List Nat)} (l : List Nat) : (E0 :: E1 :: Bl.map (rowE t v)).set (p + 2) (.row v 1 t (l.map kD)) = E0 :: E1 :: (Bl.set p l).map (rowE t v):=by
 show E0 :: E1 :: (Bl.map (rowE t v)).set p (rowE t v l) = _
 rw [List.map_set]
theorem sys_set1 {v C p a : Nat} {E0 : Ent} {pm : List Nat} {L : List Ent} : (E0 :: .box (pm.map (ptrS v C)) :: L).set 1 (.box ((pm.map (ptrS v C)).set p (.osl (a + 2) v 0 C))) = E0 :: .box ((pm.set p a).map (ptrS v C)) :: L:=by
 show E0 :: Ent.box ((pm.map (ptrS v C)).set p (ptrS v C a)) :: L = _
 rw [List.map_set]
end
section
theorem dyn_last {E0 E1 x : Ent} {L : List Ent} {n : Nat} (h : L.length = n) : (E0 :: E1 :: (L ++ [x]))[n + 2]? = some x:=by
 subst h
 show (L ++ [x])[L.length]? = _
 exact List.getElem?_concat_length
theorem dyn_setl {E0 E1 x y : Ent} {L : List Ent} {n : Nat} (h : L.length = n) : (E0 :: E1 :: (L ++ [x])).set (n + 2) y = E0 :: E1 :: (L ++ [y]):=by
 subst h
 show E0 :: E1 :: (L ++ [x]).set L.length y = _
 rw [List.set_append_right _ _ (Nat.le_refl _)]
 simp
section
variable {P : Program} {m : Nat} {env : List (Nat × AV)} {own : List Ent} {dst : Option Tmp} {ty : TypeId} {pos : String} {af : Array Edge} {gd : Option (Nat × Bool)}
theorem s_app1 {α : Type} {f : α → List Dat} {l : List α} {t e : TypeId} {sz by' n : Nat} {z : Value} {x y : Operand} {p ver : Nat} {own' : List Ent} (v : α) (hx : lookO env x = .osl p ver 0 n) (hp : own[p]? = some (.row ver sz e (l.map f))) (hy : lookO env y = .d (.sl sz [f v])) (ho : own.set p (.row (ver + 1) sz e ((l ++ [v]).map f)) = own') (ht : slInfo P t = some (e, sz, by', z)) (hz : z.cells.size = sz) (hby : Nat.ble by' 1024 = true) (hn : n = l.length)
 (hb : l.length + 1 ≤ 1000000000) :
 Eff P m ⟨dst,.call ⟨.builtin .append,#[x,y],#[t,t]⟩,ty,pos,af,gd⟩ env own [0,p] (.osl p (ver + 1) 0 (n + 1)) own':=by
 subst hn
 have:=e_app1 (P:=P) (m:=m) (dst:=dst) (ty:=ty) (pos:=pos) (af:=af) (gd:=gd) v ht hz hby hx hp hy rfl hb
 rw [ho,show (l ++ [v]).length = l.length + 1 by simp] at this
 exact this.wk (by simp)
end
theorem env_of {F : Nat → Prop} {own : List Ent} {κ : List (Option Nat)} {w : World} {a : Act} : ∀ {env : List (Nat × AV)}, (∀ p ∈ env, AV.sat F own κ w p.2 (a.tmps.getD p.1 undef)) → EnvSat F own κ w env a
 | [],_,t=>by simp [look,AV.sat]
 | (s,x) :: env,h,t=>by
   simp only [look]
   by_cases e : s = t
   ·rw [if_pos e,← e];exact h (s,x) (by simp)
   ·rw [if_neg e];exact env_of (fun p hp=>h p (by simp [hp])) t
def xD (v : Value) : List Dat:=[.v v]
theorem rowsSat_vals {B : Nat → Prop} {w : World} {g : Nat} : ∀ (vs : List Value) (o : Nat), Dat.rowsSat B w g 1 o (vs.map xD) → ∀ i u, vs[i]? = some u → w.cell? ⟨g, o + i, none⟩ = some u ∧ u.oneCell' = true
 | [],o,_,i,u,hu=>by simp at hu
 | v :: vs,o,h,i,u,hu=>by
   rw [List.map_cons,Dat.rowsSat] at h
   obtain ⟨⟨_,h1⟩,h2⟩:=h
   cases i with
   | zero =>
     obtain rfl : v = u:=by simpa using hu
     unfold xD at h1
     rw [Dat.rowSat] at h1
     obtain ⟨⟨u,h3,h4,h5⟩,_⟩:=h1
     rw [Dat.sat] at h5
     subst h5
     exact ⟨h3,h4⟩
   | succ i =>
     have:=rowsSat_vals vs (o + 1) h2 i u (by simpa using hu)
     rw [show o + (i + 1) = o + 1 + i by omega]
     exact this
theorem sys_thaw {F : Nat → Prop} {κ : List (Option Nat)} {w : World} {t t2 : TypeId} {M : Int} {ver v C D : Nat} {Bl : List (List Nat)} {vs : List Value} (hD : 0 < D) (hBl : Bl.length = D) (hvs : vs.length = D)
 (ho : OwnSat F (.box [iV M,.osl 1 ver 0 D] :: .row ver 1 t2 (vs.map xD) :: Bl.map (rowE t v)) κ w)
 (hg : AV.satL F (.box [iV M,.osl 1 ver 0 D] :: .row ver 1 t2 (vs.map xD) :: Bl.map (rowE t v)) κ w ((List.range D).map (ptrS v C)) vs) :
 ∃ c,OwnSat F (.box [iV M,.bsl 1 D c] :: .box ((List.range D).map (ptrS v C)) :: Bl.map (rowE t v)) κ w:=by
 obtain ⟨og0,k0⟩:=ho.kap 0 _ rfl
 obtain ⟨og1,k1⟩:=ho.kap 1 _ rfl
 have e0:=ho.ent 0 _ rfl
 have e1:=ho.ent 1 _ rfl
 have d0 : κ.getD 0 none = og0:=by simp [List.getD_eq_getElem?_getD,k0]
 have d1 : κ.getD 1 none = og1:=by simp [List.getD_eq_getElem?_getD,k1]
 rw [d0] at e0
 rw [d1] at e1
 rcases e0 with ⟨_,h⟩ | ⟨g0,rfl,cur0,t0,h01,h02,h03⟩
 ·simp at h
 obtain ⟨_,h1⟩:=e1
 rcases h1 with ⟨_,h⟩ | ⟨g1,rfl,cur1,h11,h12,h13⟩
 ·have : vs.length = 0 := by have := congrArg List.length h; simpa [xD] using this
  omega
 have hl0:=satL_length h02
 obtain ⟨u0,u1,hcur0⟩ : ∃ u0 u1,cur0.toList = [u0,u1]:=by
  match hc : cur0.toList,hl0 with
  | [u0,u1],_=>exact ⟨_,_,rfl⟩
 rw [hcur0,AV.satL,AV.satL] at h02
 obtain ⟨s0,s1,_⟩:=h02
 rw [AV.sat] at s1
 obtain ⟨_,s2⟩:=s1
 obtain ⟨_,A,c,hu1,hnc,hcm,hat⟩:=s2 1 t2 (vs.map xD) rfl
 obtain ⟨g,hg1,hA⟩ : ∃ g,κ[1]? = some (some g) ∧ A = some ⟨g,0 * 1,none⟩:=by
  rcases hat (.inl hD) with ⟨g,hg1,hA,_⟩ | ⟨hg1,_⟩
  ·exact ⟨g,hg1,hA⟩
  ·rw [k1] at hg1;cases hg1
 obtain rfl : g1 = g:=by rw [k1] at hg1;simpa using hg1
 rw [Nat.zero_mul] at hA
 subst hA
 refine ⟨c,⟨by have:=ho.len;simpa using this,ho.frame,ho.lt,ho.inj,fun i x hx=>?_,ho.glb⟩⟩
 have hval:=rowsSat_vals vs 0 h13
 match i with
 | 0 =>
   obtain rfl : Ent.box [iV M,.bsl 1 D c] = x:=by simpa using hx
   rw [d0]
   refine .inr ⟨g0,rfl,cur0,t0,h01,?_,h03⟩
   rw [hcur0,AV.satL,AV.satL,AV.satL]
   refine ⟨?_,?_,trivial⟩
   ·rw [AV.sat] at s0 ⊢;exact s0
   ·rw [AV.sat];exact ⟨g1,_,rfl,k1,c,hnc,hcm,hu1⟩
 | 1 =>
   obtain rfl : Ent.box ((List.range D).map (ptrS v C)) = x:=by simpa using hx
   rw [d1]
   have hpre : ∃ tail,cur1 = vs.toArray ++ tail:=by
    refine ⟨(cur1.toList.drop vs.length).toArray,?_⟩
    apply Array.ext'
    rw [Array.toList_append]
    show cur1.toList = vs ++ cur1.toList.drop vs.length
    conv=>lhs;rw [← List.take_append_drop vs.length cur1.toList]
    congr 1
    apply List.ext_getElem?
    intro i
    rw [List.getElem?_take]
    have hlen : vs.length ≤ cur1.size:=by rw [List.length_map] at h12;omega
    by_cases hi : i < vs.length
    ·rw [if_pos hi]
     have:=(hval i _ (List.getElem?_eq_getElem hi)).1
     rw [Nat.zero_add,cell_of_row w g1 i cur1 t2 (0,0) h11] at this
     rw [List.getElem?_eq_getElem hi,← this];simp
    ·rw [if_neg hi,List.getElem?_eq_none (by omega)]
   obtain ⟨tail,hcur1⟩:=hpre
   refine .inr ⟨g1,rfl,vs.toArray,t2,⟨tail,(0,0),by rw [h11,hcur1],.inl rfl⟩,?_,fun u hu=>?_⟩
   ·refine satL_of (by simp [hvs]) fun j y hy => ?_
    obtain ⟨u,h5,h6⟩:=satL_get hg j y hy
    refine ⟨u,by simpa using h5,?_⟩
    have hj : j < D:=by have:=(List.getElem?_eq_some_iff.1 hy).1;simpa using this
    obtain rfl : ptrS v C j = y:=by rw [List.getElem?_map,List.getElem?_range hj] at hy;simpa using hy
    unfold ptrS at h6 ⊢
    rw [AV.sat] at h6 ⊢
    exact h6
   ·obtain ⟨i, hi, e⟩ := List.getElem_of_mem (show u ∈ vs by simpa using hu)
    exact (hval i u (by rw [List.getElem?_eq_getElem hi,e])).2
 | i + 2 =>
   have hx' : (Bl.map (rowE t v))[i]? = some x:=by simpa using hx
   have h5:=ho.ent (i + 2) x (by simpa using hx')
   rw [List.getElem?_map] at hx'
   cases hb : Bl[i]? with
   | none=>rw [hb] at hx';cases hx'
   | some l =>
     rw [hb] at hx'
     obtain rfl : rowE t v l = x:=by simpa using hx'
     exact h5
end
section
mutual
def AV.scal : AV → AV
 | .d (.v x)=>.d (.v x)
 | .d .any=>.d .any
 | .tup l=>.tup (AV.scalL l)
 | .agg l=>.agg (AV.scalL l)
 | _=>.top
def AV.scalL : List AV → List AV
 | []=>[]
 | x :: xs=>AV.scal x :: AV.scalL xs
end
mutual
theorem scal_sat {F F' : Nat → Prop} {own own' : List Ent} {κ κ' : List (Option Nat)} {w w' : World} : ∀ (x : AV) {u : Value}, AV.sat F own κ w x u → AV.sat F' own' κ' w' (AV.scal x) u
 | .d (.v x),u,h=>by rw [AV.scal];rw [AV.sat,Dat.sat] at h ⊢;exact h
 | .d .any,u,h=>by rw [AV.scal];rw [AV.sat,Dat.sat] at h ⊢;exact h
 | .d (.sl _ _),u,h=>by simp [AV.scal,AV.sat]
 | .tup l,u,h=>by
   rw [AV.scal];rw [AV.sat] at h ⊢
   obtain ⟨vs,h1,h2⟩:=h
   exact ⟨vs,h1,scalL_sat l h2⟩
 | .agg l,u,h=>by
   rw [AV.scal];rw [AV.sat] at h ⊢
   obtain ⟨vs,h1,h2⟩:=h
   exact ⟨vs,h1,scalL_sat l h2⟩
 | .top,u,h=>by simp [AV.scal,AV.sat]
 | .osl ..,u,h=>by simp [AV.scal,AV.sat]
 | .win ..,u,h=>by simp [AV.scal,AV.sat]
 | .rpt ..,u,h=>by simp [AV.scal,AV.sat]
 | .opt ..,u,h=>by simp [AV.scal,AV.sat]
 | .bsl ..,u,h=>by simp [AV.scal,AV.sat]
 | .yl ..,u,h=>by simp [AV.scal,AV.sat]
 | .mp ..,u,h=>by simp [AV.scal,AV.sat]
 | .cl ..,u,h=>by simp [AV.scal,AV.sat]
 | .fpt ..,u,h=>by simp [AV.scal,AV.sat]
 | .fn ..,u,h=>by simp [AV.scal,AV.sat]
 | .bd ..,u,h=>by simp [AV.scal,AV.sat]
 | .gh ..,u,h=>by simp [AV.scal,AV.sat]
theorem scalL_sat {F F' : Nat → Prop} {own own' : List Ent} {κ κ' : List (Option Nat)} {w w' : World} : ∀ (l : List AV) {us : List Value}, AV.satL F own κ w l us → AV.satL F' own' κ' w' (AV.scalL l) us
 | [],[],h=>by rw [AV.scalL,AV.satL];trivial
 | x :: xs,u :: us,h=>by
   rw [AV.scalL];rw [AV.satL] at h ⊢
   exact ⟨scal_sat x h.1,scalL_sat xs h.2⟩
 | [],_ :: _,h=>by simp [AV.satL] at h
 | _ :: _,[],h=>by simp [AV.satL] at h
end
section
variable {P : Program} {m : Nat} {env : List (Nat × AV)} {own : List Ent} {dst : Option Tmp} {ty : TypeId} {pos : String} {af : Array Edge} {gd : Option (Nat × Bool)}
theorem q_callF {js : List Nat} {fo : Operand} {args : Array Operand} {ts : Array TypeId} {f : FuncId} {caps argsD : List AV} {r r' : AV}
 (hc : ACalls P f argsD [] r []) (hfo : lookO env fo = .fn f caps) (hfz : ∀ own',same js own own' → AV.frzL own' [] (args.toList.map (lookO env) ++ caps) = argsD) (hr : AV.scal r = r') (hf : isFn P f = true) :
 Quiet P m ⟨dst,.call ⟨.value fo,args,ts⟩,ty,pos,af,gd⟩ env own js r':=fun env' own' hag hsame F κ a w he hO hm=>by
 have hs : ∀ x ∈ (Op.call ⟨.value fo,args,ts⟩).operands,AV.sat F own' κ w (lookO env x) (a.eval x):=fun x hx=>by
  rw [← lookO_seen (o:=⟨dst,.call ⟨.value fo,args,ts⟩,ty,pos,af,gd⟩) hag hx];exact he.eval x
 obtain ⟨vs,h1,h2⟩:=exec_call (P:=P) (dst:=dst) (ty:=ty) (pos:=pos) (af:=af) (gd:=gd) hf hfo hs
 rw [h1]
 have h3:=AV.frzL_sat (js:=[]) hO _ h2
 rw [hfz own' hsame] at h3
 have h3' : AV.satL F [] [] w argsD vs:=h3
 have hO0 : OwnSat F [] [] w:=⟨rfl,hO.frame,fun g h=>by simp at h,fun i j g h=>by simp at h,fun i x h=>by simp at h,fun p hp=>⟨(hO.glb p hp).1,by simp,(hO.glb p hp).2.2⟩⟩
 refine (hc F [] w vs hO0 h3').mono ?_
 rintro e w' ⟨v,κ',hev,h4,h5,h6⟩
 obtain rfl : κ' = []:=List.length_eq_zero_iff.1 (by have:=h5.len;simpa using this.symm)
 obtain ⟨g1,g2⟩:=step_more (m:=m) hO h6.os h6.tape h6.output h6.size (fun b hb=>h6.old b hb (by simp))
 subst hr
 exact ⟨v,hev,κ,scal_sat _ h4,g1,g2⟩
end
end
section
def mpI (l : List (Int × Value)) : MapE:=.inl (mpL l)
def hasV (l : List (Int × Value)) (a : Int) : Bool:=(getIx l a 0).isSome
def setI (l : List (Int × Value)) (a : Int) (u : Value) : List (Int × Value):=match getIx l a 0 with | some (i,_)=>l.set i (a,u) | none=>l ++ [(a,u)]
theorem getIx_off : ∀ (l : List (Int × Value)) (a : Int) (i : Nat), getIx l a i = (getIx l a 0).map fun p => (p.1 + i, p.2)
 | [],a,i=>rfl
 | (b,v) :: l,a,i=>by
   unfold getIx
   split
   ·simp
   ·rw [getIx_off l a (i + 1), getIx_off l a 1]
    cases getIx l a 0 with
    | none=>rfl
    | some p=>simp;omega
theorem getIx_spec : ∀ {l : List (Int × Value)} {a : Int} {i : Nat} {v : Value}, getIx l a 0 = some (i, v) → l[i]? = some (a, v)
 | [],a,i,v,h=>by simp [getIx] at h
 | (b,u) :: l,a,i,v,h=>by
   unfold getIx at h
   split at h
   ·rename_i e
    simp only [Option.some.injEq,Prod.mk.injEq] at h
    obtain ⟨rfl,rfl⟩:=h
    simp [e]
   ·rw [getIx_off] at h
    cases hq : getIx l a 0 with
    | none=>rw [hq] at h;simp at h
    | some p =>
      rw [hq] at h
      simp only [Option.map_some,Option.some.injEq,Prod.mk.injEq] at h
      obtain ⟨h1,h2⟩:=h
      have:=getIx_spec (l:=l) (a:=a) (i:=p.1) (v:=p.2) hq
      rw [← h1,List.getElem?_cons_succ,← h2]
      exact this
theorem getV_cons (b : Int) (v : Value) (l : List (Int × Value)) (a : Int) (z : Value) : getV ((b,v) :: l) a z = if a = b then v else getV l a z:=by
 unfold getV
 rw [getIx]
 by_cases e : a = b
 ·rw [if_pos e,if_pos e]
 ·rw [if_neg e, if_neg e, getIx_off]
  cases getIx l a 0<;>rfl
theorem getIx_cons_none {b : Int} {v : Value} {l : List (Int × Value)} {a : Int} : getIx ((b,v) :: l) a 0 = none ↔ a ≠ b ∧ getIx l a 0 = none:=by
 rw [getIx]
 split
 ·simp_all
 ·rw [getIx_off];simp_all
theorem getV_app : ∀ (l : List (Int × Value)) (a : Int) (u : Value) (c : Int) (z : Value), getIx l a 0 = none → getV (l ++ [(a, u)]) c z = if c = a then u else getV l c z
 | [],a,u,c,z,_=>by rw [List.nil_append,getV_cons]
 | (b,v) :: l,a,u,c,z,h=>by
   obtain ⟨h1,h2⟩:=getIx_cons_none.1 h
   rw [List.cons_append,getV_cons,getV_cons,getV_app l a u c z h2]
   by_cases e : c = b
   ·rw [if_pos e,if_pos e,if_neg (by omega)]
   ·rw [if_neg e,if_neg e]
theorem getV_set : ∀ (l : List (Int × Value)) (a : Int) (u v : Value) (i : Nat) (c : Int) (z : Value), getIx l a 0 = some (i, v) → getV (l.set i (a, u)) c z = if c = a then u else getV l c z
 | [],a,u,v,i,c,z,h=>by simp [getIx] at h
 | (b,w) :: l,a,u,v,i,c,z,h=>by
   rw [getIx] at h
   split at h
   ·rename_i e
    simp only [Option.some.injEq,Prod.mk.injEq] at h
    obtain ⟨rfl,rfl⟩:=h
    rw [List.set_cons_zero,getV_cons,getV_cons,e]
    split<;>rfl
   ·rename_i e
    rw [getIx_off] at h
    cases hq : getIx l a 0 with
    | none=>rw [hq] at h;simp at h
    | some p =>
      rw [hq] at h
      simp only [Option.map_some,Option.some.injEq,Prod.mk.injEq] at h
      obtain ⟨h1,h2⟩:=h
      rw [← h1,List.set_cons_succ,getV_cons,getV_cons,getV_set l a u p.2 p.1 c z hq]
      by_cases e2 : c = b
      ·rw [if_pos e2,if_pos e2,if_neg (by omega)]
      ·rw [if_neg e2,if_neg e2]
theorem getV_setI (l : List (Int × Value)) (a : Int) (u : Value) (c : Int) (z : Value) : getV (setI l a u) c z = if c = a then u else getV l c z:=by
 unfold setI
 cases hq : getIx l a 0 with
 | none=>exact getV_app l a u c z hq
 | some p=>exact getV_set l a u p.2 p.1 c z hq
theorem findNow_mp {q : IntKind} (a : Int) : ∀ (es : List MapEntry) (l : List (Int × Value)) (i : Nat), es.map (fun e => (e.key, e.val)) = mpL l → Instr.findNow (.int q) (.int .i64 a) es i = some (getIx l a i)
 | [],[],i,_=>rfl
 | [],_ :: _,i,h=>by simp [mpL] at h
 | _ :: _,[],i,h=>by simp [mpL] at h
 | e :: es,(b,v) :: l,i,h=>by
   simp only [mpL,List.map_cons,List.cons.injEq,Prod.mk.injEq] at h
   obtain ⟨⟨h1,h2⟩,h3⟩:=h
   have ih:=findNow_mp (q:=q) a es l (i + 1) h3
   unfold Instr.findNow
   rw [h1]
   show (match (if IntKind.i64 = IntKind.i64 then some (a == b) else none) with | some true=>some (some (i,e.val)) | some false=>Instr.findNow (.int q) (.int .i64 a) es (i + 1) | none=>none) = _
   rw [if_pos rfl,getIx]
   by_cases hab : a = b
   ·subst hab
    simp [h2]
   ·have : (a == b) = false := by simpa using hab
    rw [this,if_neg hab]
    exact ih
section
variable {P : Program} {m : Nat} {env : List (Nat × AV)} {own : List Ent} {dst : Option Tmp} {ty : TypeId} {pos : String} {af : Array Edge} {gd : Option (Nat × Bool)}
theorem run_findKey_mp {k : TypeId} {q : IntKind} (hk : P.underlying k = some (.int q)) {es : List MapEntry} {l : List (Int × Value)} (h : es.map (fun e=>(e.key,e.val)) = mpL l) (a : Int) (w : World) : (Instr.findKey k (.int .i64 a) es).run P w = .ok (getIx l a 0) w:=by
 simp [Instr.findKey,run_underlying hk,findNow_mp a es l 0 h,Result.andThen]
def mapI (P : Program) (t : TypeId) : Option Value := match P.underlying t with
 | some (.map k e) => match P.underlying k with
   | some (.int .i64)=>(P.info? e).bind (·.zero)
   | _=>none
 | _=>none
theorem mapI_spec {t : TypeId} {z : Value} (h : mapI P t = some z) : ∃ k e i,P.underlying t = some (.map k e) ∧ P.underlying k = some (.int .i64) ∧ P.info? e = some i ∧ i.zero = some z:=by
 unfold mapI at h
 split at h
 ·rename_i k e h1
  split at h
  ·rename_i h2
   cases h3 : P.info? e with
   | none=>rw [h3] at h;cases h
   | some i=>rw [h3] at h;exact ⟨k,e,i,h1,h2,h3,h⟩
  ·cases h
 ·cases h
theorem mp_block {F : Nat → Prop} {κ : List (Option Nat)} {w : World} (ho : OwnSat F own κ w) {i g : Nat} {ks : List (Value × Value)} (hl : own[i]? = some (.mp (.inl ks))) (hg : κ[i]? = some (some g)) :
 ∃ es clock,w.heap[g]? = some (.map es clock) ∧ es.toList.map (fun e=>(e.key,e.val)) = ks:=by
 obtain ⟨g',hg',h⟩:=ho.ent i _ hl
 rw [getD_some hg] at hg'
 obtain rfl : g = g':=by simpa using hg'
 exact h
theorem e_mkmap {t : TypeId} {n : Nat} {own' : List Ent} (hn : lenF own 0 = some n) (ho : pushF own (.mp (mpI [])) = some own') :
 Eff P m ⟨dst,.makeMap t none,ty,pos,af,gd⟩ env own [n] (.mp n) own':=by
 have e:=lenF_spec hn
 rw [Nat.add_zero] at e
 rw [pushF_spec ho,e]
 exact Eff.mk (fun i hi=>by
  rcases Nat.lt_trichotomy i own.length with h | h | h
  ·rw [List.getElem?_append_left h]
  ·exact absurd (by simp [h]) hi
  ·rw [List.getElem?_eq_none (by simp;omega),List.getElem?_eq_none (by omega)]) fun F κ a w hs ho hm=>by
  have hrun : (execOp a.eval ⟨dst,.makeMap t none,ty,pos,af,gd⟩).run P w = .ok (.value (.map (some w.heap.size))) (w.alloc (.map #[] 0)):=exec_v (by simp [Instr.makeMap])
  rw [hrun]
  obtain ⟨g1,g2⟩:=step_push (x:=.mp (mpI [])) (og:=some w.heap.size) (w':=w.alloc (.map #[] 0)) hm ho rfl rfl rfl (by simp) (fun b hb=>Below.heap_alloc _ _ _ hb) (.inr ⟨_,rfl,Nat.le_refl _,by simp⟩) (fun hst =>
   ⟨w.heap.size,rfl,#[],0,heap_alloc_new _ _,rfl⟩)
  refine ⟨κ ++ [some w.heap.size],?_,g1,g2⟩
  rw [AV.sat]
  exact ⟨w.heap.size,mpI [],by simp [mpI],by rw [ho.len];simp,rfl⟩
theorem e_mapset {t : TypeId} {x y v : Operand} {i : Nat} {l : List (Int × Value)} {a : Int} {u z : Value} {own' : List Ent} (hx : lookO env x = .mp i) (hi : own[i]? = some (.mp (mpI l))) (hy : lookO env y = iV a) (hv : lookO env v = .d (.v u)) (hs : setF own i (.mp (mpI (setI l a u))) = some own') (ht : mapI P t = some z) :
 Eff P m ⟨dst,.mapUpdate t x y v,ty,pos,af,gd⟩ env own [i] (.d (.v undef)) own':=by
 rw [setF_spec hs]
 exact Eff.mk (fun j hj=>by rw [List.getElem?_set_ne (by simpa using Ne.symm (by simpa using hj))]) fun F κ ac w hs ho hm=>by
  have h1:=hs x (by simp [Op.operands]);rw [hx,AV.sat] at h1
  have h2:=hs y (by simp [Op.operands]);rw [hy] at h2
  have h2:=sat_v.1 h2
  have h3:=hs v (by simp [Op.operands]);rw [hv] at h3
  have h3:=sat_v.1 h3
  obtain ⟨g,ks,_,h4,h5⟩:=h1
  obtain ⟨es,clock,h6,h7⟩:=mp_block ho hi h4
  obtain ⟨k,e,inf,g1,g2,g3,g4⟩:=mapI_spec ht
  have hf:=run_findKey_mp (P:=P) g2 h7 a w
  have hck:=MapKept.run_checkKey (P:=P) (w:=w) (k:=.int .i64 a) g2 rfl false 9999
  have hlt : g < w.heap.size:=(Array.getElem?_eq_some_iff.1 h6).1
  have ek : κ.set i (some g) = κ:=List.ext_getElem? fun j=>by
   by_cases hj : j = i
   ·subst hj;rw [List.getElem?_set_self (List.getElem?_eq_some_iff.1 h4).1,h4]
   ·rw [List.getElem?_set_ne (Ne.symm hj)]
  have fin : ∀ es' clock', es'.toList.map (fun e => (e.key, e.val)) = mpL (setI l a u) → (execOp ac.eval ⟨dst, .mapUpdate t x y v, ty, pos, af, gd⟩).run P w = .ok .skip (w.putObj g (.map es' clock')) →
   OutOk P (fun v w'=>∃ κ',AV.sat F (own.set i (.mp (mpI (setI l a u)))) κ' w' (.d (.v undef)) v ∧ OwnSat F (own.set i (.mp (mpI (setI l a u)))) κ' w' ∧ Tr F m own κ w (own.set i (.mp (mpI (setI l a u)))) κ' w') ((execOp ac.eval ⟨dst,.mapUpdate t x y v,ty,pos,af,gd⟩).run P w):=fun es' clock' he hrun=>by
   rw [hrun]
   have key := step_upd (m := m) (x' := .mp (mpI (setI l a u))) (og' := some g) (w' := w.putObj g (.map es' clock')) ho hi h4 rfl rfl rfl (by simp) (fun b hb hne => World.putObj_heap_other fun e => hne (by rw [e])) (.inl rfl) (.inr rfl) rfl
    (fun hst=>⟨g,rfl,_,_,World.putObj_heap_same hlt,he⟩)
   rw [ek] at key
   exact ⟨κ,sat_v.2 rfl,key.1,key.2⟩
  cases hq : getIx l a 0 with
  | none =>
    rw [hq] at hf
    refine fin (es.push ⟨.int .i64 a,u,clock⟩) (clock + 1) ?_ (exec_u ?_)
    ·unfold setI
     rw [hq]
     simp [mpL,h7]
    ·rw [h5, h2, h3]
     simp [Instr.mapUpdate,run_underlying g1,MapKept.run_getObj_map h6,hck,hf,MapKept.run_setObj_map _ h6,Result.andThen,World.putObj]
  | some p =>
    rw [hq] at hf
    have hsp:=getIx_spec (i:=p.1) (v:=p.2) hq
    have hsz : es.toList[p.1]?.map (fun e=>(e.key,e.val)) = some (.int .i64 a,p.2):=by
     rw [← List.getElem?_map,h7,mpL,List.getElem?_map,hsp];rfl
    cases hep : es.toList[p.1]? with
    | none=>rw [hep] at hsz;cases hsz
    | some e0 =>
      rw [hep] at hsz
      simp only [Option.map_some,Option.some.injEq,Prod.mk.injEq] at hsz
      have hek : es[p.1]? = some e0:=by rw [← Array.getElem?_toList];exact hep
      have hst : (Instr.keyThatStays (.int .i64 a) (.int .i64 a)).run P w = .ok (.int .i64 a) w:=by simp [Instr.keyThatStays,Instr.sameBits]
      refine fin (es.modify p.1 fun e=>{ e with key:=.int .i64 a,val:=u }) clock ?_ (exec_u ?_)
      ·unfold setI
       rw [hq]
       apply List.ext_getElem?
       intro j
       have h8:=congrArg (fun q=>q[j]?) h7
       simp only [mpL,List.getElem?_map] at h8
       dsimp only
       rw [mpL,List.getElem?_map,List.getElem?_map,Array.getElem?_toList,Array.getElem?_modify,List.getElem?_set]
       rw [Array.getElem?_toList] at h8
       by_cases hj : p.1 = j
       ·subst hj
        rw [if_pos rfl,if_pos rfl,hek,if_pos (List.getElem?_eq_some_iff.1 hsp).1]
        rfl
       ·rw [if_neg hj, if_neg hj]
        exact h8
      ·rw [h5, h2, h3]
       simp [Instr.mapUpdate,run_underlying g1,MapKept.run_getObj_map h6,hck,hf,MapKept.run_setObj_map _ h6,Result.andThen,World.putObj,hek,hsz.1,hst]
end
end
section
section
variable {P : Program} {m : Nat} {env : List (Nat × AV)} {own : List Ent} {dst : Option Tmp} {ty : TypeId} {pos : String} {af : Array Edge} {gd : Option (Nat × Bool)}
theorem q_slc3 {t e : TypeId} {sz by' : Nat} {z : Value} {x : Operand} {lo hi mx : Option Operand} {l : List (List Dat)} (hx : lookO env x = .d (.sl sz l)) (ht : slInfo P t = some (e, sz, by', z))
 (h1 : bnd env lo 0 0) (h2 : bnd env hi l.length l.length) (h3 : bnd env mx 0 l.length) (h4 : hi.isSome = true) (h5 : mx.isSome = true) :
 Quiet P m ⟨dst,.slice t x lo hi mx,ty,pos,af,gd⟩ env own [] (.cl sz l) :=
 Quiet.val fun F own' κ a w hs _ _ _=>by
  have hh:=hs x (by simp [Op.operands]);rw [hx,AV.sat,Dat.sat] at hh
  obtain ⟨A,c,g4,g5,g6,g7⟩:=hh
  obtain ⟨he,i,hi1,hi2,_,_⟩:=slInfo_spec ht
  have h3' : bnd env mx c l.length:=by
   cases mx with
   | none=>simp at h5
   | some _=>exact h3
  have hb:=run_bounds (P:=P) (a:=a) true (fun y hy=>hs y (mem_slice hy)) h1 h2 h3' (Nat.zero_le _) (Nat.le_refl _) g5 (.inr h4)
  refine ⟨.slice (if l.length = 0 then A else A.map (·.add (0 * sz))) (l.length - 0) (l.length - 0),exec_v ?_,?_⟩
  ·simp [g4,Instr.sliceAt,run_underlying he,Instr.slice,hb,sizeOf,typeInfo,hi1,hi2]
  ·rw [AV.sat, Dat.sat]
   refine ⟨⟨_,_,by rw [Nat.sub_zero],by omega,by omega,fun hp=>?_⟩,_,_,rfl⟩
   obtain ⟨b,o,rfl,h12,h13,h14⟩:=g7 hp
   rw [if_neg (by omega)]
   exact ⟨b,o,by simp [add_none],h12,h13,h14⟩
theorem q_appcl {t e : TypeId} {sz by' : Nat} {z : Value} {x y : Operand} {l l2 : List (List Dat)} (hx : lookO env x = .cl sz l) (hy : lookO env y = .d (.sl sz l2)) (ht : slInfo P t = some (e, sz, by', z)) (hz : z.cells.size = sz) (hby : Nat.ble by' 1024 = true) (h0 : Nat.ble 1 sz = true) (hpos : 0 < l2.length) (hb : l.length + l2.length ≤ 1000000000) :
 Quiet P m ⟨dst,.call ⟨.builtin .append,#[x,y],#[t,t]⟩,ty,pos,af,gd⟩ env own [] (.d (.sl sz (l ++ l2))) :=
 Quiet.more fun F own' κ a w hs ho _ _=>by
  have h0 : 0 < sz:=Nat.le_of_ble_eq_true h0
  have hx1:=hs x (by simp [Op.operands,Call.operands]);rw [hx,AV.sat,Dat.sat] at hx1
  have hy1:=hs y (by simp [Op.operands,Call.operands]);rw [hy,AV.sat,Dat.sat] at hy1
  obtain ⟨⟨A,c,hxv,hc1,hc2,hc3⟩,A0,n0,hxv0⟩:=hx1
  obtain ⟨B,d,hyv,hd1,hd2,hd3⟩:=hy1
  obtain ⟨b,q,rfl,hb1,hb2,hb3⟩:=hd3 hpos
  rw [rowsSat_flat] at hb3
  obtain ⟨news,hv1,hv2⟩:=vals_of_row hb3.2
  obtain ⟨he,inf,hi1,rfl,hib,hzz⟩:=slInfo_spec ht
  have hnl : news.length = l2.length * inf.size:=by rw [← hv1.1,flat_len hb3.1]
  have hby:=Nat.le_of_ble_eq_true hby
  have hbytes : (l.length + l2.length) * by' ≤ 140737488355328:=by have:=Nat.mul_le_mul hb hby;omega
  obtain rfl : c = l.length:=by
   rw [hxv] at hxv0
   simp only [Value.slice.injEq] at hxv0
   omega
  have key : ∃ xs v' w',(∀ e ∈ l,e.length = inf.size) ∧ valsSat (badK F κ) w l.flatten xs ∧ (Builtin.append_ #[t,t] ty #[a.eval x,a.eval y]).run P w = .ok v' w' ∧ w'.ownsRow w.heap.size e inf.size v' (l.length + l2.length) (xs ++ news) ∧ w.grownBy w' none:=by
   rw [hxv,hyv]
   cases A with
   | none =>
     have hl0 : l.length = 0:=by
      by_cases hp : 0 < l.length
      ·obtain ⟨b',o',h6,_⟩:=hc3 hp;cases h6
      ·omega
     have hl : l = []:=List.eq_nil_of_length_eq_zero hl0
     subst hl
     obtain ⟨v',w',h2,h3,h4,_,_⟩:=run_append_own_at (P:=P) w w.heap.size t ty e inf z inf.size by' he hi1 hzz rfl hib hz h0 (.slice none 0 0) 0 [] ⟨by simp,.inl ⟨rfl,rfl⟩⟩ ⟨b,q,none⟩ l2.length d news hnl (fun j u hu=>by rw [add_none];exact hv2 j u hu) (vals_one hv1) (by unfold maxLen;simp only [List.length_nil] at hb;omega) (by simpa using hbytes) (Nat.le_refl _)
     exact ⟨[],v',w',by simp,⟨rfl,by simp⟩,h2,h3,h4⟩
   | some A =>
     have hol : ∃ xs,(∀ e ∈ l,e.length = inf.size) ∧ valsSat (badK F κ) w l.flatten xs ∧ ∀ (j : Nat) (u : Value),xs[j]? = some u → w.cell? (A.add j) = some u:=by
      by_cases hp : 0 < l.length
      ·obtain ⟨b', o', h6, h7, h8, h9⟩ := hc3 hp
       obtain rfl : A = ⟨b',o',none⟩:=by simpa using h6
       rw [rowsSat_flat] at h9
       obtain ⟨xs,h10,h11⟩:=vals_of_row h9.2
       exact ⟨xs,h9.1,h10,fun j u hu=>by rw [add_none];exact h11 j u hu⟩
      ·have hl : l = [] := List.eq_nil_of_length_eq_zero (by omega)
       subst hl
       exact ⟨[],by simp,⟨rfl,by simp⟩,by simp⟩
     obtain ⟨xs,h6,h7,h8⟩:=hol
     have hxl : xs.length = l.length * inf.size:=by rw [← h7.1,flat_len h6]
     obtain ⟨v',w',h2,h3,h4⟩:=run_append_arg_grows (P:=P) (w:=w) t ty e inf z inf.size by' he hi1 hzz rfl hib hz h0 A l.length l.length xs hxl h8 ⟨b,q,none⟩ l2.length d news hnl (fun j u hu=>by rw [add_none];exact hv2 j u hu) (by omega) (by unfold maxLen;omega) hbytes
     exact ⟨xs,v',w',h6,h7,h2,h3,h4⟩
  obtain ⟨xs,v',w',h6,h7,h2,h3,h4⟩:=key
  refine ⟨v',w',by rw [exec_builtin];simp only [builtin,List.map_toArray,List.map_cons,List.map_nil];exact exec_v h2,?_,h4.os,h4.tape,h4.output,h4.size,fun b' hb'=>h4.block b' hb' (by simp)⟩
  rcases h3.2 with ⟨_,h5⟩ | ⟨g,cap,cur,rfl,hg,hh,hnc,hcm,hcs,htake⟩
  ·omega
  ·have hgl : g < w'.heap.size := (Array.getElem?_eq_some_iff.1 hh).1
   rw [AV.sat,Dat.sat]
   have hnb : ¬ badK F κ g:=fun h=>by
    rcases h with h | h
    ·have:=ho.frame g h;omega
    ·have:=(ho.lt g h).1;omega
   refine ⟨_,cap,by rw [List.length_append],by rw [List.length_append];exact hnc,hcm,fun _=>⟨g,0,rfl,hgl,hnb,?_⟩⟩
   have hall : ∀ e ∈ l ++ l2,e.length = inf.size:=by intro e he;rcases List.mem_append.1 he with h | h<;>first | exact h6 e h | exact hb3.1 e h
   rw [rowsSat_flat]
   refine ⟨hall,?_⟩
   rw [List.flatten_append]
   refine row_of_vals (Wide.of h4.size (fun b' hb' _=>h4.block b' hb' (by simp)) fun b' _ h=>h) (vals_append h7 hv1) fun j u hu=>?_
   rw [Nat.zero_add,cell_of_row w' g j cur e (0,0) hh]
   rw [← htake,List.getElem?_take] at hu
   split at hu
   ·simpa using hu
   ·cases hu
end
end
section
attribute [local irreducible] Quiet Eff OpOk AWPG ACont ABlock ACalls
theorem A_mtimes {M : Nat} {a b : Nat} (hM : FldM M) (ha : a < 2 ^ M) (hb : b < 2 ^ M) : ACalls Tryz.prog 306 [iV M,iV a,iV b] [] (iV (Gf.mul M (modN M) a b : Nat)) []:=by
 refine acalls_of_body Tryz.func306 rfl (zU rfl) ?_
 have hm:=A_mul hM ha hb
 (repeat' (first
  |(apply W.qd;(first
  |(exact zW (hm))|(exact zM)|(exact zN)
  |(exact yAb rfl rfl)))|(apply yA)|(apply yB)|(refine jAb ?_)|(apply yE)
  |(apply yJ)))
 exact Ends.i rfl rfl
abbrev mx (M R C : Nat) (l : List Nat) : AV:=.agg [iV M,iV R,iV C,nats l]
structure MxOk (M R C : Nat) (l : List Nat) : Prop where
 f : FldM M
 r : R ≤ 32
 c : C ≤ 32
 n : l.length = R * C
 e : ∀ x ∈ l,x < 2 ^ M
theorem A_mrow {M R C : Nat} {l : List Nat} (h : MxOk M R C l) {i : Nat} (hi : i < R) : ACalls Tryz.prog 292 [mx M R C l,iV i] [] (nats ((l.drop (i * C)).take C)) []:=by
 refine acalls_of_body Tryz.func292 rfl (zU rfl) ?_
 have h1:=h.r
 have h2:=h.c
 have h3:=h.n
 have h4 : i * C ≤ 1024:=Nat.mul_le_mul (show i ≤ 32 by omega) h2
 have h5 : (i + 1) * C ≤ R * C:=Nat.mul_le_mul_right C hi
 have h6 : ((i : Int) + 1) * (C : Int) = ((i : Int) * (C : Int)) + C:=by rw [Int.add_mul,Int.one_mul]
 have h7 : (i + 1) * C = i * C + C:=by rw [Nat.add_mul,Nat.one_mul]
 have h8 : -9223372036854775808 ≤ ((i : Int) + 1) * (C : Int) ∧ ((i : Int) + 1) * (C : Int) < 9223372036854775808:=by rw [h6];omega
 (repeat' (first
  |(apply W.qd;(first
  |(exact zM)|(exact zN)|(exact jAm)|(exact jAg)|(exact jAi)|(apply q_mul;exact rfl;exact rfl;(first | omega | assumption))
  |(apply q_slc_map;exact rfl;exact rfl;(first | exact ⟨_,_,rfl,rfl⟩ | exact ⟨_,_,rfl,natI_spec rfl⟩ | exact ⟨_,_,rfl,(Int.toNat_of_nonneg (by omega)).symm⟩ | exact rfl);(first | exact ⟨_,_,rfl,rfl⟩ | exact ⟨_,_,rfl,natI_spec rfl⟩ | exact ⟨_,_,rfl,(Int.toNat_of_nonneg (by omega)).symm⟩ | exact rfl);(first | omega | (focus (simp only [List.length_map];omega)) | (focus (simp;done)) | (focus (simp;omega)));(first | omega | (focus (simp only [List.length_map];omega)) | (focus (simp;done)) | (focus (simp;omega)));exact Or.inl rfl)))|(apply W.ed;(exact jAa))|(apply yA)|(apply yB)|(refine jAb ?_)|(apply yE)
  |(apply yJ)))
 exact Ends.sl rfl (by rw [h7,Nat.add_sub_cancel_left])
theorem A_mvalid1 {M R C : Nat} {l : List Nat} (h : MxOk M R C l) (x : Nat) (hx : x < 2 ^ M) : ACalls Tryz.prog 303 [iV x,.opt 0 0] [.box [iV M,iV R,iV C,nats l]] (bV false) [.box [iV M,iV R,iV C,nats l]]:=by
 refine acalls_of_bodyS Tryz.func303 rfl (zU rfl) ?_
 have hpw:=h.f.pow
 have hM:=h.f
 have hM16 : 1 ≤ M ∧ M ≤ 16:=by unfold FldM at hM;omega
 have h1:=one_shl M
 have hcap1 : ∀ s : Nat,s ≤ M → 1 <<< s < 9223372036854775808:=fun s hs=>by
  rw [one_shl]
  have:=Nat.pow_le_pow_right (show 0 < 2 by omega) hs
  omega
 (repeat' (first
  |(apply yFb;exact rfl;exact rfl)
  |(apply W.qd;(first
  |(exact zM)|(exact zN)|(exact jAm)|(exact jAg)|(exact jAj)|(exact q_geq rfl rfl)|(apply (yDb (u:=.d _));exact rfl;exact rfl)
  |(exact jAe)))|(apply yA)|(apply yB)|(refine jAb ?_)|(apply yE)
  |(apply yJ)))
 exact EndsS.b rfl (decide_eq_false (by rw [one_shl]; have h8 : ((2 ^ M : Nat) : Int) > (x : Int) := by omega
                                        omega))
theorem A_mvalid {M R C : Nat} {l : List Nat} (h : MxOk M R C l) : ACalls Tryz.prog 291 [mx M R C l] [] (bV true) []:=by
 refine acalls_of_body Tryz.func291 rfl (zU rfl) ?_
 have h1:=h.r
 have h2:=h.c
 have h3:=h.n
 have h4 : R * C ≤ 1024:=Nat.mul_le_mul h1 h2
 have hM:=h.f
 have hM16 : M = 8 ∨ M = 16:=by unfold FldM at hM;omega
 have hmap : (l.map fun n : Nat=>(n : Int)).any (fun _=>false) = false:=by simp
 have hc:=A_contains_int (O:=[.box [iV M,iV R,iV C,nats l]]) (g:=303) (caps:=[.opt 0 0]) (fun _=>false) (l.map fun n : Nat=>(n : Int)) (by simp;omega) (by kernel_rfl) (fun x hx=>by
  obtain ⟨n,hn,rfl⟩:=List.mem_map.1 hx
  exact A_mvalid1 h n (h.e n hn))
 rw [← nats_ints,hmap] at hc
 (repeat' (first
  |(apply yFb;exact rfl;exact rfl)
  |(apply W.qd;(first
  |(exact zM)|(exact zN)|(exact jAm)|(exact jAg)|(exact jAj)|(exact jBf)|(exact jBb)|(exact jBe)|(apply q_mul;exact rfl;exact rfl;(first | omega | assumption))|(exact jAt)|(apply q_makeFunc)|(exact q_min rfl rfl)|(exact q_max rfl rfl)|(apply (yEb (u:=.d _));exact rfl;exact rfl)
  |(apply (yDb (u:=.d _));exact rfl;exact rfl)))
  |(apply W.ed;(first
  |(apply (e_callS (hc));exact rfl;exact rfl;(first | assumption | kernel_rfl))
  |(exact jAa)))|(refine W.gOff _ _ rfl rfl (by intro h;cases h) ?_)|(apply yA)|(apply yB)|(refine jAb ?_)|(apply yE)|(apply yH)|(apply yJ)|(refine W.gT _ _ rfl rfl (fun hb=>?_) (fun hb=>?_)<;>((try simp only [hb,zK])<;>(try simp only [zL,zI] at hb)<;>(try (exfalso;omega))))|(refine W.gF _ _ rfl rfl (fun hb=>?_) (fun hb=>?_)<;>((try simp only [hb,zK])<;>(try simp only [zL,zI] at hb)<;>(try (exfalso;omega))))
  |(refine W.cond _ rfl (fun hb=>?_) (fun hb=>?_)<;>((try simp only [hb,zK])<;>(try simp only [zL,zI] at hb)<;>(try (exfalso;omega))))))
 all_goals exact Ends.b rfl rfl
end
section
attribute [local irreducible] Quiet Eff OpOk AWPG ACont ABlock ACalls
theorem A_mrowO {M R C v : Nat} {l : List Nat} (hr : R ≤ 32) (hc : C ≤ 32) (hn : l.length = R * C) {i : Nat} (hi : i < R) : ACalls Tryz.prog 292 [.agg [iV M,iV R,iV C,.osl 0 v 0 (R * C)],iV i] [.row v 1 3 (l.map kD)] (.osl 0 v (i * C) C) [.row v 1 3 (l.map kD)]:=by
 refine acalls_of_bodyO Tryz.func292 rfl (zU rfl) ?_
 have h4 : i * C ≤ 1024:=Nat.mul_le_mul (show i ≤ 32 by omega) hc
 have h5 : (i + 1) * C ≤ R * C:=Nat.mul_le_mul_right C hi
 have h6 : ((i : Int) + 1) * (C : Int) = ((i : Int) * (C : Int)) + C:=by rw [Int.add_mul,Int.one_mul]
 have h7 : (i + 1) * C = i * C + C:=by rw [Nat.add_mul,Nat.one_mul]
 have h8 : -9223372036854775808 ≤ ((i : Int) + 1) * (C : Int) ∧ ((i : Int) + 1) * (C : Int) < 9223372036854775808:=by rw [h6];omega
 (repeat' (first
  |(apply W.qd;(first
  |(exact zM)|(exact zN)|(exact jAm)|(exact jAg)|(exact jAi)
  |(apply q_mul;exact rfl;exact rfl;(first | omega | assumption))))|(apply W.ed;(exact jAa))|(apply yA)|(apply yB)|(refine jAb ?_)
  |(apply yE)))
 refine W.q (fp:=[0]) (r:=.osl 0 v (0 + i * C) ((i + 1) * C - i * C)) ?q0 ?q1
 case q0=>exact q_slc_osl (i * C) ((i + 1) * C) rfl rfl rfl ⟨_,_,rfl,rfl⟩ ⟨_,_,rfl,rfl⟩ (by omega) (by omega)
 (repeat' (first
  |(apply W.qd;(exact zN))|(apply yB)|(apply yE)
  |(apply yJ)))
 refine ⟨.inl rfl,[0],[.osl 0 v (0 + i * C) ((i + 1) * C - i * C)],rfl,rfl,?_,?_,rfl⟩
 ·exact ⟨rfl,trivial⟩
 ·rw [Nat.zero_add, h7, Nat.add_sub_cancel_left]
  exact AVle.of_eq (by simp [tupA,AV.frz,plc])
def addAt (M f o o' : Nat) (L : List Nat) : Nat → List Nat
 | 0=>L
 | k + 1=>(addAt M f o o' L k).set (o + k) ((addAt M f o o' L k).getD (o + k) 0 ^^^ Gf.mul M (modN M) f ((addAt M f o o' L k).getD (o' + k) 0))
theorem addAt_length (M f o o' : Nat) (L : List Nat) (k : Nat) : (addAt M f o o' L k).length = L.length:=by
 induction k with
 | zero=>rfl
 | succ k ih=>rw [addAt,List.length_set,ih]
theorem getD_lt {M : Nat} {L : List Nat} (h : ∀ x ∈ L,x < 2 ^ M) (i : Nat) : L.getD i 0 < 2 ^ M:=by
 rw [List.getD_eq_getElem?_getD]
 cases hx : L[i]? with
 | none=>exact Nat.two_pow_pos M
 | some x=>exact h x (List.mem_of_getElem? hx)
theorem addAt_lt {M f : Nat} (hM : FldM M) (hf : f < 2 ^ M) (o o' : Nat) {L : List Nat} (h : ∀ x ∈ L,x < 2 ^ M) (k : Nat) : ∀ x ∈ addAt M f o o' L k,x < 2 ^ M:=by
 induction k with
 | zero=>exact h
 | succ k ih =>
   intro x hx
   rw [addAt] at hx
   rcases List.mem_or_eq_of_mem_set hx with hx | rfl
   ·exact ih x hx
   ·exact Nat.xor_lt_two_pow (getD_lt ih _) (Gf.mul_lt (FldM.gen hM).hm (FldM.gen hM).top (FldM.gen hM).lt hf _)
theorem A_madd {M f o o' n v : Nat} {L : List Nat} (hM : FldM M) (hf : f < 2 ^ M) (hL : ∀ x ∈ L,x < 2 ^ M) (h1 : o + n ≤ L.length) (h2 : o' + n ≤ L.length) (hn : n ≤ 1000000) : ACalls Tryz.prog 307 [iV M,.osl 0 v o n,.osl 0 v o' n,iV f] [.row v 1 3 (L.map kD)] (.tup []) [.row v 1 3 ((addAt M f o o' L n).map kD)]:=by
 refine acalls_of_bodyO Tryz.func307 rfl (zU rfl) ?_
 (repeat' (first
  |(apply W.qd;(first
  |(exact zM)
  |(exact q_len_osl rfl rfl rfl)))|(apply yA)|(apply yB)|(refine jAb ?_)|(apply yE)
  |(apply yG)))
 refine AWP.loopW (α:=Nat) (fun k=>k ≤ n) (fun k=>⟨[(12,iV k),(11,iV n),(10,.osl 0 v o' n),(0,iV M),(1,.osl 0 v o n),(2,.osl 0 v o' n),(3,iV f)],[.row v 1 3 ((addAt M f o o' L k).map kD)]⟩) (fun k=>n - k) 0 (by omega) ⟨[0],rfl,rfl,rfl,by (repeat (first | exact trivial | refine ⟨rfl,?_⟩))⟩ fun k hk=>?_
 have hlen:=addAt_length M f o o' L k
 have hall:=addAt_lt hM hf o o' hL k
 by_cases hkl : k < n
 ·have c1 := hall (addAt M f o o' L k)[o' + k] (List.getElem_mem (by omega))
  have c2:=hall (addAt M f o o' L k)[o + k] (List.getElem_mem (by omega))
  have ht:=A_mtimes hM hf c1
  have c3:=hM.cap c1
  have c4:=hM.cap c2
  have hm : Gf.mul M (modN M) f ((addAt M f o o' L k)[o' + k]'(by omega)) < 2 ^ M:=Gf.mul_lt (FldM.gen hM).hm (FldM.gen hM).top (FldM.gen hM).lt hf _
  have c5:=hM.cap hm
  (repeat' (first
   |(apply W.qd;(first
   |(exact zW (ht))|(exact zM)|(exact zN)|(exact jAj)|(exact jAi)|(exact jAd)|(exact jAq)
   |(exact jAz)))|(apply W.en;(apply e_st_rptm;(iterate 7 exact rfl);exact fun _=>rfl;(first | omega | (focus (simp only [List.length_map];omega)) | (focus (simp;omega)))))|(apply yA)|(apply yB)|(refine jAb ?_)|(refine jAr ?_)|(apply yE)|(refine jAx ?_)|(apply yG)|(apply yH)|(apply yL)
   |(refine W.cond _ rfl (fun hb=>?_) (fun hb=>?_)<;>((try simp only [hb,zK])<;>(try simp only [zL,zI] at hb)<;>(try (exfalso;omega))))))
  refine ⟨k + 1,by omega,by omega,[0],rfl,rfl,?_,iV_eq (by omega),rfl,rfl,rfl,rfl,rfl,rfl,trivial⟩
  refine congrArg (fun z : List Nat=>[Ent.row v 1 3 (z.map kD)]) ?_
  rw [addAt,List.getD_eq_getElem?_getD,List.getD_eq_getElem?_getD,List.getElem?_eq_getElem (show o + k < _ by omega),List.getElem?_eq_getElem (show o' + k < _ by omega)]
  rfl
 ·have e : k = n := by omega
  subst e
  (repeat' (first
   |(apply W.qd;(exact jAj))|(apply yA)|(apply yB)|(refine jAb ?_)|(apply yE)|(apply yI)|(apply yK)|(apply yM)
   |(refine W.cond _ rfl (fun hb=>?_) (fun hb=>?_)<;>((try simp only [hb,zK])<;>(try simp only [zL,zI] at hb)<;>(try (exfalso;omega))))))
  exact ⟨.inr rfl,[0],[],rfl,rfl,trivial,AVle.of_eq rfl,rfl⟩
end
section
attribute [local irreducible] Quiet Eff OpOk AWPG ACont ABlock ACalls
def swapAt (o o' : Nat) (L : List Nat) : Nat → List Nat
 | 0=>L
 | k + 1=>((swapAt o o' L k).set (o + k) ((swapAt o o' L k).getD (o' + k) 0)).set (o' + k) ((swapAt o o' L k).getD (o + k) 0)
theorem swapAt_length (o o' : Nat) (L : List Nat) (k : Nat) : (swapAt o o' L k).length = L.length:=by
 induction k with
 | zero=>rfl
 | succ k ih=>rw [swapAt,List.length_set,List.length_set,ih]
theorem swapAt_lt {M : Nat} (o o' : Nat) {L : List Nat} (h : ∀ x ∈ L,x < 2 ^ M) (k : Nat) : ∀ x ∈ swapAt o o' L k,x < 2 ^ M:=by
 induction k with
 | zero=>exact h
 | succ k ih =>
   intro x hx
   rw [swapAt] at hx
   rcases List.mem_or_eq_of_mem_set hx with hx | rfl
   ·rcases List.mem_or_eq_of_mem_set hx with hx | rfl
    ·exact ih x hx
    ·exact getD_lt ih _
   ·exact getD_lt ih _
theorem A_mswap {M R C v i k : Nat} {L : List Nat} (hM : FldM M) (hr : R ≤ 32) (hc : C ≤ 32) (hn : L.length = R * C) (hL : ∀ x ∈ L,x < 2 ^ M) (hi : i < R) (hk : k < R) : ACalls Tryz.prog 305 [iV i,iV k,.opt 1 0] [.row v 1 3 (L.map kD),.box [iV M,iV R,iV C,.osl 0 v 0 (R * C)]] (.tup []) [.row v 1 3 ((swapAt (i * C) (k * C) L C).map kD),.box [iV M,iV R,iV C,.osl 0 v 0 (R * C)]]:=by
 refine acalls_of_bodyO Tryz.func305 rfl (zU rfl) ?_
 have r1:=A_mrowO (M:=M) (v:=v) hr hc hn hi
 have r2:=A_mrowO (M:=M) (v:=v) hr hc hn hk
 (repeat' (first
  |(apply W.qd;(first
  |(exact zM)|(exact zN)|(exact jAn)
  |(exact q_len_osl rfl rfl rfl)))
  |(apply W.ed;(first
  |(apply (e_callJ (js:=[0]) (r1));(iterate 5 exact rfl);kernel_rfl;kernel_rfl)
  |(apply (e_callJ (js:=[0]) (r2));(iterate 5 exact rfl);kernel_rfl;kernel_rfl)))|(apply yA)|(apply yB)|(refine jAb ?_)|(refine jAr ?_)|(apply yE)|(refine jAx ?_)
  |(apply yG)))
 have h1 : i * C + C ≤ L.length:=by
  have:=Nat.mul_le_mul_right C (show i + 1 ≤ R from hi)
  rw [Nat.add_mul,Nat.one_mul] at this
  omega
 have h2 : k * C + C ≤ L.length:=by
  have:=Nat.mul_le_mul_right C (show k + 1 ≤ R from hk)
  rw [Nat.add_mul,Nat.one_mul] at this
  omega
 clear r1 r2
 generalize R * C = n at *
 generalize i * C = o at *
 generalize k * C = o' at *
 refine AWP.loopW (α:=Nat) (fun j=>j ≤ C) (fun j=>⟨[(16,iV j),(15,iV C),(5,.osl 0 v o C),(6,.osl 0 v o' C)],[.row v 1 3 ((swapAt o o' L j).map kD),.box [iV M,iV R,iV C,.osl 0 v 0 n]]⟩) (fun j=>C - j) 0 (by omega) ⟨[0,1],rfl,rfl,rfl,rfl,rfl,rfl,rfl,trivial⟩ fun j hj=>?_
 have hlen:=swapAt_length o o' L j
 have hall:=swapAt_lt o o' hL j
 by_cases hjl : j < C
 ·have c1 := hM.cap (hall (swapAt o o' L j)[o' + j] (List.getElem_mem (by omega)))
  have c2:=hM.cap (hall (swapAt o o' L j)[o + j] (List.getElem_mem (by omega)))
  (repeat' (first
   |(apply W.qd;(first
   |(exact zM)|(exact zN)|(exact jAj)|(exact jAi)|(exact jAq)
   |(exact jAz)))|(apply W.en;(apply e_st_rptm;(iterate 7 exact rfl);exact fun _=>rfl;(first | omega | (focus (simp only [List.length_map];omega)) | (focus (simp;omega)))))|(apply yA)|(apply yB)|(refine jAb ?_)|(refine jAr ?_)|(apply yE)|(refine jAx ?_)|(apply yG)|(apply yH)|(apply yL)
   |(refine W.cond _ rfl (fun hb=>?_) (fun hb=>?_)<;>((try simp only [hb,zK])<;>(try simp only [zL,zI] at hb)<;>(try (exfalso;omega))))))
  refine ⟨j + 1,by omega,by omega,[0,1],rfl,rfl,?_,iV_eq (by omega),rfl,rfl,rfl,trivial⟩
  refine congrArg (fun z : List Nat=>[Ent.row v 1 3 (z.map kD),.box [iV M,iV R,iV C,.osl 0 v 0 n]]) ?_
  rw [swapAt,List.getD_eq_getElem?_getD,List.getD_eq_getElem?_getD,List.getElem?_eq_getElem (show o + j < _ by omega),List.getElem?_eq_getElem (show o' + j < _ by omega)]
  rfl
 ·have e : j = C := by omega
  subst e
  (repeat' (first
   |(apply W.qd;(exact jAj))|(apply yA)|(apply yB)|(refine jAb ?_)|(apply yE)|(apply yI)|(apply yK)|(apply yM)
   |(refine W.cond _ rfl (fun hb=>?_) (fun hb=>?_)<;>((try simp only [hb,zK])<;>(try simp only [zL,zI] at hb)<;>(try (exfalso;omega))))))
  exact ⟨.inr rfl,[0,1],[],rfl,rfl,trivial,AVle.of_eq rfl,rfl⟩
end
section
attribute [local irreducible] Quiet Eff OpOk AWPG ACont ABlock ACalls
def findP (C j : Nat) (L : List Nat) : Nat → Nat → Nat
 | 0,i=>i
 | n + 1,i=>if L.getD (i * C + j) 0 = 0 then findP C j L n (i + 1) else i
def scaleAt (M f o : Nat) (L : List Nat) : Nat → List Nat
 | 0=>L
 | k + 1=>(scaleAt M f o L k).set (o + k) (Gf.mul M (modN M) f ((scaleAt M f o L k).getD (o + k) 0))
def clearAt (M C j p : Nat) (L : List Nat) : Nat → List Nat
 | 0=>L
 | r + 1=>if r = p then clearAt M C j p L r else addAt M ((clearAt M C j p L r).getD (r * C + j) 0) (r * C) (p * C) (clearAt M C j p L r) C
theorem scaleAt_length (M f o : Nat) (L : List Nat) (k : Nat) : (scaleAt M f o L k).length = L.length:=by
 induction k with
 | zero=>rfl
 | succ k ih=>rw [scaleAt,List.length_set,ih]
theorem clearAt_length (M C j p : Nat) (L : List Nat) (r : Nat) : (clearAt M C j p L r).length = L.length:=by
 induction r with
 | zero=>rfl
 | succ r ih =>
   rw [clearAt]
   by_cases h : r = p
   ·rw [if_pos h,ih]
   ·rw [if_neg h,addAt_length,ih]
theorem scaleAt_lt {M f : Nat} (hM : FldM M) (hf : f < 2 ^ M) (o : Nat) {L : List Nat} (h : ∀ x ∈ L,x < 2 ^ M) (k : Nat) : ∀ x ∈ scaleAt M f o L k,x < 2 ^ M:=by
 induction k with
 | zero=>exact h
 | succ k ih =>
   intro x hx
   rw [scaleAt] at hx
   rcases List.mem_or_eq_of_mem_set hx with hx | rfl
   ·exact ih x hx
   ·exact Gf.mul_lt (FldM.gen hM).hm (FldM.gen hM).top (FldM.gen hM).lt hf _
theorem clearAt_lt {M : Nat} (hM : FldM M) (C j p : Nat) {L : List Nat} (h : ∀ x ∈ L,x < 2 ^ M) (r : Nat) : ∀ x ∈ clearAt M C j p L r,x < 2 ^ M:=by
 induction r with
 | zero=>exact h
 | succ r ih =>
   rw [clearAt]
   by_cases hr : r = p
   ·rw [if_pos hr];exact ih
   ·rw [if_neg hr];exact addAt_lt hM (getD_lt ih _) _ _ ih C
def redStep (M R C j : Nat) (s : List Nat × List Nat) : List Nat × List Nat :=
 let p:=s.2.length
 let i:=findP C j s.1 (R - p) p
 if i = R then s else
  let L1:=swapAt (i * C) (p * C) s.1 C
  let L2:=scaleAt M (invN M (L1.getD (p * C + j) 0)) (p * C) L1 C
  (clearAt M C j p L2 R,s.2 ++ [j])
def red (M R C : Nat) (L : List Nat) : Nat → List Nat × List Nat
 | 0=>(L,[])
 | n + 1=>redStep M R C n (red M R C L n)
theorem findP_le (C j : Nat) (L : List Nat) : ∀ n i, i ≤ findP C j L n i ∧ findP C j L n i ≤ i + n
 | 0,i=>⟨Nat.le_refl _,Nat.le_refl _⟩
 | n + 1,i=>by
   rw [findP]
   by_cases h : L.getD (i * C + j) 0 = 0
   ·rw [if_pos h]
    have:=findP_le C j L n (i + 1)
    omega
   ·rw [if_neg h];omega
structure RedOk (M R C n : Nat) (s : List Nat × List Nat) : Prop where
 len : s.1.length = R * C
 lt : ∀ x ∈ s.1,x < 2 ^ M
 pr : s.2.length ≤ R
 pn : s.2.length ≤ n
theorem invN_lt {M : Nat} (a : Nat) : invN M a < 2 ^ M:=by
 unfold invN
 cases h : (List.range (2 ^ M)).find? fun b=>Gf.mul M (modN M) a b == 1 with
 | none=>exact Nat.two_pow_pos M
 | some b=>exact List.mem_range.1 (List.mem_of_find?_eq_some h)
theorem red_ok {M R C : Nat} {L : List Nat} (hM : FldM M) (hn : L.length = R * C) (hL : ∀ x ∈ L,x < 2 ^ M) (n : Nat) : RedOk M R C n (red M R C L n):=by
 induction n with
 | zero=>exact ⟨hn,hL,Nat.zero_le _,Nat.zero_le _⟩
 | succ n ih =>
   rw [red]
   generalize red M R C L n = s at ih
   obtain ⟨A,pv⟩:=s
   have hf:=findP_le C n A (R - pv.length) pv.length
   have h1:=ih.pr
   have h2:=ih.pn
   have h3:=ih.len
   have h4:=ih.lt
   dsimp only at h1 h2 h3 h4
   rw [redStep]
   dsimp only
   by_cases hi : findP C n A (R - pv.length) pv.length = R
   ·rw [if_pos hi]
    exact ⟨h3,h4,h1,by show pv.length ≤ n + 1;omega⟩
   ·rw [if_neg hi]
    refine ⟨?_,?_,?_,?_⟩
    ·show (clearAt ..).length = _
     rw [clearAt_length,scaleAt_length,swapAt_length,h3]
    ·exact clearAt_lt hM _ _ _ (scaleAt_lt hM (invN_lt _) _ (swapAt_lt _ _ h4 _) _) _
    ·show (pv ++ [n]).length ≤ R
     rw [List.length_append];simp only [List.length_cons,List.length_nil];omega
    ·show (pv ++ [n]).length ≤ n + 1
     rw [List.length_append];simp only [List.length_cons,List.length_nil];omega
end
section
def gt (C : Nat) (L : List Nat) (r c : Nat) : Nat:=L.getD (r * C + c) 0
theorem idx_inj {C r c r' c' : Nat} (hc : c < C) (hc' : c' < C) (h : r * C + c = r' * C + c') : r = r' ∧ c = c':=by
 have h1 : (r * C + c) / C = r:=by rw [Nat.mul_comm,Nat.mul_add_div (by omega),Nat.div_eq_of_lt hc,Nat.add_zero]
 have h2 : (r' * C + c') / C = r':=by rw [Nat.mul_comm,Nat.mul_add_div (by omega),Nat.div_eq_of_lt hc',Nat.add_zero]
 have : r = r':=by rw [← h1,← h2,h]
 subst this
 exact ⟨rfl,by omega⟩
theorem idx_lt {R C r c : Nat} (hr : r < R) (hc : c < C) : r * C + c < R * C:=by
 have:=Nat.mul_le_mul_right C (show r + 1 ≤ R from hr)
 rw [Nat.add_mul,Nat.one_mul] at this
 omega
theorem getD_set_eq {L : List Nat} {i x : Nat} (h : i < L.length) : (L.set i x).getD i 0 = x:=by
 simp [List.getD_eq_getElem?_getD,List.getElem?_set,h]
theorem getD_set_ne' {L : List Nat} {i j x : Nat} (h : i ≠ j) : (L.set i x).getD j 0 = L.getD j 0:=by
 simp [List.getD_eq_getElem?_getD,List.getElem?_set,h]
section
variable {M R C : Nat} {L : List Nat}
theorem gt_set {r c r' c' x : Nat} (hn : L.length = R * C) (hr : r < R) (hc : c < C) (hc' : c' < C) : gt C (L.set (r * C + c) x) r' c' = if r' = r ∧ c' = c then x else gt C L r' c':=by
 unfold gt
 by_cases h : r' = r ∧ c' = c
 ·obtain ⟨rfl, rfl⟩ := h
  rw [if_pos ⟨rfl,rfl⟩,getD_set_eq (by rw [hn];exact idx_lt hr hc)]
 ·rw [if_neg h, getD_set_ne']
  intro e
  obtain ⟨rfl,rfl⟩:=idx_inj hc hc' e
  exact h ⟨rfl,rfl⟩
theorem gt_swapAt {i k : Nat} (hn : L.length = R * C) (hi : i < R) (hk : k < R) : ∀ {n : Nat},n ≤ C → ∀ r c : Nat,c < C → gt C (swapAt (i * C) (k * C) L n) r c = if c < n then (if r = i then gt C L k c else if r = k then gt C L i c else gt C L r c) else gt C L r c:=by
 intro n
 induction n with
 | zero=>intro _ r c _;rw [swapAt,if_neg (by omega)]
 | succ n ih =>
   intro hnC r c hc
   have key:=ih (by omega)
   have hl:=swapAt_length (i * C) (k * C) L n
   rw [swapAt,gt_set (R:=R) (by rw [List.length_set,hl,hn]) hk (by omega) hc,gt_set (R:=R) (by rw [hl,hn]) hi (by omega) hc]
   have e1 : (swapAt (i * C) (k * C) L n).getD (i * C + n) 0 = gt C L i n:=by
    have:=key i n (by omega);rw [if_neg (by omega)] at this;exact this
   have e2 : (swapAt (i * C) (k * C) L n).getD (k * C + n) 0 = gt C L k n:=by
    have:=key k n (by omega);rw [if_neg (by omega)] at this;exact this
   rw [e1,e2,key r c hc]
   by_cases hcn : c = n
   ·subst hcn
    simp only [Nat.lt_irrefl,if_false,and_true,Nat.lt_succ_self,if_true]
    by_cases h1 : r = k
    ·subst h1
     by_cases h2 : r = i
     ·subst h2;simp
     ·simp [h2]
    ·by_cases h2 : r = i
     ·subst h2;simp [h1]
     ·simp [h1,h2]
   ·simp only [hcn, and_false, if_false]
    by_cases h3 : c < n
    ·rw [if_pos h3,if_pos (show c < n + 1 by omega)]
    ·rw [if_neg h3,if_neg (show ¬ c < n + 1 by omega)]
theorem gt_swap {i k r c : Nat} (hn : L.length = R * C) (hi : i < R) (hk : k < R) (hc : c < C) : gt C (swapAt (i * C) (k * C) L C) r c = if r = i then gt C L k c else if r = k then gt C L i c else gt C L r c:=by
 rw [gt_swapAt hn hi hk (Nat.le_refl C) r c hc,if_pos hc]
theorem gt_scaleAt {p f : Nat} (hn : L.length = R * C) (hp : p < R) : ∀ {n : Nat},n ≤ C → ∀ r c : Nat,c < C → gt C (scaleAt M f (p * C) L n) r c = if r = p ∧ c < n then Gf.mul M (modN M) f (gt C L p c) else gt C L r c:=by
 intro n
 induction n with
 | zero=>intro _ r c _;rw [scaleAt,if_neg (by omega)]
 | succ n ih =>
   intro hnC r c hc
   have key:=ih (by omega)
   have hl:=scaleAt_length M f (p * C) L n
   rw [scaleAt,gt_set (R:=R) (by rw [hl,hn]) hp (by omega) hc]
   have e1 : (scaleAt M f (p * C) L n).getD (p * C + n) 0 = gt C L p n:=by
    have:=key p n (by omega);rw [if_neg (by omega)] at this;exact this
   rw [e1,key r c hc]
   by_cases hcn : c = n
   ·subst hcn
    by_cases h1 : r = p
    ·subst h1;simp
    ·simp [h1]
   ·simp only [hcn, and_false, if_false]
    by_cases h1 : r = p
    ·subst h1
     by_cases h3 : c < n
     ·rw [if_pos ⟨rfl,h3⟩,if_pos ⟨rfl,by omega⟩]
     ·rw [if_neg (by omega),if_neg (by omega)]
    ·rw [if_neg (by omega),if_neg (by omega)]
theorem gt_scale {p f r c : Nat} (hn : L.length = R * C) (hp : p < R) (hc : c < C) : gt C (scaleAt M f (p * C) L C) r c = if r = p then Gf.mul M (modN M) f (gt C L p c) else gt C L r c:=by
 rw [gt_scaleAt hn hp (Nat.le_refl C) r c hc]
 by_cases h : r = p
 ·rw [if_pos ⟨h,hc⟩,if_pos h]
 ·rw [if_neg (by omega),if_neg h]
theorem gt_addAt {i k f : Nat} (hn : L.length = R * C) (hi : i < R) (hik : i ≠ k) : ∀ {n : Nat},n ≤ C → ∀ r c : Nat,c < C → gt C (addAt M f (i * C) (k * C) L n) r c = if r = i ∧ c < n then gt C L i c ^^^ Gf.mul M (modN M) f (gt C L k c) else gt C L r c:=by
 intro n
 induction n with
 | zero=>intro _ r c _;rw [addAt,if_neg (by omega)]
 | succ n ih =>
   intro hnC r c hc
   have key:=ih (by omega)
   have hl:=addAt_length M f (i * C) (k * C) L n
   rw [addAt,gt_set (R:=R) (by rw [hl,hn]) hi (by omega) hc]
   have e1 : (addAt M f (i * C) (k * C) L n).getD (i * C + n) 0 = gt C L i n:=by
    have:=key i n (by omega);rw [if_neg (by omega)] at this;exact this
   have e2 : (addAt M f (i * C) (k * C) L n).getD (k * C + n) 0 = gt C L k n:=by
    have:=key k n (by omega);rw [if_neg (by omega)] at this;exact this
   rw [e1,e2,key r c hc]
   by_cases hcn : c = n
   ·subst hcn
    by_cases h1 : r = i
    ·subst h1;simp
    ·simp [h1]
   ·simp only [hcn, and_false, if_false]
    by_cases h1 : r = i
    ·subst h1
     by_cases h3 : c < n
     ·rw [if_pos ⟨rfl,h3⟩,if_pos ⟨rfl,by omega⟩]
     ·rw [if_neg (by omega),if_neg (by omega)]
    ·rw [if_neg (by omega),if_neg (by omega)]
theorem gt_add {i k f r c : Nat} (hn : L.length = R * C) (hi : i < R) (hik : i ≠ k) (hc : c < C) : gt C (addAt M f (i * C) (k * C) L C) r c = if r = i then gt C L i c ^^^ Gf.mul M (modN M) f (gt C L k c) else gt C L r c:=by
 rw [gt_addAt hn hi hik (Nat.le_refl C) r c hc]
 by_cases h : r = i
 ·rw [if_pos ⟨h,hc⟩,if_pos h]
 ·rw [if_neg (by omega),if_neg h]
theorem gt_clearAt {j p : Nat} (hn : L.length = R * C) (hj : j < C) : ∀ {n : Nat},n ≤ R → ∀ r c : Nat,c < C → gt C (clearAt M C j p L n) r c = if r < n ∧ r ≠ p then gt C L r c ^^^ Gf.mul M (modN M) (gt C L r j) (gt C L p c) else gt C L r c:=by
 intro n
 induction n with
 | zero=>intro _ r c _;rw [clearAt,if_neg (by omega)]
 | succ n ih =>
   intro hnR r c hc
   have key:=ih (by omega)
   have hl:=clearAt_length M C j p L n
   rw [clearAt]
   by_cases hnp : n = p
   ·rw [if_pos hnp, key r c hc]
    by_cases h : r < n ∧ r ≠ p
    ·rw [if_pos h,if_pos (by omega)]
    ·rw [if_neg h,if_neg (by omega)]
   ·rw [if_neg hnp, gt_add (R := R) (by rw [hl, hn]) (by omega) hnp hc]
    have e1 : (clearAt M C j p L n).getD (n * C + j) 0 = gt C L n j:=by
     have:=key n j hj;rw [if_neg (by omega)] at this;exact this
    have e2:=key p c hc
    rw [if_neg (by omega)] at e2
    have e3:=key n c hc
    rw [if_neg (by omega)] at e3
    rw [e1,e2,e3,key r c hc]
    by_cases h : r = n
    ·subst h;rw [if_pos rfl,if_pos ⟨by omega,hnp⟩]
    ·rw [if_neg h]
     by_cases h2 : r < n ∧ r ≠ p
     ·rw [if_pos h2,if_pos (by omega)]
     ·rw [if_neg h2,if_neg (by omega)]
theorem gt_clear {j p r c : Nat} (hn : L.length = R * C) (hj : j < C) (hr : r < R) (hc : c < C) : gt C (clearAt M C j p L R) r c = if r = p then gt C L p c else gt C L r c ^^^ Gf.mul M (modN M) (gt C L r j) (gt C L p c):=by
 rw [gt_clearAt hn hj (Nat.le_refl R) r c hc]
 by_cases h : r = p
 ·subst h;rw [if_neg (by omega),if_pos rfl]
 ·rw [if_pos ⟨hr,h⟩,if_neg h]
theorem findP_spec (j : Nat) : ∀ n i : Nat, (∀ r, i ≤ r → r < findP C j L n i → gt C L r j = 0) ∧ (findP C j L n i < i + n → gt C L (findP C j L n i) j ≠ 0)
 | 0,i=>⟨fun r h1 h2=>by rw [findP] at h2;omega,fun h=>by rw [findP] at h;omega⟩
 | n + 1,i=>by
   rw [findP]
   by_cases h : L.getD (i * C + j) 0 = 0
   ·rw [if_pos h]
    obtain ⟨h1,h2⟩:=findP_spec j n (i + 1)
    refine ⟨fun r h3 h4=>?_,fun h3=>h2 (by omega)⟩
    by_cases e : r = i
    ·subst e;exact h
    ·exact h1 r (by omega) h4
   ·rw [if_neg h]
    exact ⟨fun r h1 h2=>by omega,fun _=>h⟩
end
end
section
attribute [local irreducible] Quiet Eff OpOk AWPG ACont ABlock ACalls AGoto
def hfE (A1 : List Nat) (p j C M : Nat) : Nat:=invN M (A1.getD (p * C + j) 0)
theorem A_mreduce {M R C v n : Nat} {L : List Nat} (hM : FldM M) (hr : R ≤ 32) (hc : C ≤ 32) (hn : L.length = R * C) (hL : ∀ x ∈ L,x < 2 ^ M) (hnC : n ≤ C) : ACalls Tryz.prog 294 [.agg [iV M,iV R,iV C,.osl 0 v 0 (R * C)],iV n] [.row v 1 3 (L.map kD)] (nats (red M R C L n).2) [.row v 1 3 ((red M R C L n).1.map kD)]:=by
 refine acalls_of_bodyO Tryz.func294 rfl (zU rfl) ?_
 (repeat' (first
  |(apply W.qd;(first
  |(exact zM)|(exact zN)
  |(apply q_makeFunc)))|(apply W.ed;(exact jAa))|(apply yA)|(apply yB)|(refine jAb ?_)|(apply yE)|(apply yG)|(apply AWP.label)
  |(apply AWP.scope)))
 refine AWP.nilRow 4 1 3 rfl (by omega) ?_
 refine AWP.loopW (α:=Nat) (fun j=>j ≤ n) (fun j=>⟨[(16,iV j),(15,iV n),(4,.osl 2 (red M R C L j).2.length 0 (red M R C L j).2.length),(2,.opt 1 0),(5,.fn 305 [.opt 1 0])],[.row v 1 3 ((red M R C L j).1.map kD),.box [iV M,iV R,iV C,.osl 0 v 0 (R * C)],.row (red M R C L j).2.length 1 3 ((red M R C L j).2.map kD)]⟩) (fun j=>n - j) 0 (by omega) ?wk0 fun j hj=>?_
 case wk0 =>
  rw [show red M R C L 0 = (L,[]) from rfl]
  exact ⟨[0,1,2],rfl,rfl,rfl,rfl,rfl,rfl,rfl,rfl,trivial⟩
 by_cases hjn : j < n
 ·have hst : red M R C L (j + 1) = redStep M R C j (red M R C L j) := rfl
  have hok:=red_ok hM hn hL j
  generalize red M R C L j = st at hst hok ⊢
  obtain ⟨A,pv⟩:=st
  have o1:=hok.pr
  have o2:=hok.pn
  have o3:=hok.len
  have o4:=hok.lt
  dsimp only at o1 o2 o3 o4 ⊢
  have rowC : ∀ (B : List Nat),B.length = R * C → ∀ i,i < R → ACalls Tryz.prog 292 [.agg [iV M,iV R,iV C,.osl 0 v 0 (R * C)],iV i] [.row v 1 3 (B.map kD)] (.osl 0 v (i * C) C) [.row v 1 3 (B.map kD)]:=fun B hB i hi=>A_mrowO hr hc hB hi
  have swC : ∀ i,i < R → pv.length < R → ACalls Tryz.prog 305 [iV i,iV pv.length,.opt 1 0] [.row v 1 3 (A.map kD),.box [iV M,iV R,iV C,.osl 0 v 0 (R * C)]] (.tup []) [.row v 1 3 ((swapAt (i * C) (pv.length * C) A C).map kD),.box [iV M,iV R,iV C,.osl 0 v 0 (R * C)]]:=fun i hi hp=>A_mswap hM hr hc o3 o4 hi hp
  clear hn hL
  have hgsw : ∀ {i : Nat},i < R → pv.length < R → gt C (swapAt (i * C) (pv.length * C) A C) pv.length j = gt C A i j:=fun {i} hi hp=>by
   rw [gt_swap o3 hi hp (by omega)]
   by_cases e : pv.length = i
   ·rw [if_pos e,e]
   ·rw [if_neg e,if_pos rfl]
  generalize hRC : R * C = RC at *
  have hrow : ∀ {i : Nat},i < R → i * C + C ≤ RC:=fun {i} hi=>by
   have:=Nat.mul_le_mul_right C (show i + 1 ≤ R from hi)
   rw [Nat.add_mul,Nat.one_mul] at this
   omega
  (repeat' (first
   |(apply W.qd;(first
   |(exact zM)|(exact zN)|(exact jAj)
   |(exact q_len_osl rfl rfl rfl)))|(apply yA)|(apply yB)|(refine jAb ?_)|(apply yE)|(apply yG)|(apply yH)
   |(refine W.cond _ rfl (fun hb=>?_) (fun hb=>?_)<;>((try simp only [hb,zK])<;>(try simp only [zL,zI] at hb)<;>(try (exfalso;omega))))))
  refine AWP.loopW (α:=Nat) (fun i=>pv.length ≤ i ∧ i ≤ R ∧ findP C j A (R - i) i = findP C j A (R - pv.length) pv.length) (fun i=>⟨[(8,iV i),(7,iV pv.length),(6,iV j),(16,iV j),(15,iV n),(4,.osl 2 pv.length 0 pv.length),(2,.opt 1 0),(5,.fn 305 [.opt 1 0])],[.row v 1 3 (A.map kD),.box [iV M,iV R,iV C,.osl 0 v 0 RC],.row pv.length 1 3 (pv.map kD)]⟩) (fun i=>R - i) pv.length ⟨Nat.le_refl _,o1,rfl⟩ ⟨[0,1,2],rfl,rfl,rfl,by (repeat (first | exact trivial | refine ⟨rfl,?_⟩))⟩ fun i hi=>?_
  obtain ⟨i1,i2,i3⟩:=hi
  replace i3:=Lib.hid i3
  replace hRC:=Lib.hid hRC
  replace hst:=Lib.hid hst
  by_cases hiR : i = R
  ·(repeat' (first
   |(apply W.qd;(first
   |(exact zM)|(exact jAm)|(exact jAg)|(exact jAu)
   |(exact jAi)))|(apply yA)|(apply yB)|(refine jAb ?_)|(apply yE)|(apply yG)|(apply yI)|(apply yK)|(apply yM)|(apply yO;exact rfl)
   |(refine W.cond _ rfl (fun hb=>?_) (fun hb=>?_)<;>((try simp only [hb,zK])<;>(try simp only [zL,zI] at hb)<;>(try (exfalso;omega))))))
   have hs2 : red M R C L (j + 1) = (A,pv):=by
    rw [hst.out,redStep]
    dsimp only
    rw [if_pos]
    rw [← i3.out,hiR,Nat.sub_self];rfl
   have h1 : (red M R C L (j + 1)).1 = A:=by rw [hs2]
   have h2 : (red M R C L (j + 1)).2 = pv:=by rw [hs2]
   have h3 : (red M R C L (j + 1)).2.length = pv.length:=by rw [hs2]
   refine ⟨j + 1,by omega,by omega,?_⟩
   rw [h3,h2,h1]
   exact ⟨[0,1,2],rfl,rfl,rfl,iV_eq (by omega),rfl,rfl,rfl,rfl,trivial⟩
  ·have hiR : i < R := by omega
   have hpR : pv.length < R:=by omega
   have r1:=rowC A o3 i hiR
   have s1:=swC i hiR hpR
   have hb1:=hrow hiR
   have hb2:=hrow hpR
   (repeat' (first
    |(apply W.qd;(first
    |(exact zM)|(exact zN)|(exact jAm)|(exact jAg)|(exact jAn)|(exact jAu)|(exact jBb)|(exact jAi)|(exact jAq)
    |(exact jAz)))
    |(apply W.ed;(first
    |(apply (e_callJ (js:=[0]) (r1));(iterate 5 exact rfl);kernel_rfl;kernel_rfl)
    |(apply (e_callJ (js:=[0,1]) (s1));(iterate 5 exact rfl);kernel_rfl;kernel_rfl)))|(apply yA)|(apply yB)|(refine jAb ?_)|(refine jAr ?_)|(apply yE)|(apply yG)|(apply yH)|(apply yI)|(apply yK)|(apply yL)|(apply yM)|(apply yO;exact rfl)
    |(refine W.cond _ rfl (fun hb=>?_) (fun hb=>?_)<;>((try simp only [hb,zK])<;>(try simp only [zL,zI] at hb)<;>(try (exfalso;omega))))))
   ·have hgs := hgsw hiR hpR
    have hl1:=swapAt_length (i * C) (pv.length * C) A C
    have hlt1:=swapAt_lt (M:=M) (i * C) (pv.length * C) o4 C
    have hne : gt C A i j ≠ 0:=by
     intro e
     apply hb
     unfold gt at e
     rw [List.getD_eq_getElem?_getD,List.getElem?_eq_getElem (by omega)] at e
     simp only [Option.getD_some] at e;omega
    have hnz:=Lib.hid hne
    rw [← hgs] at hne
    clear s1 r1
    generalize hA1 : swapAt (i * C) (pv.length * C) A C = A1 at *
    replace hA1:=Lib.hid hA1
    have e1 : gt C A1 pv.length j = A1[pv.length * C + j]'(by omega):=by
     unfold gt
     rw [List.getD_eq_getElem?_getD,List.getElem?_eq_getElem (by omega)]
     rfl
    have hl1 : A1.length = RC:=hl1.trans o3
    have l1 : A1[pv.length * C + j]'(by omega) < 2 ^ M:=hlt1 _ (List.getElem_mem _)
    rw [e1] at hne
    have r2:=rowC A1 hl1 pv.length hpR
    have v1:=A_inv hM l1 hne
    (repeat' (first
     |(apply W.qd;(first
     |(exact zW (v1))|(exact zM)|(exact zN)|(exact jAn)|(exact yAb rfl rfl)|(exact q_len_osl rfl rfl rfl)|(exact jAq)
     |(exact jAz)))|(apply W.ed;(apply (e_callJ (js:=[0]) (r2));(iterate 5 exact rfl);kernel_rfl;kernel_rfl))|(apply yA)|(apply yB)|(refine jAb ?_)|(apply yE)|(refine jAx ?_)
     |(apply yG)))
    have hf : invN M (A1[pv.length * C + j]'(by omega)) < 2 ^ M:=invN_lt _
    have hst1 : hfE A1 pv.length j C M = invN M (A1[pv.length * C + j]'(by omega)):=by
     unfold hfE
     rw [List.getD_eq_getElem?_getD,List.getElem?_eq_getElem (by omega)]
     rfl
    clear v1 r2 e1
    generalize invN M (A1[pv.length * C + j]'(by omega)) = f at *
    replace hst1:=Lib.hid hst1
    refine AWP.loopW (α:=Nat) (fun k=>k ≤ C) (fun k=>⟨[(55,iV k),(54,iV C),(53,.osl 0 v (pv.length * C) C),(9,iV f),(7,iV pv.length),(6,iV j),(16,iV j),(15,iV n),(4,.osl 2 pv.length 0 pv.length),(2,.opt 1 0),(5,.fn 305 [.opt 1 0])],[.row v 1 3 ((scaleAt M f (pv.length * C) A1 k).map kD),.box [iV M,iV R,iV C,.osl 0 v 0 RC],.row pv.length 1 3 (pv.map kD)]⟩) (fun k=>C - k) 0 (by omega) ⟨[0,1,2],rfl,rfl,rfl,by (repeat (first | exact trivial | refine ⟨rfl,?_⟩))⟩ fun k hk=>?_
    by_cases hkC : k < C
    ·have q1 := scaleAt_length M f (pv.length * C) A1 k
     have q2:=scaleAt_lt hM hf (pv.length * C) hlt1 k
     have q3 : scaleAt M f (pv.length * C) A1 (k + 1) = (scaleAt M f (pv.length * C) A1 k).set (pv.length * C + k) (Gf.mul M (modN M) f ((scaleAt M f (pv.length * C) A1 k).getD (pv.length * C + k) 0)):=rfl
     replace q3:=Lib.hid q3
     generalize scaleAt M f (pv.length * C) A1 k = B at *
     have q1 : B.length = RC:=q1.trans hl1
     have m1:=A_mtimes hM hf (q2 (B[pv.length * C + k]'(by omega)) (List.getElem_mem _))
     have r2:=rowC B q1 pv.length hpR
     have c4:=hM.cap (q2 (B[pv.length * C + k]'(by omega)) (List.getElem_mem _))
     (repeat' (first
      |(apply W.qd;(first
      |(exact zW (m1))|(exact zM)|(exact zN)|(exact jAm)|(exact jAg)|(exact jAn)|(exact jAj)|(exact jAi)|(exact jAq)
      |(exact jAz)))|(apply W.ed;(apply (e_callJ (js:=[0]) (r2));(iterate 5 exact rfl);kernel_rfl;kernel_rfl))|(apply W.en;(apply e_st_rptm;(iterate 7 exact rfl);exact fun _=>rfl;(first | omega | (focus (simp only [List.length_map];omega)) | (focus (simp;omega)))))|(apply yA)|(apply yB)|(refine jAb ?_)|(refine jAr ?_)|(apply yE)|(refine jAx ?_)|(apply yG)|(apply yH)|(apply yL)
      |(refine W.cond _ rfl (fun hb=>?_) (fun hb=>?_)<;>((try simp only [hb,zK])<;>(try simp only [zL,zI] at hb)<;>(try (exfalso;omega))))))
     refine ⟨k + 1,by omega,by omega,[0,1,2],rfl,rfl,?_,iV_eq (by omega),rfl,rfl,rfl,rfl,rfl,rfl,rfl,rfl,rfl,rfl,trivial⟩
     refine congrArg (fun z : List Nat=>[Ent.row v 1 3 (z.map kD),.box [iV M,iV R,iV C,.osl 0 v 0 RC],.row pv.length 1 3 (pv.map kD)]) ?_
     rw [q3.out,List.getD_eq_getElem?_getD,List.getElem?_eq_getElem (show pv.length * C + k < _ by omega)]
     rfl
    ·have e : C = k := by omega
     subst e
     have q1:=scaleAt_length M f (pv.length * C) A1 C
     have q2:=scaleAt_lt hM hf (pv.length * C) hlt1 C
     (repeat' (first
      |(apply W.qd;(first
      |(exact zM)|(exact jAm)|(exact jAg)
      |(exact jAj)))|(apply yA)|(apply yB)|(refine jAb ?_)|(apply yE)|(apply yG)|(apply yI)|(apply yK)|(apply yM)
      |(refine W.cond _ rfl (fun hb=>?_) (fun hb=>?_)<;>((try simp only [hb,zK])<;>(try simp only [zL,zI] at hb)<;>(try (exfalso;omega))))))
     generalize hL2 : scaleAt M f (pv.length * C) A1 C = L2 at *
     replace hL2:=Lib.hid hL2
     have q1 : L2.length = RC:=q1.trans hl1
     refine AWP.loopW (α:=Nat) (fun r=>r ≤ R) (fun r=>⟨[(73,iV r),(72,iV R),(7,iV pv.length),(6,iV j),(16,iV j),(15,iV n),(4,.osl 2 pv.length 0 pv.length),(2,.opt 1 0),(5,.fn 305 [.opt 1 0])],[.row v 1 3 ((clearAt M C j pv.length L2 r).map kD),.box [iV M,iV R,iV C,.osl 0 v 0 RC],.row pv.length 1 3 (pv.map kD)]⟩) (fun r=>R - r) 0 (by omega) ⟨[0,1,2],rfl,rfl,rfl,by (repeat (first | exact trivial | refine ⟨rfl,?_⟩))⟩ fun r hr2=>?_
     have y1:=clearAt_length M C j pv.length L2 r
     have y2:=clearAt_lt hM C j pv.length q2 r
     by_cases hrR : r < R
     ·have y3 : clearAt M C j pv.length L2 (r + 1) = if r = pv.length then clearAt M C j pv.length L2 r else addAt M ((clearAt M C j pv.length L2 r).getD (r * C + j) 0) (r * C) (pv.length * C) (clearAt M C j pv.length L2 r) C := rfl
      replace y3:=Lib.hid y3
      generalize clearAt M C j pv.length L2 r = B at *
      have y1 : B.length = RC:=y1.trans q1
      have hb3:=hrow hrR
      by_cases hrp : r = pv.length
      ·(repeat' (first
       |(apply W.qd;(first
       |(exact zM)|(exact zN)|(exact jAj)|(exact jBb)
       |(exact jAi)))|(apply yA)|(apply yB)|(refine jAb ?_)|(apply yE)|(apply yG)|(apply yH)|(apply yL)
       |(refine W.cond _ rfl (fun hb=>?_) (fun hb=>?_)<;>((try simp only [hb,zK])<;>(try simp only [zL,zI] at hb)<;>(try (exfalso;omega))))))
       refine ⟨r + 1,by omega,by omega,[0,1,2],rfl,rfl,?_,iV_eq (by omega),rfl,rfl,rfl,rfl,rfl,rfl,rfl,rfl,trivial⟩
       refine congrArg (fun z : List Nat=>[Ent.row v 1 3 (z.map kD),.box [iV M,iV R,iV C,.osl 0 v 0 RC],.row pv.length 1 3 (pv.map kD)]) ?_
       rw [y3.out,if_pos hrp]
      ·have r2 := rowC B y1 pv.length hpR
       have r3:=rowC B y1 r hrR
       have m1:=A_madd (v:=v) (o:=r * C) (o':=pv.length * C) (n:=C) hM (y2 (B[r * C + j]'(by omega)) (List.getElem_mem _)) y2 (by omega) (by omega) (by omega)
       (repeat' (first
        |(apply W.qd;(first
        |(exact zM)|(exact zN)|(exact jAm)|(exact jAg)|(exact jAn)|(exact jAj)|(exact jBb)|(exact jAi)|(exact jAq)
        |(exact jAz)))
        |(apply W.ed;(first
        |(apply (e_callJ (js:=[0]) (r2));(iterate 5 exact rfl);kernel_rfl;kernel_rfl)|(apply (e_callJ (js:=[0]) (r3));(iterate 5 exact rfl);kernel_rfl;kernel_rfl)
        |(apply (e_callJ (js:=[0]) (m1));(iterate 5 exact rfl);kernel_rfl;kernel_rfl)))|(apply yA)|(apply yB)|(refine jAb ?_)|(refine jAr ?_)|(apply yE)|(refine jAx ?_)|(apply yG)|(apply yH)|(apply yL)
        |(refine W.cond _ rfl (fun hb=>?_) (fun hb=>?_)<;>((try simp only [hb,zK])<;>(try simp only [zL,zI] at hb)<;>(try (exfalso;omega))))))
       refine ⟨r + 1,by omega,by omega,[0,1,2],rfl,rfl,?_,iV_eq (by omega),rfl,rfl,rfl,rfl,rfl,rfl,rfl,rfl,trivial⟩
       refine congrArg (fun z : List Nat=>[Ent.row v 1 3 (z.map kD),.box [iV M,iV R,iV C,.osl 0 v 0 RC],.row pv.length 1 3 (pv.map kD)]) ?_
       rw [y3.out,if_neg hrp,List.getD_eq_getElem?_getD,List.getElem?_eq_getElem (show r * C + j < _ by omega)]
       rfl
     ·have e : R = r := by omega
      subst e
      (repeat' (first
       |(apply W.qd;(first
       |(exact zM)|(exact zN)|(exact jAj)|(exact jAi)
       |(exact jAl)))|(apply W.ed;(apply e_app1F;(iterate 8 exact rfl);(first | omega | (focus (simp;omega)) | (focus (simp;done)))))|(apply yA)|(apply yB)|(refine jAb ?_)|(apply yE)|(apply yI)|(apply yK)|(apply yL)|(apply yM)
       |(refine W.cond _ rfl (fun hb=>?_) (fun hb=>?_)<;>((try simp only [hb,zK])<;>(try simp only [zL,zI] at hb)<;>(try (exfalso;omega))))))
      have hfi : findP C j A (R - pv.length) pv.length = i:=by
       rw [← i3.out,show R - i = (R - i - 1) + 1 by omega,findP,if_neg (show A.getD (i * C + j) 0 ≠ 0 from hnz.out)]
      have hs2 : red M R C L (j + 1) = (clearAt M C j pv.length L2 R,pv ++ [j]):=by
       have q:=hst1.out
       unfold hfE at q
       rw [hst.out,redStep]
       dsimp only
       rw [hfi,if_neg (by omega),hA1.out,q,hL2.out]
      have h1 : (red M R C L (j + 1)).1 = clearAt M C j pv.length L2 R:=by rw [hs2]
      have h2 : (red M R C L (j + 1)).2 = pv ++ [j]:=by rw [hs2]
      have h3 : (red M R C L (j + 1)).2.length = pv.length + 1:=by rw [h2,List.length_append];rfl
      have h4 : (pv ++ [j]).length = pv.length + 1:=by rw [List.length_append];rfl
      refine ⟨j + 1,by omega,by omega,?_⟩
      rw [h3,h2,h1]
      exact ⟨[0,1,2],rfl,rfl,rfl,iV_eq (by omega),rfl,congrArg (AV.osl 2 (pv.length + 1) 0) h4.symm,rfl,rfl,trivial⟩
   ·refine ⟨i + 1, ⟨by omega, by omega, ?_⟩, by omega, [0, 1, 2], rfl, rfl, rfl, iV_eq (by omega), rfl, rfl, rfl, rfl, rfl, rfl, rfl, trivial⟩
    have e : A.getD (i * C + j) 0 = 0:=by
     rw [List.getD_eq_getElem?_getD,List.getElem?_eq_getElem (by omega)]
     simp only [Option.getD_some];omega
    have h2 : findP C j A (R - i) i = findP C j A (R - (i + 1)) (i + 1):=by
     rw [show R - i = (R - (i + 1)) + 1 by omega,findP,if_pos e]
    exact h2.symm.trans i3.out
 ·have e : j = n := by omega
  subst e
  generalize red M R C L j = st
  obtain ⟨A,pv⟩:=st
  dsimp only
  generalize R * C = RC
  (repeat' (first
   |(apply W.qd;(first
   |(exact zM)|(exact zN)
   |(exact jAj)))|(apply yA)|(apply yB)|(refine jAb ?_)|(apply yE)|(apply yI)|(apply yJ)|(apply yK)|(apply AGoto_ret)|(apply yM)
   |(refine W.cond _ rfl (fun hb=>?_) (fun hb=>?_)<;>((try simp only [hb,zK])<;>(try simp only [zL,zI] at hb)<;>(try (exfalso;omega))))))
  refine ⟨.inl rfl,[0],[.osl 2 pv.length 0 pv.length],rfl,rfl,⟨rfl,trivial⟩,AVle.of_eq ?_,rfl⟩
  simp only [tupA,AV.frz,plc,frzSl,List.getElem?_cons_succ,List.getElem?_cons_zero,if_true,List.drop_zero]
  rw [List.take_of_length_le (by simp)]
  rfl
end
section
attribute [local irreducible] Quiet Eff OpOk AWPG ACont ABlock ACalls AGoto
theorem A_mzeroO (M R C : Nat) (hr : R ≤ 32) (hc : C ≤ 32) : ACalls Tryz.prog 304 [iV M,iV R,iV C] [] (.agg [iV M,iV R,iV C,.osl 0 0 0 (R * C)]) [.row 0 1 3 ((List.replicate (R * C) 0).map kD)]:=by
 refine acalls_of_bodyO Tryz.func304 rfl (zU rfl) ?_
 have h4 : R * C ≤ 1024:=Nat.mul_le_mul hr hc
 (repeat' (first
  |(apply W.qd;(first
  |(exact zM)|(apply q_mul;exact rfl;exact rfl;(first | omega | assumption))
  |(apply yZ;exact rfl;exact rfl;kernel_rfl)))
  |(apply W.ed;(first
  |(exact jAp)
  |(apply (e_makeG (f:=iD) 0);exact rfl;exact rfl;(first | (with_reducible exact rfl) | exact natI_spec rfl | assumption | exact (Int.toNat_of_nonneg (by omega)).symm);(iterate 7 exact rfl);omega)))|(apply W.en;(apply e_st_boxF;(iterate 6 exact rfl);(iterate 3 kernel_rfl)))|(apply yA)|(apply yB)|(refine jAb ?_)|(apply yE)
  |(apply yJ)))
 have e : ((R : Int) * (C : Int)).toNat = R * C:=by rw [← Int.natCast_mul,Int.toNat_natCast]
 rw [e]
 refine ⟨.inl rfl,[1],[.agg [iV M,iV R,iV C,.osl 1 0 0 (R * C)]],rfl,rfl,⟨⟨0,_,true,rfl,rfl,rfl,rfl⟩,trivial⟩,AVle.of_eq rfl,?_⟩
 have h2 : (List.replicate (R * C) 0).map iD = (List.replicate (R * C) 0).map kD:=by simp only [List.map_replicate];rfl
 exact congrArg (fun z=>[Ent.row 0 1 3 z]) h2
def trAt (R C : Nat) (L B : List Nat) : Nat → List Nat
 | 0=>B
 | n + 1=>(trAt R C L B n).set (n % C * R + n / C) (L.getD n 0)
theorem trAt_length (R C : Nat) (L B : List Nat) (n : Nat) : (trAt R C L B n).length = B.length:=by
 induction n with
 | zero=>rfl
 | succ n ih=>rw [trAt,List.length_set,ih]
def trN (R C : Nat) (L : List Nat) : List Nat:=trAt R C L (List.replicate (C * R) 0) (R * C)
theorem A_mtranspose {M R C : Nat} {l : List Nat} (h : MxOk M R C l) : ACalls Tryz.prog 293 [mx M R C l] [] (.tup [.agg [iV M,iV C,iV R,.osl 0 0 0 (C * R)],iV 0]) [.row 0 1 3 ((trN R C l).map kD)]:=by
 refine acalls_of_bodyO Tryz.func293 rfl (zU rfl) ?_
 have hr:=h.r
 have hc:=h.c
 have hn:=h.n
 have hv:=A_mvalid h
 have hz:=A_mzeroO M C R hc hr
 have h4 : C * R ≤ 1024:=Nat.mul_le_mul hc hr
 have hz0 : (List.replicate (C * R) 0).length = C * R:=List.length_replicate
 (repeat' (first
  |(apply W.qd;(first
  |(exact zW (hv))|(exact zM)|(exact zN)|(exact jAm)|(exact jAg)|(exact jAn)
  |(exact jBe)))
  |(apply W.ed;(first
  |(apply (e_callJ (js:=[]) (hz));(iterate 5 exact rfl);kernel_rfl;kernel_rfl)|(exact jAa)
  |(exact jAp)))|(apply W.en;(apply e_st_boxF;(iterate 6 exact rfl);(iterate 3 kernel_rfl)))|(apply yA)|(apply yB)|(refine jAb ?_)|(apply yE)|(apply yG)|(apply yH)
  |(refine jAy ?_)))
 have rowB : ∀ (B : List Nat),B.length = C * R → ∀ j,j < C → ACalls Tryz.prog 292 [.agg [iV M,iV C,iV R,.osl 0 0 0 (C * R)],iV j] [.row 0 1 3 (B.map kD)] (.osl 0 0 (j * R) R) [.row 0 1 3 (B.map kD)]:=fun B hB j hj=>A_mrowO hc hr hB hj
 have hrow : ∀ {j : Nat},j < C → j * R + R ≤ C * R:=fun {j} hj=>by
  have:=Nat.mul_le_mul_right R (show j + 1 ≤ C from hj)
  rw [Nat.add_mul,Nat.one_mul] at this
  omega
 have hrow2 : ∀ {i : Nat},i < R → i * C + C ≤ R * C:=fun {i} hi=>by
  have:=Nat.mul_le_mul_right C (show i + 1 ≤ R from hi)
  rw [Nat.add_mul,Nat.one_mul] at this
  omega
 have rowA : ∀ i,i < R → ∃ Z : List Nat,Z.length = C ∧ (∀ j,j < C → ∀ hj : j < Z.length,Z[j] = l.getD (i * C + j) 0) ∧ ACalls Tryz.prog 292 [mx M R C l,iV i] [] (nats Z) []:=fun i hi=>by
  have hb1:=hrow2 hi
  refine ⟨(l.drop (i * C)).take C,by simp;omega,fun j hj hj'=>?_,A_mrow h hi⟩
  rw [List.getElem_take,List.getElem_drop,List.getD_eq_getElem?_getD,List.getElem?_eq_getElem (show i * C + j < l.length by omega)]
  rfl
 have hS : trN R C l = trAt R C l (List.replicate (C * R) 0) (R * C):=rfl
 have hT : ∀ n,(trAt R C l (List.replicate (C * R) 0) n).length = C * R:=fun n=>by rw [trAt_length,hz0]
 have hT1 : ∀ i j,j < C → trAt R C l (List.replicate (C * R) 0) (i * C + j + 1) = (trAt R C l (List.replicate (C * R) 0) (i * C + j)).set (j * R + i) (l.getD (i * C + j) 0):=fun i j hj=>by
  rw [trAt,show (i * C + j) % C = j by rw [Nat.mul_comm,Nat.mul_add_mod,Nat.mod_eq_of_lt hj],show (i * C + j) / C = i by rw [Nat.mul_comm,Nat.mul_add_div (by omega),Nat.div_eq_of_lt hj,Nat.add_zero]]
 have hT0 : trAt R C l (List.replicate (C * R) 0) 0 = List.replicate (C * R) 0:=rfl
 generalize trAt R C l (List.replicate (C * R) 0) = T at *
 generalize trN R C l = F at *
 generalize hCR : C * R = CR at *
 replace hCR:=Lib.hid hCR
 clear hv hz hz0
 replace hS:=Lib.hid hS
 refine AWP.loopW (α:=Nat) (fun i=>i ≤ R) (fun i=>⟨[(21,iV i),(20,iV R),(4,.opt 3 0),(2,.opt 1 0),(1,.opt 0 0),(3,iV 0)],[.box [iV M,iV R,iV C,nats l],.box [iV 0,iV 0,iV 0,.d (.v (.slice none 0 0))],.row 0 1 3 ((T (i * C)).map kD),.box [iV M,iV C,iV R,.osl 2 0 0 CR]]⟩) (fun i=>R - i) 0 (by omega) ?wk0 fun i hi=>?_
 case wk0 =>
  rw [Nat.zero_mul,hT0]
  exact ⟨[0,1,2,3],rfl,rfl,rfl,rfl,rfl,rfl,rfl,rfl,rfl,trivial⟩
 by_cases hiR : i < R
 ·have hb1 := hrow2 hiR
  obtain ⟨Z,hlen,hget,r1⟩:=rowA i hiR
  (repeat' (first
   |(apply W.qd;(first
   |(exact zW (r1))|(exact zM)|(exact zN)|(exact jAn)|(exact jAj)
   |(exact jAt)))|(apply yA)|(apply yB)|(refine jAb ?_)|(apply yE)|(apply yG)|(apply yH)
   |(refine W.cond _ rfl (fun hb=>?_) (fun hb=>?_)<;>((try simp only [hb,zK])<;>(try simp only [zL,zI] at hb)<;>(try (exfalso;omega))))))
  refine AWP.loopW (α:=Nat) (fun j=>j ≤ C) (fun j=>⟨[(28,iV j),(27,iV C),(26,nats Z),(5,iV i),(21,iV i),(20,iV R),(4,.opt 3 0),(2,.opt 1 0),(1,.opt 0 0),(3,iV 0)],[.box [iV M,iV R,iV C,nats l],.box [iV 0,iV 0,iV 0,.d (.v (.slice none 0 0))],.row 0 1 3 ((T (i * C + j)).map kD),.box [iV M,iV C,iV R,.osl 2 0 0 CR]]⟩) (fun j=>C - j) 0 (by omega) ?wk1 fun j hj=>?_
  case wk1 =>
   exact ⟨[0,1,2,3],rfl,rfl,rfl,rfl,iV_eq (by simp [hlen]),rfl,rfl,rfl,rfl,rfl,rfl,rfl,rfl,trivial⟩
  by_cases hjC : j < C
  ·have hg := hget j hjC (by omega)
   have y1:=hT (i * C + j)
   have y2:=hT1 i j hjC
   replace y2:=Lib.hid y2
   have hb2:=hrow hjC
   generalize T (i * C + j) = B at *
   have r2:=rowB B y1 j hjC
   (repeat' (first
    |(apply W.qd;(first
    |(exact zM)|(exact zN)|(exact jAn)|(exact jAj)|(exact jAi)|(exact jAc)|(exact jA)
    |(exact jAq)))|(apply W.ed;(apply (e_callJ (js:=[2]) (r2));(iterate 5 exact rfl);kernel_rfl;kernel_rfl))|(apply W.en;(apply e_st_rptm;(iterate 7 exact rfl);exact fun _=>rfl;(first | omega | (focus (simp only [List.length_map];omega)) | (focus (simp;omega)))))|(apply yA)|(apply yB)|(refine jAb ?_)|(apply yE)|(apply yG)|(apply yH)|(apply yL)
    |(refine W.cond _ rfl (fun hb=>?_) (fun hb=>?_)<;>((try simp only [hb,zK])<;>(try simp only [zL,zI] at hb)<;>(try (exfalso;omega))))))
   refine ⟨j + 1,by omega,by omega,[0,1,2,3],rfl,rfl,?_,iV_eq (by omega),rfl,rfl,rfl,rfl,rfl,rfl,rfl,rfl,rfl,trivial⟩
   refine congrArg (fun z : List Nat=>[Ent.box [iV M,iV R,iV C,nats l],.box [iV 0,iV 0,iV 0,.d (.v (.slice none 0 0))],.row 0 1 3 (z.map kD),.box [iV M,iV C,iV R,.osl 2 0 0 CR]]) ?_
   rw [show i * C + (j + 1) = i * C + j + 1 by omega,y2.out,← hg]
  ·have e : C = j := by omega
   subst e
   (repeat' (first
    |(apply W.qd;(first
    |(exact zM)|(exact jAj)
    |(exact jAi)))|(apply yA)|(apply yB)|(refine jAb ?_)|(apply yE)|(apply yI)|(apply yK)|(apply yL)|(apply yM)
    |(refine W.cond _ rfl (fun hb=>?_) (fun hb=>?_)<;>((try simp only [hb,zK])<;>(try simp only [zL,zI] at hb)<;>(try (exfalso;omega))))))
   refine ⟨i + 1,by omega,by omega,[0,1,2,3],rfl,rfl,?_,iV_eq (by omega),rfl,rfl,rfl,rfl,rfl,trivial⟩
   rw [Nat.add_mul,Nat.one_mul]
   rfl
 ·have e : R = i := by omega
  subst e
  (repeat' (first
   |(apply W.qd;(first
   |(exact zN)|(exact jAn)
   |(exact jAj)))|(apply W.en;(apply e_st_boxF;(iterate 6 exact rfl);(iterate 3 kernel_rfl)))|(apply yA)|(apply yB)|(refine jAb ?_)|(apply yE)|(apply yI)|(apply yJ)|(apply yK)|(apply yM)
   |(refine W.cond _ rfl (fun hb=>?_) (fun hb=>?_)<;>((try simp only [hb,zK])<;>(try simp only [zL,zI] at hb)<;>(try (exfalso;omega))))))
  rw [← hS.out]
  exact ⟨.inl rfl,[2],[.agg [iV M,iV C,iV R,.osl 2 0 0 CR],iV 0],rfl,rfl,⟨⟨1,_,true,rfl,rfl,rfl,rfl⟩,rfl,trivial⟩,AVle.of_eq rfl,rfl⟩
theorem trAt_lt {M R C : Nat} {L B : List Nat} (hL : ∀ x ∈ L,x < 2 ^ M) (hB : ∀ x ∈ B,x < 2 ^ M) (n : Nat) : ∀ x ∈ trAt R C L B n,x < 2 ^ M:=by
 induction n with
 | zero=>exact hB
 | succ n ih =>
   intro x hx
   rw [trAt] at hx
   rcases List.mem_or_eq_of_mem_set hx with hx | rfl
   ·exact ih x hx
   ·exact getD_lt hL _
theorem trN_lt {M R C : Nat} {L : List Nat} (hL : ∀ x ∈ L,x < 2 ^ M) : ∀ x ∈ trN R C L,x < 2 ^ M :=
 trAt_lt hL (fun x hx=>by rw [List.eq_of_mem_replicate hx];exact Nat.two_pow_pos M) _
theorem trN_length (R C : Nat) (L : List Nat) : (trN R C L).length = C * R:=by rw [trN,trAt_length,List.length_replicate]
theorem A_mindependent {M R C : Nat} {l : List Nat} (h : MxOk M R C l) : ACalls Tryz.prog 279 [mx M R C l] [] (nats (red M C R (trN R C l) R).2) []:=by
 refine acalls_of_body Tryz.func279 rfl (zU rfl) ?_
 have ht:=A_mtranspose h
 have hl:=trN_length R C l
 have hr:=A_mreduce (v:=0) (n:=R) h.f h.c h.r hl (trN_lt h.e) (Nat.le_refl R)
 generalize (red M C R (trN R C l) R).2 = P at *
 generalize (red M C R (trN R C l) R).1 = Q at *
 generalize trN R C l = T at *
 generalize C * R = CR at *
 (repeat' (first
  |(apply W.qd;(first
  |(exact zM)|(exact zN)|(exact jAm)|(exact jAg)|(exact jAn)|(exact jBb)
  |(exact yAb rfl rfl)))
  |(apply W.ed;(first
  |(apply (e_callJ (js:=[]) (ht));(iterate 5 exact rfl);kernel_rfl;kernel_rfl)|(apply (e_callJ (js:=[1]) (hr));(iterate 5 exact rfl);kernel_rfl;kernel_rfl)|(exact jAa)
  |(exact jAp)))|(apply W.en;(apply e_st_boxF;(iterate 6 exact rfl);(iterate 3 kernel_rfl)))|(apply yA)|(apply yB)|(refine jAb ?_)|(apply yE)|(apply yH)|(apply yJ)
  |(refine jAy ?_)))
 exact Ends.sl rfl rfl
end
section
attribute [local irreducible] Quiet Eff OpOk AWPG ACont ABlock ACalls AGoto
def pickN (C : Nat) (l : List Nat) : List Nat → List Nat
 | []=>[]
 | i :: is=>(l.drop (i * C)).take C ++ pickN C l is
theorem pickN_append (C : Nat) (l : List Nat) : ∀ a b, pickN C l (a ++ b) = pickN C l a ++ pickN C l b
 | [],b=>rfl
 | i :: a,b=>by rw [List.cons_append,pickN,pickN,pickN_append C l a b,List.append_assoc]
theorem pickN_length {R C : Nat} {l : List Nat} (hn : l.length = R * C) : ∀ is : List Nat, (∀ i ∈ is, i < R) → (pickN C l is).length = is.length * C
 | [],_=>by rw [pickN];simp
 | i :: is,h=>by
   have hi:=h i (by simp)
   have:=Nat.mul_le_mul_right C (show i + 1 ≤ R from hi)
   rw [Nat.add_mul,Nat.one_mul] at this
   rw [pickN,List.length_append,pickN_length hn is fun x hx=>h x (by simp [hx]),List.length_take,List.length_drop,List.length_cons,Nat.add_mul,Nat.one_mul]
   omega
theorem pickN_mem {C : Nat} {l : List Nat} : ∀ {is : List Nat} {x : Nat}, x ∈ pickN C l is → x ∈ l
 | [],x,h=>by simp [pickN] at h
 | i :: is,x,h=>by
   rw [pickN] at h
   rcases List.mem_append.1 h with h | h
   ·exact List.mem_of_mem_drop (List.mem_of_mem_take h)
   ·exact pickN_mem h
theorem pick_ok {M R C : Nat} {l is : List Nat} (h : MxOk M R C l) (his : ∀ i ∈ is,i < R) (hl : is.length ≤ 32) : MxOk M is.length C (pickN C l is) :=
 ⟨h.f,hl,h.c,pickN_length h.n is his,fun x hx=>h.e x (pickN_mem hx)⟩
theorem A_mpick {M R C : Nat} {l is : List Nat} (h : MxOk M R C l) (hC : 0 < C) (his : ∀ i ∈ is,i < R) (hl : is.length ≤ 32) : ACalls Tryz.prog 278 [mx M R C l,nats is] [] (.tup [mx M is.length C (pickN C l is),iV 0]) []:=by
 refine acalls_of_body Tryz.func278 rfl (zU rfl) ?_
 have hr:=h.r
 have hc:=h.c
 have hn:=h.n
 have hv:=A_mvalid h
 have rowA : ∀ i,i < R → ∃ Z : List Nat,Z.length = C ∧ (l.drop (i * C)).take C = Z ∧ ACalls Tryz.prog 292 [mx M R C l,iV i] [] (nats Z) []:=fun i hi=>by
  have hb1:=Nat.mul_le_mul_right C (show i + 1 ≤ R from hi)
  rw [Nat.add_mul,Nat.one_mul] at hb1
  exact ⟨(l.drop (i * C)).take C,by simp;omega,rfl,A_mrow h hi⟩
 have hB : ∀ k (hk : k < is.length),pickN C l (is.take (k + 1)) = pickN C l (is.take k) ++ (l.drop (is[k] * C)).take C:=fun k hk=>by
  rw [← List.take_append_getElem hk,pickN_append,pickN,pickN,List.append_nil]
 have hBl : ∀ k,(pickN C l (is.take k)).length ≤ 1024:=fun k=>by
  rw [pickN_length hn _ fun i hi=>his i (List.mem_of_mem_take hi)]
  exact Nat.mul_le_mul (show (is.take k).length ≤ 32 by rw [List.length_take];omega) hc
 have hB0 : pickN C l (is.take 0) = []:=rfl
 have hBn : pickN C l (is.take is.length) = pickN C l is:=by rw [List.take_length]
 generalize hBd : (fun k=>pickN C l (is.take k)) = B
 have hBd : ∀ k,pickN C l (is.take k) = B k:=fun k=>congrFun hBd k
 simp only [hBd] at hB hBl hB0 hBn
 clear hBd
 (repeat' (first
  |(apply yFb;exact rfl;exact rfl)
  |(apply W.qd;(first
  |(exact zW (hv))|(exact zM)|(exact zN)|(exact jAm)|(exact jAg)|(exact jAn)|(exact jBf)|(exact jBe)|(exact jAt)|(apply yZ;exact rfl;exact rfl;kernel_rfl)
  |(apply (yDb (u:=.d _));exact rfl;exact rfl)))
  |(apply W.ed;(first
  |(exact jAa)
  |(exact jAp)))|(apply W.en;(apply e_st_boxF;(iterate 6 exact rfl);(iterate 3 kernel_rfl)))|(apply yA)|(apply yB)|(refine jAb ?_)|(apply yE)|(apply yG)|(apply yH)
  |(refine W.cond _ rfl (fun hb=>?_) (fun hb=>?_)<;>((try simp only [hb,zK])<;>(try simp only [zL,zI] at hb)<;>(try (exfalso;omega))))))
 refine AWP.nilBox (l':=[iV M,iV is.length,iV C,.osl 3 0 0 0]) 2 3 1 3 rfl rfl (by omega) rfl (by rw [List.length_map];rfl) rfl rfl ?_
 refine AWP.loopW (α:=Nat) (fun k=>k ≤ is.length) (fun k=>⟨[(27,iV k),(26,iV is.length),(25,nats is),(2,.opt 0 0),(4,.opt 1 0),(6,.opt 2 0),(5,iV 0)],[.box [iV M,iV R,iV C,nats l],.box [iV 0,iV 0,iV 0,.d (.v (.slice none 0 0))],.box [iV M,iV is.length,iV C,.osl 3 k 0 (B k).length],.row k 1 3 ((B k).map kD)]⟩) (fun k=>is.length - k) 0 (by omega) ?wk0 fun k hk=>?_
 case wk0 =>
  rw [hB0]
  exact ⟨[0,1,2,3],rfl,rfl,rfl,rfl,iV_eq (by simp),rfl,rfl,rfl,rfl,rfl,trivial⟩
 by_cases hkl : k < is.length
 ·have hb := hBl k
  have hs:=hB k hkl
  have hi:=his is[k] (List.getElem_mem _)
  obtain ⟨Z,hZ,hZ2,r1⟩:=rowA is[k] hi
  rw [hZ2] at hs
  replace hs:=Lib.hid hs
  (repeat' (first
   |(apply yFb;exact rfl;exact rfl)
   |(apply W.qd;(first
   |(exact zW (r1))|(exact zM)|(exact zN)|(exact jAm)|(exact jAg)|(exact jAn)|(exact jAj)|(exact q_geq rfl rfl)|(exact jAi)|(exact jAc)|(exact jA)
   |(apply (yDb (u:=.d _));exact rfl;exact rfl)))|(apply W.ed;(apply e_appN;(iterate 8 exact rfl);(first | assumption | omega);omega))|(apply W.en;(apply e_st_boxF;(iterate 6 exact rfl);(iterate 3 kernel_rfl)))|(apply yA)|(apply yB)|(refine jAb ?_)|(refine jAr ?_)|(apply yE)|(refine jAx ?_)|(apply yG)|(apply yH)|(apply yL)
   |(refine W.cond _ rfl (fun hb=>?_) (fun hb=>?_)<;>((try simp only [hb,zK])<;>(try simp only [zL,zI] at hb)<;>(try (exfalso;omega))))))
  refine ⟨k + 1,by omega,by omega,?_⟩
  rw [hs.out]
  exact ⟨[0,1,2,3],rfl,rfl,rfl,iV_eq (by omega),rfl,rfl,rfl,rfl,rfl,rfl,trivial⟩
 ·have e : is.length = k := by omega
  subst e
  (repeat' (first
   |(apply W.qd;(first
   |(exact zN)|(exact jAn)
   |(exact jAj)))|(apply W.en;(apply e_st_boxF;(iterate 6 exact rfl);(iterate 3 kernel_rfl)))|(apply yA)|(apply yB)|(refine jAb ?_)|(apply yE)|(apply yI)|(apply yJ)|(apply yK)|(apply yM)
   |(refine W.cond _ rfl (fun hb=>?_) (fun hb=>?_)<;>((try simp only [hb,zK])<;>(try simp only [zL,zI] at hb)<;>(try (exfalso;omega))))))
  rw [hBn]
  refine Ends.cell2 rfl rfl rfl rfl ?_
  have hz:=frz_row (own:=[Ent.box [iV M,iV R,iV C,nats l],.box [iV M,iV is.length,iV C,.osl 3 is.length 0 (pickN C l is).length],.box [iV M,iV is.length,iV C,.osl 3 is.length 0 (pickN C l is).length],.row is.length 1 3 ((pickN C l is).map kD)]) (i:=3) rfl (by simp : (pickN C l is).length = ((pickN C l is).map kD).length)
  exact congrArg (fun z=>AV.tup [AV.agg [iV M,iV is.length,iV C,z],iV 0]) hz
end
section
attribute [local irreducible] Quiet Eff OpOk AWPG ACont ABlock ACalls AGoto
theorem A_every1_nz0 (q : Int → Bool) (x : Int) (hg : ACalls Tryz.prog 193 [iV x] [] (bV (q x)) []) : ACalls Tryz.prog 245 [iV x,.opt 0 0] [.box [.fn 193 []]] (bV (!q x)) [.box [.fn 193 []]]:=by
 refine acalls_of_bodyO Tryz.func245 rfl (zU rfl) ?_
 (repeat' (first
  |(apply W.qd;(first
  |(exact zM)|(exact zN)|(exact jAg)
  |(exact jBe)))|(apply W.ed;(apply (e_callJ (js:=[]) (hg));(iterate 5 exact rfl);kernel_rfl;kernel_rfl))|(apply yA)|(apply yB)|(refine jAb ?_)|(apply yE)
  |(apply yJ)))
 exact ⟨.inl rfl,[0],[bV (!q x)],rfl,rfl,⟨rfl,trivial⟩,AVle.of_eq rfl,rfl⟩
theorem A_every_nz0 (q : Int → Bool) (l : List Int) (hl : l.length ≤ 1000000000) (hg : ∀ x ∈ l,ACalls Tryz.prog 193 [iV x] [] (bV (q x)) []) : ACalls Tryz.prog 191 [ints l,.fn 193 []] [] (bV (l.all q)) []:=by
 refine acalls_of_bodyO Tryz.func191 rfl (zU rfl) ?_
 have hc:=A_contains_int (O:=[.box [.fn 193 []]]) (g:=245) (caps:=[.opt 0 0]) (fun x=>!q x) l hl (by kernel_rfl) (fun x hx=>A_every1_nz0 q x (hg x hx))
 (repeat' (first
  |(apply W.qd;(first
  |(exact zM)|(exact zN)|(exact jBe)
  |(apply q_makeFunc)))
  |(apply W.ed;(first
  |(apply (e_callJ (js:=[0]) (hc));(iterate 5 exact rfl);kernel_rfl;kernel_rfl)
  |(exact jAa)))|(apply yA)|(apply yB)|(refine jAb ?_)|(apply yE)
  |(apply yJ)))
 exact ⟨.inl rfl,[],[bV (!l.any fun x=>!q x)],rfl,rfl,⟨rfl,trivial⟩,AVle.of_eq (by rw [List.all_eq_not_any_not];rfl),rfl⟩
theorem A_every1_fv1 {M D : Int} {par : List (List Int)} (q : Int → Bool) (x : Int) (hg : ACalls Tryz.prog 192 [iV x,.opt 0 0] [.box [.d .any,iV M,iV D,rowsA par,.d .any]] (bV (q x)) [.box [.d .any,iV M,iV D,rowsA par,.d .any]]) : ACalls Tryz.prog 245 [iV x,.opt 1 0] [.box [.d .any,iV M,iV D,rowsA par,.d .any],.box [.fn 192 [.opt 0 0]]] (bV (!q x)) [.box [.d .any,iV M,iV D,rowsA par,.d .any],.box [.fn 192 [.opt 0 0]]]:=by
 refine acalls_of_bodyO Tryz.func245 rfl (zU rfl) ?_
 (repeat' (first
  |(apply W.qd;(first
  |(exact zM)|(exact zN)|(exact jAg)
  |(exact jBe)))|(apply W.ed;(apply (e_callJ (js:=[0]) (hg));(iterate 5 exact rfl);kernel_rfl;kernel_rfl))|(apply yA)|(apply yB)|(refine jAb ?_)|(apply yE)
  |(apply yJ)))
 exact ⟨.inl rfl,[0,1],[bV (!q x)],rfl,rfl,⟨rfl,trivial⟩,AVle.of_eq rfl,rfl⟩
theorem A_every_fv1 {M D : Int} {par : List (List Int)} (q : Int → Bool) (l : List Int) (hl : l.length ≤ 1000000000) (hg : ∀ x ∈ l,ACalls Tryz.prog 192 [iV x,.opt 0 0] [.box [.d .any,iV M,iV D,rowsA par,.d .any]] (bV (q x)) [.box [.d .any,iV M,iV D,rowsA par,.d .any]]) : ACalls Tryz.prog 191 [ints l,.fn 192 [.opt 0 0]] [.box [.d .any,iV M,iV D,rowsA par,.d .any]] (bV (l.all q)) [.box [.d .any,iV M,iV D,rowsA par,.d .any]]:=by
 refine acalls_of_bodyO Tryz.func191 rfl (zU rfl) ?_
 have hc:=A_contains_int (O:=[.box [.d .any,iV M,iV D,rowsA par,.d .any],.box [.fn 192 [.opt 0 0]]]) (g:=245) (caps:=[.opt 1 0]) (fun x=>!q x) l hl (by kernel_rfl) (fun x hx=>A_every1_fv1 q x (hg x hx))
 (repeat' (first
  |(apply W.qd;(first
  |(exact zM)|(exact zN)|(exact jBe)
  |(apply q_makeFunc)))
  |(apply W.ed;(first
  |(apply (e_callJ (js:=[0,1]) (hc));(iterate 5 exact rfl);kernel_rfl;kernel_rfl)
  |(exact jAa)))|(apply yA)|(apply yB)|(refine jAb ?_)|(apply yE)
  |(apply yJ)))
 exact ⟨.inl rfl,[0],[bV (!l.any fun x=>!q x)],rfl,rfl,⟨rfl,trivial⟩,AVle.of_eq (by rw [List.all_eq_not_any_not];rfl),rfl⟩
theorem A_every1_row1 {M D : Int} {par : List (List Int)} (q : List Int → Bool) (x : List Int) (hg : ACalls Tryz.prog 190 [ints x,.opt 0 0] [.box [.d .any,iV M,iV D,rowsA par,.d .any]] (bV (q x)) [.box [.d .any,iV M,iV D,rowsA par,.d .any]]) : ACalls Tryz.prog 244 [ints x,.opt 1 0] [.box [.d .any,iV M,iV D,rowsA par,.d .any],.box [.fn 190 [.opt 0 0]]] (bV (!q x)) [.box [.d .any,iV M,iV D,rowsA par,.d .any],.box [.fn 190 [.opt 0 0]]]:=by
 refine acalls_of_bodyO Tryz.func244 rfl (zU rfl) ?_
 (repeat' (first
  |(apply W.qd;(first
  |(exact zM)|(exact zN)|(exact jAg)
  |(exact jBe)))|(apply W.ed;(apply (e_callJ (js:=[0]) (hg));(iterate 5 exact rfl);kernel_rfl;kernel_rfl))|(apply yA)|(apply yB)|(refine jAb ?_)|(apply yE)
  |(apply yJ)))
 exact ⟨.inl rfl,[0,1],[bV (!q x)],rfl,rfl,⟨rfl,trivial⟩,AVle.of_eq rfl,rfl⟩
theorem A_every_row1 {M D : Int} {par : List (List Int)} (q : List Int → Bool) (l : List (List Int)) (hl : l.length ≤ 1000000000) (hg : ∀ x ∈ l,ACalls Tryz.prog 190 [ints x,.opt 0 0] [.box [.d .any,iV M,iV D,rowsA par,.d .any]] (bV (q x)) [.box [.d .any,iV M,iV D,rowsA par,.d .any]]) : ACalls Tryz.prog 189 [rowsA l,.fn 190 [.opt 0 0]] [.box [.d .any,iV M,iV D,rowsA par,.d .any]] (bV (l.all q)) [.box [.d .any,iV M,iV D,rowsA par,.d .any]]:=by
 refine acalls_of_bodyO Tryz.func189 rfl (zU rfl) ?_
 have hc:=A_contains_row (O:=[.box [.d .any,iV M,iV D,rowsA par,.d .any],.box [.fn 190 [.opt 0 0]]]) (g:=244) (caps:=[.opt 1 0]) (fun x=>!q x) l hl (by kernel_rfl) (fun x hx=>A_every1_row1 q x (hg x hx))
 (repeat' (first
  |(apply W.qd;(first
  |(exact zM)|(exact zN)|(exact jBe)
  |(apply q_makeFunc)))
  |(apply W.ed;(first
  |(apply (e_callJ (js:=[0,1]) (hc));(iterate 5 exact rfl);kernel_rfl;kernel_rfl)
  |(exact jAa)))|(apply yA)|(apply yB)|(refine jAb ?_)|(apply yE)
  |(apply yJ)))
 exact ⟨.inl rfl,[0],[bV (!l.any fun x=>!q x)],rfl,rfl,⟨rfl,trivial⟩,AVle.of_eq (by rw [List.all_eq_not_any_not];rfl),rfl⟩
end
section
attribute [local irreducible] Quiet Eff OpOk AWPG ACont ABlock ACalls AGoto
abbrev cdA (M D : Int) (par : List (List Int)) : AV:=.agg [.d .any,iV M,iV D,rowsA par,.d .any]
def rowOk (M D : Int) (row : List Int) : Bool:=decide ((row.length : Int) = D) && row.all (fun x=>allF M [x]) && !(row.all fun x=>decide (x = 0))
def validC (M D : Int) (par : List (List Int)) : Bool:=allF M [0] && decide (1 ≤ D) && decide (par.length ≤ 32) && decide (D ≤ 32 - (par.length : Int)) && par.all (rowOk M D)
structure CodeIn (par : List (List Int)) : Prop where
 row : ∀ r ∈ par,∀ x ∈ r,x < 9223372036854775808
theorem A_ev1 {M D : Int} {par : List (List Int)} (x : Int) (hx : x < 9223372036854775808) : ACalls Tryz.prog 192 [iV x,.opt 0 0] [.box [.d .any,iV M,iV D,rowsA par,.d .any]] (bV (allF M [x])) [.box [.d .any,iV M,iV D,rowsA par,.d .any]]:=by
 refine acalls_of_bodyO Tryz.func192 rfl (zU rfl) ?_
 have hv:=A_fvalid M x hx
 (repeat' (first
  |(apply W.qd;(first
  |(exact zW (hv))|(exact zM)|(exact zN)|(exact jAm)
  |(exact jAg)))|(apply yA)|(apply yB)|(refine jAb ?_)|(apply yE)
  |(apply yJ)))
 exact ⟨.inl rfl,[0],[bV (allF M [x])],rfl,rfl,⟨rfl,trivial⟩,AVle.of_eq rfl,rfl⟩
theorem A_ev2 (x : Int) : ACalls Tryz.prog 193 [iV x] [] (bV (decide (x = 0))) []:=by
 refine acalls_of_bodyO Tryz.func193 rfl (zU rfl) ?_
 (repeat' (first
  |(apply W.qd;(first
  |(exact zM)|(exact zN)
  |(exact jAu)))|(apply yA)|(apply yB)|(refine jAb ?_)|(apply yE)
  |(apply yJ)))
 exact ⟨.inl rfl,[],[bV (decide (x = 0))],rfl,rfl,⟨rfl,trivial⟩,AVle.of_eq rfl,rfl⟩
theorem A_ev0 {M D : Int} {par : List (List Int)} (r : List Int) (hr : ((r.length : Int) = D → r.length ≤ 1000000000) ∧ ∀ x ∈ r,x < 9223372036854775808) : ACalls Tryz.prog 190 [ints r,.opt 0 0] [.box [.d .any,iV M,iV D,rowsA par,.d .any]] (bV (rowOk M D r)) [.box [.d .any,iV M,iV D,rowsA par,.d .any]]:=by
 refine acalls_of_bodyO Tryz.func190 rfl (zU rfl) ?_
 by_cases hrD : ¬ (r.length : Int) = D
 ·have he : rowOk M D r = false := by unfold rowOk; rw [decide_eq_false hrD]; simp
  rw [he]
  (repeat' (first
   |(apply W.qd;(first
   |(exact zM)|(exact zN)|(exact jAm)|(exact jAg)|(exact jAu)|(exact jAt)
   |(apply (yDb (u:=.d _));exact rfl;exact rfl)))|(refine W.gOff _ _ rfl rfl (by intro h;cases h) ?_)|(apply yA)|(apply yB)|(refine jAb ?_)|(apply yE)|(apply yJ)
   |(refine W.gT _ _ rfl rfl (fun hb=>?_) (fun hb=>?_)<;>((try simp only [hb,zK])<;>(try simp only [zL,zI] at hb)<;>(try (exfalso;omega))))))
  all_goals exact ⟨.inl rfl,[0],[bV false],rfl,rfl,⟨rfl,trivial⟩,AVle.of_eq rfl,rfl⟩
 replace hr:=And.intro (hr.1 (Classical.not_not.1 hrD)) hr.2
 have h1:=A_every_fv1 (M:=M) (D:=D) (par:=par) (fun x=>allF M [x]) r hr.1 fun x hx=>A_ev1 x (hr.2 x hx)
 have h2:=A_every_nz0 (fun x=>decide (x = 0)) r hr.1 fun x _=>A_ev2 x
 have he : rowOk M D r = (decide ((r.length : Int) = D) && r.all (fun x=>allF M [x]) && !(r.all fun x=>decide (x = 0))):=rfl
 replace he:=Lib.hid he
 generalize r.all (fun x=>allF M [x]) = b1 at *
 generalize r.all (fun x=>decide (x = 0)) = b2 at *
 cases b1<;>cases b2
 all_goals (repeat' (first
  |(apply yFb;exact rfl;exact rfl)
  |(apply W.qd;(first
  |(exact zW (h2))|(exact zM)|(exact zN)|(exact jAm)|(exact jAg)|(exact jAu)|(exact jBe)|(exact jAt)|(apply q_makeFunc)|(apply (yEb (u:=.d _));exact rfl;exact rfl)
  |(apply (yDb (u:=.d _));exact rfl;exact rfl)))|(apply W.ed;(apply (e_callJ (js:=[0]) (h1));(iterate 5 exact rfl);kernel_rfl;kernel_rfl))|(refine W.gOff _ _ rfl rfl (by intro h;cases h) ?_)|(apply yA)|(apply yB)|(refine jAb ?_)|(apply yE)|(apply yJ)
  |(refine W.gT _ _ rfl rfl (fun hb=>?_) (fun hb=>?_)<;>((try simp only [hb,zK])<;>(try simp only [zL,zI] at hb)<;>(try (exfalso;omega))))))
 all_goals first
  |(refine ⟨.inl rfl,[0],[bV true],rfl,rfl,⟨rfl,trivial⟩,AVle.of_eq ?_,rfl⟩;rw [he.out];simp [tupA,AV.frz,hb];done)|(refine ⟨.inl rfl,[0],[bV false],rfl,rfl,⟨rfl,trivial⟩,AVle.of_eq ?_,rfl⟩;rw [he.out];simp [tupA,AV.frz,hb];done)
theorem A_evalid {M D : Int} {par : List (List Int)} (hp : CodeIn par) : ACalls Tryz.prog 126 [cdA M D par] [] (bV (validC M D par)) []:=by
 refine acalls_of_bodyO Tryz.func126 rfl (zU rfl) ?_
 have h0:=A_fvalid M 0 (by omega)
 by_cases hsm : ¬ (par.length ≤ 32 ∧ D ≤ 32)
 ·have hml : (par.map rD).length = par.length := List.length_map _
  have he : validC M D par = false:=by
   rw [Bool.eq_false_iff]
   intro h
   unfold validC at h
   simp only [Bool.and_eq_true,decide_eq_true_eq] at h
   omega
  rw [he]
  generalize allF M [0] = b2 at *
  cases b2
  all_goals (repeat' (first
   |(apply yFb;exact rfl;exact rfl)
   |(apply W.qd;(first
   |(exact zW (h0))|(exact zM)|(exact zN)|(exact jAm)|(exact jAg)|(exact jAj)|(exact jBf)|(exact jBe)|(exact q_sub rfl rfl (by omega))|(exact jAt)|(apply (yEb (u:=.d _));exact rfl;exact rfl)
   |(apply (yDb (u:=.d _));exact rfl;exact rfl)))|(apply W.ed;(exact jAa))|(refine W.gOff _ _ rfl rfl (by intro h;cases h) ?_)|(apply yA)|(apply yB)|(refine jAb ?_)|(apply yE)|(apply yJ)|(apply yP)|(refine jAv ?_)|(refine W.gF _ _ rfl rfl (fun hb=>?_) (fun hb=>?_)<;>((try simp only [hb,zK])<;>(try simp only [zL,zI] at hb)<;>(try (exfalso;omega))))
   |(refine W.cond _ rfl (fun hb=>?_) (fun hb=>?_)<;>((try simp only [hb,zK])<;>(try simp only [zL,zI] at hb)<;>(try (exfalso;omega))))))
  all_goals exact ⟨.inl rfl,[],[bV false],rfl,rfl,⟨rfl,trivial⟩,AVle.of_eq rfl,rfl⟩
 replace hsm:=Classical.not_not.1 hsm
 have h1:=A_every_row1 (M:=M) (D:=D) (par:=par) (rowOk M D) par (by omega) fun r hr=>A_ev0 r ⟨fun e=>by omega,hp.row r hr⟩
 have hlen:=hsm.1
 have hml : (par.map rD).length = par.length:=List.length_map _
 have he : validC M D par = (allF M [0] && decide (1 ≤ D) && decide (par.length ≤ 32) && decide (D ≤ 32 - (par.length : Int)) && par.all (rowOk M D)):=rfl
 replace he:=Lib.hid he
 generalize par.all (rowOk M D) = b1 at *
 generalize allF M [0] = b2 at *
 cases b2
 all_goals (repeat' (first
  |(apply yFb;exact rfl;exact rfl)
  |(apply W.qd;(first
  |(exact zW (h0))|(exact zM)|(exact zN)|(exact jAm)|(exact jAg)|(exact jAj)|(exact jBf)|(exact jBe)|(exact q_sub rfl rfl (by omega))|(exact jAt)|(apply q_makeFunc)|(apply (yEb (u:=.d _));exact rfl;exact rfl)
  |(apply (yDb (u:=.d _));exact rfl;exact rfl)))
  |(apply W.ed;(first
  |(apply (e_callJ (js:=[0]) (h1));(iterate 5 exact rfl);kernel_rfl;kernel_rfl)
  |(exact jAa)))|(refine W.gOff _ _ rfl rfl (by intro h;cases h) ?_)|(apply yA)|(apply yB)|(refine jAb ?_)|(apply yE)|(apply yH)|(apply yJ)|(apply yP)|(refine jAv ?_)|(refine W.gF _ _ rfl rfl (fun hb=>?_) (fun hb=>?_)<;>((try simp only [hb,zK])<;>(try simp only [zL,zI] at hb)<;>(try (exfalso;omega))))
  |(refine W.cond _ rfl (fun hb=>?_) (fun hb=>?_)<;>((try simp only [hb,zK])<;>(try simp only [zL,zI] at hb)<;>(try (exfalso;omega))))))
 all_goals clear h0 h1
 all_goals first
  |(refine ⟨.inl rfl, [], [bV false], rfl, rfl, ⟨rfl, trivial⟩, AVle.of_eq ?_, rfl⟩
    rw [he.out]
    refine congrArg bV ?_
    symm
    rw [Bool.eq_false_iff]
    intro h
    (simp only [Bool.and_eq_true,decide_eq_true_eq,Bool.false_eq_true,false_and] at h)<;>omega)
  | (refine ⟨.inl rfl, [], [bV b1], rfl, rfl, ⟨rfl, trivial⟩, AVle.of_eq ?_, rfl⟩
     rw [he.out]
     refine congrArg bV ?_
     rw [decide_eq_true (show 1 ≤ D by omega),decide_eq_true (show par.length ≤ 32 by omega),decide_eq_true (show D ≤ 32 - (par.length : Int) by omega)]
     simp)
theorem A_ewidth {M D : Int} {par : List (List Int)} (hp : CodeIn par) : ACalls Tryz.prog 85 [cdA M D par] [] (iV (if validC M D par then D + (par.length : Int) else 0)) []:=by
 refine acalls_of_bodyO Tryz.func85 rfl (zU rfl) ?_
 have h0:=A_evalid (M:=M) (D:=D) hp
 have hml : (par.map rD).length = par.length:=List.length_map _
 cases hv : validC M D par
 ·rw [hv] at h0
  (repeat' (first
   |(apply W.qd;(first
   |(exact zW (h0))|(exact zN)|(exact jAn)
   |(exact jBe)))|(apply W.ed;(exact jAa))|(apply yA)|(apply yB)|(refine jAb ?_)|(apply yE)|(apply yJ)|(apply yP)
   |(refine jAv ?_)))
  exact ⟨.inl rfl,[],[iV 0],rfl,rfl,⟨rfl,trivial⟩,AVle.of_eq rfl,rfl⟩
 ·rw [hv] at h0
  have hD : 1 ≤ D ∧ D ≤ 32 ∧ par.length ≤ 32:=by
   unfold validC at hv
   simp only [Bool.and_eq_true,decide_eq_true_eq] at hv
   omega
  (repeat' (first
   |(apply W.qd;(first
   |(exact zW (h0))|(exact zN)|(exact jAm)|(exact jAg)|(exact jAn)|(exact jBe)|(exact jAi)
   |(exact jAt)))|(apply W.ed;(exact jAa))|(apply yA)|(apply yB)|(refine jAb ?_)|(apply yE)|(apply yH)|(apply yJ)
   |(refine jAy ?_)))
  exact ⟨.inl rfl,[],[iV (D + (par.length : Int))],rfl,rfl,⟨iV_eq (by simp),trivial⟩,AVle.of_eq rfl,rfl⟩
end
section
attribute [local irreducible] Quiet Eff OpOk AWPG ACont ABlock ACalls AGoto
theorem A_grow {n : Nat} (h0 : 0 < n) (hn : n ≤ 1000000) : ACalls Tryz.prog 295 [.d (.v (.slice none 0 0)),iV n] [] (.osl 0 0 0 0) [.row 0 1 3 ((List.replicate n 0).map iD)]:=by
 refine acalls_of_bodyO Tryz.func295 rfl (zU rfl) ?_
 (repeat' (first
  |(apply W.qd;(first
  |(exact zM)|(exact zN)|(exact jAj)|(exact jBf)|(exact q_sub rfl rfl (by omega))|(exact q_len_nil rfl rfl)|(apply q_slc_osl;(iterate 3 exact rfl);(first | exact ⟨_,_,rfl,rfl⟩ | exact ⟨_,_,rfl,natI_spec rfl⟩ | exact ⟨_,_,rfl,(Int.toNat_of_nonneg (by omega)).symm⟩ | exact rfl);(first | exact ⟨_,_,rfl,rfl⟩ | exact ⟨_,_,rfl,natI_spec rfl⟩ | exact ⟨_,_,rfl,(Int.toNat_of_nonneg (by omega)).symm⟩ | exact rfl);omega;omega)|(exact q_cap_nil rfl rfl)
  |(apply q_slc_nil;exact rfl;exact rfl;(first | exact ⟨_,_,rfl,rfl⟩ | exact ⟨_,_,rfl,natI_spec rfl⟩ | exact ⟨_,_,rfl,(Int.toNat_of_nonneg (by omega)).symm⟩ | exact rfl);(first | exact ⟨_,_,rfl,rfl⟩ | exact ⟨_,_,rfl,natI_spec rfl⟩ | exact ⟨_,_,rfl,(Int.toNat_of_nonneg (by omega)).symm⟩ | exact rfl))))|(apply W.ed;(apply e_apz;exact rfl;exact rfl;(first | (with_reducible exact rfl) | exact natI_spec rfl | assumption | exact (Int.toNat_of_nonneg (by omega)).symm);(iterate 7 exact rfl);omega;omega))|(apply yA)|(apply yB)|(refine jAb ?_)|(apply yE)|(apply yH)|(apply yJ)|(refine jAy ?_)
  |(refine W.cond _ rfl (fun hb=>?_) (fun hb=>?_)<;>((try simp only [hb,zK])<;>(try simp only [zL,zI] at hb)<;>(try (exfalso;omega))))))
 have e : ((n : Int) - (((0 : Nat) : Int) - ((0 : Nat) : Int))).toNat = n:=by omega
 rw [e]
 refine ⟨.inl rfl,[0],[.osl 0 0 0 0],rfl,rfl,⟨rfl,trivial⟩,AVle.of_eq rfl,?_⟩
 refine congrArg (fun z=>[Ent.row 0 1 3 z]) ?_
 simp [List.map_replicate,iD]
theorem A_grow0 : ACalls Tryz.prog 295 [.d (.v (.slice none 0 0)),iV (0 : Nat)] [] (.d (.v (.slice none 0 0))) []:=by
 refine acalls_of_bodyO Tryz.func295 rfl (zU rfl) ?_
 (repeat' (first
  |(apply W.qd;(first
  |(exact zM)|(exact zN)|(exact jAj)|(exact jBf)|(exact q_sub rfl rfl (by omega))|(exact q_len_nil rfl rfl)
  |(exact q_cap_nil rfl rfl)))|(apply yA)|(apply yB)|(refine jAb ?_)|(apply yE)|(apply yH)|(apply yJ)
  |(refine jAy ?_)))
 exact ⟨.inl rfl,[],[.d (.v (.slice none 0 0))],rfl,rfl,⟨rfl,trivial⟩,AVle.of_eq rfl,rfl⟩
def rnD (l : List Nat) : List Dat:=[.sl 1 (l.map kD)]
abbrev rowsN (l : List (List Nat)) : AV:=.d (.sl 1 (l.map rnD))
theorem A_concat {ps : List (List Nat)} (hl : ps.length ≤ 1000) (hr : ∀ r ∈ ps,0 < r.length ∧ r.length ≤ 1000) : ACalls Tryz.prog 280 [rowsN ps] [] (nats ps.flatten) []:=by
 refine acalls_of_body Tryz.func280 rfl (zU rfl) ?_
 have hB : ∀ k (hk : k < ps.length),(ps.take (k + 1)).flatten = (ps.take k).flatten ++ ps[k]:=fun k hk=>by
  rw [← List.take_append_getElem hk,List.flatten_append,List.flatten_cons,List.flatten_nil,List.append_nil]
 have hBl : ∀ k,k ≤ ps.length → (ps.take k).flatten.length ≤ k * 1000:=fun k=>by
  induction k with
  | zero=>intro _;simp
  | succ k ih =>
    intro hk
    rw [hB k hk,List.length_append,Nat.add_mul]
    have:=ih (by omega)
    have:=(hr ps[k] (List.getElem_mem _)).2
    omega
 have hBn : (ps.take ps.length).flatten = ps.flatten:=by rw [List.take_length]
 have hB0 : (ps.take 0).flatten = []:=rfl
 have hpos : 0 < ps.length → 0 < ps.flatten.length:=fun h=>by
  cases ps with
  | nil=>simp at h
  | cons r rs =>
    have:=(hr r (by simp)).1
    rw [List.flatten_cons,List.length_append];omega
 have h0 : ps.length = 0 → ps.flatten = []:=fun h=>by rw [List.eq_nil_of_length_eq_zero h];rfl
 generalize hBd : (fun k=>(ps.take k).flatten) = B
 have hBd : ∀ k,(ps.take k).flatten = B k:=fun k=>congrFun hBd k
 simp only [hBd] at hB hBl hBn hB0
 generalize ps.flatten = F at *
 replace hBd:=Lib.hid hBd
 (repeat' (first
  |(apply W.qd;(first
  |(exact zM)|(exact zN)
  |(exact jAt)))|(apply yA)|(apply yB)|(refine jAb ?_)|(apply yE)
  |(apply yG)))
 refine AWP.loopW (α:=Nat) (fun k=>k ≤ ps.length) (fun k=>⟨[(11,iV k),(10,iV ps.length),(9,rowsN ps),(3,iV (B k).length),(0,rowsN ps)],[]⟩) (fun k=>ps.length - k) 0 (by omega) ?wk0 fun k hk=>?_
 case wk0 =>
  rw [hB0]
  exact ⟨[],rfl,rfl,rfl,rfl,iV_eq (by simp),rfl,rfl,rfl,trivial⟩
 by_cases hkl : k < ps.length
 ·have hBk := Lib.hid (hB k hkl)
  have hc:=hBl k (by omega)
  have hd:=hr ps[k] (List.getElem_mem _)
  have hkl1 : k * 1000 ≤ 1000 * 1000:=Nat.mul_le_mul_right _ (by omega)
  have hml : (ps[k].map kD).length = ps[k].length:=List.length_map _
  (repeat' (first
   |(apply W.qd;(first
   |(exact zM)|(exact zN)|(exact jAj)|(exact jAi)|(exact jAt)|(exact jAc)
   |(exact jA)))|(apply yA)|(apply yB)|(refine jAb ?_)|(apply yE)|(apply yG)|(apply yH)|(apply yL)|(refine jAy ?_)
   |(refine W.cond _ rfl (fun hb=>?_) (fun hb=>?_)<;>((try simp only [hb,zK])<;>(try simp only [zL,zI] at hb)<;>(try (exfalso;omega))))))
  refine ⟨k + 1,by omega,by omega,?_⟩
  rw [hBk.out]
  refine ⟨[],rfl,rfl,rfl,iV_eq (by omega),rfl,rfl,iV_eq (by simp),rfl,trivial⟩
 ·have e : ps.length = k := by omega
  subst e
  rw [hBn]
  have hc:=hBl ps.length (Nat.le_refl _)
  rw [hBn] at hc
  by_cases hz : ps.length = 0
  ·have hF := h0 hz
   subst hF
   have hg:=A_grow0
   (repeat' (first
    |(apply W.qd;(first
    |(exact zW (hg))|(exact zM)|(exact zN)|(exact jAj)
    |(exact jAt)))|(apply yA)|(apply yB)|(refine jAb ?_)|(apply yE)|(apply yG)|(apply yI)|(apply yK)|(apply yM)
    |(refine W.cond _ rfl (fun hb=>?_) (fun hb=>?_)<;>((try simp only [hb,zK])<;>(try simp only [zL,zI] at hb)<;>(try (exfalso;omega))))))
   refine AWP.loopW (α:=Nat) (fun k=>k = 0) (fun k=>⟨[(27,iV (0 : Nat)),(26,iV (0 : Nat)),(6,.d (.v (.slice none 0 0)))],[]⟩) (fun k=>k) 0 rfl ⟨[],rfl,rfl,rfl,rfl,iV_eq (by simp [hz]),rfl,trivial⟩ fun k hk=>?_
   (repeat' (first
    |(apply W.qd;(first
    |(exact zM)|(exact zN)
    |(exact jAj)))|(apply yA)|(apply yB)|(refine jAb ?_)|(apply yE)|(apply yI)|(apply yJ)|(apply yK)|(apply yM)
    |(refine jAy ?_)))
   exact Ends.nil rfl rfl
  ·have hF := hpos (by omega)
   have hg:=A_grow hF (by omega)
   (repeat' (first
    |(apply W.qd;(first
    |(exact zM)|(exact zN)|(exact jAj)
    |(exact jAt)))|(apply W.ed;(apply (e_callJ (js:=[]) (hg));(iterate 5 exact rfl);kernel_rfl;kernel_rfl))|(apply yA)|(apply yB)|(refine jAb ?_)|(apply yE)|(apply yG)|(apply yI)|(apply yK)|(apply yM)
    |(refine W.cond _ rfl (fun hb=>?_) (fun hb=>?_)<;>((try simp only [hb,zK])<;>(try simp only [zL,zI] at hb)<;>(try (exfalso;omega))))))
   refine AWP.shrink 6 0 rfl rfl rfl ?_
   refine AWP.loopW (α:=Nat) (fun k=>k ≤ ps.length) (fun k=>⟨[(27,iV k),(26,iV ps.length),(25,rowsN ps),(6,.osl 0 (k + 1) 0 (B k).length)],[.row (k + 1) 1 3 ((B k).map kD)]⟩) (fun k=>ps.length - k) 0 (by omega) ?wk1 fun k hk=>?_
   case wk1 =>
    rw [hB0]
    exact ⟨[0],rfl,rfl,rfl,rfl,iV_eq (by simp),rfl,rfl,trivial⟩
   by_cases hkl : k < ps.length
   ·have hBk := Lib.hid (hB k hkl)
    have hc:=hBl k (by omega)
    have hd:=hr ps[k] (List.getElem_mem _)
    have hkl1 : k * 1000 ≤ 1000 * 1000:=Nat.mul_le_mul_right _ (by omega)
    have hd1:=hd.1
    (repeat' (first
     |(apply W.qd;(first
     |(exact zM)|(exact zN)|(exact jAj)|(exact jAi)|(exact jAc)
     |(exact jA)))|(apply W.ed;(apply e_appN;(iterate 8 exact rfl);(first | assumption | omega);omega))|(apply yA)|(apply yB)|(refine jAb ?_)|(apply yE)|(apply yG)|(apply yH)|(apply yL)
     |(refine W.cond _ rfl (fun hb=>?_) (fun hb=>?_)<;>((try simp only [hb,zK])<;>(try simp only [zL,zI] at hb)<;>(try (exfalso;omega))))))
    refine ⟨k + 1,by omega,by omega,?_⟩
    rw [hBk.out]
    exact ⟨[0],rfl,rfl,rfl,iV_eq (by omega),rfl,rfl,rfl,trivial⟩
   ·have e : ps.length = k := by omega
    subst e
    rw [hBn]
    (repeat' (first
     |(apply W.qd;(first
     |(exact zM)|(exact zN)
     |(exact jAj)))|(apply yA)|(apply yB)|(refine jAb ?_)|(apply yE)|(apply yI)|(apply yJ)|(apply yK)|(apply yM)
     |(refine W.cond _ rfl (fun hb=>?_) (fun hb=>?_)<;>((try simp only [hb,zK])<;>(try simp only [zL,zI] at hb)<;>(try (exfalso;omega))))))
    exact Ends.osl rfl rfl (by simp) rfl
end
section
attribute [local irreducible] Quiet Eff OpOk AWPG ACont ABlock ACalls AGoto
structure CodeOk (M D : Nat) (ps : List (List Nat)) : Prop where
 f : FldM M
 d : 1 ≤ D
 w : D + ps.length ≤ 32
 row : ∀ r ∈ ps,r.length = D ∧ (∀ x ∈ r,x < 2 ^ M) ∧ ∃ x ∈ r,x ≠ 0
abbrev cdN (M D : Nat) (ps : List (List Nat)) : AV:=.agg [.d .any,iV M,iV D,rowsN ps,.d .any]
def toZ (ps : List (List Nat)) : List (List Int):=ps.map fun r=>r.map fun n : Nat=>(n : Int)
theorem rowsN_A (ps : List (List Nat)) : ps.map rnD = (toZ ps).map rD:=by
 unfold toZ
 rw [List.map_map]
 apply List.map_congr_left
 intro r _
 show [Dat.sl 1 (r.map kD)] = [Dat.sl 1 ((r.map fun n : Nat=>(n : Int)).map iD)]
 rw [List.map_map]
 rfl
theorem cdN_A (M D : Nat) (ps : List (List Nat)) : cdN M D ps = cdA M D (toZ ps):=by
 show AV.agg [.d .any,iV M,iV D,.d (.sl 1 (ps.map rnD)),.d .any] = _
 rw [rowsN_A]
theorem allF1 {M n : Nat} (hM : FldM M) (h : n < 2 ^ M) : allF M [(n : Int)] = true:=by
 unfold allF
 rw [decide_eq_true (show ((M : Int) = 8 ∨ (M : Int) = 16) by unfold FldM at hM;omega),Bool.true_and,List.all_cons,List.all_nil,Bool.and_true]
 exact inF_lt hM h
theorem valid_ok {M D : Nat} {ps : List (List Nat)} (h : CodeOk M D ps) : validC M D (toZ ps) = true:=by
 have h1:=h.d
 have h2:=h.w
 have h3:=allF1 h.f (Nat.two_pow_pos M)
 have hl : (toZ ps).length = ps.length:=List.length_map _
 unfold validC
 rw [hl,decide_eq_true (show 1 ≤ (D : Int) by omega),decide_eq_true (show ps.length ≤ 32 by omega),decide_eq_true (show (D : Int) ≤ 32 - (ps.length : Int) by omega)]
 rw [show allF M [0] = true from h3]
 simp only [Bool.true_and]
 unfold toZ
 rw [List.all_map,List.all_eq_true]
 intro r hr
 obtain ⟨r1,r2,x,r3,r4⟩:=h.row r hr
 show rowOk M D (r.map fun n : Nat=>(n : Int)) = true
 unfold rowOk
 rw [List.length_map,decide_eq_true (show (r.length : Int) = D by omega),Bool.true_and,List.all_map,List.all_map,Bool.and_eq_true]
 refine ⟨List.all_eq_true.2 fun y hy=>allF1 h.f (r2 y hy),?_⟩
 rw [Bool.not_eq_true',List.all_eq_false]
 refine ⟨x,r3,?_⟩
 simp;omega
theorem code_in {M D : Nat} {ps : List (List Nat)} (h : CodeOk M D ps) : CodeIn (toZ ps):=by
 have h2:=h.w
 refine ⟨fun r hr x hx=>?_⟩
 obtain ⟨s,hs,rfl⟩:=List.mem_map.1 hr
 obtain ⟨r1,r2,_⟩:=h.row s hs
 obtain ⟨n,hn,rfl⟩:=List.mem_map.1 hx
 have:=r2 n hn
 have h16:=h.f.pow
 omega
theorem ok_valid {M D : Int} {par : List (List Int)} (h : validC M D par = true) : ∃ (m d : Nat) (ps : List (List Nat)),M = m ∧ D = d ∧ par = toZ ps ∧ CodeOk m d ps:=by
 unfold validC at h
 simp only [Bool.and_eq_true,decide_eq_true_eq] at h
 obtain ⟨⟨⟨⟨h1,h2⟩,h3⟩,h4⟩,h5⟩:=h
 have hm : M = 8 ∨ M = 16:=by
  unfold allF at h1
  rw [Bool.and_eq_true,decide_eq_true_eq] at h1
  exact h1.1
 obtain ⟨m,rfl⟩:=Int.eq_ofNat_of_zero_le (show 0 ≤ M by omega)
 obtain ⟨d,rfl⟩:=Int.eq_ofNat_of_zero_le (show 0 ≤ D by omega)
 have hM : FldM m:=by unfold FldM;omega
 have key : ∀ par : List (List Int),par.all (rowOk m d) = true → ∃ ps,par = toZ ps ∧ ∀ r ∈ ps,r.length = d ∧ (∀ x ∈ r,x < 2 ^ m) ∧ ∃ x ∈ r,x ≠ 0:=by
  intro par
  induction par with
  | nil=>intro _;exact ⟨[],rfl,fun r hr=>by cases hr⟩
  | cons r par ih =>
    intro h
    rw [List.all_cons,Bool.and_eq_true] at h
    obtain ⟨ps,h6,h7⟩:=ih h.2
    have h8:=h.1
    unfold rowOk at h8
    simp only [Bool.and_eq_true,decide_eq_true_eq] at h8
    obtain ⟨⟨h9,h10⟩,h11⟩:=h8
    have hr : ∃ s : List Nat,r = s.map (fun n : Nat=>(n : Int)) ∧ ∀ x ∈ s,x < 2 ^ m:=by
     clear h9 h11 h
     induction r with
     | nil=>exact ⟨[],rfl,fun x hx=>by cases hx⟩
     | cons y r ihr =>
       rw [List.all_cons,Bool.and_eq_true] at h10
       obtain ⟨s,rfl,hs⟩:=ihr h10.2
       have hy:=h10.1
       unfold allF at hy
       rw [Bool.and_eq_true,List.all_cons,List.all_nil,Bool.and_true] at hy
       obtain ⟨n,rfl,hn⟩:=inF_nat hM hy.2
       exact ⟨n :: s,rfl,fun x hx=>by
        rcases List.mem_cons.1 hx with rfl | hx
        ·exact hn
        ·exact hs x hx⟩
    obtain ⟨s,rfl,hs⟩:=hr
    refine ⟨s :: ps,by rw [h6];rfl,fun x hx=>?_⟩
    rcases List.mem_cons.1 hx with rfl | hx
    ·refine ⟨by rw [List.length_map] at h9; omega, hs, ?_⟩
     rw [Bool.not_eq_true',List.all_eq_false] at h11
     obtain ⟨y,hy,hy2⟩:=h11
     obtain ⟨n,hn,rfl⟩:=List.mem_map.1 hy
     exact ⟨n,hn,by simp at hy2;omega⟩
    ·exact h7 x hx
 obtain ⟨ps,rfl,h6⟩:=key par h5
 have hl : (toZ ps).length = ps.length:=List.length_map _
 exact ⟨m,d,ps,rfl,rfl,rfl,hM,by omega,by omega,h6⟩
theorem A_evalidN {M D : Nat} {ps : List (List Nat)} (h : CodeOk M D ps) : ACalls Tryz.prog 126 [cdN M D ps] [] (bV true) []:=by
 have:=A_evalid (M:=M) (D:=D) (code_in h)
 rwa [valid_ok h,← cdN_A] at this
theorem A_ewidthN {M D : Nat} {ps : List (List Nat)} (h : CodeOk M D ps) : ACalls Tryz.prog 85 [cdN M D ps] [] (iV (D + ps.length : Nat)) []:=by
 have:=A_ewidth (M:=M) (D:=D) (code_in h)
 rw [valid_ok h,if_pos rfl,← cdN_A] at this
 rwa [show ((D + ps.length : Nat) : Int) = (D : Int) + ((toZ ps).length : Int) by unfold toZ;rw [List.length_map];omega]
def idAt (D : Nat) : Nat → List Nat
 | 0=>List.replicate (D * D) 0
 | n + 1=>(idAt D n).set (n * D + n) 1
theorem idAt_length (D n : Nat) : (idAt D n).length = D * D:=by
 induction n with
 | zero=>rw [idAt,List.length_replicate]
 | succ n ih=>rw [idAt,List.length_set,ih]
def genN (D : Nat) (ps : List (List Nat)) : List Nat:=idAt D D ++ ps.flatten
theorem flatten_length {D : Nat} : ∀ {ps : List (List Nat)}, (∀ r ∈ ps, r.length = D) → ps.flatten.length = ps.length * D
 | [],_=>by simp
 | r :: ps,h=>by
   rw [List.flatten_cons,List.length_append,flatten_length fun s hs=>h s (by simp [hs]),h r (by simp),List.length_cons,Nat.add_mul,Nat.one_mul];omega
theorem idAt_lt {M : Nat} (hM : FldM M) (D n : Nat) : ∀ x ∈ idAt D n,x < 2 ^ M:=by
 induction n with
 | zero=>intro x hx;rw [idAt] at hx;rw [List.eq_of_mem_replicate hx];exact Nat.two_pow_pos M
 | succ n ih =>
   intro x hx
   rw [idAt] at hx
   rcases List.mem_or_eq_of_mem_set hx with hx | rfl
   ·exact ih x hx
   ·have:=hM.pow;unfold FldM at hM;rcases hM with rfl | rfl<;>omega
theorem gen_ok {M D : Nat} {ps : List (List Nat)} (h : CodeOk M D ps) : MxOk M (D + ps.length) D (genN D ps):=by
 have h1:=h.w
 refine ⟨h.f,h.w,by omega,?_,fun x hx=>?_⟩
 ·rw [genN,List.length_append,idAt_length,flatten_length fun r hr=>(h.row r hr).1,Nat.add_mul]
 ·rcases List.mem_append.1 hx with hx | hx
  ·exact idAt_lt h.f _ _ x hx
  ·obtain ⟨r, hr, hx⟩ := List.mem_flatten.1 hx
   exact (h.row r hr).2.1 x hx
theorem A_egen {M D : Nat} {ps : List (List Nat)} (h : CodeOk M D ps) : ACalls Tryz.prog 250 [cdN M D ps] [] (.tup [mx M (D + ps.length : Nat) D (genN D ps),iV 0]) []:=by
 refine acalls_of_body Tryz.func250 rfl (zU rfl) ?_
 have h1:=h.d
 have h2:=h.w
 have hv:=A_evalidN h
 have hw:=A_ewidthN h
 have hc:=A_concat (ps:=ps) (by omega) fun r hr=>by have:=(h.row r hr).1;omega
 have h4 : D * D ≤ 1024:=Nat.mul_le_mul (show D ≤ 32 by omega) (show D ≤ 32 by omega)
 refine AWP.hole rfl (AWP.hole rfl (AWP.hole rfl ?_))
 (repeat' (first
  |(apply W.qd;(first
  |(exact zW (hv))|(exact zW (hw))|(exact zM)|(exact zN)|(exact jAm)|(exact jAg)|(exact jAn)|(exact jBe)|(apply q_mul;exact rfl;exact rfl;(first | omega | assumption))
  |(apply yZ;exact rfl;exact rfl;kernel_rfl)))
  |(apply W.ld;(first
  |(apply l_alloc;(iterate 3 exact rfl);kernel_rfl;kernel_rfl)
  |(apply (l_make (f:=kD) 0);(iterate 3 exact rfl);(first | (with_reducible exact rfl) | exact natI_spec rfl | assumption | exact (Int.toNat_of_nonneg (by omega)).symm);(iterate 6 exact rfl);kernel_rfl;omega)))|(apply W.ed;(exact jAa))|(apply W.ln;(exact jAh))|(apply yA)|(apply yB)|(refine jAb ?_)|(refine jAr ?_)|(apply yE)|(refine jAx ?_)|(apply yG)|(apply yH)
  |(refine jAy ?_)))
 have e0 : ((D : Int) * (D : Int)).toNat = D * D:=by rw [← Int.natCast_mul,Int.toNat_natCast]
 rw [e0]
 refine AWP.loopW (α:=Nat) (fun i=>i ≤ D) (fun i=>⟨[(25,iV i),(24,iV D),(4,.opt 2 0),(2,.opt 0 0),(1,.opt 3 0),(3,iV 0)],[.box [iV 0,iV 0,iV 0,.d (.v (.slice none 0 0))],.row 0 1 3 ((idAt D i).map kD),.box [iV M,iV (D + ps.length : Nat),iV D,.osl 1 0 0 (D * D)],.box [.d .any,iV M,iV D,rowsN ps,.d .any]]⟩) (fun i=>D - i) 0 (by omega) ⟨[0,1,2,3],rfl,rfl,rfl,by (repeat (first | exact trivial | refine ⟨rfl,?_⟩))⟩ fun i hi=>?_
 have hil:=idAt_length D i
 by_cases hiD : i < D
 ·have hT : idAt D (i + 1) = (idAt D i).set (i * D + i) 1 := rfl
  replace hT:=Lib.hid hT
  have hid2 : i * D + D ≤ D * D:=by
   have:=Nat.mul_le_mul_right D (show i + 1 ≤ D from hiD)
   rw [Nat.add_mul,Nat.one_mul] at this
   omega
  generalize idAt D i = B at *
  have h8 : -9223372036854775808 ≤ (i : Int) * (D : Int) ∧ (i : Int) * (D : Int) < 9223372036854775808:=by omega
  (repeat' (first
   |(apply W.qd;(first
   |(exact zM)|(exact zN)|(exact jAm)|(exact jAg)|(exact jAj)|(exact jAi)|(apply q_mul;exact rfl;exact rfl;(first | omega | assumption))
   |(exact jAf)))|(apply W.ln;(apply l_st_rpt;(iterate 7 exact rfl);exact fun _=>rfl;(first | omega | (focus (simp only [List.length_map];omega)) | (focus (simp;omega)))))|(apply yA)|(apply yB)|(refine jAb ?_)|(apply yE)|(apply yG)|(apply yH)|(apply yL)
   |(refine W.cond _ rfl (fun hb=>?_) (fun hb=>?_)<;>((try simp only [hb,zK])<;>(try simp only [zL,zI] at hb)<;>(try (exfalso;omega))))))
  have e1 : ((i : Int) * (D : Int) + (i : Int)).toNat = i * D + i:=by
   rw [← Int.natCast_mul,← Int.natCast_add,Int.toNat_natCast]
  refine ⟨i + 1,by omega,by omega,?_⟩
  rw [hT.out,e1]
  exact ⟨[0,1,2,3],rfl,rfl,rfl,iV_eq (by omega),rfl,rfl,rfl,rfl,rfl,trivial⟩
 ·have e : D = i := by omega
  subst e
  by_cases hps : ps = []
  ·subst hps
   have hg : genN D [] = idAt D D:=List.append_nil _
   rw [hg]
   generalize idAt D D = B at *
   (repeat' (first
    |(apply W.qd;(first
    |(exact zW (hc))|(exact zN)|(exact jAm)|(exact jAg)|(exact jAn)|(exact jAj)
    |(apply q_app0;(iterate 4 exact rfl))))|(apply W.ln;(exact jAh))|(apply yA)|(apply yB)|(refine jAb ?_)|(refine jAr ?_)|(apply yE)|(refine jAx ?_)|(apply yI)|(apply yJ)|(apply yK)|(apply yM)
    |(refine W.cond _ rfl (fun hb=>?_) (fun hb=>?_)<;>((try simp only [hb,zK])<;>(try simp only [zL,zI] at hb)<;>(try (exfalso;omega))))))
   refine Ends.cell2 rfl rfl rfl rfl ?_
   have hz:=frz_row (own:=[Ent.box [iV M,iV (D + ([] : List (List Nat)).length : Nat),iV D,.osl 1 0 0 (D * D)],.row 0 1 3 (B.map kD),.box [iV M,iV (D + ([] : List (List Nat)).length : Nat),iV D,.osl 1 0 0 (D * D)],.box [.d .any,iV M,iV D,rowsN [],.d .any]]) (i:=1) rfl (by simp [hil] : D * D = (B.map kD).length)
   exact congrArg (fun z=>AV.tup [AV.agg [iV M,iV (D + ([] : List (List Nat)).length : Nat),iV D,z],iV 0]) hz
  ·have hF : 0 < ps.flatten.length:=by
    rw [flatten_length fun r hr=>(h.row r hr).1]
    exact Nat.mul_pos (List.length_pos_iff.2 hps) (by omega)
   have hF2 : ps.flatten.length ≤ 1024:=by
    rw [flatten_length fun r hr=>(h.row r hr).1]
    exact Nat.mul_le_mul (show ps.length ≤ 32 by omega) (show D ≤ 32 by omega)
   have hg : genN D ps = idAt D D ++ ps.flatten:=rfl
   generalize ps.flatten = G at *
   generalize genN D ps = R at *
   replace hg:=Lib.hid hg
   generalize idAt D D = B at *
   rw [← hil]
   (repeat' (first
    |(apply W.qd;(first
    |(exact zW (hc))|(exact zN)|(exact jAm)|(exact jAg)|(exact jAn)
    |(exact jAj)))|(apply W.ed;(apply e_appN;(iterate 8 exact rfl);(first | assumption | omega);omega))|(apply W.ln;(exact jAh))|(apply yA)|(apply yB)|(refine jAb ?_)|(refine jAr ?_)|(apply yE)|(refine jAx ?_)|(apply yI)|(apply yJ)|(apply yK)|(apply yM)
    |(refine W.cond _ rfl (fun hb=>?_) (fun hb=>?_)<;>((try simp only [hb,zK])<;>(try simp only [zL,zI] at hb)<;>(try (exfalso;omega))))))
   refine Ends.cell2 rfl rfl rfl rfl ?_
   rw [hg.out]
   have hz:=frz_row (own:=[Ent.box [iV M,iV (D + ps.length : Nat),iV D,.osl 1 (0 + 1) 0 (B ++ G).length],.row (0 + 1) 1 3 ((B ++ G).map kD),.box [iV M,iV (D + ps.length : Nat),iV D,.osl 1 (0 + 1) 0 (B ++ G).length],.box [.d .any,iV M,iV D,rowsN ps,.d .any]]) (i:=1) rfl (by simp : (B ++ G).length = ((B ++ G).map kD).length)
   exact congrArg (fun z=>AV.tup [AV.agg [iV M,iV (D + ps.length : Nat),iV D,z],iV 0]) hz
end
section
attribute [local irreducible] Quiet Eff OpOk AWPG ACont ABlock ACalls AGoto
theorem frz_rowJ {own : List Ent} {js : List Nat} {i ver n sz : Nat} {e : TypeId} {l : List (List Dat)} (ho : own[i]? = some (.row ver sz e l)) (hj : plc js i = none) (hn : n = l.length) : AV.frz own js (.osl i ver 0 n) = .d (.sl sz l):=by
 simp [AV.frz,frzSl,ho,hj,hn]
theorem AVle.tup2 {x x' y y' : AV} (h1 : AVle x x') (h2 : AVle y y') : AVle (.tup [x,y]) (.tup [x',y']):=fun F own κ w u hs=>by
 rw [AV.sat] at hs ⊢
 obtain ⟨vs,e,h⟩:=hs
 refine ⟨vs,e,?_⟩
 generalize vs.toList = us at h
 match us,h with
 | [a,b],h =>
   simp only [AV.satL] at h ⊢
   exact ⟨h1 _ _ _ _ _ h.1,h2 _ _ _ _ _ h.2.1,trivial⟩
theorem Ends.nil2 {P : Program} {env : List (Nat × AV)} {own : List Ent} {t t' sz : Nat} {y : AV} (hx : look env t = .d (.v (.slice none 0 0))) (hy : look env t' = y) (hf : AV.frz own [] y = y) : Ends P [.tmp t,.tmp t'] (.tup [.d (.sl sz []),y]) [] .ret ⟨env,own⟩ :=
 ⟨.inl rfl,[],[.d (.v (.slice none 0 0)),y],rfl,⟨hx,hy,trivial⟩,by
  show AVle (.tup [_,AV.frz own [] y]) _
  rw [hf]
  exact AVle.tup2 (AVle.nil sz) (AVle.of_eq rfl),rfl⟩
def presAt (hv : List Bool) (i : Nat) : List Nat:=(List.range i).filter fun k=>hv.getD k false
theorem presAt_succ (hv : List Bool) (i : Nat) : presAt hv (i + 1) = if hv.getD i false = true then presAt hv i ++ [i] else presAt hv i:=by
 unfold presAt
 rw [List.range_succ,List.filter_append]
 cases h : hv.getD i false<;>(rw [List.getD_eq_getElem?_getD] at h;simp [List.filter_cons,h])
abbrev presN (hv : List Bool) : List Nat:=presAt hv hv.length
theorem presAt_lt {hv : List Bool} {i x : Nat} (h : x ∈ presAt hv i) : x < i:=by
 have:=(List.mem_filter.1 h).1
 simpa using this
theorem presAt_length (hv : List Bool) (i : Nat) : (presAt hv i).length ≤ i:=by
 unfold presAt
 exact Nat.le_trans (List.length_filter_le _ _) (by simp)
def basisN (M D : Nat) (ps : List (List Nat)) (hv : List Bool) : List Nat :=
 (red M D (presN hv).length (trN (presN hv).length D (pickN D (genN D ps) (presN hv))) (presN hv).length).2.map fun j=>(presN hv).getD j 0
theorem red_lt {M R C : Nat} {L : List Nat} (n : Nat) : ∀ j ∈ (red M R C L n).2,j < n:=by
 induction n with
 | zero=>intro j hj;simp [red] at hj
 | succ n ih =>
   intro j hj
   rw [red,redStep] at hj
   dsimp only at hj
   split at hj
   ·have:=ih j hj;omega
   ·rcases List.mem_append.1 hj with h | h
    ·have:=ih j h;omega
    ·have : j = n := by simpa using h
     omega
theorem A_ebasis {M D : Nat} {ps : List (List Nat)} {hv : List Bool} (h : CodeOk M D ps) (hl : hv.length = D + ps.length) : ACalls Tryz.prog 249 [cdN M D ps,bools hv] [] (.tup [nats (basisN M D ps hv),iV 0]) []:=by
 refine acalls_of_body Tryz.func249 rfl (zU rfl) ?_
 have h1:=h.d
 have h2:=h.w
 have hgen:=A_egen h
 have hok:=gen_ok h
 have hpl : (presN hv).length ≤ hv.length:=presAt_length hv hv.length
 have hplt : ∀ x ∈ presN hv,x < D + ps.length:=fun x hx=>by have:=presAt_lt hx;omega
 have hpick:=A_mpick hok h1 hplt (by omega)
 have hind:=A_mindependent (pick_ok hok hplt (by omega))
 have hrl:=red_lt (M:=M) (R:=D) (C:=(presN hv).length) (L:=trN (presN hv).length D (pickN D (genN D ps) (presN hv))) (presN hv).length
 have hBas : basisN M D ps hv = (red M D (presN hv).length (trN (presN hv).length D (pickN D (genN D ps) (presN hv))) (presN hv).length).2.map fun j=>(presN hv).getD j 0:=rfl
 have hbe : presN hv = [] → basisN M D ps hv = []:=fun e=>by rw [hBas,e];rfl
 have hred:=red_ok (M:=M) (R:=D) (C:=(presN hv).length) (L:=trN (presN hv).length D (pickN D (genN D ps) (presN hv))) h.f (trN_length _ _ _) (trN_lt (pick_ok hok hplt (by omega)).e) (presN hv).length
 have hpr:=hred.pr
 generalize (red M D (presN hv).length (trN (presN hv).length D (pickN D (genN D ps) (presN hv))) (presN hv).length).2 = J at *
 generalize pickN D (genN D ps) (presN hv) = PK at *
 generalize genN D ps = GN at *
 generalize basisN M D ps hv = B at *
 clear hok hred
 have hsucc:=fun i=>Lib.hid (presAt_succ hv i)
 have hpl0:=fun i=>presAt_length hv i
 have hml : (hv.map tD).length = hv.length:=List.length_map _
 (repeat' (first
  |(apply yFb;exact rfl;exact rfl)
  |(apply W.qd;(first
  |(exact zW (hgen))|(exact zM)|(exact zN)|(exact jAm)|(exact jAg)|(exact jAn)|(exact jBb)|(exact yAb rfl rfl)|(exact jAt)
  |(apply (yDb (u:=.d _));exact rfl;exact rfl)))
  |(apply W.ed;(first
  |(exact jAa)
  |(exact jAp)))|(apply W.ln;(exact jAh))|(apply yA)|(apply yB)|(refine jAb ?_)|(apply yE)|(apply yG)|(apply yH)
  |(refine W.cond _ rfl (fun hb=>?_) (fun hb=>?_)<;>((try simp only [hb,zK])<;>(try simp only [zL,zI] at hb)<;>(try (exfalso;omega))))))
 refine AWP.nilRow 8 1 3 rfl (by omega) ?_
 refine AWP.loopW (α:=Nat) (fun i=>i ≤ hv.length) (fun i=>⟨[(32,iV i),(31,iV hv.length),(30,bools hv),(8,.osl 2 (presAt hv i).length 0 (presAt hv i).length),(2,.opt 0 0),(6,.opt 1 0)],[.box [.d .any,iV M,iV D,rowsN ps,.d .any],.box [iV M,iV (D + ps.length : Nat),iV D,nats GN],.row (presAt hv i).length 1 3 ((presAt hv i).map kD)]⟩) (fun i=>hv.length - i) 0 (by omega) ?wk0 fun i hi=>?_
 case wk0 =>
  rw [show presAt hv 0 = [] from rfl]
  exact ⟨[0,1,2],rfl,rfl,rfl,rfl,iV_eq (by simp),rfl,rfl,rfl,rfl,trivial⟩
 by_cases hil : i < hv.length
 ·have hs := hsucc i
  have hi0:=hpl0 i
  rw [List.getD_eq_getElem?_getD,List.getElem?_eq_getElem hil] at hs
  generalize presAt hv i = P at *
  (repeat' (first
   |(apply W.qd;(first
   |(exact zM)|(exact zN)|(exact jAj)|(exact jAi)|(exact jAc)|(exact jAl)
   |(exact jA)))|(apply W.ed;(apply e_app1F;(iterate 8 exact rfl);(first | omega | (focus (simp;omega)) | (focus (simp;done)))))|(apply yA)|(apply yB)|(refine jAb ?_)|(apply yE)|(apply yG)|(apply yH)|(apply yL)
   |(refine W.cond _ rfl (fun hb=>?_) (fun hb=>?_)<;>((try simp only [hb,zK])<;>(try simp only [zL,zI] at hb)<;>(try (exfalso;omega))))))
  ·rw [if_pos (by simpa using hb)] at hs
   refine ⟨i + 1,by omega,by omega,?_⟩
   rw [hs.out,show (P ++ [i]).length = P.length + 1 by simp]
   exact ⟨[0,1,2],rfl,rfl,rfl,iV_eq (by omega),rfl,rfl,congrArg (AV.osl 2 (P.length + 1) 0) (by simp),rfl,rfl,trivial⟩
  ·rw [if_neg (by simpa using hb)] at hs
   refine ⟨i + 1,by omega,by omega,?_⟩
   rw [hs.out]
   exact ⟨[0,1,2],rfl,rfl,rfl,iV_eq (by omega),rfl,rfl,rfl,rfl,rfl,trivial⟩
 ·have e : hv.length = i := by omega
  subst e
  change presAt hv hv.length = [] → _ at hbe
  change B = J.map fun j=>(presAt hv hv.length).getD j 0 at hBas
  change (presAt hv hv.length).length ≤ hv.length at hpl
  change ∀ j ∈ J,j < (presAt hv hv.length).length at hrl
  change ACalls _ _ [_,nats (presAt hv hv.length)] _ (.tup [mx M (presAt hv hv.length).length D PK,_]) _ at hpick
  change ACalls _ _ [mx M (presAt hv hv.length).length D PK] _ _ _ at hind
  clear hplt hsucc hpl0
  generalize presAt hv hv.length = P at *
  refine AWP.wk ⟨[(32,iV hv.length),(31,iV hv.length),(8,nats P),(2,.opt 0 0),(6,.opt 1 0)],[.box [.d .any,iV M,iV D,rowsN ps,.d .any],.box [iV M,iV (D + ps.length : Nat),iV D,nats GN]]⟩ ⟨[0,1],rfl,rfl,rfl,rfl,rfl,(frz_rowJ rfl rfl (by simp)).symm,rfl,rfl,trivial⟩ ?_
  by_cases hP : P = []
  ·subst hP
   rw [hbe rfl]
   (repeat' (first
    |(apply W.qd;(first
    |(exact zM)|(exact zN)|(exact jAj)|(exact jAu)
    |(exact jAt)))|(apply yA)|(apply yB)|(refine jAb ?_)|(apply yE)|(apply yI)|(apply yJ)|(apply yK)|(apply yP)|(apply yM)|(refine jAv ?_)
    |(refine W.cond _ rfl (fun hb=>?_) (fun hb=>?_)<;>((try simp only [hb,zK])<;>(try simp only [zL,zI] at hb)<;>(try (exfalso;omega))))))
   exact Ends.nil2 rfl rfl rfl
  ·have hP0 : 0 < P.length := List.length_pos_iff.2 hP
   have hmP : (P.map kD).length = P.length:=List.length_map _
   (repeat' (first
    |(apply W.qd;(first
    |(exact zW (hpick))|(exact zW (hind))|(exact zM)|(exact zN)|(exact jAn)|(exact jAj)|(exact jAu)|(exact yAb rfl rfl)
    |(exact jAt)))|(apply W.ed;(exact jAp))|(apply W.ln;(exact jAh))|(apply yA)|(apply yB)|(refine jAb ?_)|(apply yE)|(apply yG)|(apply yH)|(apply yI)|(apply yK)|(apply yM)
    |(refine W.cond _ rfl (fun hb=>?_) (fun hb=>?_)<;>((try simp only [hb,zK])<;>(try simp only [zL,zI] at hb)<;>(try (exfalso;omega))))))
   refine AWP.nilRow 13 1 3 rfl (by omega) ?_
   refine AWP.loopW (α:=Nat) (fun k=>k ≤ J.length) (fun k=>⟨[(55,iV k),(54,iV J.length),(53,nats J),(8,nats P),(13,.osl 3 k 0 ((J.take k).map fun j=>P.getD j 0).length)],[.box [.d .any,iV M,iV D,rowsN ps,.d .any],.box [iV M,iV (D + ps.length : Nat),iV D,nats GN],.box [iV M,iV P.length,iV D,nats PK],.row k 1 3 (((J.take k).map fun j=>P.getD j 0).map kD)]⟩) (fun k=>J.length - k) 0 (by omega) ?wk1 fun k hk=>?_
   case wk1 =>
    exact ⟨[0,1,2,3],rfl,rfl,rfl,rfl,iV_eq (by simp),rfl,rfl,rfl,trivial⟩
   by_cases hkl : k < J.length
   ·have hx := hrl J[k] (List.getElem_mem _)
    have hs : (J.take (k + 1)).map (fun j=>P.getD j 0) = (J.take k).map (fun j=>P.getD j 0) ++ [P[J[k]]]:=by
     rw [← List.take_append_getElem hkl,List.map_append]
     simp [List.getD_eq_getElem?_getD,hx]
    have hll : ((J.take k).map fun j=>P.getD j 0).length ≤ 1024:=by simp;omega
    replace hs:=Lib.hid hs
    generalize (J.take k).map (fun j=>P.getD j 0) = A at *
    (repeat' (first
     |(apply W.qd;(first
     |(exact zM)|(exact zN)|(exact jAj)|(exact jAi)|(exact jAc)|(exact jAl)
     |(exact jA)))|(apply W.ed;(apply e_app1F;(iterate 8 exact rfl);(first | omega | (focus (simp;omega)) | (focus (simp;done)))))|(apply yA)|(apply yB)|(refine jAb ?_)|(apply yE)|(apply yG)|(apply yH)|(apply yL)
     |(refine W.cond _ rfl (fun hb=>?_) (fun hb=>?_)<;>((try simp only [hb,zK])<;>(try simp only [zL,zI] at hb)<;>(try (exfalso;omega))))))
    refine ⟨k + 1,by omega,by omega,?_⟩
    rw [hs.out]
    exact ⟨[0,1,2,3],rfl,rfl,rfl,iV_eq (by omega),rfl,rfl,rfl,rfl,trivial⟩
   ·have e : J.length = k := by omega
    subst e
    rw [List.take_length,← hBas]
    (repeat' (first
     |(apply W.qd;(first
     |(exact zM)|(exact zN)
     |(exact jAj)))|(apply yA)|(apply yB)|(refine jAb ?_)|(apply yE)|(apply yI)|(apply yJ)|(apply yK)|(apply yM)
     |(refine W.cond _ rfl (fun hb=>?_) (fun hb=>?_)<;>((try simp only [hb,zK])<;>(try simp only [zL,zI] at hb)<;>(try (exfalso;omega))))))
    exact Ends.two rfl rfl (congrArg (fun z=>AV.tup [z,iV 0]) (frz_rowJ rfl rfl (by simp)))
end
section
attribute [local irreducible] Quiet Eff OpOk AWPG ACont ABlock ACalls AGoto
def addV (M f : Nat) (T l : List Nat) : Nat → List Nat
 | 0=>T
 | k + 1=>(addV M f T l k).set k ((addV M f T l k).getD k 0 ^^^ Gf.mul M (modN M) f (l.getD k 0))
theorem addV_length (M f : Nat) (T l : List Nat) (k : Nat) : (addV M f T l k).length = T.length:=by
 induction k with
 | zero=>rfl
 | succ k ih=>rw [addV,List.length_set,ih]
theorem addV_lt {M f : Nat} (hM : FldM M) (hf : f < 2 ^ M) {T l : List Nat} (h : ∀ x ∈ T,x < 2 ^ M) (k : Nat) : ∀ x ∈ addV M f T l k,x < 2 ^ M:=by
 induction k with
 | zero=>exact h
 | succ k ih =>
   intro x hx
   rw [addV] at hx
   rcases List.mem_or_eq_of_mem_set hx with hx | rfl
   ·exact ih x hx
   ·exact Nat.xor_lt_two_pow (getD_lt ih _) (Gf.mul_lt (FldM.gen hM).hm (FldM.gen hM).top (FldM.gen hM).lt hf _)
structure RedRow (M D n : Nat) (r : Nat × List Nat × List Nat) : Prop where
 c : r.1 < D
 l1 : r.2.1.length = D
 l2 : r.2.2.length = n
 e1 : ∀ x ∈ r.2.1,x < 2 ^ M
 e2 : ∀ x ∈ r.2.2,x < 2 ^ M
def subR (M : Nat) (s : List Nat × List Nat) (r : Nat × List Nat × List Nat) : List Nat × List Nat :=
 if s.1.getD r.1 0 = 0 then s else (addV M (s.1.getD r.1 0) s.1 r.2.1 r.2.1.length,addV M (s.1.getD r.1 0) s.2 r.2.2 r.2.2.length)
structure SubOk (M D n : Nat) (s : List Nat × List Nat) : Prop where
 l1 : s.1.length = D
 l2 : s.2.length = n
 e1 : ∀ x ∈ s.1,x < 2 ^ M
 e2 : ∀ x ∈ s.2,x < 2 ^ M
theorem sub_ok {M D n : Nat} {s : List Nat × List Nat} {r : Nat × List Nat × List Nat} (hM : FldM M) (h : SubOk M D n s) (hr : RedRow M D n r) : SubOk M D n (subR M s r):=by
 unfold subR
 split
 ·exact h
 ·exact ⟨by rw [addV_length];exact h.l1,by rw [addV_length];exact h.l2,addV_lt hM (getD_lt h.e1 _) h.e1 _,addV_lt hM (getD_lt h.e1 _) h.e2 _⟩
def redV (M n : Nat) (row : List Nat) (rows : List (Nat × List Nat × List Nat)) : List Nat × List Nat:=rows.foldl (subR M) (row,List.replicate n 0)
theorem redV_ok {M D n : Nat} {row : List Nat} {rows : List (Nat × List Nat × List Nat)} (hM : FldM M) (hl : row.length = D) (he : ∀ x ∈ row,x < 2 ^ M) (hr : ∀ r ∈ rows,RedRow M D n r) : SubOk M D n (redV M n row rows):=by
 unfold redV
 have h0 : SubOk M D n (row,List.replicate n 0):=⟨hl,List.length_replicate,he,fun x hx=>by rw [List.eq_of_mem_replicate hx];exact Nat.two_pow_pos M⟩
 revert h0
 generalize (row,List.replicate n 0) = s
 intro h0
 induction rows generalizing s with
 | nil=>exact h0
 | cons r rows ih=>exact ih (fun x hx=>hr x (by simp [hx])) _ (sub_ok hM h0 (hr r (by simp)))
end
section
attribute [local irreducible] Quiet Eff OpOk AWPG ACont ABlock ACalls AGoto
def findNZ (l : List Nat) : Nat:=l.findIdx fun x=>x != 0
def spanStep (M D n : Nat) (gen b : List Nat) (k : Nat) (rows : List (Nat × List Nat × List Nat)) : List (Nat × List Nat × List Nat) :=
 let s:=redV M n ((gen.drop (b.getD k 0 * D)).take D) rows
 let c:=s.2.set k (s.2.getD k 0 ^^^ 1)
 if findNZ s.1 < D then
  rows ++ [(findNZ s.1,addV M (invN M (s.1.getD (findNZ s.1) 0)) (List.replicate D 0) s.1 D,addV M (invN M (s.1.getD (findNZ s.1) 0)) (List.replicate n 0) c n)]
 else rows
def spanAt (M D n : Nat) (gen b : List Nat) : Nat → List (Nat × List Nat × List Nat)
 | 0=>[]
 | k + 1=>spanStep M D n gen b k (spanAt M D n gen b k)
structure SpanOk (M D n k : Nat) (rows : List (Nat × List Nat × List Nat)) : Prop where
 r : ∀ r ∈ rows,RedRow M D n r
 l : rows.length ≤ k
theorem pick_row {M R D u : Nat} {gen : List Nat} (h : MxOk M R D gen) (hu : u < R) : ((gen.drop (u * D)).take D).length = D ∧ ∀ x ∈ (gen.drop (u * D)).take D,x < 2 ^ M:=by
 have:=Nat.mul_le_mul_right D (show u + 1 ≤ R from hu)
 rw [Nat.add_mul,Nat.one_mul] at this
 refine ⟨?_,fun x hx=>h.e x (List.mem_of_mem_drop (List.mem_of_mem_take hx))⟩
 rw [List.length_take,List.length_drop,h.n];omega
theorem one_lt {M : Nat} (hM : FldM M) : 1 < 2 ^ M:=by unfold FldM at hM;rcases hM with rfl | rfl<;>decide
theorem span_step {M R D n k : Nat} {gen b : List Nat} {rows : List (Nat × List Nat × List Nat)} (hM : FldM M) (hg : MxOk M R D gen) (hb : ∀ u ∈ b,u < R) (hk : k < b.length) (h : SpanOk M D n k rows) : SpanOk M D n (k + 1) (spanStep M D n gen b k rows):=by
 have hu : b.getD k 0 < R:=by
  rw [List.getD_eq_getElem?_getD,List.getElem?_eq_getElem hk]
  exact hb _ (List.getElem_mem _)
 obtain ⟨p1,p2⟩:=pick_row hg hu
 have hs:=redV_ok (n:=n) (rows:=rows) hM p1 p2 h.r
 rw [spanStep]
 generalize redV M n ((gen.drop (b.getD k 0 * D)).take D) rows = s at *
 split
 ·rename_i hf
  refine ⟨fun r hr=>?_,by have:=h.l;simp;omega⟩
  rcases List.mem_append.1 hr with hr | hr
  ·exact h.r r hr
  ·obtain rfl : r = _ := by simpa using hr
   have hz : ∀ m,∀ x ∈ List.replicate m 0,x < 2 ^ M:=fun m x hx=>by rw [List.eq_of_mem_replicate hx];exact Nat.two_pow_pos M
   exact ⟨hf,by rw [addV_length,List.length_replicate],by rw [addV_length,List.length_replicate],addV_lt hM (invN_lt _) (hz _) _,addV_lt hM (invN_lt _) (hz _) _⟩
 ·exact ⟨h.r,by have:=h.l;omega⟩
theorem span_ok {M R D n : Nat} {gen b : List Nat} (hM : FldM M) (hg : MxOk M R D gen) (hb : ∀ u ∈ b, u < R) : ∀ k, k ≤ b.length → SpanOk M D n k (spanAt M D n gen b k)
 | 0,_=>⟨fun r hr=>by simp [spanAt] at hr,Nat.le_refl _⟩
 | k + 1,hk=>span_step hM hg hb (by omega) (span_ok hM hg hb k (by omega))
theorem basis_lt {M D : Nat} {ps : List (List Nat)} {hv : List Bool} (hl : hv.length = D + ps.length) : ∀ u ∈ basisN M D ps hv,u < D + ps.length:=fun u hu=>by
 obtain ⟨j,hj,rfl⟩:=List.mem_map.1 hu
 have h1:=red_lt _ j hj
 rw [List.getD_eq_getElem?_getD,List.getElem?_eq_getElem h1]
 have:=presAt_lt (List.getElem_mem h1)
 simp only [Option.getD_some]
 omega
theorem basis_len {M D : Nat} {ps : List (List Nat)} {hv : List Bool} (h : CodeOk M D ps) (hl : hv.length = D + ps.length) : (basisN M D ps hv).length ≤ D:=by
 have hpl : (presN hv).length ≤ hv.length:=presAt_length hv hv.length
 have hplt : ∀ x ∈ presN hv,x < D + ps.length:=fun x hx=>by have:=presAt_lt hx;omega
 have h2:=h.w
 have:=(red_ok (M:=M) (R:=D) (C:=(presN hv).length) (L:=trN (presN hv).length D (pickN D (genN D ps) (presN hv))) h.f (trN_length _ _ _) (trN_lt (pick_ok (gen_ok h) hplt (by omega)).e) (presN hv).length).pr
 unfold basisN
 rwa [List.length_map]
def spanN (M D : Nat) (ps : List (List Nat)) (hv : List Bool) : List (Nat × List Nat × List Nat):=spanAt M D (basisN M D ps hv).length (genN D ps) (basisN M D ps hv) (basisN M D ps hv).length
end
section
attribute [local irreducible] Quiet Eff OpOk AWPG ACont ABlock ACalls AGoto
def tmD (t : Nat × Nat) : List Dat:=[.v (.int .i64 t.1),.v (.int .i64 t.2)]
abbrev tmsA (l : List (Nat × Nat)) : AV:=.d (.sl 2 (l.map tmD))
def tmsAt (us K : List Nat) (k : Nat) : List (Nat × Nat):=((List.range k).filter fun i=>K.getD i 0 != 0).map fun i=>(us.getD i 0,K.getD i 0)
theorem tmsAt_succ (us K : List Nat) (k : Nat) : tmsAt us K (k + 1) = if K.getD k 0 = 0 then tmsAt us K k else tmsAt us K k ++ [(us.getD k 0,K.getD k 0)]:=by
 unfold tmsAt
 rw [List.range_succ,List.filter_append,List.map_append]
 by_cases h : K.getD k 0 = 0
 ·rw [if_pos h];simp only [List.filter_cons,h];simp
 ·have h2 : (K.getD k 0 != 0) = true := by simpa using h
  rw [if_neg h];simp only [List.filter_cons,h2,if_true,List.filter_nil,List.map_cons,List.map_nil]
theorem tmsAt_length (us K : List Nat) (k : Nat) : (tmsAt us K k).length ≤ k:=by
 unfold tmsAt
 rw [List.length_map]
 exact Nat.le_trans (List.length_filter_le _ _) (by simp)
def termsN (M D : Nat) (ps : List (List Nat)) (us : List Nat) (rows : List (Nat × List Nat × List Nat)) (u : Nat) : Option (List (Nat × Nat)) :=
 let s:=redV M us.length (((genN D ps).drop (u * D)).take D) rows
 if s.1.all (fun x=>decide (x = 0)) then some (tmsAt us s.2 us.length) else none
def termsA : Option (List (Nat × Nat)) → AV
 | some l=>.tup [tmsA l,iV 0]
 | none=>.tup [tmsA [],iV 11]
theorem EndsO.nil2 {P : Program} {m : Nat} {env : List (Nat × AV)} {own own' : List Ent} {t t' sz : Nat} {y : AV} (js : List Nat) (h1 : selOk own js = true) (h2 : js.take m = List.range m) (hx : look env t = .d (.v (.slice none 0 0))) (hy : look env t' = y) (hf : AV.frz own js y = y) (ho : selOwn own js = own') : EndsO P m [.tmp t,.tmp t'] (.tup [.d (.sl sz []),y]) own' .ret ⟨env,own⟩ :=
 ⟨.inl rfl,js,[.d (.v (.slice none 0 0)),y],h1,h2,⟨hx,hy,trivial⟩,by
  show AVle (.tup [_,AV.frz own js y]) _
  rw [hf]
  exact AVle.tup2 (AVle.nil sz) (AVle.of_eq rfl),ho⟩
def combN (M D : Nat) (ps : List (List Nat)) (hv : List Bool) (u : Nat) : Option (List (Nat × Nat)):=termsN M D ps (basisN M D ps hv) (spanN M D ps hv) u
theorem A_decodable {M D : Nat} {ps : List (List Nat)} {hv : List Bool} (h : CodeOk M D ps) (hl : hv.length = D + ps.length) : ACalls Tryz.prog 300 [cdN M D ps,bools hv] [] (bV (decide ((basisN M D ps hv).length = D))) []:=by
 refine acalls_of_bodyO Tryz.func300 rfl (zU rfl) ?_
 have hb:=A_ebasis h hl
 have hbl:=basis_len h hl
 generalize basisN M D ps hv = B at *
 have hml : (B.map kD).length = B.length:=List.length_map _
 (repeat' (first
  |(apply yFb;exact rfl;exact rfl)
  |(apply W.qd;(first
  |(exact zW (hb))|(exact zM)|(exact zN)|(exact jAm)|(exact jAg)|(exact jAn)|(exact jAu)|(exact yAb rfl rfl)|(exact jAt)
  |(apply (yEb (u:=.d _));exact rfl;exact rfl)))|(apply W.ed;(exact jAa))|(apply yA)|(apply yB)|(refine jAb ?_)|(apply yE)
  |(apply yJ)))
 all_goals refine ⟨.inl rfl,[],[bV (decide (((B.map kD).length : Int) = D))],rfl,rfl,⟨rfl,trivial⟩,AVle.of_eq (congrArg bV ?_),rfl⟩
 all_goals rw [hml,decide_eq_decide]
 all_goals omega
end
section
theorem set_getD (l : List Nat) (k v i : Nat) (hi : i < l.length) : (l.set k v).getD i 0 = if i = k then v else l.getD i 0:=by
 simp only [List.getD_eq_getElem?_getD,List.getElem?_set]
 by_cases e : k = i
 ·subst e;simp [hi]
 ·rw [if_neg e,if_neg (fun h=>e h.symm)]
attribute [local irreducible] Quiet Eff OpOk AWPG ACont ABlock ACalls AGoto
end
section
attribute [local irreducible] Quiet Eff OpOk AWPG ACont ABlock ACalls AGoto
def uniQ (M : Int) (us : List (List Nat)) (x : List Nat) : Bool:=decide ((x.length : Int) = ((us.headD []).length : Int)) && (decide (M = 8) || decide ((x.length : Int) % 2 = 0))
def uniB (M : Int) (us : List (List Nat)) : Bool:=us.all (uniQ M us)
def havU (us : List (List Nat)) (hv : List Bool) (k : Nat) : List (List Nat):=((List.range k).filter fun i=>hv.getD i false).map fun i=>us.getD i []
def fitN (M D : Nat) (ps : List (List Nat)) (us : List (List Nat)) (hv : List Bool) : Bool:=decide (us.length = D + ps.length) && decide (hv.length = D + ps.length) && uniB M (havU us hv us.length)
end
section
open Go.ChangeShapes Go.WideShapes Go.ChangeAt Go.RowKit
section
variable {H : Type} {enc : TypeId × Value → H} {P : Program} {w : World} {base : Nat} {spare : Nat → Bool} {held : Bool}
theorem open_field {t : TypeId} {fs : Array Field} {fuel : Nat} {cs : List Value} {x : DataW H × List MemPlace} (ht : P.underlying t = some (.struct fs)) (h : DataW.trod enc P w base spare held fuel t cs = some x) (i : Nat) (f : Field) (hf : fs[i]? = some f) :
 ∃ y n,DataW.trod enc P w base spare held n f.type ((cs.drop f.offset).take (P.cellsOf f.type)) = some y:=by
 obtain ⟨xs,n,_,_,_,hlen,hg⟩:=DataW.trod_struct ht h
 have h1:=hg i f hf
 have hi : i < fs.size:=(Array.getElem?_eq_some_iff.1 hf).1
 exact ⟨xs[i]'(by omega),n,by rw [h1];exact List.getElem?_eq_getElem (by omega)⟩
end
theorem list4 {α : Type} {l : List α} (h : l.length = 4) : ∃ a0 a1 a2 a3,l = [a0,a1,a2,a3]:=by
 match l,h with
 | [a0,a1,a2,a3],_=>exact ⟨_,_,_,_,rfl⟩
end
section
theorem calls_of_acalls {P : Program} {f : FuncId} {args : List AV} {b : Bool} {own' : List Ent} (h : ACalls P f args [] (bV b) own') (vs : List Value) (W : World) (hg : ∀ p ∈ glbs, p.1 < W.heap.size ∧ some p.1 ∉ ([] : List (Option Nat)) ∧ ∃ t fz, W.heap[p.1]? = some (.cells p.2 t fz)) (ha : AV.satL (fun _ => False) [] [] W args vs) :
 Calls P f vs.toArray W fun e w'=>e = .returned (.bool b) ∧ Below W.heap.size W w':=by
 refine (h (fun _=>False) [] W vs ⟨rfl,(fun _ h=>h.elim),(fun _ h=>nomatch h),(fun _ _ _ h=>by cases h),(fun _ _ h=>by cases h),hg⟩ ha).mono ?_
 intro e w' ⟨v,κ',he,hv,_,tr⟩
 refine ⟨?_,tr.os,tr.tape,tr.output,tr.size,fun k hk=>tr.old k hk (by simp)⟩
 rw [he]
 have : v = .bool b:=by simpa [AV.sat,Dat.sat] using hv
 rw [this]
end
section
open Go.ChangeShapes Go.WideShapes Go.ChangeAt Go.RowKit
section
variable {H : Type} {enc : TypeId × Value → H} {P : Program} {w : World} {base : Nat} {spare : Nat → Bool} {held : Bool}
def Opens (enc : TypeId × Value → H) (P : Program) (w : World) (base : Nat) (spare : Nat → Bool) (held : Bool) (t : TypeId) {α : Type} (f : α → List Dat) (ok : α → Prop) : Prop :=
 ∀ (fuel : Nat) (cs : List Value) (x : DataW H × List MemPlace), DataW.trod enc P w base spare held fuel t cs = some x →
  ∃ a,ok a ∧ (f a).length = cs.length ∧ ∀ (j : Nat) (y : Dat),(f a)[j]? = some y → ∃ u,cs[j]? = some u ∧ u.oneCell' = true ∧ Dat.sat (badK (fun _=>False) []) w y u
theorem opens_one {t : TypeId} {α : Type} {g : α → Dat} {ok : α → Prop} (h : ∀ (fuel : Nat) (cs : List Value) (x : DataW H × List MemPlace),DataW.trod enc P w base spare held fuel t cs = some x → ∃ a u,ok a ∧ cs = [u] ∧ u.oneCell' = true ∧ Dat.sat (badK (fun _=>False) []) w (g a) u) : Opens enc P w base spare held t (fun a=>[g a]) ok:=fun fuel cs x hx=>by
 obtain ⟨a,u,h1,rfl,h2,h3⟩:=h fuel cs x hx
 refine ⟨a,h1,rfl,fun j y hy=>?_⟩
 cases j with
 | succ j=>simp at hy
 | zero =>
   simp only [List.getElem?_cons_zero,Option.some.injEq] at hy
   subst hy
   exact ⟨u,rfl,h2,h3⟩
theorem opens_string {t : TypeId} (ht : P.underlying t = some .string) : Opens enc P w base spare held t sD (fun l=>isB l ∧ l.length ≤ maxLen) :=
 opens_one fun fuel cs x hx=>by
  obtain ⟨s,rfl,_,hs⟩:=DataW.trod_string ht hx
  refine ⟨s.data.toList.map (·.toNat),.string s,⟨isB_nat s,by rw [List.length_map];exact hs⟩,rfl,rfl,?_⟩
  rw [Dat.sat,bytesOf_nat]
theorem opens_int {t : TypeId} (ht : P.underlying t = some (.int .i64)) : Opens enc P w base spare held t iD (fun n=>-9223372036854775808 ≤ n ∧ n < 9223372036854775808) :=
 opens_one fun fuel cs x hx=>by
  obtain ⟨n,rfl,_,hw⟩:=DataW.trod_int ht hx
  refine ⟨n,_,?_,rfl,rfl,rfl⟩
  have h1 : IntKind.i64.max = 9223372036854775807:=by decide +kernel
  have h2 : IntKind.i64.min = -9223372036854775808:=by decide +kernel
  simp only [Lit.wf,Bool.and_eq_true,decide_eq_true_eq] at hw
  rw [h1,h2] at hw
  omega
theorem choose_list {α : Type} {Q : Nat → α → Prop} : ∀ n, (∀ i, i < n → ∃ a, Q i a) → ∃ l : List α, l.length = n ∧ ∀ i a, l[i]? = some a → Q i a
 | 0,_=>⟨[],rfl,fun i a h=>by simp at h⟩
 | n + 1,h=>by
   obtain ⟨l,hl,hq⟩:=choose_list n (fun i hi=>h i (by omega))
   obtain ⟨a,ha⟩:=h n (by omega)
   refine ⟨l ++ [a],by simp [hl],fun i b hb=>?_⟩
   by_cases hi : i < n
   ·rw [List.getElem?_append_left (by omega)] at hb;exact hq i b hb
   ·have : i = n:=by
     have:=(List.getElem?_eq_some_iff.1 hb).1
     simp [hl] at this;omega
    subst this
    rw [List.getElem?_append_right (by omega),hl,Nat.sub_self] at hb
    simp only [List.getElem?_cons_zero,Option.some.injEq] at hb
    subst hb;exact ha
theorem opens_slice {t e : TypeId} {sz : Nat} {α : Type} {f : α → List Dat} {ok : α → Prop} (ht : P.underlying t = some (.slice e)) (hc : P.cellsOf e = sz) (h0 : 0 < sz) (he : Opens enc P w base spare held e f ok) :
 Opens enc P w base spare held t (fun l : List α=>[.sl sz (l.map f)]) (fun l=>(∀ a ∈ l,ok a) ∧ l.length ≤ maxLen) :=
 opens_one fun fuel cs x hx=>by
  rcases DataW.trod_slice ht hx with ⟨rfl,_⟩ | ⟨a,len,cap,elems,rest,n,_,rfl,_,hb,hl,hm,hlen,hel,_,_⟩
  ·refine ⟨[], .slice none 0 0, ⟨fun a h => by simp at h, Nat.zero_le _⟩, rfl, rfl, ?_⟩
   rw [Dat.sat]
   exact ⟨none,0,rfl,Nat.le_refl _,Nat.zero_le _,fun h=>by simp at h⟩
  ·have each : ∀ i,i < len → ∃ el,ok el ∧ (f el).length = sz ∧ ∀ (j : Nat) (y : Dat),(f el)[j]? = some y → ∃ u,w.cell? ((a.add (i * sz)).add j) = some u ∧ u.oneCell' = true ∧ Dat.sat (badK (fun _=>False) []) w y u:=fun i hi=>by
    have h1:=hel i hi
    rw [List.getElem?_eq_getElem (by omega),hc,Option.bind_eq_some_iff] at h1
    obtain ⟨cs',h2,h3⟩:=h1
    obtain ⟨_,h4,h5⟩:=World.cells?_some h2
    obtain ⟨el,k1,k2,k3⟩:=he n cs' _ h3
    refine ⟨el,k1,by omega,fun j y hy=>?_⟩
    obtain ⟨u,k4,k5,k6⟩:=k3 j y hy
    have hj : j < sz:=by rw [← h4];exact (List.getElem?_eq_some_iff.1 k4).1
    exact ⟨u,by rw [h5 j hj];exact k4,k5,k6⟩
   obtain ⟨l,hll,hlq⟩:=choose_list len each
   refine ⟨l,.slice (some a) len cap,⟨fun el hel2=>?_,by omega⟩,rfl,rfl,?_⟩
   ·obtain ⟨i, hi, rfl⟩ := List.getElem_of_mem hel2
    exact (hlq i _ (List.getElem?_eq_getElem hi)).1
   ·rw [Dat.sat]
    refine ⟨some a,cap,by rw [List.length_map,hll],by rw [List.length_map];omega,hm,fun hp=>?_⟩
    rw [List.length_map] at hp
    have hfirst:=hlq 0 _ (List.getElem?_eq_getElem hp)
    obtain ⟨_,k2,k3⟩:=hfirst
    obtain ⟨u,k4,_,_⟩:=k3 0 _ (List.getElem?_eq_getElem (by omega))
    have e0 : (a.add (0 * sz)).add 0 = a:=by simp [Addr.add]
    rw [e0] at k4
    obtain ⟨b,o,sp⟩:=a
    have hsp : sp = none:=by
     unfold World.cell? at k4
     split at k4
     ·split at k4
      ·cases k4
      ·rename_i h1;simpa using h1
     ·cases k4
    subst hsp
    have hlt : b < w.heap.size:=by
     have:=World.block_lt_of_cell? _ _ k4
     exact this
    refine ⟨b,o,rfl,hlt,by simp [badK],Dat.rowsSat_iff.2 fun j el hj=>?_⟩
    rw [List.getElem?_map] at hj
    cases hx : l[j]? with
    | none=>rw [hx] at hj;cases hj
    | some v =>
      rw [hx] at hj
      simp only [Option.map_some,Option.some.injEq] at hj
      subst hj
      obtain ⟨_,k2',k3'⟩:=hlq j v hx
      refine ⟨k2',Dat.rowSat_iff.2 fun j2 y hy=>?_⟩
      obtain ⟨u',k4',k5',k6'⟩:=k3' j2 y hy
      refine ⟨u',?_,k5',k6'⟩
      rw [← k4']
      congr 1
      simp only [Addr.add]
      by_cases h1 : j * sz = 0
      ·rw [if_pos h1, h1]
       by_cases h2 : j2 = 0
       ·rw [if_pos h2,h2];simp
       ·rw [if_neg h2];simp
      ·rw [if_neg h1]
       by_cases h2 : j2 = 0
       ·rw [if_pos h2,h2];simp
       ·rw [if_neg h2]
theorem opens_cell {t : TypeId} {α : Type} {g : α → Dat} {ok : α → Prop} {fuel : Nat} {c : Value} {x : DataW H × List MemPlace} (h : Opens enc P w base spare held t (fun a=>[g a]) ok) (hx : DataW.trod enc P w base spare held fuel t [c] = some x) : ∃ a,ok a ∧ Dat.sat (badK (fun _=>False) []) w (g a) c:=by
 obtain ⟨a,h1,_,h3⟩:=h fuel [c] x hx
 obtain ⟨u,h4,_,h6⟩:=h3 0 (g a) rfl
 simp only [List.getElem?_cons_zero,Option.some.injEq] at h4
 subst h4
 exact ⟨a,h1,h6⟩
theorem opens_arg {t : TypeId} {α : Type} {g : α → Dat} {ok : α → Prop} {v : Value} {d : DataW H} {ps : List MemPlace} (h : Opens enc P w base spare held t (fun a=>[g a]) ok) (hv : v.cells.toList = [v]) (hx : DataW.Trod enc P w base spare held t v d ps) : ∃ a,ok a ∧ AV.sat (fun _=>False) [] [] w (.d (g a)) v:=by
 obtain ⟨fuel,hf⟩:=hx
 rw [hv] at hf
 obtain ⟨a,h1,h2⟩:=opens_cell h hf
 exact ⟨a,h1,by rw [AV.sat];exact h2⟩
variable {r : Reach} {b0 : Nat}
theorem cells_sl {t e : TypeId} {v : Value} (ht : P.underlying t = some (.slice e)) (h : Value.okWide P w r b0 t v) : v.cells.toList = [v]:=by
 simp only [Value.okWide,ht,Cell.okWide] at h
 cases v<;>simp_all [Cell.ok,Value.cells]
end
end
end Go.Proofs.YtplpgijpmgbaiaaGreatDoor
