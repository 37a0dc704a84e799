import Derived.Test.YtplpgijpmgbaiaaGreatDoorMScrubRepairs6
/- Joined texts: Sc29 Sc30 Sc31 Sc33 Sc34. -/
set_option linter.unusedVariables false
set_option linter.unusedSimpArgs false
namespace Go.Proofs.YtplpgijpmgbaiaaGreatDoor
open Go.RowKit
set_option maxHeartbeats 4000000
set_option maxRecDepth 100000
section
theorem xor_cells (s : List Nat) (i : Nat) (h : i < s.length) : (s.map cB).set i (cB (s[i] ^^^ 5)) = (xorB s i).map cB := by
 unfold xorB
 rw [List.map_set,List.getD_eq_getElem?_getD,List.getElem?_eq_getElem h];rfl
attribute [local irreducible] Quiet Eff OpOk AWPG ACont ABlock ACalls AGoto
theorem A_hurt {at' : List Pl} {g : Gn} {U : List (List Nat)} {v1 v2 n : Nat} {l : List Hu} {x : Sr2} (hx : SrOk n x) (hn : n ≤ 1000) (ha : at'.length = n) (hWl : U.length = n) (hWb : ∀ u ∈ U,isB u ∧ u.length ≤ 9223372036854775807) (hl : ∀ h ∈ l,HuIn h) (hll : l.length ≤ 9223372036854775807) : ACalls Tryz.prog 46 [pcs at',gnA g,strs U,.osl 0 v1 0 n,.osl 1 v2 0 n,hus l] [.row v1 1 9 (x.1.map sD),.row v2 1 4 (x.2.map tD)] (.osl 2 0 0 n) [.row v1 1 9 ((hurN at' g U l x).1.map sD),.row v2 1 4 ((hurN at' g U l x).2.map tD),.row 0 1 4 ((gdN at' g (hurN at' g U l x) n).map tD)] := by
 refine acalls_of_bodyO Tryz.func46 rfl (zU rfl) ?_
 have hma : (at'.map pcD).length = at'.length := List.length_map _
 have hmW : (U.map sD).length = U.length := List.length_map _
 have hml : (l.map huD).length = l.length := List.length_map _
 have hall := A_lallO (n := n) (by omega)
 have hall : ACalls Tryz.prog 44 [iV ((U.map sD).length : Nat)] [] (.osl 0 0 0 n) [.row 0 1 4 ((List.replicate n true).map tD)] := by rw [hmW,hWl];exact hall
 (repeat' (first
  |(apply W.qd;(first
  |(exact zM)|(exact zN)
  |(exact jBc)))
  |(apply W.ed;(first
  |(apply (e_callJ (js := []) (hall));(iterate 5 exact rfl);kernel_rfl;kernel_rfl)
  |(exact jAc)))|(apply yA)|(apply yB)|(apply (W.regionS 2);exact rfl;kernel_rfl)
  |(apply yE)))
 all_goals try (exfalso;omega)
 (repeat' (first
  |(apply W.qd;(first
  |(exact zM)
  |(exact jBc)))|(apply yB)|(apply (W.regionS 3);exact rfl;kernel_rfl)|(apply yE)
  |(apply yG)))
 refine AWP.loopW (α := Nat) (fun j => j ≤ l.length) (fun j => ⟨[(30,iV j),(29,iV l.length),(28,hus l),(0,pcs at'),(2,strs U),(3,.osl 0 v1 0 n),(4,.osl 1 v2 0 n),(7,.opt 2 0),(13,.osl 3 0 0 n)],[.row v1 1 9 ((hurN at' g U (l.take j) x).1.map sD),.row v2 1 4 ((hurN at' g U (l.take j) x).2.map tD),.box [iV g.1,iV g.2],.row 0 1 4 ((List.replicate n true).map tD)]⟩) (fun j => l.length - j) 0 (Nat.zero_le _) ?wkA fun j hj => ?_
 case wkA =>
  exact ⟨[0,1,2,3],rfl,rfl,rfl,rfl,iV_eq (by omega),rfl,rfl,rfl,rfl,rfl,rfl,rfl,trivial⟩
 by_cases hjl : j < l.length
 ·have hok := hurN_ok (at' := at') (g := g) (W := U) (fun u hu => (hWb u hu).1) hx (l := l.take j) fun h hh => hl h (List.mem_of_mem_take hh)
  have e1 := hurN_take (at' := at') (g := g) (W := U) (x := x) hjl
  have hh := hl _ (List.getElem_mem hjl)
  generalize hurN at' g U (l.take j) x = X at *
  obtain ⟨S,R⟩ := X
  obtain ⟨hS,hR,hSb⟩ := hok
  dsimp only at hS hR hSb
  clear hall
  unfold hur1 at e1
  dsimp only at e1
  by_cases c0 : l[j].1 < 0 ∨ (U.length : Int) ≤ l[j].1
  ·rw [if_pos c0] at e1
   (repeat' (first
    |(apply yFb;exact rfl;exact rfl)
    |(apply W.qd;(first
    |(exact zM)|(exact zN)|(exact jAr)|(exact jAk)|(exact jAj)|(exact q_geq rfl rfl)|(exact jAi)|(exact jBc)|(exact jAy)|(exact jA)|(apply (yEb (u := .d _));exact rfl;exact rfl)
    |(apply (yDb (u := .d _));exact rfl;exact rfl)))|(apply W.ed;(exact jAo))|(apply W.ln;(exact jAh))|(refine W.gOff _ _ rfl rfl (by intro h;cases h) ?_)|(apply yA)|(apply yB)|(refine jAd ?_)|(apply yE)|(apply yG)|(apply yH)|(apply yI)|(apply yK)|(apply yM)|(refine jBf ?_)|(refine W.gF _ _ rfl rfl (fun hb => ?_) (fun hb => ?_) <;> ((try simp only [hb,zK]) <;> (try simp only [zL,zI] at hb) <;> (try (exfalso;omega))))
    |(refine W.cond _ rfl (fun hb => ?_) (fun hb => ?_) <;> ((try simp only [hb,zK]) <;> (try simp only [zL,zI] at hb) <;> (try (exfalso;omega))))))
   all_goals first
    |(exfalso;omega)|(refine ⟨j + 1,by omega,by omega,?_⟩;(try dsimp only);rw [e1];exact ⟨[0,1,2,3],rfl,rfl,rfl,iV_eq (by omega),rfl,rfl,rfl,rfl,rfl,rfl,rfl,rfl,trivial⟩)
  rw [if_neg c0] at e1
  have hkn : l[j].1.toNat < n := by omega
  have hkW : l[j].1.toNat < U.length := by omega
  have hkS : l[j].1.toNat < S.length := by omega
  have hka : l[j].1.toNat < at'.length := by omega
  have eW : U.getD l[j].1.toNat [] = U[l[j].1.toNat] := by rw [List.getD_eq_getElem?_getD,List.getElem?_eq_getElem hkW];rfl
  have eS : S.getD l[j].1.toNat [] = S[l[j].1.toNat] := by rw [List.getD_eq_getElem?_getD,List.getElem?_eq_getElem hkS];rfl
  have eA : at'.getD l[j].1.toNat pz0 = at'[l[j].1.toNat] := by rw [List.getD_eq_getElem?_getD,List.getElem?_eq_getElem hka];rfl
  rw [eW,eS,eA] at e1
  have hw := hWb _ (List.getElem_mem hkW)
  have hs := hSb _ (List.getElem_mem hkS)
  (repeat' (first
   |(apply yFb;exact rfl;exact rfl)
   |(apply W.qd;(first
   |(exact zM)|(exact zN)|(exact jAr)|(exact jAk)|(exact jAj)|(exact q_geq rfl rfl)|(exact jBc)|(exact jAy)|(exact jA)
   |(apply (yDb (u := .d _));exact rfl;exact rfl)))|(apply W.ed;(exact jAo))|(apply W.ln;(exact jAh))|(apply yA)|(apply yB)|(apply (W.regionS 9);exact rfl;kernel_rfl)|(apply yE)|(apply yG)|(apply yH)|(refine W.gF _ _ rfl rfl (fun hb => ?_) (fun hb => ?_) <;> ((try simp only [hb,zK]) <;> (try simp only [zL,zI] at hb) <;> (try (exfalso;omega))))
   |(refine W.cond _ rfl (fun hb => ?_) (fun hb => ?_) <;> ((try simp only [hb,zK]) <;> (try simp only [zL,zI] at hb) <;> (try (exfalso;omega))))))
  all_goals try (exfalso;omega)
  by_cases k0 : l[j].2.1 = 0
  ·rw [if_pos k0] at e1
   (repeat' (first
    |(apply W.qd;(first
    |(exact zM)|(exact zN)|(exact jB)|(exact jAi)
    |(exact jAb)))|(apply W.ln;(exact jAg))|(apply yB)|(refine jAd ?_)|(apply yE)|(apply yL)
    |(refine W.cond _ rfl (fun hb => ?_) (fun hb => ?_) <;> ((try simp only [hb,zK]) <;> (try simp only [zL,zI] at hb) <;> (try (exfalso;omega))))))
   all_goals first
    |(exfalso;omega)|(refine ⟨j + 1,by omega,by omega,?_⟩;(try dsimp only);rw [e1];exact ⟨[0,1,2,3],rfl,rfl,rfl,iV_eq (by omega),rfl,rfl,rfl,rfl,rfl,rfl,rfl,rfl,trivial⟩)
  rw [if_neg k0] at e1
  by_cases k1 : l[j].2.1 = 1
  ·rw [if_pos k1] at e1
   have hc := A_rseal (p := at'[l[j].1.toNat]) (g := l[j].2.2.2.1) hw.1 hw.2
   generalize sealN at'[l[j].1.toNat] l[j].2.2.2.1 U[l[j].1.toNat] = q at *
   obtain ⟨y,z⟩ := q
   dsimp only at e1 hc
   by_cases hz : z = 0
   ·rw [if_pos hz] at e1
    (repeat' (first
     |(apply W.qd;(first
     |(exact zW (hc))|(exact zM)|(exact zN)|(exact jAr)|(exact jAm)|(exact jB)|(exact jAi)|(exact jBa)|(exact jAe)|(exact jAy)|(exact jA)
     |(exact jAb)))|(apply W.ln;(exact jAg))|(apply yA)|(apply yB)|(refine jAd ?_)|(refine jAs ?_)|(apply yE)|(refine jBb ?_)|(apply yL)
     |(refine W.cond _ rfl (fun hb => ?_) (fun hb => ?_) <;> ((try simp only [hb,zK]) <;> (try simp only [zL,zI] at hb) <;> (try (exfalso;omega))))))
    all_goals first
     |(exfalso;omega)|(refine ⟨j + 1,by omega,by omega,?_⟩;(try dsimp only);rw [e1];exact ⟨[0,1,2,3],rfl,rfl,rfl,iV_eq (by omega),rfl,rfl,rfl,rfl,rfl,rfl,rfl,rfl,trivial⟩)
   ·rw [if_neg hz] at e1
    (repeat' (first
     |(apply W.qd;(first
     |(exact zW (hc))|(exact zM)|(exact zN)|(exact jAr)|(exact jAm)|(exact jB)|(exact jAi)|(exact jBa)|(exact jAe)|(exact jAy)
     |(exact jA)))|(apply yA)|(apply yB)|(refine jAd ?_)|(refine jAs ?_)|(apply yE)|(refine jBb ?_)|(apply yH)|(apply yL)
     |(refine W.cond _ rfl (fun hb => ?_) (fun hb => ?_) <;> ((try simp only [hb,zK]) <;> (try simp only [zL,zI] at hb) <;> (try (exfalso;omega))))))
    all_goals first
     |(exfalso;omega)|(refine ⟨j + 1,by omega,by omega,?_⟩;(try dsimp only);rw [e1];exact ⟨[0,1,2,3],rfl,rfl,rfl,iV_eq (by omega),rfl,rfl,rfl,rfl,rfl,rfl,rfl,rfl,trivial⟩)
  rw [if_neg k1] at e1
  by_cases k2 : l[j].2.1 = 2
  ·rw [if_pos k2] at e1
   have hc := A_rseal (p := l[j].2.2.1) (g := g) hw.1 hw.2
   generalize sealN l[j].2.2.1 g U[l[j].1.toNat] = q at *
   obtain ⟨y,z⟩ := q
   dsimp only at e1 hc
   by_cases hz : z = 0
   ·rw [if_pos hz] at e1
    (repeat' (first
     |(apply W.qd;(first
     |(exact zW (hc))|(exact zM)|(exact zN)|(exact jAr)|(exact jAm)|(exact jB)|(exact jAi)|(exact jBa)|(exact jAe)|(exact jA)
     |(exact jAb)))|(apply W.ln;(exact jAg))|(apply yA)|(apply yB)|(refine jAd ?_)|(refine jAs ?_)|(apply yE)|(refine jBb ?_)|(apply yL)
     |(refine W.cond _ rfl (fun hb => ?_) (fun hb => ?_) <;> ((try simp only [hb,zK]) <;> (try simp only [zL,zI] at hb) <;> (try (exfalso;omega))))))
    all_goals first
     |(exfalso;omega)|(refine ⟨j + 1,by omega,by omega,?_⟩;(try dsimp only);rw [e1];exact ⟨[0,1,2,3],rfl,rfl,rfl,iV_eq (by omega),rfl,rfl,rfl,rfl,rfl,rfl,rfl,rfl,trivial⟩)
   ·rw [if_neg hz] at e1
    (repeat' (first
     |(apply W.qd;(first
     |(exact zW (hc))|(exact zM)|(exact zN)|(exact jAr)|(exact jAm)|(exact jB)|(exact jAi)|(exact jBa)|(exact jAe)
     |(exact jA)))|(apply yA)|(apply yB)|(refine jAd ?_)|(refine jAs ?_)|(apply yE)|(refine jBb ?_)|(apply yH)|(apply yL)
     |(refine W.cond _ rfl (fun hb => ?_) (fun hb => ?_) <;> ((try simp only [hb,zK]) <;> (try simp only [zL,zI] at hb) <;> (try (exfalso;omega))))))
    all_goals first
     |(exfalso;omega)|(refine ⟨j + 1,by omega,by omega,?_⟩;(try dsimp only);rw [e1];exact ⟨[0,1,2,3],rfl,rfl,rfl,iV_eq (by omega),rfl,rfl,rfl,rfl,rfl,rfl,rfl,rfl,trivial⟩)
  rw [if_neg k2] at e1
  by_cases k3 : l[j].2.1 = 3
  ·rw [if_pos k3] at e1
   by_cases hz : S[l[j].1.toNat].length = 64 ∧ 0 ≤ l[j].2.2.2.2.1 ∧ l[j].2.2.2.2.1 < 64
   ·rw [if_pos hz] at e1
    have hb1 : l[j].2.2.2.2.1.toNat < S[l[j].1.toNat].length := by omega
    have hset := xor_cells _ _ hb1
    have hgb : (S[l[j].1.toNat].map cB)[l[j].2.2.2.2.1.toNat]? = some (cB S[l[j].1.toNat][l[j].2.2.2.2.1.toNat]) := by rw [List.getElem?_map,List.getElem?_eq_getElem hb1];rfl
    have h256 : S[l[j].1.toNat][l[j].2.2.2.2.1.toNat] < 256 := hs.1 _ (List.getElem_mem hb1)
    have hxl := xorB_len S[l[j].1.toNat] l[j].2.2.2.2.1.toNat
    have hxb := xorB_isB (i := l[j].2.2.2.2.1.toNat) hs.1
    have hlt : l[j].2.2.2.2.1.toNat < (S[l[j].1.toNat].map cB).length := by rw [List.length_map];exact hb1
    (repeat' (first
     |(apply yFb;exact rfl;exact rfl)
     |(apply W.qd;(first
     |((apply q_mv;exact Eq.refl (AV.bsl _ _ _)))
     |((apply q_as;exact Eq.refl (AV.bsl _ _ _)))
     |((exact q_len_bsl rfl rfl))
     |((apply (q_ix_bsl (j := l[j].2.2.2.2.1.toNat));(iterate 3 exact rfl);omega;omega))
     |((apply yT;(iterate 3 exact rfl);exact hgb))
     |((apply (q_xorU (xn := S[l[j].1.toNat][l[j].2.2.2.2.1.toNat]) (yn := 5) (v := S[l[j].1.toNat][l[j].2.2.2.2.1.toNat] ^^^ 5));(iterate 5 exact rfl);exact h256;decide;exact rfl))
     |((apply q_str_bsl;(iterate 4 exact rfl);exact hxl.symm;exact hxb))|(exact zM)|(exact zN)|(exact jAr)|(exact jAk)|(exact jAj)|(exact q_geq rfl rfl)|(exact jB)|(exact jAi)|(apply (yEb (u := .d _));exact rfl;exact rfl)|(exact jAb)
     |(exact jAn)))|(apply W.ed;((apply e_bytesB;(iterate 3 exact rfl);exact hs.1;exact hs.2;exact rfl;exact rfl)))|(apply W.ln;(exact jAg))|(apply W.en;((apply e_stS;(iterate 4 exact rfl);exact congrArg (fun c => [_,_,_,_,_,Ent.box c]) hset;(iterate 3 exact rfl);exact hlt)))|(apply yA)|(apply yB)|(refine jAd ?_)|(apply yE)|(apply yL)|(refine W.gT _ _ rfl rfl (fun hb => ?_) (fun hb => ?_) <;> ((try simp only [hb,zK]) <;> (try simp only [zL,zI] at hb) <;> (try (exfalso;omega))))
     |(refine W.cond _ rfl (fun hb => ?_) (fun hb => ?_) <;> ((try simp only [hb,zK]) <;> (try simp only [zL,zI] at hb) <;> (try (exfalso;omega))))))
    all_goals first
     |(exfalso;omega)|(refine ⟨j + 1,by omega,by omega,?_⟩;(try dsimp only);rw [e1];exact ⟨[0,1,2,3],rfl,rfl,rfl,iV_eq (by omega),rfl,rfl,rfl,rfl,rfl,rfl,rfl,rfl,trivial⟩)
   ·rw [if_neg hz] at e1
    (repeat' (first
     |(apply yFb;exact rfl;exact rfl)
     |(apply W.qd;(first
     |((apply q_mv;exact Eq.refl (AV.bsl _ _ _)))
     |((apply q_as;exact Eq.refl (AV.bsl _ _ _)))
     |((exact q_len_bsl rfl rfl))|(exact zM)|(exact zN)|(exact jAr)|(exact jAk)|(exact jAj)|(exact q_geq rfl rfl)|(exact jB)|(exact jAi)|(apply (yEb (u := .d _));exact rfl;exact rfl)|(apply (yDb (u := .d _));exact rfl;exact rfl)|(exact jAb)
     |(exact jAn)))|(apply W.ed;((apply e_bytesB;(iterate 3 exact rfl);exact hs.1;exact hs.2;exact rfl;exact rfl)))|(refine W.gOff _ _ rfl rfl (by intro h;cases h) ?_)|(apply yA)|(apply yB)|(refine jAd ?_)|(apply yE)|(apply yH)|(apply yL)|(refine jAx ?_)|(refine W.gT _ _ rfl rfl (fun hb => ?_) (fun hb => ?_) <;> ((try simp only [hb,zK]) <;> (try simp only [zL,zI] at hb) <;> (try (exfalso;omega))))
     |(refine W.cond _ rfl (fun hb => ?_) (fun hb => ?_) <;> ((try simp only [hb,zK]) <;> (try simp only [zL,zI] at hb) <;> (try (exfalso;omega))))))
    all_goals first
     |(exfalso;omega)|(refine ⟨j + 1,by omega,by omega,?_⟩;(try dsimp only);rw [e1];exact ⟨[0,1,2,3],rfl,rfl,rfl,iV_eq (by omega),rfl,rfl,rfl,rfl,rfl,rfl,rfl,rfl,trivial⟩)
  rw [if_neg k3] at e1
  (repeat' (first
   |(apply W.qd;(first
   |(exact zM)|(exact zN)|(exact jAr)|(exact jAk)|(exact jB)|(exact jAi)
   |(exact jAb)))|(apply W.ln;(exact jAg))|(apply yA)|(apply yB)|(refine jAd ?_)|(apply yE)|(apply yL)
   |(refine W.cond _ rfl (fun hb => ?_) (fun hb => ?_) <;> ((try simp only [hb,zK]) <;> (try simp only [zL,zI] at hb) <;> (try (exfalso;omega))))))
  all_goals first
   |(exfalso;omega)|(refine ⟨j + 1,by omega,by omega,?_⟩;(try dsimp only);rw [e1];exact ⟨[0,1,2,3],rfl,rfl,rfl,iV_eq (by omega),rfl,rfl,rfl,rfl,rfl,rfl,rfl,rfl,trivial⟩)
 ·obtain rfl : j = l.length := by omega
  rw [List.take_length]
  have hok := hurN_ok (at' := at') (g := g) (W := U) (fun u hu => (hWb u hu).1) hx hl
  generalize hurN at' g U l x = X at *
  obtain ⟨S,R⟩ := X
  obtain ⟨hS,hR,hSb⟩ := hok
  dsimp only at hS hR hSb
  clear hall
  obtain ⟨_,_,m3⟩ := sta_maps at' g S R n
  have hst := fun k (hk : k < S.length) (ha : k < at'.length) (hr : k < R.length) => A_rstate (p := at'[k]) (g := g) (s := S[k]) (r := R[k]) (hSb _ (List.getElem_mem hk)).1 (hSb _ (List.getElem_mem hk)).2
  generalize hfH : (fun k => decide ((staN (at'.getD k pz0) g (S.getD k []) (R.getD k false)).1 = 1)) = fH at *
  have eH : ∀ k (hk : k < S.length) (ha : k < at'.length) (hr : k < R.length),fH k = decide ((staN at'[k] g S[k] R[k]).1 = 1) := fun k hk ha hr => by
   rw [← hfH]
   simp only [List.getD_eq_getElem?_getD,List.getElem?_eq_getElem hk,List.getElem?_eq_getElem ha,List.getElem?_eq_getElem hr,Option.getD_some]
  clear hfH
  (repeat' (first
   |(apply W.qd;(first
   |(exact zM)|(exact jAj)
   |(exact q_len_osl rfl rfl rfl)))|(apply yA)|(apply yB)|(apply (W.regionS 26);exact rfl;kernel_rfl)|(apply yE)|(apply yG)|(apply yI)|(apply yK)|(apply yM)
   |(refine W.cond _ rfl (fun hb => ?_) (fun hb => ?_) <;> ((try simp only [hb,zK]) <;> (try simp only [zL,zI] at hb) <;> (try (exfalso;omega))))))
  all_goals try (exfalso;omega)
  refine AWP.loopW (α := Nat) (fun k => k ≤ n) (fun k => ⟨[(132,iV k),(131,iV n),(0,pcs at'),(3,.osl 0 v1 0 n),(4,.osl 1 v2 0 n),(7,.opt 2 0),(13,.osl 3 0 0 n)],[.row v1 1 9 (S.map sD),.row v2 1 4 (R.map tD),.box [iV g.1,iV g.2],.row 0 1 4 ((fil fH true n k).map tD)]⟩) (fun k => n - k) 0 (Nat.zero_le _) ?wkB fun k hk => ?_
  case wkB =>
   rw [fil_zero]
   exact ⟨[0,1,2,3],rfl,rfl,rfl,rfl,iV_eq (by omega),rfl,rfl,rfl,rfl,rfl,trivial⟩
  by_cases hkl : k < n
  ·have hkS : k < S.length := by omega
   have hka : k < at'.length := by omega
   have hkR : k < R.length := by omega
   have hs := hst k hkS hka hkR
   have e3 := eH k hkS hka hkR
   have s3 := fil_set (f := fH) (z := true) hkl
   have l3 := fil_len (f := fH) (z := true) (n := n) k
   rw [e3] at s3
   generalize staN at'[k] g S[k] R[k] = q at *
   obtain ⟨y,z⟩ := q
   dsimp only at *
   clear hst eH m3
   generalize fil fH true n k = H1 at *
   (repeat' (first
    |(apply W.qd;(first
    |(exact zW (hs))|(exact zM)|(exact zN)|(exact jAm)|(exact jAj)|(exact jB)|(exact jAi)|(exact jBa)|(exact jAy)|(exact jA)|(exact jAb)
    |(exact jAn)))|(apply W.ln;(exact jAg))|(apply yA)|(apply yB)|(refine jAd ?_)|(refine jAs ?_)|(apply yE)|(refine jBb ?_)|(apply yG)|(apply yH)|(apply yL)
    |(refine W.cond _ rfl (fun hb => ?_) (fun hb => ?_) <;> ((try simp only [hb,zK]) <;> (try simp only [zL,zI] at hb) <;> (try (exfalso;omega))))))
   all_goals first
    |(exfalso;omega)|(refine ⟨k + 1,by omega,by omega,?_⟩;(try dsimp only);rw [← s3];exact ⟨[0,1,2,3],rfl,rfl,rfl,iV_eq (by omega),rfl,rfl,rfl,rfl,rfl,rfl,trivial⟩)
  ·obtain rfl : k = n := by omega
   rw [fil_all,m3]
   (repeat' (first
    |(apply W.qd;(first
    |(exact zM)|(exact zN)
    |(exact jAj)))|(apply yA)|(apply yB)|(refine jAd ?_)|(apply yE)|(apply yI)|(apply yJ)|(apply yK)|(apply yM)
    |(refine W.cond _ rfl (fun hb => ?_) (fun hb => ?_) <;> ((try simp only [hb,zK]) <;> (try simp only [zL,zI] at hb) <;> (try (exfalso;omega))))))
   all_goals first
    |(exfalso;omega)
    |exact ⟨.inl rfl,[0,1,3],[.osl 3 0 0 k],rfl,rfl,⟨rfl,trivial⟩,AVle.of_eq rfl,rfl⟩
theorem A_truth {at' : List Pl} {g : Gn} {U S : List (List Nat)} {H : List Bool} {n : Nat} (hn : n ≤ 1000) (ha : at'.length = n) (hWl : U.length = n) (hSl : S.length = n) (hHl : H.length = n) (hWb : ∀ u ∈ U,isB u) (hSb : ∀ s ∈ S,isB s ∧ s.length ≤ 9223372036854775807) : ACalls Tryz.prog 48 [pcs at',gnA g,strs U,strs S,bools H] [] (bV (truT at' g U S H n)) [] := by
 refine acalls_of_body Tryz.func48 rfl (zU rfl) ?_
 have hma : (at'.map pcD).length = at'.length := List.length_map _
 have hmW : (U.map sD).length = U.length := List.length_map _
 have hmS : (S.map sD).length = S.length := List.length_map _
 have hmH : (H.map tD).length = H.length := List.length_map _
 (repeat' (first
  |(apply W.qd;(first
  |(exact zM)|(exact zN)
  |(exact jBc)))|(apply W.ed;(exact jAc))|(apply yA)|(apply yB)|(apply (W.regionS 2);exact rfl;kernel_rfl)|(apply yE)
  |(apply yG)))
 refine AWP.loopW (α := Nat) (fun k => k ≤ n ∧ truT at' g U S H k = true) (fun k => ⟨[(16,iV k),(15,iV n),(0,pcs at'),(2,strs U),(3,strs S),(4,bools H),(6,.opt 0 0)],[.box [iV g.1,iV g.2]]⟩) (fun k => n - k) 0 ⟨Nat.zero_le _,rfl⟩ ?wkA fun k hk => ?_
 case wkA =>
  exact ⟨[0],rfl,rfl,rfl,rfl,iV_eq (by omega),rfl,rfl,rfl,rfl,rfl,trivial⟩
 obtain ⟨hk,hkt⟩ := hk
 by_cases hkl : k < n
 ·have hkS : k < S.length := by omega
  have hka : k < at'.length := by omega
  have hkW : k < U.length := by omega
  have hkH : k < H.length := by omega
  have hs := A_rstate (p := at'[k]) (g := g) (s := S[k]) (r := H[k]) (hSb _ (List.getElem_mem hkS)).1 (hSb _ (List.getElem_mem hkS)).2
  have ht := truT_succ at' g U S H k
  rw [hkt,Bool.true_and] at ht
  simp only [List.getD_eq_getElem?_getD,List.getElem?_eq_getElem hkS,List.getElem?_eq_getElem hka,List.getElem?_eq_getElem hkW,List.getElem?_eq_getElem hkH,Option.getD_some] at ht
  have hi1 : isB (staN at'[k] g S[k] H[k]).2 := staN_isB (hSb _ (List.getElem_mem hkS)).1
  have hi2 := hWb _ (List.getElem_mem hkW)
  generalize staN at'[k] g S[k] H[k] = q at *
  obtain ⟨y,z⟩ := q
  dsimp only at hs ht hi1
  have hm := fun (h : truT at' g U S H (k + 1) = false) => truT_mono h n (by omega)
  cases hHk : H[k] with
  | false =>
    rw [hHk] at ht
    (repeat' (first
     |(apply yFb;exact rfl;exact rfl)
     |(apply W.qd;(first
     |(exact zW (hs))|(exact zM)|(exact zN)|(exact jAm)|(exact jAj)|(exact jAi)|(exact jBa)|(exact jAe)|(exact jAy)|(exact jA)|(apply (yEb (u := .d _));exact rfl;exact rfl)|(apply (yDb (u := .d _));exact rfl;exact rfl)
     |(exact jAv)))|(refine W.gOff _ _ rfl rfl (by intro h;cases h) ?_)|(apply yA)|(apply yB)|(refine jAd ?_)|(refine jAs ?_)|(apply yE)|(refine jBb ?_)|(apply yG)|(apply yH)|(apply yJ)|(apply yP)|(apply yL)|(apply yN)|(refine jAx ?_)|(refine W.gT _ _ rfl rfl (fun hb => ?_) (fun hb => ?_) <;> ((try simp only [hb,zK]) <;> (try simp only [zL,zI] at hb) <;> (try (exfalso;omega))))
     |(refine W.cond _ rfl (fun hb => ?_) (fun hb => ?_) <;> ((try simp only [hb,zK]) <;> (try simp only [zL,zI] at hb) <;> (try (exfalso;omega))))))
    (all_goals (try (exfalso;exact absurd ((‹H[k] = true› : H[k] = true).symm.trans (‹H[k] = false› : H[k] = false)) (by decide))))
    all_goals first
     |(exfalso;omega)|(refine ⟨k + 1,⟨by omega,ht⟩,by omega,?_⟩;exact ⟨[0],rfl,rfl,rfl,iV_eq (by omega),rfl,rfl,rfl,rfl,rfl,rfl,trivial⟩)
  | true =>
    rw [hHk,Bool.true_and] at ht
    by_cases hz : z = U[k]
    ·rw [decide_eq_true hz] at ht
     (repeat' (first
      |(apply yFb;exact rfl;exact rfl)
      |(apply W.qd;(first
      |(exact zW (hs))|(exact zM)|(exact zN)|(exact jAm)|(exact jAj)|(exact jAi)|(exact jBa)|(exact jAe)|(exact jAy)|(exact jA)|(apply (yEb (u := .d _));exact rfl;exact rfl)|(apply (yDb (u := .d _));exact rfl;exact rfl)
      |(exact jAv)))|(refine W.gOff _ _ rfl rfl (by intro h;cases h) ?_)|(apply yA)|(apply yB)|(refine jAd ?_)|(refine jAs ?_)|(apply yE)|(refine jBb ?_)|(apply yG)|(apply yH)|(apply yJ)|(apply yP)|(apply yL)|(apply yN)|(refine jAx ?_)|(refine W.gT _ _ rfl rfl (fun hb => ?_) (fun hb => ?_) <;> ((try simp only [hb,zK]) <;> (try simp only [zL,zI] at hb) <;> (try (exfalso;omega))))
      |(refine W.cond _ rfl (fun hb => ?_) (fun hb => ?_) <;> ((try simp only [hb,zK]) <;> (try simp only [zL,zI] at hb) <;> (try (exfalso;omega))))))
     (all_goals (try (exfalso;exact absurd ((‹H[k] = true› : H[k] = true).symm.trans (‹H[k] = false› : H[k] = false)) (by decide))))
     all_goals (try exact absurd hz ‹_›)
     all_goals first
      |(exfalso;omega)|(refine ⟨k + 1,⟨by omega,ht⟩,by omega,?_⟩;exact ⟨[0],rfl,rfl,rfl,iV_eq (by omega),rfl,rfl,rfl,rfl,rfl,rfl,trivial⟩)
    ·rw [decide_eq_false hz] at ht
     have hf := hm ht
     (repeat' (first
      |(apply yFb;exact rfl;exact rfl)
      |(apply W.qd;(first
      |(exact zW (hs))|(exact zM)|(exact zN)|(exact jAm)|(exact jAj)|(exact jAi)|(exact jBa)|(exact jAe)|(exact jAy)|(exact jA)|(apply (yEb (u := .d _));exact rfl;exact rfl)|(apply (yDb (u := .d _));exact rfl;exact rfl)
      |(exact jAv)))|(refine W.gOff _ _ rfl rfl (by intro h;cases h) ?_)|(apply yA)|(apply yB)|(refine jAd ?_)|(refine jAs ?_)|(apply yE)|(refine jBb ?_)|(apply yG)|(apply yH)|(apply yJ)|(apply yP)|(apply yL)|(apply yN)|(refine jAx ?_)|(refine W.gT _ _ rfl rfl (fun hb => ?_) (fun hb => ?_) <;> ((try simp only [hb,zK]) <;> (try simp only [zL,zI] at hb) <;> (try (exfalso;omega))))
      |(refine W.cond _ rfl (fun hb => ?_) (fun hb => ?_) <;> ((try simp only [hb,zK]) <;> (try simp only [zL,zI] at hb) <;> (try (exfalso;omega))))))
     (all_goals (try (exfalso;exact absurd ((‹H[k] = true› : H[k] = true).symm.trans (‹H[k] = false› : H[k] = false)) (by decide))))
     all_goals (try exact absurd ‹_› hz)
     all_goals first
      |(exfalso;omega)
      |exact Ends.b rfl hf.symm
 ·obtain rfl : k = n := by omega
  (repeat' (first
   |(apply W.qd;(first
   |(exact zN)
   |(exact jAj)))|(apply yA)|(apply yB)|(refine jAd ?_)|(apply yE)|(apply yI)|(apply yJ)|(apply yK)|(apply yM)
   |(refine W.cond _ rfl (fun hb => ?_) (fun hb => ?_) <;> ((try simp only [hb,zK]) <;> (try simp only [zL,zI] at hb) <;> (try (exfalso;omega))))))
  all_goals first
   |(exfalso;omega)
   |exact Ends.b rfl hkt.symm
end
section
def wrF (x : Sr2) (L : List Fx) : Sr2 := L.foldl (fun x f => (x.1.set f.1 f.2,x.2.set f.1 true)) x
theorem wrF_take {x : Sr2} {L : List Fx} {k : Nat} (hk : k < L.length) : wrF x (L.take (k + 1)) = ((wrF x (L.take k)).1.set L[k].1 L[k].2,(wrF x (L.take k)).2.set L[k].1 true) := by
 unfold wrF
 rw [List.take_succ_eq_append_getElem hk,List.foldl_append];rfl
theorem wrF_len : ∀ (L : List Fx) (x : Sr2), (wrF x L).1.length = x.1.length ∧ (wrF x L).2.length = x.2.length
 | [],_ => ⟨rfl,rfl⟩
 | f :: L,x => by
   obtain ⟨h1,h2⟩ := wrF_len L (x.1.set f.1 f.2,x.2.set f.1 true)
   rw [List.length_set] at h1 h2
   exact ⟨h1,h2⟩
theorem wrF_get (F : Nat → List Nat) {j : Nat} : ∀ (L : List Nat) (x : Sr2), j < x.1.length → j < x.2.length → (wrF x (L.map fun i => (i, F i))).1.getD j [] = (if j ∈ L then F j else x.1.getD j []) ∧ (wrF x (L.map fun i => (i, F i))).2.getD j false = (if j ∈ L then true else x.2.getD j false)
 | [],_,_,_ => by simp [wrF]
 | i :: L,x,h1,h2 => by
   obtain ⟨a1,a2⟩ := wrF_get F (j := j) L (x.1.set i (F i),x.2.set i true) (by rw [List.length_set];exact h1) (by rw [List.length_set];exact h2)
   have e : wrF x ((i :: L).map fun i => (i,F i)) = wrF (x.1.set i (F i),x.2.set i true) (L.map fun i => (i,F i)) := rfl
   rw [e,a1,a2]
   by_cases hj : j ∈ L
   ·simp [hj]
   ·by_cases hi : j = i
    ·subst hi
     simp [hj,h1,h2,List.getD_eq_getElem?_getD]
    ·simp [hj,hi,List.getD_eq_getElem?_getD,List.getElem?_set_ne (fun e => hi e.symm)]
theorem wrF_ok {n : Nat} {x : Sr2} (hx : SrOk n x) : ∀ {L : List Fx},(∀ f ∈ L,isB f.2 ∧ f.2.length ≤ 9223372036854775807) → SrOk n (wrF x L) := fun {L} hL => by
 induction L generalizing x with
 | nil => exact hx
 | cons f L ih =>
   refine ih ⟨by rw [List.length_set];exact hx.s,by rw [List.length_set];exact hx.r,fun s hs => ?_⟩ fun f hf => hL f (by simp [hf])
   exact (List.mem_or_eq_of_mem_set hs).elim (hx.b s) fun e => e ▸ hL f (by simp)
section
variable {M D : Nat} {ps ds : List (List Nat)} {at' : List Pl} {g : Gn} {x : Sr2}
def fixW (M D : Nat) (ps ds : List (List Nat)) (at' : List Pl) (g : Gn) (x : Sr2) : List Fx := fixL at' g (1,stS (staL at' g x.1 x.2 (D + ps.length)),encN M ps ds,-1) (D + ps.length)
theorem fixW_mem {f : Fx} (hf : f ∈ fixW M D ps ds at' g x) : f.1 < D + ps.length ∧ (gdN at' g x (D + ps.length)).getD f.1 false = false ∧ f.2 = sealL (at'.getD f.1 pz0) g ((encN M ps ds).getD f.1 []) := by
 unfold fixW fixL at hf
 obtain ⟨j,hj,rfl⟩ := List.mem_map.1 hf
 unfold fixT at hj
 obtain ⟨h1,h2⟩ := List.mem_filter.1 hj
 have h1 := List.mem_range.1 h1
 refine ⟨h1,?_,rfl⟩
 rw [Bool.eq_false_iff]
 intro hc
 obtain ⟨_,h4⟩ := stH_iff.1 hc
 rw [stS_getD h1,h4] at h2
 exact absurd h2 (by decide)
theorem wr_good (hb : ∀ u ∈ encN M ps ds, isB u) (hB : slB at' g (encN M ps ds) (D + ps.length) = true) (hx : SrOk (D + ps.length) x)
 (ht : truT at' g (encN M ps ds) x.1 (gdN at' g x (D + ps.length)) (D + ps.length) = true) : staL at' g (wrF x (fixW M D ps ds at' g x)).1 (wrF x (fixW M D ps ds at' g x)).2 (D + ps.length) = (List.range (D + ps.length)).map fun k => ((1 : Int),(encN M ps ds).getD k []) := by
 unfold staL
 apply List.map_congr_left
 intro k hk
 have hk := List.mem_range.1 hk
 obtain ⟨h1,h2⟩ := slB_get hB hk
 obtain ⟨p1,p2,p3,_⟩ := sealN_ok h1
 have he := wrF_get (fun j => sealL (at'.getD j pz0) g ((encN M ps ds).getD j [])) (j := k) (fixT (stS (staL at' g x.1 x.2 (D + ps.length))) (D + ps.length)) x (by rw [hx.s];exact hk) (by rw [hx.r];exact hk)
 have e2 : fixW M D ps ds at' g x = (fixT (stS (staL at' g x.1 x.2 (D + ps.length))) (D + ps.length)).map fun j => (j,sealL (at'.getD j pz0) g ((encN M ps ds).getD j [])) := rfl
 rw [e2,he.1,he.2]
 by_cases hm : k ∈ fixT (stS (staL at' g x.1 x.2 (D + ps.length))) (D + ps.length)
 ·rw [if_pos hm, if_pos hm]
  exact seal_state p1 p2 (isB_getDL hb k) p3 h2
 ·rw [if_neg hm, if_neg hm]
  have hg : (staN (at'.getD k pz0) g (x.1.getD k []) (x.2.getD k false)).1 = 1 := Classical.byContradiction fun hn => hm (by
   unfold fixT
   refine List.mem_filter.2 ⟨List.mem_range.2 hk,?_⟩
   rw [stS_getD hk,decide_eq_false hn];rfl)
  have hh : (gdN at' g x (D + ps.length)).getD k false = true := stH_iff.2 ⟨hk,hg⟩
  have h4 := tru_agree ht hh
  rw [stU_getD hk] at h4
  exact Prod.ext hg h4
end
end
section
theorem frz_repQ1 {own : List Ent} {n : Nat} {e : TypeId} {l : List Int} {a b c : Int} {y : Dat} (h : own[5]? = some (.row 0 1 e (l.map iD))) (hn : n = l.length) : AV.frz own [0,1] (.tup [.agg [iV a,.osl 5 0 0 n,.d y,iV b],iV c]) = .tup [.agg [iV a,ints l,.d y,iV b],iV c] := by
 show AV.tup [.agg [iV a,AV.frz own [0,1] (.osl 5 0 0 n),.d y,iV b],iV c] = _
 rw [frz_rowJ h rfl (by rw [List.length_map];exact hn)]
theorem frz_repQ2 {own : List Ent} {n : Nat} {e e' : TypeId} {l : List Int} {q : List (List Nat)} {a b c : Int} (h : own[5]? = some (.row 0 1 e (l.map iD))) (hn : n = l.length) (h' : own[6]? = some (.row 0 1 e' (q.map sD))) (hn' : n = q.length) : AV.frz own [0,1] (.tup [.agg [iV a,.osl 5 0 0 n,.osl 6 0 0 n,iV b],iV c]) = .tup [.agg [iV a,ints l,strs q,iV b],iV c] := by
 show AV.tup [.agg [iV a,AV.frz own [0,1] (.osl 5 0 0 n),AV.frz own [0,1] (.osl 6 0 0 n),iV b],iV c] = _
 rw [frz_rowJ h rfl (by rw [List.length_map];exact hn),frz_rowJ h' rfl (by rw [List.length_map];exact hn')]
attribute [local irreducible] Quiet Eff OpOk AWPG ACont ABlock ACalls AGoto
theorem A_checkQ {M D : Nat} {ps : List (List Nat)} {at' : List Pl} {g : Gn} {ss : List (List Nat)} {rd : List Bool} {v v2 : Nat} (h : CodeOk M D ps) (ha : at'.length = D + ps.length) (hs : ss.length = D + ps.length) (hr : rd.length = D + ps.length) (hsb : ∀ s ∈ ss,isB s ∧ s.length ≤ 9223372036854775807) : ACalls Tryz.prog 38 [cdN M D ps,pcs at',gnA g,.osl 0 v 0 ss.length,.osl 1 v2 0 rd.length] [.row v 1 9 (ss.map sD),.row v2 1 4 (rd.map tD)] (.tup [rpA (rpN M D ps at' g ss rd),iV 0]) [.row v 1 9 (ss.map sD),.row v2 1 4 (rd.map tD)] := by
 refine acalls_of_bodyO Tryz.func38 rfl (zU rfl) ?_
 have h1 := h.d
 have h2 := h.w
 have hma : (at'.map pcD).length = at'.length := List.length_map _
 have hms : (ss.map sD).length = ss.length := List.length_map _
 have hmr : (rd.map tD).length = rd.length := List.length_map _
 have hw := A_ewidthN h
 have hsrc := sta_src (at' := at') (g := g) (rd := rd) h (fun s hx => (hsb s hx).1)
 have hhl := hsrc.hl
 have f1 := A_locate hsrc
 have f2 := A_correct hsrc
 have f3 := fun u (hu : u < D + ps.length) => A_erecS hsrc (u := u) hu
 have hlc := loc_cases M D ps (stU (staL at' g ss rd (D + ps.length))) (stH (staL at' g ss rd (D + ps.length)))
 obtain ⟨m1,m2,m3⟩ := sta_maps at' g ss rd (D + ps.length)
 have hSl : (stS (staL at' g ss rd (D + ps.length))).length = D + ps.length := by unfold stS;rw [List.length_map,staL_length]
 unfold rpN repU
 generalize stU (staL at' g ss rd (D + ps.length)) = U at *
 generalize stS (staL at' g ss rd (D + ps.length)) = S at *
 generalize stH (staL at' g ss rd (D + ps.length)) = H at *
 have hstt := fun k (hk : k < ss.length) (ha : k < at'.length) (hr : k < rd.length) => A_state (p := at'[k]) (g := g) (s := ss[k]) (r := rd[k]) (hsb _ (List.getElem_mem hk)).1 (hsb _ (List.getElem_mem hk)).2
 have hga : ∀ k (hk : k < at'.length),at'.getD k pz0 = at'[k] := fun k hk => by rw [List.getD_eq_getElem?_getD,List.getElem?_eq_getElem hk];rfl
 have hgs : ∀ k (hk : k < ss.length),ss.getD k [] = ss[k] := fun k hk => by rw [List.getD_eq_getElem?_getD,List.getElem?_eq_getElem hk];rfl
 have hgr : ∀ k (hk : k < rd.length),rd.getD k false = rd[k] := fun k hk => by rw [List.getD_eq_getElem?_getD,List.getElem?_eq_getElem hk];rfl
 generalize hfS : (fun k => (staN (at'.getD k pz0) g (ss.getD k []) (rd.getD k false)).1) = fS at *
 generalize hfU : (fun k => (staN (at'.getD k pz0) g (ss.getD k []) (rd.getD k false)).2) = fU at *
 generalize hfH : (fun k => decide ((staN (at'.getD k pz0) g (ss.getD k []) (rd.getD k false)).1 = 1)) = fH at *
 have eS : ∀ k (hk : k < ss.length) (ha : k < at'.length) (hr : k < rd.length),fS k = (staN at'[k] g ss[k] rd[k]).1 := fun k hk ha hr => by rw [← hfS];show (staN _ _ _ _).1 = _;rw [hga k ha,hgs k hk,hgr k hr]
 have eU : ∀ k (hk : k < ss.length) (ha : k < at'.length) (hr : k < rd.length),fU k = (staN at'[k] g ss[k] rd[k]).2 := fun k hk ha hr => by rw [← hfU];show (staN _ _ _ _).2 = _;rw [hga k ha,hgs k hk,hgr k hr]
 have eH : ∀ k (hk : k < ss.length) (ha : k < at'.length) (hr : k < rd.length),fH k = decide ((staN at'[k] g ss[k] rd[k]).1 = 1) := fun k hk ha hr => by rw [← hfH];show decide ((staN _ _ _ _).1 = 1) = _;rw [hga k ha,hgs k hk,hgr k hr]
 have hrec : ∀ k,k < D + ps.length → ∃ e : Int,ACalls Tryz.prog 88 [cdN M D ps,strs U,bools H,iV k] [] (.tup [bS ((recN M D ps U H k).getD []),iV e]) [] := fun k hk => by
  have h1 := f3 k hk
  obtain ⟨e,he⟩ := recR_eq (recN M D ps U H k)
  rw [he] at h1
  exact ⟨e,h1⟩
 generalize hR : (fun k => (recN M D ps U H k).getD []) = fR at *
 have eR : ∀ k,(recN M D ps U H k).getD [] = fR k := fun k => congrFun hR k
 simp only [eR] at hrec ⊢
 clear hfS hfU hfH hga hgs hgr f3 hsrc hR eR
 generalize locN M D ps U H = L at *
 generalize corN M D ps U H = C at *
 generalize hn : D + ps.length = n at *
 (repeat' (first
  |(apply yFb;exact rfl;exact rfl)
  |(apply W.qd;(first
  |(exact zW (hw))|(exact zM)|(exact zN)|(exact jAm)|(exact jB)|(exact jAu)|(exact jBc)|(exact q_len_osl rfl rfl rfl)
  |(apply (yDb (u := .d _));exact rfl;exact rfl)))
  |(apply W.ed;(first
  |(exact jAc)
  |(exact jAo)))|(apply yA)|(apply yB)|(apply (W.regionS 4);exact rfl;kernel_rfl)|(apply yE)|(apply yH)|(refine W.gF _ _ rfl rfl (fun hb => ?_) (fun hb => ?_) <;> ((try simp only [hb,zK]) <;> (try simp only [zL,zI] at hb) <;> (try (exfalso;omega))))
  |(refine W.cond _ rfl (fun hb => ?_) (fun hb => ?_) <;> ((try simp only [hb,zK]) <;> (try simp only [zL,zI] at hb) <;> (try (exfalso;omega))))))
 all_goals try (exfalso;omega)
 refine AWP.hole rfl (AWP.hole rfl (AWP.hole rfl ?_))
 (repeat' (first
  |(apply W.qd;(first
  |(exact zM)
  |(exact jAz)))
  |(apply W.ld;(first
  |(apply (l_make (f := iD) 0);(iterate 10 exact rfl);kernel_rfl;omega)|(apply (l_make (f := sD) []);(iterate 10 exact rfl);kernel_rfl;omega)
  |(apply l_alloc;(iterate 3 exact rfl);kernel_rfl;kernel_rfl)))|(apply W.ln;(exact jAh))|(apply yA)|(apply yB)|(apply (W.regionDS 5);exact rfl;exact rfl;kernel_rfl)|(apply yE)
  |(refine jBb ?_)))
 refine AWP.hole rfl (AWP.hole rfl ?_)
 (repeat' (first
  |(apply W.qd;(first
  |(exact zM)
  |(exact zN)))
  |(apply W.ld;(first
  |(apply (l_make (f := tD) false);(iterate 10 exact rfl);kernel_rfl;omega)
  |(apply (l_make (f := sD) []);(iterate 10 exact rfl);kernel_rfl;omega)))|(apply yA)|(apply yB)|(apply (W.regionS 7);exact rfl;kernel_rfl)|(apply (W.regionDS 7);exact rfl;exact rfl;kernel_rfl)|(apply yE)|(refine jBb ?_)
  |(apply yG)))
 refine AWP.loopW (α := Nat) (fun k => k ≤ n) (fun k => ⟨[(53,iV k),(52,iV n),(12,iV n),(13,.opt 7 0),(14,.osl 8 0 0 n),(15,.osl 9 0 0 n),(1,pcs at'),(3,.osl 0 v 0 ss.length),(4,.osl 1 v2 0 rd.length),(5,.opt 2 0),(7,.opt 3 0),(10,.opt 4 0)],[.row v 1 9 (ss.map sD),.row v2 1 4 (rd.map tD),.box [.d .any,iV M,iV D,rowsN ps,.d .any],.box [iV g.1,iV g.2],.box [iV 0,.d (.v (.slice none 0 0)),.d (.v (.slice none 0 0)),iV 0],.row 0 1 3 ((fil fS 0 n k).map iD),.row 0 1 9 ((List.replicate n []).map sD),.box [iV 1,.osl 5 0 0 n,.osl 6 0 0 n,iV (-1)],.row 0 1 9 ((fil fU [] n k).map sD),.row 0 1 4 ((fil fH false n k).map tD)]⟩) (fun k => n - k) 0 (Nat.zero_le _) ?wkA fun k hk => ?_
 case wkA =>
  rw [fil_zero,fil_zero,fil_zero]
  exact ⟨[0,1,2,3,4,5,6,7,8,9],rfl,rfl,rfl,by (repeat (first | exact trivial | refine ⟨rfl,?_⟩))⟩
 by_cases hkl : k < n
 ·have hka : k < at'.length := by omega
  have hks : k < ss.length := by omega
  have hkr : k < rd.length := by omega
  have hst := hstt k hks hka hkr
  have e1 := eS k hks hka hkr
  have e2 := eU k hks hka hkr
  have e3 := eH k hks hka hkr
  have s1 := fil_set (f := fS) (z := 0) hkl
  have s2 := fil_set (f := fU) (z := []) hkl
  have s3 := fil_set (f := fH) (z := false) hkl
  have g1 := fil_map (f := fS) (z := 0) (n := n) iD (k := k + 1) (j := k) (by omega) (by omega)
  have l1 := fil_len (f := fS) (z := 0) (n := n) k
  have l2 := fil_len (f := fU) (z := []) (n := n) k
  have l3 := fil_len (f := fH) (z := false) (n := n) k
  have l4 := fil_len (f := fS) (z := 0) (n := n) (k + 1)
  rw [e1] at s1 g1
  rw [e2] at s2
  rw [e3] at s3
  generalize staN at'[k] g ss[k] rd[k] = q at *
  obtain ⟨x,y⟩ := q
  dsimp only at *
  have gk : (ss.map sD)[k]? = some (sD ss[k]) := by rw [List.getElem?_map,List.getElem?_eq_getElem hks];rfl
  have gr : (rd.map tD)[k]? = some (tD rd[k]) := by rw [List.getElem?_map,List.getElem?_eq_getElem hkr];rfl
  clear f1 f2 hlc hrec hstt eS eU eH m1 m2 m3
  generalize fil fS 0 n k = S1 at *
  generalize fil fU [] n k = U1 at *
  generalize fil fH false n k = H1 at *
  (repeat' (first
   |(apply W.qd;(first
   |(exact zW (hst))
   |((apply q_ld_rpt;(iterate 3 exact rfl);exact gk;exact rfl))
   |((apply q_ld_rpt;(iterate 3 exact rfl);exact gr;exact rfl))|(exact zM)|(exact zN)|(exact jAr)|(exact jAk)|(exact jAm)|(exact jAj)|(exact jBa)|(exact jAy)|(exact jA)
   |(exact jAb)))|(apply W.ln;(exact jAg))|(apply yA)|(apply yB)|(apply (W.regionS 10);exact rfl;kernel_rfl)|(apply (W.regionDS 10);exact rfl;exact rfl;kernel_rfl)|(apply yE)|(refine jBb ?_)|(apply yG)|(apply yH)
   |(refine W.cond _ rfl (fun hb => ?_) (fun hb => ?_) <;> ((try simp only [hb,zK]) <;> (try simp only [zL,zI] at hb) <;> (try (exfalso;omega))))))
  all_goals try (exfalso;omega)
  rw [s1,s2]
  (repeat' (first
   |(apply W.qd;(first
   |((apply q_ld_rpt;(iterate 3 exact rfl);exact g1;exact rfl))|(exact zM)|(exact jAr)|(exact jAk)|(exact jB)|(exact jAi)
   |(exact jAb)))|(apply W.ln;(exact jAg))|(apply yB)|(refine jAd ?_)|(apply yE)
   |(apply yL)))
  all_goals first
   |(exfalso;omega)|(refine ⟨k + 1,by omega,by omega,?_⟩;(try dsimp only);rw [← s3];exact ⟨[0,1,2,3,4,5,6,7,8,9],rfl,rfl,rfl,iV_eq (by omega),rfl,rfl,rfl,rfl,rfl,rfl,rfl,rfl,rfl,rfl,rfl,trivial⟩)
 ·obtain rfl : k = n := by omega
  rw [fil_all,fil_all,fil_all,m1,m2,m3]
  have hUl : k = (U.map sD).length := by rw [← m2];simp
  have hHl : k = (H.map tD).length := by rw [← m3];simp
  clear hstt eS eU eH m1 m2 m3
  refine AWP.wk ⟨[(53,iV k),(52,iV k),(12,iV k),(13,.opt 7 0),(14,strs U),(15,bools H),(5,.opt 2 0),(10,.opt 4 0)],[.row v 1 9 (ss.map sD),.row v2 1 4 (rd.map tD),.box [.d .any,iV M,iV D,rowsN ps,.d .any],.box [iV g.1,iV g.2],.box [iV 0,.d (.v (.slice none 0 0)),.d (.v (.slice none 0 0)),iV 0],.row 0 1 3 (S.map iD),.row 0 1 9 ((List.replicate k []).map sD),.box [iV 1,.osl 5 0 0 k,.osl 6 0 0 k,iV (-1)]]⟩ ⟨[0,1,2,3,4,5,6,7],rfl,rfl,rfl,rfl,rfl,rfl,rfl,(frz_rowJ rfl rfl hUl).symm,(frz_rowJ rfl rfl hHl).symm,rfl,rfl,trivial⟩ ?_
  rcases hlc with ⟨u,hu,hL⟩ | hL | hL | hL
  ·rw [hL] at f1 ⊢
   rw [if_pos rfl]
   have huk : u < k := by omega
   obtain ⟨c1,c2⟩ := C
   (repeat' (first
    |(apply W.qd;(first
    |(exact zW (f1))|(exact zW (f2))|(exact zM)|(exact zN)|(exact jAr)|(exact jAk)|(exact jAm)|(exact jAj)|(exact jB)|(exact jBa)
    |(exact jAb)))
    |(apply W.ln;(first
    |(exact jAh)
    |(exact jAg)))|(apply yA)|(apply yB)|(refine jAd ?_)|(apply yE)|(apply yG)|(apply yI)|(apply yJ)|(apply yK)|(apply yL)|(apply yM)|(apply yO;exact rfl)|(refine jBf ?_)
    |(refine W.cond _ rfl (fun hb => ?_) (fun hb => ?_) <;> ((try simp only [hb,zK]) <;> (try simp only [zL,zI] at hb) <;> (try (exfalso;omega))))))
   all_goals first
    |(exfalso;omega)|(refine Ends.cell2K [0,1] rfl rfl rfl rfl rfl rfl rfl ?_;exact frz_repQ1 rfl (by rw [List.length_set];exact hSl.symm))
  ·rw [hL] at f1 ⊢
   rw [if_neg (by decide),if_pos rfl]
   obtain ⟨c1,c2⟩ := C
   (repeat' (first
    |(apply W.qd;(first
    |(exact zW (f1))|(exact zW (f2))|(exact zM)|(exact zN)|(exact jAr)|(exact jAm)|(exact jAj)|(exact jB)
    |(exact jBa)))|(apply W.ln;(exact jAh))|(apply yA)|(apply yB)|(refine jAd ?_)|(apply yE)|(apply yG)|(apply yH)|(apply yI)|(apply yJ)|(apply yK)|(apply yM)|(apply yO;exact rfl)|(refine jBf ?_)|(refine jAx ?_)
    |(refine W.cond _ rfl (fun hb => ?_) (fun hb => ?_) <;> ((try simp only [hb,zK]) <;> (try simp only [zL,zI] at hb) <;> (try (exfalso;omega))))))
   all_goals first
    |(exfalso;omega)|(refine Ends.cell2K [0,1] rfl rfl rfl rfl rfl rfl rfl ?_;exact frz_repQ1 rfl hSl.symm)
  ·rw [hL] at f1 ⊢
   rw [if_neg (by decide),if_neg (by decide),if_pos rfl]
   (repeat' (first
    |(apply W.qd;(first
    |(exact zW (f1))|(exact zM)|(exact zN)|(exact jAr)|(exact jAm)|(exact jAj)|(exact jB)
    |(exact jBa)))|(apply W.ln;(exact jAh))|(apply yA)|(apply yB)|(refine jAd ?_)|(apply yE)|(apply yG)|(apply yH)|(apply yI)|(apply yJ)|(apply yK)|(apply yM)|(apply yO;exact rfl)|(refine jBf ?_)|(refine jAx ?_)
    |(refine W.cond _ rfl (fun hb => ?_) (fun hb => ?_) <;> ((try simp only [hb,zK]) <;> (try simp only [zL,zI] at hb) <;> (try (exfalso;omega))))))
   all_goals first
    |(exfalso;omega)|(refine Ends.cell2K [0,1] rfl rfl rfl rfl rfl rfl rfl ?_;exact frz_repQ2 rfl hSl.symm rfl (by rw [List.length_replicate]))
  ·rw [hL] at f1 ⊢
   rw [if_neg (by decide),if_neg (by decide),if_neg (by decide)]
   (repeat' (first
    |(apply W.qd;(first
    |(exact zW (f1))|(exact zM)|(exact zN)|(exact jAr)|(exact jAm)|(exact jAj)|(exact jB)
    |(exact jBa)))|(apply W.ln;(exact jAh))|(apply yA)|(apply yB)|(apply (W.regionS 23);exact rfl;kernel_rfl)|(apply yE)|(apply yG)|(apply yH)|(apply yI)|(apply yK)|(apply yM)|(apply yO;exact rfl)|(refine jAx ?_)
    |(refine W.cond _ rfl (fun hb => ?_) (fun hb => ?_) <;> ((try simp only [hb,zK]) <;> (try simp only [zL,zI] at hb) <;> (try (exfalso;omega))))))
   all_goals try (exfalso;omega)
   refine AWP.loopW (α := Nat) (fun j => j ≤ k) (fun j => ⟨[(121,iV j),(120,iV k),(13,.opt 7 0),(14,strs U),(15,bools H),(5,.opt 2 0),(10,.opt 4 0)],[.row v 1 9 (ss.map sD),.row v2 1 4 (rd.map tD),.box [.d .any,iV M,iV D,rowsN ps,.d .any],.box [iV g.1,iV g.2],.box [iV 0,.d (.v (.slice none 0 0)),.d (.v (.slice none 0 0)),iV 0],.row 0 1 3 (S.map iD),.row 0 1 9 ((fil fR [] k j).map sD),.box [iV 3,.osl 5 0 0 k,.osl 6 0 0 k,iV (-1)]]⟩) (fun j => k - j) 0 (Nat.zero_le _) ?wkB fun j hj => ?_
   case wkB =>
    rw [fil_zero]
    exact ⟨[0,1,2,3,4,5,6,7],rfl,rfl,rfl,by (repeat (first | exact trivial | refine ⟨rfl,?_⟩))⟩
   by_cases hjl : j < k
   ·obtain ⟨e, hre⟩ := hrec j hjl
    have s1 := fil_set (f := fR) (z := []) hjl
    have l1 := fil_len (f := fR) (z := []) (n := k) j
    clear f1 f2 hrec
    generalize fR j = x at *
    generalize fil fR [] k j = R1 at *
    (repeat' (first
     |(apply W.qd;(first
     |(exact zW (hre))|(exact zM)|(exact zN)|(exact jAr)|(exact jAk)|(exact jAm)|(exact jAj)|(exact jAi)|(exact jBa)
     |(exact jAb)))|(apply W.ln;(exact jAg))|(apply yA)|(apply yB)|(refine jAd ?_)|(refine jAs ?_)|(apply yE)|(refine jBb ?_)|(apply yG)|(apply yH)|(apply yL)
     |(refine W.cond _ rfl (fun hb => ?_) (fun hb => ?_) <;> ((try simp only [hb,zK]) <;> (try simp only [zL,zI] at hb) <;> (try (exfalso;omega))))))
    all_goals first
     |(exfalso;omega)|(refine ⟨j + 1,by omega,by omega,?_⟩;(try dsimp only);rw [← s1];exact ⟨[0,1,2,3,4,5,6,7],rfl,rfl,rfl,iV_eq (by omega),rfl,rfl,rfl,rfl,rfl,rfl,trivial⟩)
   ·obtain rfl : j = k := by omega
    rw [fil_all]
    (repeat' (first
     |(apply W.qd;(first
     |(exact zN)|(exact jAm)
     |(exact jAj)))|(apply W.ln;(exact jAh))|(apply yA)|(apply yB)|(refine jAd ?_)|(apply yE)|(apply yI)|(apply yJ)|(apply yK)|(apply yM)
     |(refine W.cond _ rfl (fun hb => ?_) (fun hb => ?_) <;> ((try simp only [hb,zK]) <;> (try simp only [zL,zI] at hb) <;> (try (exfalso;omega))))))
    all_goals first
     |(exfalso;omega)|(refine Ends.cell2K [0,1] rfl rfl rfl rfl rfl rfl rfl ?_;exact frz_repQ2 rfl hSl.symm rfl (by simp))
theorem A_fixesQ {M D : Nat} {ps : List (List Nat)} {at' : List Pl} {g : Gn} {ss : List (List Nat)} {rd : List Bool} {v v2 : Nat} (h : CodeOk M D ps) (ha : at'.length = D + ps.length) (hs : ss.length = D + ps.length) (hr : rd.length = D + ps.length) (hsb : ∀ s ∈ ss,isB s ∧ s.length ≤ 9223372036854775807) : ACalls Tryz.prog 40 [cdN M D ps,pcs at',gnA g,.osl 0 v 0 ss.length,.osl 1 v2 0 rd.length] [.row v 1 9 (ss.map sD),.row v2 1 4 (rd.map tD)] (.tup [fxs (fixN at' g (rpN M D ps at' g ss rd)).1,iV (fixN at' g (rpN M D ps at' g ss rd)).2]) [.row v 1 9 (ss.map sD),.row v2 1 4 (rd.map tD)] := by
 refine acalls_of_bodyO Tryz.func40 rfl (zU rfl) ?_
 have h1 := h.d
 have h2 := h.w
 have hc := A_checkQ (v := v) (v2 := v2) (g := g) h ha hs hr hsb
 have hcs := rpN_cases (at' := at') (g := g) (rd := rd) h (fun s hx => (hsb s hx).1)
 generalize rpN M D ps at' g ss rd = r at *
 obtain ⟨f,S,U,s⟩ := r
 generalize hn : D + ps.length = n at *
 unfold fixN
 dsimp only at hcs
 dsimp only [rpA] at hc
 rcases hcs with rfl | rfl | ⟨rfl,hS,hU,h32⟩
 ·rw [if_pos rfl]
  (repeat' (first
   |(apply W.qd;(first
   |(exact zM)|(exact zN)|(exact jAr)|(exact jAk)|(exact jAm)|(exact jB)|(exact jAu)
   |(exact jBa)))
   |(apply W.ed;(first
   |(apply (e_callJ (js := [0,1]) (hc));(iterate 5 exact rfl);kernel_rfl;kernel_rfl)|(exact jAc)
   |(exact jAo)))|(apply W.ln;(exact jAh))|(apply yA)|(apply yB)|(refine jAd ?_)|(apply yE)|(apply yG)|(apply yJ)|(apply yP)|(apply yN)|(refine jBf ?_)
   |(refine jAx ?_)))
  all_goals first
   |(exfalso;omega)
   |exact ⟨.inl rfl,[0,1],[.d (.v (.slice none 0 0)),iV 13],rfl,rfl,⟨rfl,rfl,trivial⟩,AVle.tup ⟨AVle.nil 2,AVle.of_eq rfl,trivial⟩,rfl⟩
 ·rw [if_neg (by simp), if_pos rfl]
  (repeat' (first
   |(apply W.qd;(first
   |(exact zM)|(exact zN)|(exact jAr)|(exact jAk)|(exact jAm)|(exact jB)|(exact jAu)
   |(exact jBa)))
   |(apply W.ed;(first
   |(apply (e_callJ (js := [0,1]) (hc));(iterate 5 exact rfl);kernel_rfl;kernel_rfl)|(exact jAc)
   |(exact jAo)))|(apply W.ln;(exact jAh))|(apply yA)|(apply yB)|(refine jAd ?_)|(apply yE)|(apply yG)|(apply yJ)|(apply yP)|(apply yN)|(refine jBf ?_)
   |(refine jAx ?_)))
  all_goals first
   |(exfalso;omega)
   |exact ⟨.inl rfl,[0,1],[.d (.v (.slice none 0 0)),iV 11],rfl,rfl,⟨rfl,rfl,trivial⟩,AVle.tup ⟨AVle.nil 2,AVle.of_eq rfl,trivial⟩,rfl⟩
 ·rw [if_neg (by simp), if_neg (by simp)]
  dsimp only
  have hmS : (S.map iD).length = S.length := List.length_map _
  have hmU : (U.map sD).length = U.length := List.length_map _
  (repeat' (first
   |(apply W.qd;(first
   |((apply q_makeBd;exact Eq.refl [AV.agg [pcs at',iV g.1,iV g.2]]))
   |((apply q_as;exact Eq.refl (AV.bd _ _)))|(exact zM)|(exact zN)|(exact jAr)|(exact jAk)|(exact jAm)|(exact jB)|(exact jAu)|(exact jBa)
   |(exact jAz)))
   |(apply W.ed;(first
   |(apply (e_callJ (js := [0,1]) (hc));(iterate 5 exact rfl);kernel_rfl;kernel_rfl)|(exact jAc)
   |(exact jAo)))|(apply W.ln;(exact jAh))|(apply yA)|(apply yB)|(apply (W.regionS 10);exact rfl;kernel_rfl)|(apply yE)|(apply yG)|(apply yH)|(apply yL)
   |(refine jAx ?_)))
  all_goals try (exfalso;omega)
  refine AWP.nilRow 15 2 107 rfl (by omega) ?_
  (repeat' (first
   |(apply W.qd;(first
   |(exact zM)|(exact jAr)|(exact jAk)
   |(exact jBc)))|(apply yB)|(apply (W.regionS 11);exact rfl;kernel_rfl)|(apply yE)
   |(apply yG)))
  refine AWP.loopW (α := Nat) (fun k => k ≤ n ∧ fixB at' g S k = true) (fun k => ⟨[(48,iV k),(47,iV n),(46,ints S),(12,.opt 4 0),(14,.bd 93 [.agg [pcs at',iV g.1,iV g.2]]),(15,.osl 5 (fixL at' g (1,S,U,s) k).length 0 (fixL at' g (1,S,U,s) k).length)],[.row v 1 9 (ss.map sD),.row v2 1 4 (rd.map tD),.box [.d .any,iV M,iV D,rowsN ps,.d .any],.box [iV g.1,iV g.2],.box [iV 1,ints S,strs U,iV s],.row (fixL at' g (1,S,U,s) k).length 2 107 ((fixL at' g (1,S,U,s) k).map fxD)]⟩) (fun k => n - k) 0 ⟨Nat.zero_le _,rfl⟩ ?wkA fun k hk => ?_
  case wkA =>
   exact ⟨[0,1,2,3,4,5],rfl,rfl,rfl,rfl,iV_eq (by omega),rfl,rfl,rfl,rfl,trivial⟩
  obtain ⟨hk,hfb⟩ := hk
  have hfl := fixL_len (at' := at') (g := g) (r := (1,S,U,s)) (k := k)
  by_cases hkl : k < n
  ·have hka : k < at'.length := by omega
   have hkS : k < S.length := by omega
   have hkU : k < U.length := by omega
   have e1 : S.getD k 0 = S[k] := by rw [List.getD_eq_getElem?_getD,List.getElem?_eq_getElem hkS];rfl
   have e2 : U.getD k [] = U[k] := by rw [List.getD_eq_getElem?_getD,List.getElem?_eq_getElem hkU];rfl
   have e3 : at'.getD k pz0 = at'[k] := by rw [List.getD_eq_getElem?_getD,List.getElem?_eq_getElem hka];rfl
   have hL := fixL_succ (at' := at') (g := g) (r := (1,S,U,s)) (k := k)
   have hB := fixB_succ (at' := at') (g := g) (st := S) (k := k)
   have hm := fixB_mono (at' := at') (g := g) (st := S) (i := k + 1)
   have hu := h32 _ (List.getElem_mem hkU)
   have hcb := A_bseal (g := g) hka (by omega) hu.1 hu.2
   dsimp only at hL
   rw [e1,e2,e3] at hL
   rw [e1,e3,hfb,Bool.true_and] at hB
   by_cases hs1 : S[k] = 1
   ·rw [if_pos hs1, List.append_nil] at hL
    rw [decide_eq_true hs1,Bool.true_or] at hB
    clear hcb hc
    generalize fixL at' g (1,S,U,s) k = A at *
    (repeat' (first
     |(apply W.qd;(first
     |(exact zM)|(exact zN)|(exact jAj)|(exact jB)|(exact jAi)|(exact jAe)
     |(exact jA)))|(apply yA)|(apply yB)|(refine jAd ?_)|(apply yE)|(apply yG)|(apply yH)|(apply yI)|(apply yK)|(apply yM)
     |(refine W.cond _ rfl (fun hb => ?_) (fun hb => ?_) <;> ((try simp only [hb,zK]) <;> (try simp only [zL,zI] at hb) <;> (try (exfalso;omega))))))
    all_goals first
     |(exfalso;omega)|(refine ⟨k + 1,⟨by omega,hB⟩,by omega,?_⟩;rw [hL];exact ⟨[0,1,2,3,4,5],rfl,rfl,rfl,iV_eq (by omega),rfl,rfl,rfl,rfl,rfl,trivial⟩)
   ·rw [if_neg hs1] at hL
    rw [decide_eq_false hs1,Bool.false_or] at hB
    by_cases hpg : plB at'[k] = true ∧ gnB g = true
    ·have e4 : sealN at'[k] g U[k] = (sealL at'[k] g U[k], 0) := if_pos ⟨hpg.1, hpg.2, by omega⟩
     rw [e4] at hcb
     rw [hpg.1,hpg.2] at hB
     have el : (fixL at' g (1,S,U,s) k ++ [(k,sealL at'[k] g U[k])]).length = (fixL at' g (1,S,U,s) k).length + 1 := by simp
     clear hc e4
     generalize sealL at'[k] g U[k] = x at *
     generalize fixL at' g (1,S,U,s) k = A at *
     (repeat' (first
      |(apply W.qd;(first
      |((apply q_mv;exact Eq.refl (AV.bd _ _)))
      |((apply q_callBd hcb;(iterate 4 exact rfl);kernel_rfl))|(exact zM)|(exact zN)|(exact jAr)|(exact jAk)|(exact jAj)|(exact jB)|(exact jAu)|(exact jAi)|(exact jBa)|(exact jAe)|(exact jAz)|(exact jAl)
      |(exact jA)))|(apply W.ed;((apply (e_app1F (f := fxD) ((k,x) : Fx));(iterate 8 exact rfl);omega)))|(apply yA)|(apply yB)|(refine jAd ?_)|(apply yE)|(apply yG)|(apply yH)|(apply yL)|(refine jAx ?_)
      |(refine W.cond _ rfl (fun hb => ?_) (fun hb => ?_) <;> ((try simp only [hb,zK]) <;> (try simp only [zL,zI] at hb) <;> (try (exfalso;omega))))))
     all_goals first
      |(exfalso;omega)|(refine ⟨k + 1,⟨by omega,hB⟩,by omega,?_⟩;rw [hL,el];exact ⟨[0,1,2,3,4,5],rfl,rfl,rfl,iV_eq (by omega),rfl,rfl,rfl,rfl,congrArg (AV.osl 5 (A.length + 1) 0) (by simp),trivial⟩)
    ·have e4 : sealN at'[k] g U[k] = ([], 1) := if_neg (fun hh => hpg ⟨hh.1, hh.2.1⟩)
     rw [e4] at hcb
     have hB' : fixB at' g S (k + 1) = false := by
      rw [hB]
      cases hp : plB at'[k]
      ·rfl
      ·cases hg : gnB g
       ·rfl
       ·exact absurd ⟨hp,hg⟩ hpg
     have hf := hm hB' S.length (by omega)
     rw [if_neg (by rw [hf];decide)]
     clear hc e4 hm hL hB hB' hf
     generalize fixL at' g (1,S,U,s) k = A at *
     (repeat' (first
      |(apply W.qd;(first
      |((apply q_mv;exact Eq.refl (AV.bd _ _)))
      |((apply q_callBd hcb;(iterate 4 exact rfl);kernel_rfl))|(exact zM)|(exact zN)|(exact jAr)|(exact jAk)|(exact jAj)|(exact jB)|(exact jAu)|(exact jBa)|(exact jAe)
      |(exact jA)))|(apply yA)|(apply yB)|(refine jAd ?_)|(apply yE)|(apply yG)|(apply yH)|(apply yJ)|(apply yP)|(apply yN)|(refine jBf ?_)
      |(refine W.cond _ rfl (fun hb => ?_) (fun hb => ?_) <;> ((try simp only [hb,zK]) <;> (try simp only [zL,zI] at hb) <;> (try (exfalso;omega))))))
     all_goals first
      |(exfalso;omega)
      |exact ⟨.inl rfl,[0,1],[.d (.v (.slice none 0 0)),iV 1],rfl,rfl,⟨rfl,rfl,trivial⟩,AVle.tup ⟨AVle.nil 2,AVle.of_eq rfl,trivial⟩,rfl⟩
  ·obtain rfl : k = n := by omega
   rw [hS,if_pos hfb]
   clear hc
   generalize fixL at' g (1,S,U,s) k = A at *
   (repeat' (first
    |(apply W.qd;(first
    |(exact zM)|(exact zN)
    |(exact jAj)))|(apply yA)|(apply yB)|(refine jAd ?_)|(apply yE)|(apply yI)|(apply yJ)|(apply yK)|(apply yM)
    |(refine W.cond _ rfl (fun hb => ?_) (fun hb => ?_) <;> ((try simp only [hb,zK]) <;> (try simp only [zL,zI] at hb) <;> (try (exfalso;omega))))))
   all_goals first
    |(exfalso;omega)
    |exact ⟨.inl rfl,[0,1],[.osl 5 A.length 0 A.length,iV 0],rfl,rfl,⟨rfl,rfl,trivial⟩,AVle.of_eq (by show AV.tup [AV.frz _ [0,1] (.osl 5 A.length 0 A.length),iV 0] = _;rw [frz_rowJ rfl rfl (by simp)]),rfl⟩
end
section
theorem seal_srok {M D : Nat} {ps ds : List (List Nat)} {at' : List Pl} {g : Gn} (hWb : ∀ u ∈ encN M ps ds, isB u) (hB : slB at' g (encN M ps ds) (D + ps.length) = true) : SrOk (D + ps.length) (slL at' g (encN M ps ds) (D + ps.length), List.replicate (D + ps.length) true) where
 s := slL_len _ _ _ _
 r := by simp
 b s hs := by
  unfold slL at hs
  obtain ⟨k,hk,rfl⟩ := List.mem_map.1 hs
  exact seal_in (isB_getDL hWb k) (slB_get hB (List.mem_range.1 hk)).1
attribute [local irreducible] Quiet Eff OpOk AWPG ACont ABlock ACalls AGoto
end
section
attribute [local irreducible] Quiet Eff OpOk AWPG ACont ABlock ACalls AGoto
theorem A_scrubRepairs {M D : Int} {par : List (List Int)} {ds : List (List Nat)} {at' : List Pl} {g : Gn} {l : List Hu} (hal : at'.length ≤ 9223372036854775807) (hdl : ds.length ≤ 9223372036854775807) (hds : ∀ u ∈ ds,isB u ∧ u.length ≤ 2000000) (hl : ∀ h ∈ l,HuIn h) (hll : l.length ≤ 9223372036854775807) : ACalls Tryz.prog 12 [cdA M D par,strs ds,pcs at',gnA g,hus l] [] (bV true) [] := by
 refine acalls_of_body Tryz.func12 rfl (zU rfl) ?_
 have hsa := A_sanity40
 have hml : (l.map huD).length = l.length := List.length_map _
 rcases strip_cases (M := M) (D := D) (par := par) (g := g) hal hdl hds with hstr | ⟨m,d,ps,rfl,rfl,rfl,hok,hdl2,h32,ha,hB,hstr⟩
 ·(repeat' (first
  |(apply W.qd;(first
  |(exact zW (hstr))|(exact zW (hsa))|(exact zM)|(exact zN)|(exact jAm)|(exact jBh)|(exact jBa)
  |(apply (yEb (u := .d _));exact rfl;exact rfl)))|(apply W.ed;(exact jAc))|(refine W.gOff _ _ rfl rfl (by intro h;cases h) ?_)|(apply yA)|(apply yB)|(refine jAd ?_)|(apply yE)|(apply yJ)|(apply yP)
  |(refine jBf ?_)))
  all_goals first | (exfalso;omega) | exact Ends.b rfl rfl
 ·have hd := hok.d
  have hw := hok.w
  have hEb := encN_ok hok hdl2 h32 (fit32 hok.f)
  have hWl : (encN m ps ds).length = d + ps.length := by rw [encN_length,hdl2]
  have hmW : ((encN m ps ds).map sD).length = (encN m ps ds).length := List.length_map _
  by_cases h20 : 20 < l.length
  ·clear hEb hB
   generalize slL at' g (encN m ps ds) (d + ps.length) = X at *
   generalize encN m ps ds = Wd at *
   (repeat' (first
    |(apply yFb;exact rfl;exact rfl)
    |(apply W.qd;(first
    |(exact zW (hsa))|(exact zM)|(exact zN)|(exact jAm)|(exact q_gtr rfl rfl)|(exact jBh)|(exact jBa)|(exact jBc)
    |(apply (yDb (u := .d _));exact rfl;exact rfl)))
    |(apply W.ed;(first
    |(apply (e_callJ (js := []) (hstr));(iterate 5 exact rfl);kernel_rfl;kernel_rfl)
    |(exact jAc)))|(apply yA)|(apply yB)|(apply (W.regionS 4);exact rfl;kernel_rfl)|(apply yE)|(apply yJ)|(apply yP)
    |(refine W.cond _ rfl (fun hb => ?_) (fun hb => ?_) <;> ((try simp only [hb,zK]) <;> (try simp only [zL,zI] at hb) <;> (try (exfalso;omega))))))
   all_goals first | (exfalso;omega) | exact Ends.b rfl rfl
  have hWb : ∀ u ∈ encN m ps ds,isB u := fun u hu => (hEb u hu).1
  have hWb2 : ∀ u ∈ encN m ps ds,isB u ∧ u.length ≤ 9223372036854775807 := fun u hu => ⟨(hEb u hu).1,by rw [(hEb u hu).2];decide⟩
  have hx0 := seal_srok (M := m) (D := d) (ps := ps) (ds := ds) hWb hB
  have hX := hurN_ok (at' := at') (g := g) (W := encN m ps ds) hWb hx0 hl
  have hhu := A_hurt (v1 := d + ps.length) (v2 := 0) (g := g) hx0 (by omega) ha hWl hWb2 hl hll
  have hgl := gdN_len at' g (hurN at' g (encN m ps ds) l (slL at' g (encN m ps ds) (d + ps.length),List.replicate (d + ps.length) true)) (d + ps.length)
  have hdc := A_r8decod hok hgl
  have htr := A_truth (g := g) (U := encN m ps ds) (by omega) ha hWl hX.s hgl hWb hX.b
  have c1 := A_checkQ (v := d + ps.length) (v2 := 0) (g := g) hok ha hX.s hX.r hX.b
  have c2 := A_fixesQ (v := d + ps.length) (v2 := 0) (g := g) hok ha hX.s hX.r hX.b
  rw [hX.s,hX.r] at c1 c2
  have hall := A_lallO (n := d + ps.length) (by omega)
  have hall : ACalls Tryz.prog 44 [iV (((encN m ps ds).map sD).length : Nat)] [] (.osl 0 0 0 (d + ps.length)) [.row 0 1 4 ((List.replicate (d + ps.length) true).map tD)] := by rw [hmW,hWl];exact hall
  rw [cdN_A] at hdc c1 c2
  have hdn : decN m d ps (gdN at' g (hurN at' g (encN m ps ds) l (slL at' g (encN m ps ds) (d + ps.length),List.replicate (d + ps.length) true)) (d + ps.length)) = decide ((basisN m d ps (gdN at' g (hurN at' g (encN m ps ds) l (slL at' g (encN m ps ds) (d + ps.length),List.replicate (d + ps.length) true)) (d + ps.length))).length = d) := by
   unfold decN;rw [decide_eq_true hgl,Bool.true_and]
  rw [← hdn] at hdc
  clear hdn hEb hx0
  have hX1 := hX.s
  have hX2 := hX.r
  dsimp only at hhu
  generalize hurN at' g (encN m ps ds) l (slL at' g (encN m ps ds) (d + ps.length),List.replicate (d + ps.length) true) = Y at *
  by_cases hgo : decN m d ps (gdN at' g Y (d + ps.length)) = true ∧ truT at' g (encN m ps ds) Y.1 (gdN at' g Y (d + ps.length)) (d + ps.length) = true
  ·obtain ⟨g1, g2⟩ := hgo
   have hrp := rp_whole hok hdl2 h32 g2 g1
   have hSl := stS_len at' g Y (d + ps.length)
   have hfx := fx_whole (S := stS (staL at' g Y.1 Y.2 (d + ps.length))) (V := encN m ps ds) (s := -1) hB hSl
   have hLm := fun f hf => fixW_mem (M := m) (D := d) (ps := ps) (ds := ds) (at' := at') (g := g) (x := Y) (f := f) hf
   have hLb : ∀ f ∈ fixW m d ps ds at' g Y,isB f.2 ∧ f.2.length ≤ 9223372036854775807 := fun f hf => by
    obtain ⟨q1,_,q3⟩ := hLm f hf
    obtain ⟨s1,s2⟩ := slB_get hB q1
    have := seal_in (isB_getDL hWb f.1) s1
    obtain ⟨_,_,_,p4⟩ := sealN_ok s1
    rw [p4] at this
    rw [q3];exact this
   have hY2 := wrF_ok hX hLb
   have hst := wr_good (M := m) (D := d) (ps := ps) (ds := ds) hWb hB hX g2
   have hrp2 := rp_all hok hdl2 h32 hst
   have c3 := A_checkG (g := g) hok ha hY2.s hY2.r hY2.b
   rw [hrp2,cdN_A] at c3
   rw [hrp] at c1 c2
   rw [hfx] at c2
   rw [g1] at hdc
   rw [g2] at htr
   dsimp only [rpA] at c1 c2 c3
   have hst1 := A_same_texts (a := encN m ps ds) (b := encN m ps ds) hWb hWb (by omega) (by omega)
   rw [decide_eq_true rfl] at hst1
   have hLt := fun k (hk : k < (fixW m d ps ds at' g Y).length) => wrF_take (x := Y) hk
   have hLl : (fixW m d ps ds at' g Y).length ≤ d + ps.length := fixL_len
   have hL0 : fixL at' g (1,stS (staL at' g Y.1 Y.2 (d + ps.length)),encN m ps ds,-1) (d + ps.length) = fixW m d ps ds at' g Y := rfl
   rw [hL0] at c2
   have hLw := fun k => wrF_len ((fixW m d ps ds at' g Y).take k) Y
   have hN : (List.replicate (d + ps.length) (1 : Int)).length = d + ps.length := by simp
   have hN1 : ∀ k (h : k < (List.replicate (d + ps.length) (1 : Int)).length),(List.replicate (d + ps.length) (1 : Int))[k] = 1 := fun k h => by simp
   clear hB hrp hrp2 hst hfx hL0 g1 g2 hX hLb hSl
   have hY1 := hY2.s
   have hYr := hY2.r
   clear hY2
   generalize fixW m d ps ds at' g Y = L at *
   generalize gdN at' g Y (d + ps.length) = H at *
   generalize stS (staL at' g Y.1 Y.2 (d + ps.length)) = Z at *
   generalize slL at' g (encN m ps ds) (d + ps.length) = X at *
   generalize encN m ps ds = Wd at *
   generalize List.replicate (d + ps.length) (1 : Int) = N1 at *
   generalize hn : d + ps.length = n at *
   have hmL : (L.map fxD).length = L.length := List.length_map _
   (repeat' (first
    |(apply yFb;exact rfl;exact rfl)
    |(apply W.qd;(first
    |(exact zM)|(exact zN)|(exact jAm)|(exact q_gtr rfl rfl)|(exact jBh)|(exact jBa)|(exact jBc)
    |(apply (yDb (u := .d _));exact rfl;exact rfl)))
    |(apply W.ed;(first
    |(apply (e_callJ (js := []) (hstr));(iterate 5 exact rfl);kernel_rfl;kernel_rfl)|(apply (e_callJ (js := []) (hall));(iterate 5 exact rfl);kernel_rfl;kernel_rfl)|(apply (e_callJ (js := [2,3]) (hhu));(iterate 5 exact rfl);kernel_rfl;kernel_rfl)
    |(exact jAc)))|(apply yA)|(apply yB)|(apply (W.regionS 6);exact rfl;kernel_rfl)|(apply yE)|(apply yH)
    |(refine W.cond _ rfl (fun hb => ?_) (fun hb => ?_) <;> ((try simp only [hb,zK]) <;> (try simp only [zL,zI] at hb) <;> (try (exfalso;omega))))))
   all_goals try (exfalso;omega)
   refine AWP.wk ⟨[(2,pcs at'),(5,.opt 0 0),(8,.opt 1 0),(11,strs Wd),(12,.osl 2 n 0 n),(14,.osl 3 0 0 n),(15,bools H)],[.box [.d .any,iV m,iV d,rowsA (toZ ps),.d .any],.box [iV g.1,iV g.2],.row n 1 9 (Y.1.map sD),.row 0 1 4 (Y.2.map tD)]⟩ ⟨[0,1,2,3],rfl,rfl,rfl,rfl,rfl,rfl,rfl,rfl,rfl,(frz_rowJ rfl rfl (by rw [List.length_map];exact hgl.symm)).symm,trivial⟩ ?_
   have hfz : ∀ (own own' : List Ent),own[2]? = some (.row n 1 9 (Y.1.map sD)) → same [2] own own' → AV.frzL own' [] [pcs at',gnA g,strs Wd,.osl 2 n 0 n,bools H] = [pcs at',gnA g,strs Wd,strs Y.1,bools H] := fun own own' k1 hs => by
    show [pcs at',gnA g,strs Wd,AV.frz own' [] (.osl 2 n 0 n),bools H] = _
    rw [frz_rowJ ((hs 2 (by simp)).trans k1) rfl (by rw [List.length_map];exact hX1.symm)]
   (repeat' (first
    |(apply yFb;exact rfl;exact rfl)
    |(apply W.qd;(first
    |(exact zW (hdc))
    |((apply (q_callF (js := [2]) htr);exact rfl;exact fun own' hh => hfz _ own' rfl hh;exact rfl;kernel_rfl))|(exact zW (hst1))|(exact zM)|(exact zN)|(exact jAr)|(exact jAk)|(exact jAm)|(exact jAu)|(exact jBh)|(exact jBa)|(exact jBc)
    |(apply (yDb (u := .d _));exact rfl;exact rfl)))
    |(apply W.ed;(first
    |(apply (e_callJ (js := [2,3]) (c1));(iterate 5 exact rfl);kernel_rfl;kernel_rfl)|(apply (e_callJ (js := [2,3]) (c2));(iterate 5 exact rfl);kernel_rfl;kernel_rfl)
    |(exact jAo)))|(apply W.ln;(exact jAh))|(apply yA)|(apply yB)|(apply (W.regionS 13);exact rfl;kernel_rfl)|(apply yE)|(apply yG)|(apply yH)
    |(refine jAx ?_)))
   all_goals try (exfalso;omega)
   refine AWP.loopW (α := Nat) (fun k => k ≤ L.length) (fun k => ⟨[(110,iV k),(109,iV L.length),(108,fxs L),(2,pcs at'),(5,.opt 0 0),(8,.opt 1 0),(11,strs Wd),(12,.osl 2 n 0 n),(14,.osl 3 0 0 n),(15,bools H)],[.box [.d .any,iV m,iV d,rowsA (toZ ps),.d .any],.box [iV g.1,iV g.2],.row n 1 9 ((wrF Y (L.take k)).1.map sD),.row 0 1 4 ((wrF Y (L.take k)).2.map tD)]⟩) (fun k => L.length - k) 0 (Nat.zero_le _) ?wkA fun k hk => ?_
   case wkA => exact ⟨[0,1,2,3],rfl,rfl,rfl,rfl,iV_eq (by omega),rfl,rfl,rfl,rfl,rfl,rfl,rfl,rfl,trivial⟩
   by_cases hkl : k < L.length
   ·have e1 := hLt k hkl
    obtain ⟨q1,q2,_⟩ := hLm _ (List.getElem_mem hkl)
    obtain ⟨w1,w2⟩ := hLw k
    have hgt : (H.map tD)[L[k].1]? = some (tD false) := by
     rw [List.getElem?_map,List.getElem?_eq_getElem (by omega)]
     rw [List.getD_eq_getElem?_getD,List.getElem?_eq_getElem (by omega)] at q2
     exact congrArg (fun b => some (tD b)) q2
    clear hall c1 c2 c3 hstr hsa hdc htr hhu hst1 hLt hLm hLw q2
    generalize wrF Y (L.take k) = V at *
    obtain ⟨V1,V2⟩ := V
    dsimp only at e1 w1 w2
    (repeat' (first
     |(apply yFb;exact rfl;exact rfl)
     |(apply W.qd;(first
     |((apply q_ld_fpt;exact rfl;exact rfl;exact hgt;exact rfl))|(exact zM)|(exact jAr)|(exact jAk)|(exact jAj)|(exact q_geq rfl rfl)|(exact jAi)|(exact jBc)|(exact jAy)|(exact jA)|(apply (yDb (u := .d _));exact rfl;exact rfl)
     |(exact jAb)))|(apply W.ed;(exact jAo))
     |(apply W.ln;(first
     |(exact jAh)
     |(exact jAg)))|(apply yA)|(apply yB)|(refine jAd ?_)|(refine jAs ?_)|(apply yE)|(refine jBb ?_)|(apply yG)|(apply yH)|(apply yL)|(refine jAx ?_)|(refine W.gF _ _ rfl rfl (fun hb => ?_) (fun hb => ?_) <;> ((try simp only [hb,zK]) <;> (try simp only [zL,zI] at hb) <;> (try (exfalso;omega))))
     |(refine W.cond _ rfl (fun hb => ?_) (fun hb => ?_) <;> ((try simp only [hb,zK]) <;> (try simp only [zL,zI] at hb) <;> (try (exfalso;omega))))))
    all_goals first
     |(exfalso;omega)|(refine ⟨k + 1,by omega,by omega,?_⟩;(try dsimp only);rw [e1];exact ⟨[0,1,2,3],rfl,rfl,rfl,iV_eq (by omega),rfl,rfl,rfl,rfl,rfl,rfl,rfl,rfl,rfl,trivial⟩)
   ·obtain rfl : k = L.length := by omega
    rw [List.take_length]
    clear hall c1 c2 hstr hdc htr hhu hLt hLm hLw
    generalize wrF Y L = V at *
    obtain ⟨V1,V2⟩ := V
    dsimp only at *
    refine AWP.wk ⟨[(110,iV L.length),(109,iV L.length),(2,pcs at'),(5,.opt 0 0),(8,.opt 1 0),(11,strs Wd),(12,strs V1),(14,bools V2)],[.box [.d .any,iV m,iV d,rowsA (toZ ps),.d .any],.box [iV g.1,iV g.2]]⟩ ⟨[0,1],rfl,rfl,rfl,rfl,rfl,rfl,rfl,rfl,rfl,(frz_rowJ rfl rfl (by rw [List.length_map];exact hY1.symm)).symm,(frz_rowJ rfl rfl (by rw [List.length_map];exact hYr.symm)).symm,trivial⟩ ?_
    have hmN : (N1.map iD).length = N1.length := List.length_map _
    (repeat' (first
     |(apply W.qd;(first
     |(exact zW (c3))|(exact zM)|(exact zN)|(exact jAr)|(exact jAk)|(exact jAm)|(exact jAj)|(exact jBa)
     |(exact jBc)))|(apply W.ed;(exact jAo))|(apply W.ln;(exact jAh))|(apply yA)|(apply yB)|(apply (W.regionS 21);exact rfl;kernel_rfl)|(apply yE)|(apply yG)|(apply yI)|(apply yK)|(apply yM)
     |(refine W.cond _ rfl (fun hb => ?_) (fun hb => ?_) <;> ((try simp only [hb,zK]) <;> (try simp only [zL,zI] at hb) <;> (try (exfalso;omega))))))
    all_goals try (exfalso;omega)
    refine AWP.loopW (α := Nat) (fun k => k ≤ n) (fun k => ⟨[(154,iV k),(153,iV n),(152,ints N1),(11,strs Wd),(22,.opt 0 0),(23,iV 0)],[.box [iV 1,ints N1,strs Wd,iV (-1)]]⟩) (fun k => n - k) 0 (Nat.zero_le _) ?wkB fun k hk => ?_
    case wkB => exact ⟨[2],rfl,rfl,rfl,rfl,iV_eq (by omega),rfl,rfl,rfl,rfl,trivial⟩
    by_cases hkl : k < n
    ·have hkN : k < N1.length := by omega
     have e1 := hN1 k hkN
     clear hsa hst1 c3
     (repeat' (first
      |(apply W.qd;(first
      |(exact zM)|(exact zN)|(exact jAj)|(exact jAu)|(exact jAi)|(exact jAe)
      |(exact jA)))|(apply yA)|(apply yB)|(refine jAd ?_)|(apply yE)|(apply yG)|(apply yH)|(apply yL)
      |(refine W.cond _ rfl (fun hb => ?_) (fun hb => ?_) <;> ((try simp only [hb,zK]) <;> (try simp only [zL,zI] at hb) <;> (try (exfalso;omega))))))
     all_goals first
      |(exfalso;omega)
      |exact ⟨k + 1,by omega,by omega,[0],rfl,rfl,rfl,iV_eq (by omega),rfl,rfl,rfl,rfl,rfl,trivial⟩
    ·obtain rfl : k = n := by omega
     (repeat' (first
      |(apply yFb;exact rfl;exact rfl)
      |(apply W.qd;(first
      |(exact zW (hsa))|(exact zW (hst1))|(exact zM)|(exact zN)|(exact jAr)|(exact jAk)|(exact jAj)|(exact jB)|(exact jBc)
      |(apply (yEb (u := .d _));exact rfl;exact rfl)))|(apply yA)|(apply yB)|(refine jAd ?_)|(apply yE)|(apply yI)|(apply yJ)|(apply yK)|(apply yM)|(refine W.gT _ _ rfl rfl (fun hb => ?_) (fun hb => ?_) <;> ((try simp only [hb,zK]) <;> (try simp only [zL,zI] at hb) <;> (try (exfalso;omega))))
      |(refine W.cond _ rfl (fun hb => ?_) (fun hb => ?_) <;> ((try simp only [hb,zK]) <;> (try simp only [zL,zI] at hb) <;> (try (exfalso;omega))))))
     all_goals first
      |(exfalso;omega)
      |exact Ends.b rfl rfl
  ·clear c1 c2
   generalize truT at' g (encN m ps ds) Y.1 (gdN at' g Y (d + ps.length)) (d + ps.length) = tb at *
   generalize decN m d ps (gdN at' g Y (d + ps.length)) = db at *
   generalize gdN at' g Y (d + ps.length) = H at *
   generalize slL at' g (encN m ps ds) (d + ps.length) = X at *
   generalize encN m ps ds = Wd at *
   generalize hn : d + ps.length = n at *
   (repeat' (first
    |(apply yFb;exact rfl;exact rfl)
    |(apply W.qd;(first
    |(exact zM)|(exact zN)|(exact jAm)|(exact q_gtr rfl rfl)|(exact jBh)|(exact jBa)|(exact jBc)
    |(apply (yDb (u := .d _));exact rfl;exact rfl)))
    |(apply W.ed;(first
    |(apply (e_callJ (js := []) (hstr));(iterate 5 exact rfl);kernel_rfl;kernel_rfl)|(apply (e_callJ (js := []) (hall));(iterate 5 exact rfl);kernel_rfl;kernel_rfl)|(apply (e_callJ (js := [2,3]) (hhu));(iterate 5 exact rfl);kernel_rfl;kernel_rfl)
    |(exact jAc)))|(apply yA)|(apply yB)|(apply (W.regionS 6);exact rfl;kernel_rfl)|(apply yE)|(apply yH)
    |(refine W.cond _ rfl (fun hb => ?_) (fun hb => ?_) <;> ((try simp only [hb,zK]) <;> (try simp only [zL,zI] at hb) <;> (try (exfalso;omega))))))
   all_goals try (exfalso;omega)
   refine AWP.wk ⟨[(2,pcs at'),(5,.opt 0 0),(8,.opt 1 0),(11,strs Wd),(12,strs Y.1),(15,bools H)],[.box [.d .any,iV m,iV d,rowsA (toZ ps),.d .any],.box [iV g.1,iV g.2]]⟩ ⟨[0,1],rfl,rfl,rfl,rfl,rfl,rfl,rfl,(frz_rowJ rfl rfl (by rw [List.length_map];exact hX1.symm)).symm,(frz_rowJ rfl rfl (by rw [List.length_map];exact hgl.symm)).symm,trivial⟩ ?_
   cases db with
   | false =>
     (repeat' (first
      |(apply W.qd;(first
      |(exact zW (hdc))|(exact zW (hsa))|(exact zM)|(exact zN)|(exact jAm)|(exact jBh)
      |(apply (yEb (u := .d _));exact rfl;exact rfl)))|(refine W.gOff _ _ rfl rfl (by intro h;cases h) ?_)|(apply yA)|(apply yB)|(refine jAd ?_)|(apply yE)|(apply yJ)|(apply yP)
      |(refine jBf ?_)))
     all_goals first
      |(exfalso;omega)
      |exact Ends.b rfl rfl
   | true =>
     cases tb with
     | true => exact absurd ⟨rfl,rfl⟩ hgo
     | false =>
       (repeat' (first
        |(apply yFb;exact rfl;exact rfl)
        |(apply W.qd;(first
        |(exact zW (hdc))|(exact zW (htr))|(exact zW (hsa))|(exact zM)|(exact zN)|(exact jAm)|(exact jBh)
        |(apply (yDb (u := .d _));exact rfl;exact rfl)))|(apply yA)|(apply yB)|(refine jAd ?_)|(apply yE)|(apply yJ)|(apply yP)
        |(refine jBf ?_)))
       all_goals first
        |(exfalso;omega)
        |exact Ends.b rfl rfl
end
end Go.Proofs.YtplpgijpmgbaiaaGreatDoor
