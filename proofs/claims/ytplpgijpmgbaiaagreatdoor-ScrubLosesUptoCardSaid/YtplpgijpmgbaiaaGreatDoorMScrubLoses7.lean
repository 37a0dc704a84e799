import Derived.Test.YtplpgijpmgbaiaaGreatDoorMScrubLoses6
/- Joined texts: Sc29 Sc33. -/
set_option linter.unusedVariables false
set_option linter.unusedSimpArgs false
namespace Go.Proofs.YtplpgijpmgbaiaaGreatDoor
open Go.RowKit
set_option maxHeartbeats 4000000
set_option maxRecDepth 100000
section
theorem xor_cells (s : List Nat) (i : Nat) (h : i < s.length) : (s.map cB).set i (cB (s[i] ^^^ 5)) = (xorB s i).map cB := by
 unfold xorB
 rw [List.map_set,List.getD_eq_getElem?_getD,List.getElem?_eq_getElem h];rfl
attribute [local irreducible] Quiet Eff OpOk AWPG ACont ABlock ACalls AGoto
theorem A_hurt {at' : List Pl} {g : Gn} {U : List (List Nat)} {v1 v2 n : Nat} {l : List Hu} {x : Sr2} (hx : SrOk n x) (hn : n ≤ 1000) (ha : at'.length = n) (hWl : U.length = n) (hWb : ∀ u ∈ U,isB u ∧ u.length ≤ 9223372036854775807) (hl : ∀ h ∈ l,HuIn h) (hll : l.length ≤ 9223372036854775807) : ACalls Tryz.prog 46 [pcs at',gnA g,strs U,.osl 0 v1 0 n,.osl 1 v2 0 n,hus l] [.row v1 1 9 (x.1.map sD),.row v2 1 4 (x.2.map tD)] (.osl 2 0 0 n) [.row v1 1 9 ((hurN at' g U l x).1.map sD),.row v2 1 4 ((hurN at' g U l x).2.map tD),.row 0 1 4 ((gdN at' g (hurN at' g U l x) n).map tD)] := by
 refine acalls_of_bodyO Tryz.func46 rfl (zU rfl) ?_
 have hma : (at'.map pcD).length = at'.length := List.length_map _
 have hmW : (U.map sD).length = U.length := List.length_map _
 have hml : (l.map huD).length = l.length := List.length_map _
 have hall := A_lallO (n := n) (by omega)
 have hall : ACalls Tryz.prog 44 [iV ((U.map sD).length : Nat)] [] (.osl 0 0 0 n) [.row 0 1 4 ((List.replicate n true).map tD)] := by rw [hmW,hWl];exact hall
 (repeat' (first
  |(apply W.qd;(first
  |(exact zM)|(exact zN)
  |(exact jBc)))
  |(apply W.ed;(first
  |(apply (e_callJ (js := []) (hall));(iterate 5 exact rfl);kernel_rfl;kernel_rfl)
  |(exact jAc)))|(apply yA)|(apply yB)|(apply (W.regionS 2);exact rfl;kernel_rfl)
  |(apply yE)))
 all_goals try (exfalso;omega)
 (repeat' (first
  |(apply W.qd;(first
  |(exact zM)
  |(exact jBc)))|(apply yB)|(apply (W.regionS 3);exact rfl;kernel_rfl)|(apply yE)
  |(apply yG)))
 refine AWP.loopW (α := Nat) (fun j => j ≤ l.length) (fun j => ⟨[(30,iV j),(29,iV l.length),(28,hus l),(0,pcs at'),(2,strs U),(3,.osl 0 v1 0 n),(4,.osl 1 v2 0 n),(7,.opt 2 0),(13,.osl 3 0 0 n)],[.row v1 1 9 ((hurN at' g U (l.take j) x).1.map sD),.row v2 1 4 ((hurN at' g U (l.take j) x).2.map tD),.box [iV g.1,iV g.2],.row 0 1 4 ((List.replicate n true).map tD)]⟩) (fun j => l.length - j) 0 (Nat.zero_le _) ?wkA fun j hj => ?_
 case wkA =>
  exact ⟨[0,1,2,3],rfl,rfl,rfl,rfl,iV_eq (by omega),rfl,rfl,rfl,rfl,rfl,rfl,rfl,trivial⟩
 by_cases hjl : j < l.length
 ·have hok := hurN_ok (at' := at') (g := g) (W := U) (fun u hu => (hWb u hu).1) hx (l := l.take j) fun h hh => hl h (List.mem_of_mem_take hh)
  have e1 := hurN_take (at' := at') (g := g) (W := U) (x := x) hjl
  have hh := hl _ (List.getElem_mem hjl)
  generalize hurN at' g U (l.take j) x = X at *
  obtain ⟨S,R⟩ := X
  obtain ⟨hS,hR,hSb⟩ := hok
  dsimp only at hS hR hSb
  clear hall
  unfold hur1 at e1
  dsimp only at e1
  by_cases c0 : l[j].1 < 0 ∨ (U.length : Int) ≤ l[j].1
  ·rw [if_pos c0] at e1
   (repeat' (first
    |(apply yFb;exact rfl;exact rfl)
    |(apply W.qd;(first
    |(exact zM)|(exact zN)|(exact jAr)|(exact jAl)|(exact jAj)|(exact q_geq rfl rfl)|(exact jAi)|(exact jBc)|(exact jAy)|(exact jA)|(apply (yEb (u := .d _));exact rfl;exact rfl)
    |(apply (yDb (u := .d _));exact rfl;exact rfl)))|(apply W.ed;(exact jAq))|(apply W.ln;(exact jAg))|(refine W.gOff _ _ rfl rfl (by intro h;cases h) ?_)|(apply yA)|(apply yB)|(refine jAd ?_)|(apply yE)|(apply yG)|(apply yH)|(apply yI)|(apply yK)|(apply yM)|(refine jBe ?_)|(refine W.gF _ _ rfl rfl (fun hb => ?_) (fun hb => ?_) <;> ((try simp only [hb,zK]) <;> (try simp only [zL,zI] at hb) <;> (try (exfalso;omega))))
    |(refine W.cond _ rfl (fun hb => ?_) (fun hb => ?_) <;> ((try simp only [hb,zK]) <;> (try simp only [zL,zI] at hb) <;> (try (exfalso;omega))))))
   all_goals first
    |(exfalso;omega)|(refine ⟨j + 1,by omega,by omega,?_⟩;(try dsimp only);rw [e1];exact ⟨[0,1,2,3],rfl,rfl,rfl,iV_eq (by omega),rfl,rfl,rfl,rfl,rfl,rfl,rfl,rfl,trivial⟩)
  rw [if_neg c0] at e1
  have hkn : l[j].1.toNat < n := by omega
  have hkW : l[j].1.toNat < U.length := by omega
  have hkS : l[j].1.toNat < S.length := by omega
  have hka : l[j].1.toNat < at'.length := by omega
  have eW : U.getD l[j].1.toNat [] = U[l[j].1.toNat] := by rw [List.getD_eq_getElem?_getD,List.getElem?_eq_getElem hkW];rfl
  have eS : S.getD l[j].1.toNat [] = S[l[j].1.toNat] := by rw [List.getD_eq_getElem?_getD,List.getElem?_eq_getElem hkS];rfl
  have eA : at'.getD l[j].1.toNat pz0 = at'[l[j].1.toNat] := by rw [List.getD_eq_getElem?_getD,List.getElem?_eq_getElem hka];rfl
  rw [eW,eS,eA] at e1
  have hw := hWb _ (List.getElem_mem hkW)
  have hs := hSb _ (List.getElem_mem hkS)
  (repeat' (first
   |(apply yFb;exact rfl;exact rfl)
   |(apply W.qd;(first
   |(exact zM)|(exact zN)|(exact jAr)|(exact jAl)|(exact jAj)|(exact q_geq rfl rfl)|(exact jBc)|(exact jAy)|(exact jA)
   |(apply (yDb (u := .d _));exact rfl;exact rfl)))|(apply W.ed;(exact jAq))|(apply W.ln;(exact jAg))|(apply yA)|(apply yB)|(apply (W.regionS 9);exact rfl;kernel_rfl)|(apply yE)|(apply yG)|(apply yH)|(refine W.gF _ _ rfl rfl (fun hb => ?_) (fun hb => ?_) <;> ((try simp only [hb,zK]) <;> (try simp only [zL,zI] at hb) <;> (try (exfalso;omega))))
   |(refine W.cond _ rfl (fun hb => ?_) (fun hb => ?_) <;> ((try simp only [hb,zK]) <;> (try simp only [zL,zI] at hb) <;> (try (exfalso;omega))))))
  all_goals try (exfalso;omega)
  by_cases k0 : l[j].2.1 = 0
  ·rw [if_pos k0] at e1
   (repeat' (first
    |(apply W.qd;(first
    |(exact zM)|(exact zN)|(exact jB)|(exact jAi)
    |(exact jAb)))|(apply W.ln;(exact jAh))|(apply yB)|(refine jAd ?_)|(apply yE)|(apply yL)
    |(refine W.cond _ rfl (fun hb => ?_) (fun hb => ?_) <;> ((try simp only [hb,zK]) <;> (try simp only [zL,zI] at hb) <;> (try (exfalso;omega))))))
   all_goals first
    |(exfalso;omega)|(refine ⟨j + 1,by omega,by omega,?_⟩;(try dsimp only);rw [e1];exact ⟨[0,1,2,3],rfl,rfl,rfl,iV_eq (by omega),rfl,rfl,rfl,rfl,rfl,rfl,rfl,rfl,trivial⟩)
  rw [if_neg k0] at e1
  by_cases k1 : l[j].2.1 = 1
  ·rw [if_pos k1] at e1
   have hc := A_rseal (p := at'[l[j].1.toNat]) (g := l[j].2.2.2.1) hw.1 hw.2
   generalize sealN at'[l[j].1.toNat] l[j].2.2.2.1 U[l[j].1.toNat] = q at *
   obtain ⟨y,z⟩ := q
   dsimp only at e1 hc
   by_cases hz : z = 0
   ·rw [if_pos hz] at e1
    (repeat' (first
     |(apply W.qd;(first
     |(exact zW (hc))|(exact zM)|(exact zN)|(exact jAr)|(exact jAm)|(exact jB)|(exact jAi)|(exact jAz)|(exact jAe)|(exact jAy)|(exact jA)
     |(exact jAb)))|(apply W.ln;(exact jAh))|(apply yA)|(apply yB)|(refine jAd ?_)|(refine jAt ?_)|(apply yE)|(refine jBd ?_)|(apply yL)
     |(refine W.cond _ rfl (fun hb => ?_) (fun hb => ?_) <;> ((try simp only [hb,zK]) <;> (try simp only [zL,zI] at hb) <;> (try (exfalso;omega))))))
    all_goals first
     |(exfalso;omega)|(refine ⟨j + 1,by omega,by omega,?_⟩;(try dsimp only);rw [e1];exact ⟨[0,1,2,3],rfl,rfl,rfl,iV_eq (by omega),rfl,rfl,rfl,rfl,rfl,rfl,rfl,rfl,trivial⟩)
   ·rw [if_neg hz] at e1
    (repeat' (first
     |(apply W.qd;(first
     |(exact zW (hc))|(exact zM)|(exact zN)|(exact jAr)|(exact jAm)|(exact jB)|(exact jAi)|(exact jAz)|(exact jAe)|(exact jAy)
     |(exact jA)))|(apply yA)|(apply yB)|(refine jAd ?_)|(refine jAt ?_)|(apply yE)|(refine jBd ?_)|(apply yH)|(apply yL)
     |(refine W.cond _ rfl (fun hb => ?_) (fun hb => ?_) <;> ((try simp only [hb,zK]) <;> (try simp only [zL,zI] at hb) <;> (try (exfalso;omega))))))
    all_goals first
     |(exfalso;omega)|(refine ⟨j + 1,by omega,by omega,?_⟩;(try dsimp only);rw [e1];exact ⟨[0,1,2,3],rfl,rfl,rfl,iV_eq (by omega),rfl,rfl,rfl,rfl,rfl,rfl,rfl,rfl,trivial⟩)
  rw [if_neg k1] at e1
  by_cases k2 : l[j].2.1 = 2
  ·rw [if_pos k2] at e1
   have hc := A_rseal (p := l[j].2.2.1) (g := g) hw.1 hw.2
   generalize sealN l[j].2.2.1 g U[l[j].1.toNat] = q at *
   obtain ⟨y,z⟩ := q
   dsimp only at e1 hc
   by_cases hz : z = 0
   ·rw [if_pos hz] at e1
    (repeat' (first
     |(apply W.qd;(first
     |(exact zW (hc))|(exact zM)|(exact zN)|(exact jAr)|(exact jAm)|(exact jB)|(exact jAi)|(exact jAz)|(exact jAe)|(exact jA)
     |(exact jAb)))|(apply W.ln;(exact jAh))|(apply yA)|(apply yB)|(refine jAd ?_)|(refine jAt ?_)|(apply yE)|(refine jBd ?_)|(apply yL)
     |(refine W.cond _ rfl (fun hb => ?_) (fun hb => ?_) <;> ((try simp only [hb,zK]) <;> (try simp only [zL,zI] at hb) <;> (try (exfalso;omega))))))
    all_goals first
     |(exfalso;omega)|(refine ⟨j + 1,by omega,by omega,?_⟩;(try dsimp only);rw [e1];exact ⟨[0,1,2,3],rfl,rfl,rfl,iV_eq (by omega),rfl,rfl,rfl,rfl,rfl,rfl,rfl,rfl,trivial⟩)
   ·rw [if_neg hz] at e1
    (repeat' (first
     |(apply W.qd;(first
     |(exact zW (hc))|(exact zM)|(exact zN)|(exact jAr)|(exact jAm)|(exact jB)|(exact jAi)|(exact jAz)|(exact jAe)
     |(exact jA)))|(apply yA)|(apply yB)|(refine jAd ?_)|(refine jAt ?_)|(apply yE)|(refine jBd ?_)|(apply yH)|(apply yL)
     |(refine W.cond _ rfl (fun hb => ?_) (fun hb => ?_) <;> ((try simp only [hb,zK]) <;> (try simp only [zL,zI] at hb) <;> (try (exfalso;omega))))))
    all_goals first
     |(exfalso;omega)|(refine ⟨j + 1,by omega,by omega,?_⟩;(try dsimp only);rw [e1];exact ⟨[0,1,2,3],rfl,rfl,rfl,iV_eq (by omega),rfl,rfl,rfl,rfl,rfl,rfl,rfl,rfl,trivial⟩)
  rw [if_neg k2] at e1
  by_cases k3 : l[j].2.1 = 3
  ·rw [if_pos k3] at e1
   by_cases hz : S[l[j].1.toNat].length = 64 ∧ 0 ≤ l[j].2.2.2.2.1 ∧ l[j].2.2.2.2.1 < 64
   ·rw [if_pos hz] at e1
    have hb1 : l[j].2.2.2.2.1.toNat < S[l[j].1.toNat].length := by omega
    have hset := xor_cells _ _ hb1
    have hgb : (S[l[j].1.toNat].map cB)[l[j].2.2.2.2.1.toNat]? = some (cB S[l[j].1.toNat][l[j].2.2.2.2.1.toNat]) := by rw [List.getElem?_map,List.getElem?_eq_getElem hb1];rfl
    have h256 : S[l[j].1.toNat][l[j].2.2.2.2.1.toNat] < 256 := hs.1 _ (List.getElem_mem hb1)
    have hxl := xorB_len S[l[j].1.toNat] l[j].2.2.2.2.1.toNat
    have hxb := xorB_isB (i := l[j].2.2.2.2.1.toNat) hs.1
    have hlt : l[j].2.2.2.2.1.toNat < (S[l[j].1.toNat].map cB).length := by rw [List.length_map];exact hb1
    (repeat' (first
     |(apply yFb;exact rfl;exact rfl)
     |(apply W.qd;(first
     |((apply q_mv;exact Eq.refl (AV.bsl _ _ _)))
     |((apply q_as;exact Eq.refl (AV.bsl _ _ _)))
     |((exact q_len_bsl rfl rfl))
     |((apply (q_ix_bsl (j := l[j].2.2.2.2.1.toNat));(iterate 3 exact rfl);omega;omega))
     |((apply yT;(iterate 3 exact rfl);exact hgb))
     |((apply (q_xorU (xn := S[l[j].1.toNat][l[j].2.2.2.2.1.toNat]) (yn := 5) (v := S[l[j].1.toNat][l[j].2.2.2.2.1.toNat] ^^^ 5));(iterate 5 exact rfl);exact h256;decide;exact rfl))
     |((apply q_str_bsl;(iterate 4 exact rfl);exact hxl.symm;exact hxb))|(exact zM)|(exact zN)|(exact jAr)|(exact jAl)|(exact jAj)|(exact q_geq rfl rfl)|(exact jB)|(exact jAi)|(apply (yEb (u := .d _));exact rfl;exact rfl)|(exact jAb)
     |(exact jAn)))|(apply W.ed;((apply e_bytesB;(iterate 3 exact rfl);exact hs.1;exact hs.2;exact rfl;exact rfl)))|(apply W.ln;(exact jAh))|(apply W.en;((apply e_stS;(iterate 4 exact rfl);exact congrArg (fun c => [_,_,_,_,_,Ent.box c]) hset;(iterate 3 exact rfl);exact hlt)))|(apply yA)|(apply yB)|(refine jAd ?_)|(apply yE)|(apply yL)|(refine W.gT _ _ rfl rfl (fun hb => ?_) (fun hb => ?_) <;> ((try simp only [hb,zK]) <;> (try simp only [zL,zI] at hb) <;> (try (exfalso;omega))))
     |(refine W.cond _ rfl (fun hb => ?_) (fun hb => ?_) <;> ((try simp only [hb,zK]) <;> (try simp only [zL,zI] at hb) <;> (try (exfalso;omega))))))
    all_goals first
     |(exfalso;omega)|(refine ⟨j + 1,by omega,by omega,?_⟩;(try dsimp only);rw [e1];exact ⟨[0,1,2,3],rfl,rfl,rfl,iV_eq (by omega),rfl,rfl,rfl,rfl,rfl,rfl,rfl,rfl,trivial⟩)
   ·rw [if_neg hz] at e1
    (repeat' (first
     |(apply yFb;exact rfl;exact rfl)
     |(apply W.qd;(first
     |((apply q_mv;exact Eq.refl (AV.bsl _ _ _)))
     |((apply q_as;exact Eq.refl (AV.bsl _ _ _)))
     |((exact q_len_bsl rfl rfl))|(exact zM)|(exact zN)|(exact jAr)|(exact jAl)|(exact jAj)|(exact q_geq rfl rfl)|(exact jB)|(exact jAi)|(apply (yEb (u := .d _));exact rfl;exact rfl)|(apply (yDb (u := .d _));exact rfl;exact rfl)|(exact jAb)
     |(exact jAn)))|(apply W.ed;((apply e_bytesB;(iterate 3 exact rfl);exact hs.1;exact hs.2;exact rfl;exact rfl)))|(refine W.gOff _ _ rfl rfl (by intro h;cases h) ?_)|(apply yA)|(apply yB)|(refine jAd ?_)|(apply yE)|(apply yH)|(apply yL)|(refine jAw ?_)|(refine W.gT _ _ rfl rfl (fun hb => ?_) (fun hb => ?_) <;> ((try simp only [hb,zK]) <;> (try simp only [zL,zI] at hb) <;> (try (exfalso;omega))))
     |(refine W.cond _ rfl (fun hb => ?_) (fun hb => ?_) <;> ((try simp only [hb,zK]) <;> (try simp only [zL,zI] at hb) <;> (try (exfalso;omega))))))
    all_goals first
     |(exfalso;omega)|(refine ⟨j + 1,by omega,by omega,?_⟩;(try dsimp only);rw [e1];exact ⟨[0,1,2,3],rfl,rfl,rfl,iV_eq (by omega),rfl,rfl,rfl,rfl,rfl,rfl,rfl,rfl,trivial⟩)
  rw [if_neg k3] at e1
  (repeat' (first
   |(apply W.qd;(first
   |(exact zM)|(exact zN)|(exact jAr)|(exact jAl)|(exact jB)|(exact jAi)
   |(exact jAb)))|(apply W.ln;(exact jAh))|(apply yA)|(apply yB)|(refine jAd ?_)|(apply yE)|(apply yL)
   |(refine W.cond _ rfl (fun hb => ?_) (fun hb => ?_) <;> ((try simp only [hb,zK]) <;> (try simp only [zL,zI] at hb) <;> (try (exfalso;omega))))))
  all_goals first
   |(exfalso;omega)|(refine ⟨j + 1,by omega,by omega,?_⟩;(try dsimp only);rw [e1];exact ⟨[0,1,2,3],rfl,rfl,rfl,iV_eq (by omega),rfl,rfl,rfl,rfl,rfl,rfl,rfl,rfl,trivial⟩)
 ·obtain rfl : j = l.length := by omega
  rw [List.take_length]
  have hok := hurN_ok (at' := at') (g := g) (W := U) (fun u hu => (hWb u hu).1) hx hl
  generalize hurN at' g U l x = X at *
  obtain ⟨S,R⟩ := X
  obtain ⟨hS,hR,hSb⟩ := hok
  dsimp only at hS hR hSb
  clear hall
  obtain ⟨_,_,m3⟩ := sta_maps at' g S R n
  have hst := fun k (hk : k < S.length) (ha : k < at'.length) (hr : k < R.length) => A_rstate (p := at'[k]) (g := g) (s := S[k]) (r := R[k]) (hSb _ (List.getElem_mem hk)).1 (hSb _ (List.getElem_mem hk)).2
  generalize hfH : (fun k => decide ((staN (at'.getD k pz0) g (S.getD k []) (R.getD k false)).1 = 1)) = fH at *
  have eH : ∀ k (hk : k < S.length) (ha : k < at'.length) (hr : k < R.length),fH k = decide ((staN at'[k] g S[k] R[k]).1 = 1) := fun k hk ha hr => by
   rw [← hfH]
   simp only [List.getD_eq_getElem?_getD,List.getElem?_eq_getElem hk,List.getElem?_eq_getElem ha,List.getElem?_eq_getElem hr,Option.getD_some]
  clear hfH
  (repeat' (first
   |(apply W.qd;(first
   |(exact zM)|(exact jAj)
   |(exact q_len_osl rfl rfl rfl)))|(apply yA)|(apply yB)|(apply (W.regionS 26);exact rfl;kernel_rfl)|(apply yE)|(apply yG)|(apply yI)|(apply yK)|(apply yM)
   |(refine W.cond _ rfl (fun hb => ?_) (fun hb => ?_) <;> ((try simp only [hb,zK]) <;> (try simp only [zL,zI] at hb) <;> (try (exfalso;omega))))))
  all_goals try (exfalso;omega)
  refine AWP.loopW (α := Nat) (fun k => k ≤ n) (fun k => ⟨[(132,iV k),(131,iV n),(0,pcs at'),(3,.osl 0 v1 0 n),(4,.osl 1 v2 0 n),(7,.opt 2 0),(13,.osl 3 0 0 n)],[.row v1 1 9 (S.map sD),.row v2 1 4 (R.map tD),.box [iV g.1,iV g.2],.row 0 1 4 ((fil fH true n k).map tD)]⟩) (fun k => n - k) 0 (Nat.zero_le _) ?wkB fun k hk => ?_
  case wkB =>
   rw [fil_zero]
   exact ⟨[0,1,2,3],rfl,rfl,rfl,rfl,iV_eq (by omega),rfl,rfl,rfl,rfl,rfl,trivial⟩
  by_cases hkl : k < n
  ·have hkS : k < S.length := by omega
   have hka : k < at'.length := by omega
   have hkR : k < R.length := by omega
   have hs := hst k hkS hka hkR
   have e3 := eH k hkS hka hkR
   have s3 := fil_set (f := fH) (z := true) hkl
   have l3 := fil_len (f := fH) (z := true) (n := n) k
   rw [e3] at s3
   generalize staN at'[k] g S[k] R[k] = q at *
   obtain ⟨y,z⟩ := q
   dsimp only at *
   clear hst eH m3
   generalize fil fH true n k = H1 at *
   (repeat' (first
    |(apply W.qd;(first
    |(exact zW (hs))|(exact zM)|(exact zN)|(exact jAm)|(exact jAj)|(exact jB)|(exact jAi)|(exact jAz)|(exact jAy)|(exact jA)|(exact jAb)
    |(exact jAn)))|(apply W.ln;(exact jAh))|(apply yA)|(apply yB)|(refine jAd ?_)|(refine jAt ?_)|(apply yE)|(refine jBd ?_)|(apply yG)|(apply yH)|(apply yL)
    |(refine W.cond _ rfl (fun hb => ?_) (fun hb => ?_) <;> ((try simp only [hb,zK]) <;> (try simp only [zL,zI] at hb) <;> (try (exfalso;omega))))))
   all_goals first
    |(exfalso;omega)|(refine ⟨k + 1,by omega,by omega,?_⟩;(try dsimp only);rw [← s3];exact ⟨[0,1,2,3],rfl,rfl,rfl,iV_eq (by omega),rfl,rfl,rfl,rfl,rfl,rfl,trivial⟩)
  ·obtain rfl : k = n := by omega
   rw [fil_all,m3]
   (repeat' (first
    |(apply W.qd;(first
    |(exact zM)|(exact zN)
    |(exact jAj)))|(apply yA)|(apply yB)|(refine jAd ?_)|(apply yE)|(apply yI)|(apply yJ)|(apply yK)|(apply yM)
    |(refine W.cond _ rfl (fun hb => ?_) (fun hb => ?_) <;> ((try simp only [hb,zK]) <;> (try simp only [zL,zI] at hb) <;> (try (exfalso;omega))))))
   all_goals first
    |(exfalso;omega)
    |exact ⟨.inl rfl,[0,1,3],[.osl 3 0 0 k],rfl,rfl,⟨rfl,trivial⟩,AVle.of_eq rfl,rfl⟩
theorem A_truth {at' : List Pl} {g : Gn} {U S : List (List Nat)} {H : List Bool} {n : Nat} (hn : n ≤ 1000) (ha : at'.length = n) (hWl : U.length = n) (hSl : S.length = n) (hHl : H.length = n) (hWb : ∀ u ∈ U,isB u) (hSb : ∀ s ∈ S,isB s ∧ s.length ≤ 9223372036854775807) : ACalls Tryz.prog 48 [pcs at',gnA g,strs U,strs S,bools H] [] (bV (truT at' g U S H n)) [] := by
 refine acalls_of_body Tryz.func48 rfl (zU rfl) ?_
 have hma : (at'.map pcD).length = at'.length := List.length_map _
 have hmW : (U.map sD).length = U.length := List.length_map _
 have hmS : (S.map sD).length = S.length := List.length_map _
 have hmH : (H.map tD).length = H.length := List.length_map _
 (repeat' (first
  |(apply W.qd;(first
  |(exact zM)|(exact zN)
  |(exact jBc)))|(apply W.ed;(exact jAc))|(apply yA)|(apply yB)|(apply (W.regionS 2);exact rfl;kernel_rfl)|(apply yE)
  |(apply yG)))
 refine AWP.loopW (α := Nat) (fun k => k ≤ n ∧ truT at' g U S H k = true) (fun k => ⟨[(16,iV k),(15,iV n),(0,pcs at'),(2,strs U),(3,strs S),(4,bools H),(6,.opt 0 0)],[.box [iV g.1,iV g.2]]⟩) (fun k => n - k) 0 ⟨Nat.zero_le _,rfl⟩ ?wkA fun k hk => ?_
 case wkA =>
  exact ⟨[0],rfl,rfl,rfl,rfl,iV_eq (by omega),rfl,rfl,rfl,rfl,rfl,trivial⟩
 obtain ⟨hk,hkt⟩ := hk
 by_cases hkl : k < n
 ·have hkS : k < S.length := by omega
  have hka : k < at'.length := by omega
  have hkW : k < U.length := by omega
  have hkH : k < H.length := by omega
  have hs := A_rstate (p := at'[k]) (g := g) (s := S[k]) (r := H[k]) (hSb _ (List.getElem_mem hkS)).1 (hSb _ (List.getElem_mem hkS)).2
  have ht := truT_succ at' g U S H k
  rw [hkt,Bool.true_and] at ht
  simp only [List.getD_eq_getElem?_getD,List.getElem?_eq_getElem hkS,List.getElem?_eq_getElem hka,List.getElem?_eq_getElem hkW,List.getElem?_eq_getElem hkH,Option.getD_some] at ht
  have hi1 : isB (staN at'[k] g S[k] H[k]).2 := staN_isB (hSb _ (List.getElem_mem hkS)).1
  have hi2 := hWb _ (List.getElem_mem hkW)
  generalize staN at'[k] g S[k] H[k] = q at *
  obtain ⟨y,z⟩ := q
  dsimp only at hs ht hi1
  have hm := fun (h : truT at' g U S H (k + 1) = false) => truT_mono h n (by omega)
  cases hHk : H[k] with
  | false =>
    rw [hHk] at ht
    (repeat' (first
     |(apply yFb;exact rfl;exact rfl)
     |(apply W.qd;(first
     |(exact zW (hs))|(exact zM)|(exact zN)|(exact jAm)|(exact jAj)|(exact jAi)|(exact jAz)|(exact jAe)|(exact jAy)|(exact jA)|(apply (yEb (u := .d _));exact rfl;exact rfl)|(apply (yDb (u := .d _));exact rfl;exact rfl)
     |(exact jBf)))|(refine W.gOff _ _ rfl rfl (by intro h;cases h) ?_)|(apply yA)|(apply yB)|(refine jAd ?_)|(refine jAt ?_)|(apply yE)|(refine jBd ?_)|(apply yG)|(apply yH)|(apply yJ)|(apply yP)|(apply yL)|(apply yN)|(refine jAw ?_)|(refine W.gT _ _ rfl rfl (fun hb => ?_) (fun hb => ?_) <;> ((try simp only [hb,zK]) <;> (try simp only [zL,zI] at hb) <;> (try (exfalso;omega))))
     |(refine W.cond _ rfl (fun hb => ?_) (fun hb => ?_) <;> ((try simp only [hb,zK]) <;> (try simp only [zL,zI] at hb) <;> (try (exfalso;omega))))))
    (all_goals (try (exfalso;exact absurd ((‹H[k] = true› : H[k] = true).symm.trans (‹H[k] = false› : H[k] = false)) (by decide))))
    all_goals first
     |(exfalso;omega)|(refine ⟨k + 1,⟨by omega,ht⟩,by omega,?_⟩;exact ⟨[0],rfl,rfl,rfl,iV_eq (by omega),rfl,rfl,rfl,rfl,rfl,rfl,trivial⟩)
  | true =>
    rw [hHk,Bool.true_and] at ht
    by_cases hz : z = U[k]
    ·rw [decide_eq_true hz] at ht
     (repeat' (first
      |(apply yFb;exact rfl;exact rfl)
      |(apply W.qd;(first
      |(exact zW (hs))|(exact zM)|(exact zN)|(exact jAm)|(exact jAj)|(exact jAi)|(exact jAz)|(exact jAe)|(exact jAy)|(exact jA)|(apply (yEb (u := .d _));exact rfl;exact rfl)|(apply (yDb (u := .d _));exact rfl;exact rfl)
      |(exact jBf)))|(refine W.gOff _ _ rfl rfl (by intro h;cases h) ?_)|(apply yA)|(apply yB)|(refine jAd ?_)|(refine jAt ?_)|(apply yE)|(refine jBd ?_)|(apply yG)|(apply yH)|(apply yJ)|(apply yP)|(apply yL)|(apply yN)|(refine jAw ?_)|(refine W.gT _ _ rfl rfl (fun hb => ?_) (fun hb => ?_) <;> ((try simp only [hb,zK]) <;> (try simp only [zL,zI] at hb) <;> (try (exfalso;omega))))
      |(refine W.cond _ rfl (fun hb => ?_) (fun hb => ?_) <;> ((try simp only [hb,zK]) <;> (try simp only [zL,zI] at hb) <;> (try (exfalso;omega))))))
     (all_goals (try (exfalso;exact absurd ((‹H[k] = true› : H[k] = true).symm.trans (‹H[k] = false› : H[k] = false)) (by decide))))
     all_goals (try exact absurd hz ‹_›)
     all_goals first
      |(exfalso;omega)|(refine ⟨k + 1,⟨by omega,ht⟩,by omega,?_⟩;exact ⟨[0],rfl,rfl,rfl,iV_eq (by omega),rfl,rfl,rfl,rfl,rfl,rfl,trivial⟩)
    ·rw [decide_eq_false hz] at ht
     have hf := hm ht
     (repeat' (first
      |(apply yFb;exact rfl;exact rfl)
      |(apply W.qd;(first
      |(exact zW (hs))|(exact zM)|(exact zN)|(exact jAm)|(exact jAj)|(exact jAi)|(exact jAz)|(exact jAe)|(exact jAy)|(exact jA)|(apply (yEb (u := .d _));exact rfl;exact rfl)|(apply (yDb (u := .d _));exact rfl;exact rfl)
      |(exact jBf)))|(refine W.gOff _ _ rfl rfl (by intro h;cases h) ?_)|(apply yA)|(apply yB)|(refine jAd ?_)|(refine jAt ?_)|(apply yE)|(refine jBd ?_)|(apply yG)|(apply yH)|(apply yJ)|(apply yP)|(apply yL)|(apply yN)|(refine jAw ?_)|(refine W.gT _ _ rfl rfl (fun hb => ?_) (fun hb => ?_) <;> ((try simp only [hb,zK]) <;> (try simp only [zL,zI] at hb) <;> (try (exfalso;omega))))
      |(refine W.cond _ rfl (fun hb => ?_) (fun hb => ?_) <;> ((try simp only [hb,zK]) <;> (try simp only [zL,zI] at hb) <;> (try (exfalso;omega))))))
     (all_goals (try (exfalso;exact absurd ((‹H[k] = true› : H[k] = true).symm.trans (‹H[k] = false› : H[k] = false)) (by decide))))
     all_goals (try exact absurd ‹_› hz)
     all_goals first
      |(exfalso;omega)
      |exact Ends.b rfl hf.symm
 ·obtain rfl : k = n := by omega
  (repeat' (first
   |(apply W.qd;(first
   |(exact zN)
   |(exact jAj)))|(apply yA)|(apply yB)|(refine jAd ?_)|(apply yE)|(apply yI)|(apply yJ)|(apply yK)|(apply yM)
   |(refine W.cond _ rfl (fun hb => ?_) (fun hb => ?_) <;> ((try simp only [hb,zK]) <;> (try simp only [zL,zI] at hb) <;> (try (exfalso;omega))))))
  all_goals first
   |(exfalso;omega)
   |exact Ends.b rfl hkt.symm
end
section
theorem A_recovN {M D u : Nat} {ps : List (List Nat)} {hv : List Bool} (h : CodeOk M D ps) (hl : hv.length = D + ps.length) (hu : u < D + ps.length) : ACalls Tryz.prog 51 [cdA M D (toZ ps),bools hv,iV u] [] (bV (combN M D ps hv u).isSome) [] := by
 have hc := A_r8comb h hl hu
 rw [cdN_A] at hc
 cases hq : combN M D ps hv u with
 | none => rw [hq] at hc;unfold termsA at hc;exact A_r8recov hc
 | some l => rw [hq] at hc;unfold termsA at hc;exact A_r8recov hc
theorem seal_srok {M D : Nat} {ps ds : List (List Nat)} {at' : List Pl} {g : Gn} (hWb : ∀ u ∈ encN M ps ds, isB u) (hB : slB at' g (encN M ps ds) (D + ps.length) = true) : SrOk (D + ps.length) (slL at' g (encN M ps ds) (D + ps.length), List.replicate (D + ps.length) true) where
 s := slL_len _ _ _ _
 r := by simp
 b s hs := by
  unfold slL at hs
  obtain ⟨k,hk,rfl⟩ := List.mem_map.1 hs
  exact seal_in (isB_getDL hWb k) (slB_get hB (List.mem_range.1 hk)).1
attribute [local irreducible] Quiet Eff OpOk AWPG ACont ABlock ACalls AGoto
theorem A_scrubLoses {M D : Int} {par : List (List Int)} {ds : List (List Nat)} {at' : List Pl} {g : Gn} {l : List Hu} (hal : at'.length ≤ 9223372036854775807) (hdl : ds.length ≤ 9223372036854775807) (hds : ∀ u ∈ ds,isB u ∧ u.length ≤ 2000000) (hl : ∀ h ∈ l,HuIn h) (hll : l.length ≤ 9223372036854775807) : ACalls Tryz.prog 14 [cdA M D par,strs ds,pcs at',gnA g,hus l] [] (bV true) [] := by
 refine acalls_of_body Tryz.func14 rfl (zU rfl) ?_
 have hsa := A_sanity40
 have hml : (l.map huD).length = l.length := List.length_map _
 rcases strip_cases (M := M) (D := D) (par := par) (g := g) hal hdl hds with hstr | ⟨m,d,ps,rfl,rfl,rfl,hok,hdl2,h32,ha,hB,hstr⟩
 ·(repeat' (first
  |(apply W.qd;(first
  |(exact zW (hstr))|(exact zW (hsa))|(exact zM)|(exact zN)|(exact jAm)|(exact jBh)|(exact jAz)
  |(apply (yEb (u := .d _));exact rfl;exact rfl)))|(apply W.ed;(exact jAc))|(refine W.gOff _ _ rfl rfl (by intro h;cases h) ?_)|(apply yA)|(apply yB)|(refine jAd ?_)|(apply yE)|(apply yJ)|(apply yP)
  |(refine jBe ?_)))
  all_goals first | (exfalso;omega) | exact Ends.b rfl rfl
 ·have hd := hok.d
  have hw := hok.w
  have hEb := encN_ok hok hdl2 h32 (fit32 hok.f)
  have hWl : (encN m ps ds).length = d + ps.length := by rw [encN_length,hdl2]
  have hmW : ((encN m ps ds).map sD).length = (encN m ps ds).length := List.length_map _
  by_cases h20 : 20 < l.length
  ·clear hEb hB
   generalize slL at' g (encN m ps ds) (d + ps.length) = X at *
   generalize encN m ps ds = Wd at *
   (repeat' (first
    |(apply yFb;exact rfl;exact rfl)
    |(apply W.qd;(first
    |(exact zW (hsa))|(exact zM)|(exact zN)|(exact jAm)|(exact q_gtr rfl rfl)|(exact jBh)|(exact jAz)|(exact jBc)
    |(apply (yDb (u := .d _));exact rfl;exact rfl)))
    |(apply W.ed;(first
    |(apply (e_callJ (js := []) (hstr));(iterate 5 exact rfl);kernel_rfl;kernel_rfl)
    |(exact jAc)))|(apply yA)|(apply yB)|(apply (W.regionS 4);exact rfl;kernel_rfl)|(apply yE)|(apply yJ)|(apply yP)
    |(refine W.cond _ rfl (fun hb => ?_) (fun hb => ?_) <;> ((try simp only [hb,zK]) <;> (try simp only [zL,zI] at hb) <;> (try (exfalso;omega))))))
   all_goals first | (exfalso;omega) | exact Ends.b rfl rfl
  have hWb : ∀ u ∈ encN m ps ds,isB u := fun u hu => (hEb u hu).1
  have hWb2 : ∀ u ∈ encN m ps ds,isB u ∧ u.length ≤ 9223372036854775807 := fun u hu => ⟨(hEb u hu).1,by rw [(hEb u hu).2];decide⟩
  have hx0 := seal_srok (M := m) (D := d) (ps := ps) (ds := ds) hWb hB
  have hX := hurN_ok (at' := at') (g := g) (W := encN m ps ds) hWb hx0 hl
  have hhu := A_hurt (v1 := d + ps.length) (v2 := 0) (g := g) hx0 (by omega) ha hWl hWb2 hl hll
  have hgl := gdN_len at' g (hurN at' g (encN m ps ds) l (slL at' g (encN m ps ds) (d + ps.length),List.replicate (d + ps.length) true)) (d + ps.length)
  have hdc := A_r8decod hok hgl
  have hrc := fun u (hu : u < d + ps.length) => A_recovN hok hgl hu
  have htr := A_truth (g := g) (U := encN m ps ds) (by omega) ha hWl hX.s hgl hWb hX.b
  have c1 := A_checkG (g := g) hok ha hX.s hX.r hX.b
  have c2 := A_fixes (g := g) hok ha hX.s hX.r hX.b
  have hall := A_lallO (n := d + ps.length) (by omega)
  have hall : ACalls Tryz.prog 44 [iV (((encN m ps ds).map sD).length : Nat)] [] (.osl 0 0 0 (d + ps.length)) [.row 0 1 4 ((List.replicate (d + ps.length) true).map tD)] := by rw [hmW,hWl];exact hall
  rw [cdN_A] at hdc c1 c2
  have hrp := fun ht hn => rp_lost (at' := at') (g := g) (x := hurN at' g (encN m ps ds) l (slL at' g (encN m ps ds) (d + ps.length),List.replicate (d + ps.length) true)) hok hdl2 h32 ht hn
  have hdn : decN m d ps (gdN at' g (hurN at' g (encN m ps ds) l (slL at' g (encN m ps ds) (d + ps.length),List.replicate (d + ps.length) true)) (d + ps.length)) = decide ((basisN m d ps (gdN at' g (hurN at' g (encN m ps ds) l (slL at' g (encN m ps ds) (d + ps.length),List.replicate (d + ps.length) true)) (d + ps.length))).length = d) := by
   unfold decN;rw [decide_eq_true hgl,Bool.true_and]
  rw [← hdn] at hdc
  clear hdn hEb hB hx0
  have hX1 := hX.s
  have hX2 := hX.r
  dsimp only at hhu
  generalize hurN at' g (encN m ps ds) l (slL at' g (encN m ps ds) (d + ps.length),List.replicate (d + ps.length) true) = Y at *
  clear hX
  generalize hH : gdN at' g Y (d + ps.length) = H at *
  generalize slL at' g (encN m ps ds) (d + ps.length) = X at *
  obtain ⟨S,R⟩ := Y
  dsimp only at *
  by_cases hgo : decN m d ps H = false ∧ truT at' g (encN m ps ds) S H (d + ps.length) = true
  ·obtain ⟨g1, g2⟩ := hgo
   have hrp := hrp g2 g1
   rw [hrp] at c1 c2
   rw [fx_lost] at c2
   rw [g1] at hdc
   rw [g2] at htr
   dsimp only [rpA] at c1 c2
   have hRl : ∀ k (hk : k < ((List.range (d + ps.length)).map fun k => if (combN m d ps H k).isSome = true then (encN m ps ds).getD k [] else []).length) (hkW : k < (encN m ps ds).length),((List.range (d + ps.length)).map fun k => if (combN m d ps H k).isSome = true then (encN m ps ds).getD k [] else [])[k] = if (combN m d ps H k).isSome = true then (encN m ps ds)[k] else [] := fun k hk hkW => by
    rw [List.getElem_map,List.getElem_range,List.getD_eq_getElem?_getD,List.getElem?_eq_getElem hkW];rfl
   have hRn : ((List.range (d + ps.length)).map fun k => if (combN m d ps H k).isSome = true then (encN m ps ds).getD k [] else []).length = d + ps.length := by simp
   generalize ((List.range (d + ps.length)).map fun k => if (combN m d ps H k).isSome = true then (encN m ps ds).getD k [] else []) = U at *
   generalize stS (staL at' g S R (d + ps.length)) = Z at *
   generalize encN m ps ds = Wd at *
   clear hrp g1 g2
   generalize hn : d + ps.length = n at *
   have hmU : (U.map sD).length = U.length := List.length_map _
   (repeat' (first
    |(apply yFb;exact rfl;exact rfl)
    |(apply W.qd;(first
    |(exact zM)|(exact zN)|(exact jAm)|(exact q_gtr rfl rfl)|(exact jBh)|(exact jAz)|(exact jBc)
    |(apply (yDb (u := .d _));exact rfl;exact rfl)))
    |(apply W.ed;(first
    |(apply (e_callJ (js := []) (hstr));(iterate 5 exact rfl);kernel_rfl;kernel_rfl)|(apply (e_callJ (js := []) (hall));(iterate 5 exact rfl);kernel_rfl;kernel_rfl)|(apply (e_callJ (js := [2,3]) (hhu));(iterate 5 exact rfl);kernel_rfl;kernel_rfl)
    |(exact jAc)))|(apply yA)|(apply yB)|(apply (W.regionS 6);exact rfl;kernel_rfl)|(apply yE)|(apply yH)
    |(refine W.cond _ rfl (fun hb => ?_) (fun hb => ?_) <;> ((try simp only [hb,zK]) <;> (try simp only [zL,zI] at hb) <;> (try (exfalso;omega))))))
   all_goals try (exfalso;omega)
   refine AWP.wk ⟨[(2,pcs at'),(5,.opt 0 0),(8,.opt 1 0),(11,strs Wd),(12,strs S),(14,bools R),(15,bools H)],[.box [.d .any,iV m,iV d,rowsA (toZ ps),.d .any],.box [iV g.1,iV g.2]]⟩ ⟨[0,1],rfl,rfl,rfl,rfl,rfl,rfl,rfl,(frz_rowJ rfl rfl (by rw [List.length_map];exact hX1.symm)).symm,(frz_rowJ rfl rfl (by rw [List.length_map];exact hX2.symm)).symm,(frz_rowJ rfl rfl (by rw [List.length_map];exact hgl.symm)).symm,trivial⟩ ?_
   (repeat' (first
    |(apply yFb;exact rfl;exact rfl)
    |(apply W.qd;(first
    |(exact zW (hdc))|(exact zW (htr))|(exact zW (c1))|(exact zW (c2))|(exact zM)|(exact zN)|(exact jAr)|(exact jAl)|(exact jAm)|(exact jAv)|(exact jBh)|(exact jAz)|(exact jBc)
    |(apply (yDb (u := .d _));exact rfl;exact rfl)))|(apply W.ed;(exact jAq))|(apply W.ln;(exact jAg))|(apply yA)|(apply yB)|(apply (W.regionS 13);exact rfl;kernel_rfl)|(apply yE)|(apply yG)|(apply yH)|(refine jAw ?_)
    |(refine W.cond _ rfl (fun hb => ?_) (fun hb => ?_) <;> ((try simp only [hb,zK]) <;> (try simp only [zL,zI] at hb) <;> (try (exfalso;omega))))))
   all_goals try (exfalso;omega)
   refine AWP.loopW (α := Nat) (fun k => k ≤ n) (fun k => ⟨[(108,iV k),(107,iV n),(106,strs U),(5,.opt 0 0),(11,strs Wd),(15,bools H)],[.box [.d .any,iV m,iV d,rowsA (toZ ps),.d .any],.box [iV g.1,iV g.2],.box [iV 3,ints Z,strs U,iV (-1)]]⟩) (fun k => n - k) 0 (Nat.zero_le _) ?wkA fun k hk => ?_
   case wkA => exact ⟨[0,1,2],rfl,rfl,rfl,rfl,iV_eq (by omega),rfl,rfl,rfl,rfl,trivial⟩
   by_cases hkl : k < n
   ·have hkU : k < U.length := by omega
    have hkW : k < Wd.length := by omega
    have e1 := hRl k hkU hkW
    have hr := hrc k hkl
    have hi := hWb _ (List.getElem_mem hkW)
    clear hall c1 c2 hstr hsa hdc htr hhu hrc hRl
    cases hq : (combN m d ps H k).isSome with
    | true =>
      rw [hq] at hr
      rw [hq,if_pos rfl] at e1
      have hv : (!decide (U[k] = Wd[k])) = false := by rw [e1];simp
      have hi2 : isB U[k] := by rw [e1];exact hi
      (repeat' (first
       |(apply W.qd;(first
       |(exact zW (hr))
       |((apply (q_neqSV (v := false));exact rfl;exact rfl;exact hi2;exact hi;exact hv))|(exact zM)|(exact zN)|(exact jAm)|(exact jAj)|(exact jAi)|(exact jAe)
       |(exact jA)))|(apply yA)|(apply yB)|(refine jAd ?_)|(apply yE)|(apply yG)|(apply yH)|(apply yL)|(refine jBe ?_)|(refine jAw ?_)
       |(refine W.cond _ rfl (fun hb => ?_) (fun hb => ?_) <;> ((try simp only [hb,zK]) <;> (try simp only [zL,zI] at hb) <;> (try (exfalso;omega))))))
      all_goals first
       |(exfalso;omega)
       |exact ⟨k + 1,by omega,by omega,[0,1,2],rfl,rfl,rfl,iV_eq (by omega),rfl,rfl,rfl,rfl,rfl,trivial⟩
    | false =>
      rw [hq] at hr
      rw [hq,if_neg (by decide)] at e1
      have hv : (!decide (U[k] = ([] : List Nat))) = false := by rw [e1];simp
      have hi2 : isB U[k] := by rw [e1];exact isB_nil
      (repeat' (first
       |(apply W.qd;(first
       |(exact zW (hr))
       |((apply (q_neqSV (l' := []) (v := false));exact rfl;exact rfl;exact hi2;exact isB_nil;exact hv))|(exact zM)|(exact zN)|(exact jAm)|(exact jAj)|(exact jAi)|(exact jAe)
       |(exact jA)))|(apply yA)|(apply yB)|(refine jAd ?_)|(apply yE)|(apply yG)|(apply yH)|(apply yL)|(refine jAw ?_)
       |(refine W.cond _ rfl (fun hb => ?_) (fun hb => ?_) <;> ((try simp only [hb,zK]) <;> (try simp only [zL,zI] at hb) <;> (try (exfalso;omega))))))
      all_goals first
       |(exfalso;omega)
       |exact ⟨k + 1,by omega,by omega,[0,1,2],rfl,rfl,rfl,iV_eq (by omega),rfl,rfl,rfl,rfl,rfl,trivial⟩
   ·obtain rfl : k = n := by omega
    clear hall c1 c2 hstr hdc htr hhu hrc hRl
    (repeat' (first
     |(apply W.qd;(first
     |(exact zW (hsa))|(exact zN)
     |(exact jAj)))|(apply yA)|(apply yB)|(refine jAd ?_)|(apply yE)|(apply yI)|(apply yJ)|(apply yK)|(apply yM)
     |(refine W.cond _ rfl (fun hb => ?_) (fun hb => ?_) <;> ((try simp only [hb,zK]) <;> (try simp only [zL,zI] at hb) <;> (try (exfalso;omega))))))
    all_goals first
     |(exfalso;omega)
     |exact Ends.b rfl rfl
  ·clear hrp c1 c2 hrc
   generalize truT at' g (encN m ps ds) S H (d + ps.length) = tb at *
   generalize decN m d ps H = db at *
   generalize encN m ps ds = Wd at *
   generalize hn : d + ps.length = n at *
   (repeat' (first
    |(apply yFb;exact rfl;exact rfl)
    |(apply W.qd;(first
    |(exact zM)|(exact zN)|(exact jAm)|(exact q_gtr rfl rfl)|(exact jBh)|(exact jAz)|(exact jBc)
    |(apply (yDb (u := .d _));exact rfl;exact rfl)))
    |(apply W.ed;(first
    |(apply (e_callJ (js := []) (hstr));(iterate 5 exact rfl);kernel_rfl;kernel_rfl)|(apply (e_callJ (js := []) (hall));(iterate 5 exact rfl);kernel_rfl;kernel_rfl)|(apply (e_callJ (js := [2,3]) (hhu));(iterate 5 exact rfl);kernel_rfl;kernel_rfl)
    |(exact jAc)))|(apply yA)|(apply yB)|(apply (W.regionS 6);exact rfl;kernel_rfl)|(apply yE)|(apply yH)
    |(refine W.cond _ rfl (fun hb => ?_) (fun hb => ?_) <;> ((try simp only [hb,zK]) <;> (try simp only [zL,zI] at hb) <;> (try (exfalso;omega))))))
   all_goals try (exfalso;omega)
   refine AWP.wk ⟨[(2,pcs at'),(5,.opt 0 0),(8,.opt 1 0),(11,strs Wd),(12,strs S),(14,bools R),(15,bools H)],[.box [.d .any,iV m,iV d,rowsA (toZ ps),.d .any],.box [iV g.1,iV g.2]]⟩ ⟨[0,1],rfl,rfl,rfl,rfl,rfl,rfl,rfl,(frz_rowJ rfl rfl (by rw [List.length_map];exact hX1.symm)).symm,(frz_rowJ rfl rfl (by rw [List.length_map];exact hX2.symm)).symm,(frz_rowJ rfl rfl (by rw [List.length_map];exact hgl.symm)).symm,trivial⟩ ?_
   cases db with
   | true =>
     (repeat' (first
      |(apply W.qd;(first
      |(exact zW (hdc))|(exact zW (hsa))|(exact zM)|(exact zN)|(exact jAm)
      |(apply (yEb (u := .d _));exact rfl;exact rfl)))|(refine W.gOff _ _ rfl rfl (by intro h;cases h) ?_)|(apply yA)|(apply yB)|(refine jAd ?_)|(apply yE)|(apply yJ)|(apply yP)
      |(refine jBe ?_)))
     all_goals first
      |(exfalso;omega)
      |exact Ends.b rfl rfl
   | false =>
     cases tb with
     | true => exact absurd ⟨rfl,rfl⟩ hgo
     | false =>
       (repeat' (first
        |(apply yFb;exact rfl;exact rfl)
        |(apply W.qd;(first
        |(exact zW (hdc))|(exact zW (htr))|(exact zW (hsa))|(exact zM)|(exact zN)|(exact jAm)|(exact jBh)
        |(apply (yDb (u := .d _));exact rfl;exact rfl)))|(apply yA)|(apply yB)|(refine jAd ?_)|(apply yE)|(apply yJ)|(apply yP)
        |(refine jBe ?_)))
       all_goals first
        |(exfalso;omega)
        |exact Ends.b rfl rfl
end
end Go.Proofs.YtplpgijpmgbaiaaGreatDoor
