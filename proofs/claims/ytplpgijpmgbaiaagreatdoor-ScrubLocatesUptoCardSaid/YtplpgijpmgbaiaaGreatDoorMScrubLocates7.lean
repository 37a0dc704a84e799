import Derived.Test.YtplpgijpmgbaiaaGreatDoorMScrubLocates6
/- Joined texts: Sc20 Sc21 Sc24 Sc25 Sc26 Sc28 Sc29 Sc32 Sc33 Sc35. -/
set_option linter.unusedVariables false
set_option linter.unusedSimpArgs false
namespace Go.Proofs.YtplpgijpmgbaiaaGreatDoor
open Go.RowKit
set_option maxHeartbeats 4000000
set_option maxRecDepth 100000
section
theorem Ends.cell2K {P : Program} {env : List (Nat × AV)} {own own' : List Ent} {t p i : Nat} {tyc : TypeId} {l : List AV} {y r : AV} {mm : Nat} (js : List Nat) (hx : look env p = .opt i 0) (ho : own[i]? = some (.box l)) (ht : tyInfo P tyc = some (true,l.length)) (hy : look env t = y) (hj : selOk own js = true) (hm : js.take mm = List.range mm) (hs : selOwn own js = own') (hr : AV.frz own js (.tup [.agg l,y]) = r) : EndsO P mm [.cell p tyc,.tmp t] r own' .ret ⟨env,own⟩ :=
 ⟨.inl rfl,js,[.agg l,y],hj,hm,⟨⟨i,l,true,hx,ho,ht,rfl⟩,hy,trivial⟩,AVle.of_eq hr,hs⟩
theorem frz_repK1 {own : List Ent} {n : Nat} {e : TypeId} {l : List Int} {a b c : Int} {y : Dat} (h : own[4]? = some (.row 0 1 e (l.map iD))) (hn : n = l.length) : AV.frz own [0] (.tup [.agg [iV a,.osl 4 0 0 n,.d y,iV b],iV c]) = .tup [.agg [iV a,ints l,.d y,iV b],iV c] := by
 show AV.tup [.agg [iV a,AV.frz own [0] (.osl 4 0 0 n),.d y,iV b],iV c] = _
 rw [frz_rowJ h rfl (by rw [List.length_map];exact hn)]
theorem frz_repK2 {own : List Ent} {n : Nat} {e e' : TypeId} {l : List Int} {q : List (List Nat)} {a b c : Int} (h : own[4]? = some (.row 0 1 e (l.map iD))) (hn : n = l.length) (h' : own[5]? = some (.row 0 1 e' (q.map sD))) (hn' : n = q.length) : AV.frz own [0] (.tup [.agg [iV a,.osl 4 0 0 n,.osl 5 0 0 n,iV b],iV c]) = .tup [.agg [iV a,ints l,strs q,iV b],iV c] := by
 show AV.tup [.agg [iV a,AV.frz own [0] (.osl 4 0 0 n),AV.frz own [0] (.osl 5 0 0 n),iV b],iV c] = _
 rw [frz_rowJ h rfl (by rw [List.length_map];exact hn),frz_rowJ h' rfl (by rw [List.length_map];exact hn')]
attribute [local irreducible] Quiet Eff OpOk AWPG ACont ABlock ACalls AGoto
theorem A_checkBR {M D : Int} {par : List (List Int)} {at' : List Pl} {g : Gn} {ss : List (List Nat)} {rd : List Bool} {v : Nat} (hp : CodeIn par) (h : chkB M D par at' ss rd = false) (hD : D ≤ 1000000) (hP : par.length ≤ 1000000) : ACalls Tryz.prog 38 [cdA M D par,pcs at',gnA g,.osl 0 v 0 ss.length,bools rd] [.row v 1 9 (ss.map sD)] (.tup [rpA rep0,iV 1]) [.row v 1 9 (ss.map sD)] := by
 refine acalls_of_bodyO Tryz.func38 rfl (zU rfl) ?_
 have hw := A_ewidth (M := M) (D := D) hp
 have hma : (at'.map pcD).length = at'.length := List.length_map _
 have hms : (ss.map sD).length = ss.length := List.length_map _
 have hmr : (rd.map tD).length = rd.length := List.length_map _
 unfold chkB at h
 cases hv : validC M D par with
 | false =>
   rw [hv,if_neg (by decide)] at hw
   (repeat' (first
    |(apply W.qd;(first
    |(exact zW (hw))|(exact zM)|(exact zN)|(exact jAn)|(exact jBb)|(exact jBe)
    |(apply (yEb (u := .d _));exact rfl;exact rfl)))
    |(apply W.ed;(first
    |(exact jAc)
    |(exact jAq)))|(apply W.ln;(exact jAh))|(refine W.gOff _ _ rfl rfl (by intro h;cases h) ?_)|(apply yA)|(apply yB)|(refine jAe ?_)|(apply yE)|(apply yJ)|(apply yP)
    |(refine jBa ?_)))
   all_goals first
    |(exfalso;omega)
    |exact ⟨.inl rfl,[0],[.agg [iV 0,.d (.v (.slice none 0 0)),.d (.v (.slice none 0 0)),iV 0],iV 1],rfl,rfl,⟨⟨3,_,true,rfl,rfl,rfl,rfl⟩,rfl,trivial⟩,AVle.tup ⟨AVle.agg ⟨AVle.of_eq rfl,AVle.nil 1,AVle.nil 1,AVle.of_eq rfl,trivial⟩,AVle.of_eq rfl,trivial⟩,rfl⟩
 | true =>
   rw [hv,if_pos rfl] at hw
   rw [hv,Bool.true_and,decide_eq_false_iff_not] at h
   (repeat' (first
    |(apply yFb;exact rfl;exact rfl)
    |(apply W.qd;(first
    |(exact zW (hw))|(exact zM)|(exact zN)|(exact jAn)|(exact jBb)|(exact jAv)|(exact jB)|(exact q_len_osl rfl rfl rfl)|(exact jBe)|(apply (yEb (u := .d _));exact rfl;exact rfl)
    |(apply (yDb (u := .d _));exact rfl;exact rfl)))
    |(apply W.ed;(first
    |(exact jAc)
    |(exact jAq)))|(apply W.ln;(exact jAh))|(refine W.gOff _ _ rfl rfl (by intro h;cases h) ?_)|(apply yA)|(apply yB)|(apply (W.regionS 4);exact rfl;kernel_rfl)|(apply yE)|(apply yJ)|(apply yP)|(refine jBa ?_)|(refine W.gF _ _ rfl rfl (fun hb => ?_) (fun hb => ?_) <;> ((try simp only [hb,zK]) <;> (try simp only [zL,zI] at hb) <;> (try (exfalso;omega))))
    |(refine W.cond _ rfl (fun hb => ?_) (fun hb => ?_) <;> ((try simp only [hb,zK]) <;> (try simp only [zL,zI] at hb) <;> (try (exfalso;omega))))))
   all_goals first
    |(exfalso;omega)
    |exact ⟨.inl rfl,[0],[.agg [iV 0,.d (.v (.slice none 0 0)),.d (.v (.slice none 0 0)),iV 0],iV 1],rfl,rfl,⟨⟨3,_,true,rfl,rfl,rfl,rfl⟩,rfl,trivial⟩,AVle.tup ⟨AVle.agg ⟨AVle.of_eq rfl,AVle.nil 1,AVle.nil 1,AVle.of_eq rfl,trivial⟩,AVle.of_eq rfl,trivial⟩,rfl⟩
theorem A_checkR {M D : Nat} {ps : List (List Nat)} {at' : List Pl} {g : Gn} {ss : List (List Nat)} {rd : List Bool} {v : Nat} (h : CodeOk M D ps) (ha : at'.length = D + ps.length) (hs : ss.length = D + ps.length) (hr : rd.length = D + ps.length) (hsb : ∀ s ∈ ss,isB s ∧ s.length ≤ 9223372036854775807) : ACalls Tryz.prog 38 [cdN M D ps,pcs at',gnA g,.osl 0 v 0 ss.length,bools rd] [.row v 1 9 (ss.map sD)] (.tup [rpA (rpN M D ps at' g ss rd),iV 0]) [.row v 1 9 (ss.map sD)] := by
 refine acalls_of_bodyO Tryz.func38 rfl (zU rfl) ?_
 have h1 := h.d
 have h2 := h.w
 have hma : (at'.map pcD).length = at'.length := List.length_map _
 have hms : (ss.map sD).length = ss.length := List.length_map _
 have hmr : (rd.map tD).length = rd.length := List.length_map _
 have hw := A_ewidthN h
 have hsrc := sta_src (at' := at') (g := g) (rd := rd) h (fun s hx => (hsb s hx).1)
 have hhl := hsrc.hl
 have f1 := A_locate hsrc
 have f2 := A_correct hsrc
 have f3 := fun u (hu : u < D + ps.length) => A_erecS hsrc (u := u) hu
 have hlc := loc_cases M D ps (stU (staL at' g ss rd (D + ps.length))) (stH (staL at' g ss rd (D + ps.length)))
 obtain ⟨m1,m2,m3⟩ := sta_maps at' g ss rd (D + ps.length)
 have hSl : (stS (staL at' g ss rd (D + ps.length))).length = D + ps.length := by unfold stS;rw [List.length_map,staL_length]
 unfold rpN repU
 generalize stU (staL at' g ss rd (D + ps.length)) = U at *
 generalize stS (staL at' g ss rd (D + ps.length)) = S at *
 generalize stH (staL at' g ss rd (D + ps.length)) = H at *
 have hstt := fun k (hk : k < ss.length) (ha : k < at'.length) (hr : k < rd.length) => A_state (p := at'[k]) (g := g) (s := ss[k]) (r := rd[k]) (hsb _ (List.getElem_mem hk)).1 (hsb _ (List.getElem_mem hk)).2
 have hga : ∀ k (hk : k < at'.length),at'.getD k pz0 = at'[k] := fun k hk => by rw [List.getD_eq_getElem?_getD,List.getElem?_eq_getElem hk];rfl
 have hgs : ∀ k (hk : k < ss.length),ss.getD k [] = ss[k] := fun k hk => by rw [List.getD_eq_getElem?_getD,List.getElem?_eq_getElem hk];rfl
 have hgr : ∀ k (hk : k < rd.length),rd.getD k false = rd[k] := fun k hk => by rw [List.getD_eq_getElem?_getD,List.getElem?_eq_getElem hk];rfl
 generalize hfS : (fun k => (staN (at'.getD k pz0) g (ss.getD k []) (rd.getD k false)).1) = fS at *
 generalize hfU : (fun k => (staN (at'.getD k pz0) g (ss.getD k []) (rd.getD k false)).2) = fU at *
 generalize hfH : (fun k => decide ((staN (at'.getD k pz0) g (ss.getD k []) (rd.getD k false)).1 = 1)) = fH at *
 have eS : ∀ k (hk : k < ss.length) (ha : k < at'.length) (hr : k < rd.length),fS k = (staN at'[k] g ss[k] rd[k]).1 := fun k hk ha hr => by rw [← hfS];show (staN _ _ _ _).1 = _;rw [hga k ha,hgs k hk,hgr k hr]
 have eU : ∀ k (hk : k < ss.length) (ha : k < at'.length) (hr : k < rd.length),fU k = (staN at'[k] g ss[k] rd[k]).2 := fun k hk ha hr => by rw [← hfU];show (staN _ _ _ _).2 = _;rw [hga k ha,hgs k hk,hgr k hr]
 have eH : ∀ k (hk : k < ss.length) (ha : k < at'.length) (hr : k < rd.length),fH k = decide ((staN at'[k] g ss[k] rd[k]).1 = 1) := fun k hk ha hr => by rw [← hfH];show decide ((staN _ _ _ _).1 = 1) = _;rw [hga k ha,hgs k hk,hgr k hr]
 have hrec : ∀ k,k < D + ps.length → ∃ e : Int,ACalls Tryz.prog 88 [cdN M D ps,strs U,bools H,iV k] [] (.tup [bS ((recN M D ps U H k).getD []),iV e]) [] := fun k hk => by
  have h1 := f3 k hk
  obtain ⟨e,he⟩ := recR_eq (recN M D ps U H k)
  rw [he] at h1
  exact ⟨e,h1⟩
 generalize hR : (fun k => (recN M D ps U H k).getD []) = fR at *
 have eR : ∀ k,(recN M D ps U H k).getD [] = fR k := fun k => congrFun hR k
 simp only [eR] at hrec ⊢
 clear hfS hfU hfH hga hgs hgr f3 hsrc hR eR
 generalize locN M D ps U H = L at *
 generalize corN M D ps U H = C at *
 generalize hn : D + ps.length = n at *
 (repeat' (first
  |(apply yFb;exact rfl;exact rfl)
  |(apply W.qd;(first
  |(exact zW (hw))|(exact zM)|(exact zN)|(exact jAn)|(exact jBb)|(exact jAv)|(exact jB)|(exact q_len_osl rfl rfl rfl)
  |(apply (yDb (u := .d _));exact rfl;exact rfl)))
  |(apply W.ed;(first
  |(exact jAc)
  |(exact jAq)))|(apply yA)|(apply yB)|(apply (W.regionS 4);exact rfl;kernel_rfl)|(apply yE)|(apply yH)|(refine W.gF _ _ rfl rfl (fun hb => ?_) (fun hb => ?_) <;> ((try simp only [hb,zK]) <;> (try simp only [zL,zI] at hb) <;> (try (exfalso;omega))))
  |(refine W.cond _ rfl (fun hb => ?_) (fun hb => ?_) <;> ((try simp only [hb,zK]) <;> (try simp only [zL,zI] at hb) <;> (try (exfalso;omega))))))
 all_goals try (exfalso;omega)
 refine AWP.hole rfl (AWP.hole rfl (AWP.hole rfl ?_))
 (repeat' (first
  |(apply W.qd;(first
  |(exact zM)
  |(exact jBe)))
  |(apply W.ld;(first
  |(apply (l_make (f := iD) 0);(iterate 10 exact rfl);kernel_rfl;omega)|(apply (l_make (f := sD) []);(iterate 10 exact rfl);kernel_rfl;omega)
  |(apply l_alloc;(iterate 3 exact rfl);kernel_rfl;kernel_rfl)))|(apply W.ln;(exact jAh))|(apply yA)|(apply yB)|(apply (W.regionDS 5);exact rfl;exact rfl;kernel_rfl)|(apply yE)
  |(refine jBc ?_)))
 refine AWP.hole rfl (AWP.hole rfl ?_)
 (repeat' (first
  |(apply W.qd;(first
  |(exact zM)
  |(exact zN)))
  |(apply W.ld;(first
  |(apply (l_make (f := tD) false);(iterate 10 exact rfl);kernel_rfl;omega)
  |(apply (l_make (f := sD) []);(iterate 10 exact rfl);kernel_rfl;omega)))|(apply yA)|(apply yB)|(apply (W.regionS 7);exact rfl;kernel_rfl)|(apply (W.regionDS 7);exact rfl;exact rfl;kernel_rfl)|(apply yE)|(refine jBc ?_)
  |(apply yG)))
 refine AWP.loopW (α := Nat) (fun k => k ≤ n) (fun k => ⟨[(53,iV k),(52,iV n),(12,iV n),(13,.opt 6 0),(14,.osl 7 0 0 n),(15,.osl 8 0 0 n),(1,pcs at'),(3,.osl 0 v 0 ss.length),(4,bools rd),(5,.opt 1 0),(7,.opt 2 0),(10,.opt 3 0)],[.row v 1 9 (ss.map sD),.box [.d .any,iV M,iV D,rowsN ps,.d .any],.box [iV g.1,iV g.2],.box [iV 0,.d (.v (.slice none 0 0)),.d (.v (.slice none 0 0)),iV 0],.row 0 1 3 ((fil fS 0 n k).map iD),.row 0 1 9 ((List.replicate n []).map sD),.box [iV 1,.osl 4 0 0 n,.osl 5 0 0 n,iV (-1)],.row 0 1 9 ((fil fU [] n k).map sD),.row 0 1 4 ((fil fH false n k).map tD)]⟩) (fun k => n - k) 0 (Nat.zero_le _) ?wkA fun k hk => ?_
 case wkA =>
  rw [fil_zero,fil_zero,fil_zero]
  exact ⟨[0,1,2,3,4,5,6,7,8],rfl,rfl,rfl,by (repeat (first | exact trivial | refine ⟨rfl,?_⟩))⟩
 by_cases hkl : k < n
 ·have hka : k < at'.length := by omega
  have hks : k < ss.length := by omega
  have hkr : k < rd.length := by omega
  have hst := hstt k hks hka hkr
  have e1 := eS k hks hka hkr
  have e2 := eU k hks hka hkr
  have e3 := eH k hks hka hkr
  have s1 := fil_set (f := fS) (z := 0) hkl
  have s2 := fil_set (f := fU) (z := []) hkl
  have s3 := fil_set (f := fH) (z := false) hkl
  have g1 := fil_map (f := fS) (z := 0) (n := n) iD (k := k + 1) (j := k) (by omega) (by omega)
  have l1 := fil_len (f := fS) (z := 0) (n := n) k
  have l2 := fil_len (f := fU) (z := []) (n := n) k
  have l3 := fil_len (f := fH) (z := false) (n := n) k
  have l4 := fil_len (f := fS) (z := 0) (n := n) (k + 1)
  rw [e1] at s1 g1
  rw [e2] at s2
  rw [e3] at s3
  generalize staN at'[k] g ss[k] rd[k] = q at *
  obtain ⟨x,y⟩ := q
  dsimp only at *
  have gk : (ss.map sD)[k]? = some (sD ss[k]) := by rw [List.getElem?_map,List.getElem?_eq_getElem hks];rfl
  clear f1 f2 hlc hrec hstt eS eU eH m1 m2 m3
  generalize fil fS 0 n k = S1 at *
  generalize fil fU [] n k = U1 at *
  generalize fil fH false n k = H1 at *
  (repeat' (first
   |(apply W.qd;(first
   |(exact zW (hst))
   |((apply q_ld_rpt;(iterate 3 exact rfl);exact gk;exact rfl))|(exact zM)|(exact zN)|(exact jAr)|(exact jAm)|(exact jAn)|(exact jAj)|(exact jBd)|(exact jAd)|(exact jAz)|(exact jA)
   |(exact jAb)))|(apply W.ln;(exact jAi))|(apply yA)|(apply yB)|(apply (W.regionS 10);exact rfl;kernel_rfl)|(apply (W.regionDS 10);exact rfl;exact rfl;kernel_rfl)|(apply yE)|(refine jBc ?_)|(apply yG)|(apply yH)
   |(refine W.cond _ rfl (fun hb => ?_) (fun hb => ?_) <;> ((try simp only [hb,zK]) <;> (try simp only [zL,zI] at hb) <;> (try (exfalso;omega))))))
  all_goals try (exfalso;omega)
  rw [s1,s2]
  (repeat' (first
   |(apply W.qd;(first
   |((apply q_ld_rpt;(iterate 3 exact rfl);exact g1;exact rfl))|(exact zM)|(exact jAr)|(exact jAm)|(exact jBb)|(exact jAg)
   |(exact jAb)))|(apply W.ln;(exact jAi))|(apply yB)|(refine jAe ?_)|(apply yE)
   |(apply yL)))
  all_goals first
   |(exfalso;omega)|(refine ⟨k + 1,by omega,by omega,?_⟩;(try dsimp only);rw [← s3];exact ⟨[0,1,2,3,4,5,6,7,8],rfl,rfl,rfl,iV_eq (by omega),rfl,rfl,rfl,rfl,rfl,rfl,rfl,rfl,rfl,rfl,rfl,trivial⟩)
 ·obtain rfl : k = n := by omega
  rw [fil_all,fil_all,fil_all,m1,m2,m3]
  have hUl : k = (U.map sD).length := by rw [← m2];simp
  have hHl : k = (H.map tD).length := by rw [← m3];simp
  clear hstt eS eU eH m1 m2 m3
  refine AWP.wk ⟨[(53,iV k),(52,iV k),(12,iV k),(13,.opt 6 0),(14,strs U),(15,bools H),(5,.opt 1 0),(10,.opt 3 0)],[.row v 1 9 (ss.map sD),.box [.d .any,iV M,iV D,rowsN ps,.d .any],.box [iV g.1,iV g.2],.box [iV 0,.d (.v (.slice none 0 0)),.d (.v (.slice none 0 0)),iV 0],.row 0 1 3 (S.map iD),.row 0 1 9 ((List.replicate k []).map sD),.box [iV 1,.osl 4 0 0 k,.osl 5 0 0 k,iV (-1)]]⟩ ⟨[0,1,2,3,4,5,6],rfl,rfl,rfl,rfl,rfl,rfl,rfl,(frz_rowJ rfl rfl hUl).symm,(frz_rowJ rfl rfl hHl).symm,rfl,rfl,trivial⟩ ?_
  rcases hlc with ⟨u,hu,hL⟩ | hL | hL | hL
  ·rw [hL] at f1 ⊢
   rw [if_pos rfl]
   have huk : u < k := by omega
   obtain ⟨c1,c2⟩ := C
   (repeat' (first
    |(apply W.qd;(first
    |(exact zW (f1))|(exact zW (f2))|(exact zM)|(exact zN)|(exact jAr)|(exact jAm)|(exact jAn)|(exact jAj)|(exact jBb)|(exact jBd)
    |(exact jAb)))
    |(apply W.ln;(first
    |(exact jAh)
    |(exact jAi)))|(apply yA)|(apply yB)|(refine jAe ?_)|(apply yE)|(apply yG)|(apply yI)|(apply yJ)|(apply yK)|(apply yL)|(apply yM)|(apply yO;exact rfl)|(refine jBa ?_)
    |(refine W.cond _ rfl (fun hb => ?_) (fun hb => ?_) <;> ((try simp only [hb,zK]) <;> (try simp only [zL,zI] at hb) <;> (try (exfalso;omega))))))
   all_goals first
    |(exfalso;omega)|(refine Ends.cell2K [0] rfl rfl rfl rfl rfl rfl rfl ?_;exact frz_repK1 rfl (by rw [List.length_set];exact hSl.symm))
  ·rw [hL] at f1 ⊢
   rw [if_neg (by decide),if_pos rfl]
   obtain ⟨c1,c2⟩ := C
   (repeat' (first
    |(apply W.qd;(first
    |(exact zW (f1))|(exact zW (f2))|(exact zM)|(exact zN)|(exact jAr)|(exact jAn)|(exact jAj)|(exact jBb)
    |(exact jBd)))|(apply W.ln;(exact jAh))|(apply yA)|(apply yB)|(refine jAe ?_)|(apply yE)|(apply yG)|(apply yH)|(apply yI)|(apply yJ)|(apply yK)|(apply yM)|(apply yO;exact rfl)|(refine jBa ?_)|(refine jAw ?_)
    |(refine W.cond _ rfl (fun hb => ?_) (fun hb => ?_) <;> ((try simp only [hb,zK]) <;> (try simp only [zL,zI] at hb) <;> (try (exfalso;omega))))))
   all_goals first
    |(exfalso;omega)|(refine Ends.cell2K [0] rfl rfl rfl rfl rfl rfl rfl ?_;exact frz_repK1 rfl hSl.symm)
  ·rw [hL] at f1 ⊢
   rw [if_neg (by decide),if_neg (by decide),if_pos rfl]
   (repeat' (first
    |(apply W.qd;(first
    |(exact zW (f1))|(exact zM)|(exact zN)|(exact jAr)|(exact jAn)|(exact jAj)|(exact jBb)
    |(exact jBd)))|(apply W.ln;(exact jAh))|(apply yA)|(apply yB)|(refine jAe ?_)|(apply yE)|(apply yG)|(apply yH)|(apply yI)|(apply yJ)|(apply yK)|(apply yM)|(apply yO;exact rfl)|(refine jBa ?_)|(refine jAw ?_)
    |(refine W.cond _ rfl (fun hb => ?_) (fun hb => ?_) <;> ((try simp only [hb,zK]) <;> (try simp only [zL,zI] at hb) <;> (try (exfalso;omega))))))
   all_goals first
    |(exfalso;omega)|(refine Ends.cell2K [0] rfl rfl rfl rfl rfl rfl rfl ?_;exact frz_repK2 rfl hSl.symm rfl (by rw [List.length_replicate]))
  ·rw [hL] at f1 ⊢
   rw [if_neg (by decide),if_neg (by decide),if_neg (by decide)]
   (repeat' (first
    |(apply W.qd;(first
    |(exact zW (f1))|(exact zM)|(exact zN)|(exact jAr)|(exact jAn)|(exact jAj)|(exact jBb)
    |(exact jBd)))|(apply W.ln;(exact jAh))|(apply yA)|(apply yB)|(apply (W.regionS 23);exact rfl;kernel_rfl)|(apply yE)|(apply yG)|(apply yH)|(apply yI)|(apply yK)|(apply yM)|(apply yO;exact rfl)|(refine jAw ?_)
    |(refine W.cond _ rfl (fun hb => ?_) (fun hb => ?_) <;> ((try simp only [hb,zK]) <;> (try simp only [zL,zI] at hb) <;> (try (exfalso;omega))))))
   all_goals try (exfalso;omega)
   refine AWP.loopW (α := Nat) (fun j => j ≤ k) (fun j => ⟨[(121,iV j),(120,iV k),(13,.opt 6 0),(14,strs U),(15,bools H),(5,.opt 1 0),(10,.opt 3 0)],[.row v 1 9 (ss.map sD),.box [.d .any,iV M,iV D,rowsN ps,.d .any],.box [iV g.1,iV g.2],.box [iV 0,.d (.v (.slice none 0 0)),.d (.v (.slice none 0 0)),iV 0],.row 0 1 3 (S.map iD),.row 0 1 9 ((fil fR [] k j).map sD),.box [iV 3,.osl 4 0 0 k,.osl 5 0 0 k,iV (-1)]]⟩) (fun j => k - j) 0 (Nat.zero_le _) ?wkB fun j hj => ?_
   case wkB =>
    rw [fil_zero]
    exact ⟨[0,1,2,3,4,5,6],rfl,rfl,rfl,by (repeat (first | exact trivial | refine ⟨rfl,?_⟩))⟩
   by_cases hjl : j < k
   ·obtain ⟨e, hre⟩ := hrec j hjl
    have s1 := fil_set (f := fR) (z := []) hjl
    have l1 := fil_len (f := fR) (z := []) (n := k) j
    clear f1 f2 hrec
    generalize fR j = x at *
    generalize fil fR [] k j = R1 at *
    (repeat' (first
     |(apply W.qd;(first
     |(exact zW (hre))|(exact zM)|(exact zN)|(exact jAr)|(exact jAm)|(exact jAn)|(exact jAj)|(exact jAg)|(exact jBd)
     |(exact jAb)))|(apply W.ln;(exact jAi))|(apply yA)|(apply yB)|(refine jAe ?_)|(refine jAs ?_)|(apply yE)|(refine jBc ?_)|(apply yG)|(apply yH)|(apply yL)
     |(refine W.cond _ rfl (fun hb => ?_) (fun hb => ?_) <;> ((try simp only [hb,zK]) <;> (try simp only [zL,zI] at hb) <;> (try (exfalso;omega))))))
    all_goals first
     |(exfalso;omega)|(refine ⟨j + 1,by omega,by omega,?_⟩;(try dsimp only);rw [← s1];exact ⟨[0,1,2,3,4,5,6],rfl,rfl,rfl,iV_eq (by omega),rfl,rfl,rfl,rfl,rfl,rfl,trivial⟩)
   ·obtain rfl : j = k := by omega
    rw [fil_all]
    (repeat' (first
     |(apply W.qd;(first
     |(exact zN)|(exact jAn)
     |(exact jAj)))|(apply W.ln;(exact jAh))|(apply yA)|(apply yB)|(refine jAe ?_)|(apply yE)|(apply yI)|(apply yJ)|(apply yK)|(apply yM)
     |(refine W.cond _ rfl (fun hb => ?_) (fun hb => ?_) <;> ((try simp only [hb,zK]) <;> (try simp only [zL,zI] at hb) <;> (try (exfalso;omega))))))
    all_goals first
     |(exfalso;omega)|(refine Ends.cell2K [0] rfl rfl rfl rfl rfl rfl rfl ?_;exact frz_repK2 rfl hSl.symm rfl (by simp))
theorem A_fixesR {M D : Nat} {ps : List (List Nat)} {at' : List Pl} {g : Gn} {ss : List (List Nat)} {rd : List Bool} {v : Nat} (h : CodeOk M D ps) (ha : at'.length = D + ps.length) (hs : ss.length = D + ps.length) (hr : rd.length = D + ps.length) (hsb : ∀ s ∈ ss,isB s ∧ s.length ≤ 9223372036854775807) : ACalls Tryz.prog 40 [cdN M D ps,pcs at',gnA g,.osl 0 v 0 ss.length,bools rd] [.row v 1 9 (ss.map sD)] (.tup [fxs (fixN at' g (rpN M D ps at' g ss rd)).1,iV (fixN at' g (rpN M D ps at' g ss rd)).2]) [.row v 1 9 (ss.map sD)] := by
 refine acalls_of_bodyO Tryz.func40 rfl (zU rfl) ?_
 have h1 := h.d
 have h2 := h.w
 have hc := A_checkR (v := v) (g := g) h ha hs hr hsb
 have hcs := rpN_cases (at' := at') (g := g) (rd := rd) h (fun s hx => (hsb s hx).1)
 generalize rpN M D ps at' g ss rd = r at *
 obtain ⟨f,S,U,s⟩ := r
 generalize hn : D + ps.length = n at *
 unfold fixN
 dsimp only at hcs
 dsimp only [rpA] at hc
 rcases hcs with rfl | rfl | ⟨rfl,hS,hU,h32⟩
 ·rw [if_pos rfl]
  (repeat' (first
   |(apply W.qd;(first
   |(exact zM)|(exact zN)|(exact jAr)|(exact jAm)|(exact jAn)|(exact jBb)|(exact jAv)
   |(exact jBd)))
   |(apply W.ed;(first
   |(apply (e_callJ (js := [0]) (hc));(iterate 5 exact rfl);kernel_rfl;kernel_rfl)|(exact jAc)
   |(exact jAq)))|(apply W.ln;(exact jAh))|(apply yA)|(apply yB)|(refine jAe ?_)|(apply yE)|(apply yG)|(apply yJ)|(apply yP)|(apply yN)|(refine jBa ?_)
   |(refine jAw ?_)))
  all_goals first
   |(exfalso;omega)
   |exact ⟨.inl rfl,[0],[.d (.v (.slice none 0 0)),iV 13],rfl,rfl,⟨rfl,rfl,trivial⟩,AVle.tup ⟨AVle.nil 2,AVle.of_eq rfl,trivial⟩,rfl⟩
 ·rw [if_neg (by simp), if_pos rfl]
  (repeat' (first
   |(apply W.qd;(first
   |(exact zM)|(exact zN)|(exact jAr)|(exact jAm)|(exact jAn)|(exact jBb)|(exact jAv)
   |(exact jBd)))
   |(apply W.ed;(first
   |(apply (e_callJ (js := [0]) (hc));(iterate 5 exact rfl);kernel_rfl;kernel_rfl)|(exact jAc)
   |(exact jAq)))|(apply W.ln;(exact jAh))|(apply yA)|(apply yB)|(refine jAe ?_)|(apply yE)|(apply yG)|(apply yJ)|(apply yP)|(apply yN)|(refine jBa ?_)
   |(refine jAw ?_)))
  all_goals first
   |(exfalso;omega)
   |exact ⟨.inl rfl,[0],[.d (.v (.slice none 0 0)),iV 11],rfl,rfl,⟨rfl,rfl,trivial⟩,AVle.tup ⟨AVle.nil 2,AVle.of_eq rfl,trivial⟩,rfl⟩
 ·rw [if_neg (by simp), if_neg (by simp)]
  dsimp only
  have hmS : (S.map iD).length = S.length := List.length_map _
  have hmU : (U.map sD).length = U.length := List.length_map _
  (repeat' (first
   |(apply W.qd;(first
   |((apply q_makeBd;exact Eq.refl [AV.agg [pcs at',iV g.1,iV g.2]]))
   |((apply q_as;exact Eq.refl (AV.bd _ _)))|(exact zM)|(exact zN)|(exact jAr)|(exact jAm)|(exact jAn)|(exact jBb)|(exact jAv)|(exact jBd)
   |(exact jBe)))
   |(apply W.ed;(first
   |(apply (e_callJ (js := [0]) (hc));(iterate 5 exact rfl);kernel_rfl;kernel_rfl)|(exact jAc)
   |(exact jAq)))|(apply W.ln;(exact jAh))|(apply yA)|(apply yB)|(apply (W.regionS 10);exact rfl;kernel_rfl)|(apply yE)|(apply yG)|(apply yH)|(apply yL)
   |(refine jAw ?_)))
  all_goals try (exfalso;omega)
  refine AWP.nilRow 15 2 107 rfl (by omega) ?_
  (repeat' (first
   |(apply W.qd;(first
   |(exact zM)|(exact jAr)|(exact jAm)
   |(exact jB)))|(apply yB)|(apply (W.regionS 11);exact rfl;kernel_rfl)|(apply yE)
   |(apply yG)))
  refine AWP.loopW (α := Nat) (fun k => k ≤ n ∧ fixB at' g S k = true) (fun k => ⟨[(48,iV k),(47,iV n),(46,ints S),(12,.opt 3 0),(14,.bd 93 [.agg [pcs at',iV g.1,iV g.2]]),(15,.osl 4 (fixL at' g (1,S,U,s) k).length 0 (fixL at' g (1,S,U,s) k).length)],[.row v 1 9 (ss.map sD),.box [.d .any,iV M,iV D,rowsN ps,.d .any],.box [iV g.1,iV g.2],.box [iV 1,ints S,strs U,iV s],.row (fixL at' g (1,S,U,s) k).length 2 107 ((fixL at' g (1,S,U,s) k).map fxD)]⟩) (fun k => n - k) 0 ⟨Nat.zero_le _,rfl⟩ ?wkA fun k hk => ?_
  case wkA =>
   exact ⟨[0,1,2,3,4],rfl,rfl,rfl,rfl,iV_eq (by omega),rfl,rfl,rfl,rfl,trivial⟩
  obtain ⟨hk,hfb⟩ := hk
  have hfl := fixL_len (at' := at') (g := g) (r := (1,S,U,s)) (k := k)
  by_cases hkl : k < n
  ·have hka : k < at'.length := by omega
   have hkS : k < S.length := by omega
   have hkU : k < U.length := by omega
   have e1 : S.getD k 0 = S[k] := by rw [List.getD_eq_getElem?_getD,List.getElem?_eq_getElem hkS];rfl
   have e2 : U.getD k [] = U[k] := by rw [List.getD_eq_getElem?_getD,List.getElem?_eq_getElem hkU];rfl
   have e3 : at'.getD k pz0 = at'[k] := by rw [List.getD_eq_getElem?_getD,List.getElem?_eq_getElem hka];rfl
   have hL := fixL_succ (at' := at') (g := g) (r := (1,S,U,s)) (k := k)
   have hB := fixB_succ (at' := at') (g := g) (st := S) (k := k)
   have hm := fixB_mono (at' := at') (g := g) (st := S) (i := k + 1)
   have hu := h32 _ (List.getElem_mem hkU)
   have hcb := A_bseal (g := g) hka (by omega) hu.1 hu.2
   dsimp only at hL
   rw [e1,e2,e3] at hL
   rw [e1,e3,hfb,Bool.true_and] at hB
   by_cases hs1 : S[k] = 1
   ·rw [if_pos hs1, List.append_nil] at hL
    rw [decide_eq_true hs1,Bool.true_or] at hB
    clear hcb hc
    generalize fixL at' g (1,S,U,s) k = A at *
    (repeat' (first
     |(apply W.qd;(first
     |(exact zM)|(exact zN)|(exact jAj)|(exact jBb)|(exact jAg)|(exact jAd)
     |(exact jA)))|(apply yA)|(apply yB)|(refine jAe ?_)|(apply yE)|(apply yG)|(apply yH)|(apply yI)|(apply yK)|(apply yM)
     |(refine W.cond _ rfl (fun hb => ?_) (fun hb => ?_) <;> ((try simp only [hb,zK]) <;> (try simp only [zL,zI] at hb) <;> (try (exfalso;omega))))))
    all_goals first
     |(exfalso;omega)|(refine ⟨k + 1,⟨by omega,hB⟩,by omega,?_⟩;rw [hL];exact ⟨[0,1,2,3,4],rfl,rfl,rfl,iV_eq (by omega),rfl,rfl,rfl,rfl,rfl,trivial⟩)
   ·rw [if_neg hs1] at hL
    rw [decide_eq_false hs1,Bool.false_or] at hB
    by_cases hpg : plB at'[k] = true ∧ gnB g = true
    ·have e4 : sealN at'[k] g U[k] = (sealL at'[k] g U[k], 0) := if_pos ⟨hpg.1, hpg.2, by omega⟩
     rw [e4] at hcb
     rw [hpg.1,hpg.2] at hB
     have el : (fixL at' g (1,S,U,s) k ++ [(k,sealL at'[k] g U[k])]).length = (fixL at' g (1,S,U,s) k).length + 1 := by simp
     clear hc e4
     generalize sealL at'[k] g U[k] = x at *
     generalize fixL at' g (1,S,U,s) k = A at *
     (repeat' (first
      |(apply W.qd;(first
      |((apply q_mv;exact Eq.refl (AV.bd _ _)))
      |((apply q_callBd hcb;(iterate 4 exact rfl);kernel_rfl))|(exact zM)|(exact zN)|(exact jAr)|(exact jAm)|(exact jAj)|(exact jBb)|(exact jAv)|(exact jAg)|(exact jBd)|(exact jAd)|(exact jBe)|(exact jAl)
      |(exact jA)))|(apply W.ed;((apply (e_app1F (f := fxD) ((k,x) : Fx));(iterate 8 exact rfl);omega)))|(apply yA)|(apply yB)|(refine jAe ?_)|(apply yE)|(apply yG)|(apply yH)|(apply yL)|(refine jAw ?_)
      |(refine W.cond _ rfl (fun hb => ?_) (fun hb => ?_) <;> ((try simp only [hb,zK]) <;> (try simp only [zL,zI] at hb) <;> (try (exfalso;omega))))))
     all_goals first
      |(exfalso;omega)|(refine ⟨k + 1,⟨by omega,hB⟩,by omega,?_⟩;rw [hL,el];exact ⟨[0,1,2,3,4],rfl,rfl,rfl,iV_eq (by omega),rfl,rfl,rfl,rfl,congrArg (AV.osl 4 (A.length + 1) 0) (by simp),trivial⟩)
    ·have e4 : sealN at'[k] g U[k] = ([], 1) := if_neg (fun hh => hpg ⟨hh.1, hh.2.1⟩)
     rw [e4] at hcb
     have hB' : fixB at' g S (k + 1) = false := by
      rw [hB]
      cases hp : plB at'[k]
      ·rfl
      ·cases hg : gnB g
       ·rfl
       ·exact absurd ⟨hp,hg⟩ hpg
     have hf := hm hB' S.length (by omega)
     rw [if_neg (by rw [hf];decide)]
     clear hc e4 hm hL hB hB' hf
     generalize fixL at' g (1,S,U,s) k = A at *
     (repeat' (first
      |(apply W.qd;(first
      |((apply q_mv;exact Eq.refl (AV.bd _ _)))
      |((apply q_callBd hcb;(iterate 4 exact rfl);kernel_rfl))|(exact zM)|(exact zN)|(exact jAr)|(exact jAm)|(exact jAj)|(exact jBb)|(exact jAv)|(exact jBd)|(exact jAd)
      |(exact jA)))|(apply yA)|(apply yB)|(refine jAe ?_)|(apply yE)|(apply yG)|(apply yH)|(apply yJ)|(apply yP)|(apply yN)|(refine jBa ?_)
      |(refine W.cond _ rfl (fun hb => ?_) (fun hb => ?_) <;> ((try simp only [hb,zK]) <;> (try simp only [zL,zI] at hb) <;> (try (exfalso;omega))))))
     all_goals first
      |(exfalso;omega)
      |exact ⟨.inl rfl,[0],[.d (.v (.slice none 0 0)),iV 1],rfl,rfl,⟨rfl,rfl,trivial⟩,AVle.tup ⟨AVle.nil 2,AVle.of_eq rfl,trivial⟩,rfl⟩
  ·obtain rfl : k = n := by omega
   rw [hS,if_pos hfb]
   clear hc
   generalize fixL at' g (1,S,U,s) k = A at *
   (repeat' (first
    |(apply W.qd;(first
    |(exact zM)|(exact zN)
    |(exact jAj)))|(apply yA)|(apply yB)|(refine jAe ?_)|(apply yE)|(apply yI)|(apply yJ)|(apply yK)|(apply yM)
    |(refine W.cond _ rfl (fun hb => ?_) (fun hb => ?_) <;> ((try simp only [hb,zK]) <;> (try simp only [zL,zI] at hb) <;> (try (exfalso;omega))))))
   all_goals first
    |(exfalso;omega)
    |exact ⟨.inl rfl,[0],[.osl 4 A.length 0 A.length,iV 0],rfl,rfl,⟨rfl,rfl,trivial⟩,AVle.of_eq (by show AV.tup [AV.frz _ [0] (.osl 4 A.length 0 A.length),iV 0] = _;rw [frz_rowJ rfl rfl (by simp)]),rfl⟩
end
section
abbrev C40 : AV := cdX (.string ⟨#[112,97,114]⟩) (.int .i64 3) 8 2 [[1,1]]
attribute [local irreducible] Quiet Eff OpOk AWPG ACont ABlock ACalls AGoto
theorem A_sanity40 : ACalls Tryz.prog 34 [] [] (bV true) [] := by
 refine acalls_of_bodyO Tryz.func34 rfl (zU rfl) ?_
 have hle : ∀ (own : List Ent) (l : List AV),∀ F κ w vs,AV.satL F own κ w (C40 :: l) vs → AV.satL F own κ w (cdN 8 2 [[1,1]] :: l) vs := fun own l F κ w vs => satL_le1 (fun F own κ w u => cdX_le rfl rfl) F own κ w vs
 have r1 := A_rep97
 have r2 := A_rep98
 have r3 := A_rep3
 have hsl := A_lsealOk (at' := p40) (g := g40) (us := [u40 97,u40 98,u40 3]) rfl (by decide) (fun u hu => by simp at hu;rcases hu with rfl | rfl | rfl <;> exact ⟨isB_u40 (by decide),by simp [u40]⟩) slB40
 rw [show [u40 97,u40 98,u40 3].length = 3 from rfl,slL40] at hsl
 have hb3 : ∀ {k0 k1 k2 : Int} {b0 b1 b2 : Nat},plB (k0,4,7) = true → plB (k1,4,7) = true → plB (k2,4,7) = true → b0 < 256 → b1 < 256 → b2 < 256 → ∀ s ∈ [s40 k0 b0,s40 k1 b1,s40 k2 b2],isB s ∧ s.length ≤ 9223372036854775807 := fun h0 h1 h2 c0 c1 c2 s hs => by
  simp at hs
  rcases hs with rfl | rfl | rfl
  ·exact ⟨sealL_isB h0 (isB_u40 c0),by rw [sealL_length (by simp [u40])];decide⟩
  ·exact ⟨sealL_isB h1 (isB_u40 c1),by rw [sealL_length (by simp [u40])];decide⟩
  ·exact ⟨sealL_isB h2 (isB_u40 c2),by rw [sealL_length (by simp [u40])];decide⟩
 have hbA := hb3 (k0 := 0) (k1 := 1) (k2 := 2) (b0 := 97) (b1 := 98) (b2 := 3) (by decide) (by decide) (by decide) (by decide) (by decide) (by decide)
 have hbE := hb3 (k0 := 0) (k1 := 1) (k2 := 2) (b0 := 97) (b1 := 97) (b2 := 3) (by decide) (by decide) (by decide) (by decide) (by decide) (by decide)
 have c1 := (A_checkR (v := 3) (at' := p40) (g := g40) (rd := [true,true,true]) ok40 rfl rfl rfl hbA).le (hle _ _)
 rw [rp40a] at c1
 have c2 := (A_checkR (v := 3) (at' := p40) (g := (1,4)) (rd := [true,true,true]) ok40 rfl rfl rfl hbA).le (hle _ _)
 rw [rp40b] at c2
 have c3 := (A_fixesR (v := 3) (at' := p40) (g := g40) (rd := [true,false,true]) ok40 rfl rfl rfl hbA).le (hle _ _)
 rw [rp40c,fx40c] at c3
 have c4 := (A_fixesR (v := 3) (at' := p40) (g := g40) (rd := [false,false,true]) ok40 rfl rfl rfl hbA).le (hle _ _)
 rw [rp40d,fx40d] at c4
 have c5 := (A_checkR (v := 3) (at' := p40) (g := g40) (rd := [true,true,true]) ok40 rfl rfl rfl hbE).le (hle _ _)
 rw [rp40e] at c5
 have hs1 := A_rseal (p := (1,4,7)) (g := g40) (u := u40 97) (isB_u40 (by decide)) (by simp [u40])
 rw [seal40 (by decide)] at hs1
 have c6 := ((A_checkBR (v := 3) (M := 8) (D := 2) (par := [[1,1]]) (at' := []) (g := g40) (ss := [s40 0 97,s40 1 97,s40 2 3]) (rd := [true,true,true]) (code_in ok40) rfl (by decide) (by decide)).le (hle _ _)).le (args' := [C40,.d (.v (.slice none 0 0)),gnA g40,.osl 0 3 0 3,bools [true,true,true]]) fun F κ w vs hs => AVleL.sat (xs := [C40,.d (.v (.slice none 0 0)),gnA g40,.osl 0 3 0 3,bools [true,true,true]]) (ys := [C40,pcs [],gnA g40,.osl 0 3 0 3,bools [true,true,true]]) ⟨AVle.refl _,AVle.nil 3,AVle.refl _,AVle.refl _,AVle.refl _,trivial⟩ F _ κ w vs hs
 dsimp only [rpA] at c1 c2 c3 c4 c5 c6 hs1
 have l64 : (s40 1 98).length = 64 := sealL_length (by simp [u40])
 clear hb3 hbA hbE hle
 generalize s40 0 97 = x0 at *
 generalize s40 1 98 = x1 at *
 generalize s40 2 3 = x2 at *
 generalize s40 1 97 = x3 at *
 have i1 := A_same_ints (a := [1,1,1]) (b := [1,1,1]) (by decide) (by decide)
 rw [decide_eq_true rfl] at i1
 have i2 := A_same_ints (a := [3,3,3]) (b := [3,3,3]) (by decide) (by decide)
 rw [decide_eq_true rfl] at i2
 (repeat' (first
  |(apply W.qd;(first
  |(exact zW (r1))|(exact zW (r2))|(exact zW (r3))|(exact zM)|(exact zN)|(exact jAn)|(exact jBd)|(exact jBe)
  |(exact jAl)))
  |(apply W.ed;(first
  |(apply (e_callJ (js := []) (hsl));(iterate 5 exact rfl);kernel_rfl;kernel_rfl)
  |(exact jAq)))|(apply W.ln;(exact jAh))|(apply yA)|(apply yB)|(apply (W.regionS 6);exact rfl;kernel_rfl)
  |(apply yE)))
 all_goals try (exfalso;omega)
 refine AWP.wk ⟨[(1,.opt 0 0),(2,bS (u40 97)),(3,bS (u40 98)),(4,bS (u40 3)),(5,pcs p40),(6,.opt 1 0),(7,.osl 2 3 0 3),(8,bV true)],[.box [.d (.v (.string ⟨#[112,97,114]⟩)),iV 8,iV 2,rowsN [[1,1]],.d (.v (.int .i64 3))],.box [iV 1,iV 5],.row 3 1 9 ([x0,x1,x2].map sD)]⟩ ⟨[0,1,2],rfl,rfl,rfl,by (repeat (first | exact trivial | refine ⟨rfl,?_⟩))⟩ ?_
 (repeat' (first
  |(apply W.qd;(first
  |(exact zM)|(exact zN)|(exact jAn)|(exact jBg)|(exact jBd)|(exact jBe)
  |(exact jAl)))
  |(apply W.ed;(first
  |(apply (e_callJ (js := [2]) (c1));(iterate 5 exact rfl);kernel_rfl;kernel_rfl)|(apply (e_callJ (js := [2]) (c2));(iterate 5 exact rfl);kernel_rfl;kernel_rfl)|(apply (e_callJ (js := [2]) (c3));(iterate 5 exact rfl);kernel_rfl;kernel_rfl)|(apply (e_callJ (js := [2]) (c4));(iterate 5 exact rfl);kernel_rfl;kernel_rfl)
  |(exact jAq)))|(apply W.ln;(exact jAh))|(apply yA)|(apply yB)|(apply (W.regionS 13);exact rfl;kernel_rfl)|(apply yE)|(apply yH)
  |(refine jAw ?_)))
 all_goals try (exfalso;omega)
 refine AWP.wk ⟨[(1,.opt 0 0),(2,bS (u40 97)),(5,pcs p40),(6,.opt 1 0),(7,.osl 2 3 0 3),(9,bools [true,true,true]),(10,.opt 3 0),(11,iV 0),(12,.opt 4 0),(13,iV 0),(14,fxs [(1,x1)]),(15,iV 0),(17,iV 11)],[.box [.d (.v (.string ⟨#[112,97,114]⟩)),iV 8,iV 2,rowsN [[1,1]],.d (.v (.int .i64 3))],.box [iV 1,iV 5],.row 3 1 9 ([x0,x1,x2].map sD),.box [iV 1,ints [1,1,1],strs [u40 97,u40 98,u40 3],iV (-1)],.box [iV 3,ints [3,3,3],strs [[],[],[]],iV (-1)]]⟩ ⟨[0,1,2,3,4],rfl,rfl,rfl,by (repeat (first | exact trivial | refine ⟨rfl,?_⟩))⟩ ?_
 (repeat' (first
  |(apply yFb;exact rfl;exact rfl)
  |(apply W.qd;(first
  |(exact zW (hs1))|(exact zW (i1))|(exact zW (i2))
  |((apply yY;(iterate 3 exact rfl);exact Nat.le_of_ble_eq_true rfl))
  |((apply yX;(iterate 3 exact rfl);exact Nat.le_of_ble_eq_true rfl))
  |((apply (yGb (j := 1));(iterate 5 exact rfl);exact Nat.le_of_ble_eq_true rfl))
  |((apply (yGb (j := 0));(iterate 5 exact rfl);exact Nat.le_of_ble_eq_true rfl))
  |((apply (q_ix_osl0 (j := 1));(iterate 5 exact rfl);exact Nat.le_of_ble_eq_true rfl))|(exact zM)|(exact zN)|(exact jAr)|(exact jAm)|(exact jAn)|(exact jBb)|(exact jBd)|(exact jB)|(exact jBl)|(apply q_fld_fptF;(iterate 3 exact rfl))|(exact jAl)|(apply (yEb (u := .d _));exact rfl;exact rfl)
  |(apply (yDb (u := .d _));exact rfl;exact rfl)))
  |(apply W.ed;(first
  |(apply (e_callJ (js := [2]) (c5));(iterate 5 exact rfl);kernel_rfl;kernel_rfl)|(apply (e_callJ (js := [2]) (c6));(iterate 5 exact rfl);kernel_rfl;kernel_rfl)
  |(exact jAq)))|(apply W.ln;(exact jAh))|(apply W.en;((apply (e_st_rptm x3);(iterate 7 exact rfl);exact fun _ => rfl;exact Nat.le_of_ble_eq_true rfl)))|(refine W.gOff _ _ rfl rfl (by intro h;cases h) ?_)|(apply yA)|(apply yB)|(refine jAe ?_)|(refine jAs ?_)|(apply yE)|(refine jBc ?_)|(apply yJ)
  |(refine W.gT _ _ rfl rfl (fun hb => ?_) (fun hb => ?_) <;> ((try simp only [hb,zK]) <;> (try simp only [zL,zI] at hb) <;> (try (exfalso;omega))))))
 all_goals first
  |(exfalso;exact hb (by show (x1.length : Int) = 64;rw [l64];rfl))
  |(exfalso;omega)
  |exact ⟨.inl rfl,[],[bV true],rfl,rfl,⟨rfl,trivial⟩,AVle.of_eq rfl,rfl⟩
end
section
theorem repl_map (n : Nat) : (List.range n).map (fun _ => true) = List.replicate n true := by
 apply List.ext_getElem (by simp)
 intro i h1 h2
 simp
attribute [local irreducible] Quiet Eff OpOk AWPG ACont ABlock ACalls AGoto
theorem A_lsealBad {at' : List Pl} {g : Gn} {us : List (List Nat)} (hal : at'.length ≤ 9223372036854775807) (hul : us.length ≤ 1000000) (hub : ∀ u ∈ us,isB u ∧ u.length ≤ 9223372036854775807) (hB : at'.length ≠ us.length ∨ slB at' g us us.length = false) : ACalls Tryz.prog 80 [pcs at',gnA g,strs us] [] (.tup [.d (.v (.slice none 0 0)),bV false]) [] := by
 refine acalls_of_body Tryz.func80 rfl (zU rfl) ?_
 have hma : (at'.map pcD).length = at'.length := List.length_map _
 have hmu : (us.map sD).length = us.length := List.length_map _
 by_cases ha : at'.length = us.length
 ·have hB : slB at' g us us.length = false := by rcases hB with h | h; exact absurd ha h; exact h
  have hsu := slL_succ at' g us
  have hbu := slB_succ at' g us
  have hsl := slL_len at' g us
  (repeat' (first
   |(apply W.qd;(first
   |(exact zM)|(exact zN)|(exact jAv)
   |(exact jB)))|(apply W.ed;(exact jAc))|(apply yA)|(apply yB)|(apply (W.regionS 4);exact rfl;kernel_rfl)|(apply yE)|(apply yH)
   |(refine W.cond _ rfl (fun hb => ?_) (fun hb => ?_) <;> ((try simp only [hb,zK]) <;> (try simp only [zL,zI] at hb) <;> (try (exfalso;omega))))))
  all_goals try (exfalso;omega)
  refine AWP.nilRow 8 1 9 rfl (by omega) ?_
  (repeat' (first
   |(apply W.qd;(first
   |(exact zM)
   |(exact jB)))|(apply yB)|(apply (W.regionS 5);exact rfl;kernel_rfl)|(apply yE)
   |(apply yG)))
  refine AWP.loopW (α := Nat) (fun k => k ≤ us.length ∧ slB at' g us k = true) (fun k => ⟨[(20,iV k),(19,iV us.length),(18,strs us),(0,pcs at'),(4,.opt 0 0),(8,.osl 1 k 0 k)],[.box [iV g.1,iV g.2],.row k 1 9 ((slL at' g us k).map sD)]⟩) (fun k => us.length - k) 0 ⟨Nat.zero_le _,rfl⟩ ?wkA fun k hk => ?_
  case wkA =>
   exact ⟨[0,1],rfl,rfl,rfl,rfl,iV_eq (by omega),rfl,rfl,rfl,rfl,trivial⟩
  obtain ⟨hk,hkB⟩ := hk
  by_cases hkl : k < us.length
  ·have hka : k < at'.length := by omega
   have e2 : us.getD k [] = us[k] := by rw [List.getD_eq_getElem?_getD,List.getElem?_eq_getElem hkl];rfl
   have e3 : at'.getD k pz0 = at'[k] := by rw [List.getD_eq_getElem?_getD,List.getElem?_eq_getElem hka];rfl
   have h1 := hbu k
   have h2 := hsu k
   have l1 := hsl k
   rw [e2,e3] at h1 h2
   rw [hkB,Bool.true_and] at h1
   have hu := hub _ (List.getElem_mem hkl)
   have hs := A_rseal (p := at'[k]) (g := g) hu.1 hu.2
   clear hsu hsl hbu
   generalize sealN at'[k] g us[k] = q at *
   obtain ⟨x,y⟩ := q
   dsimp only at h1 h2 hs
   by_cases hgd : y = 0 ∧ us[k].length = 32
   ·rw [decide_eq_true hgd] at h1
    obtain ⟨rfl,h32⟩ := hgd
    generalize slL at' g us k = S1 at *
    have b1 : (S1 ++ [x]).length = k + 1 := by simp [l1]
    (repeat' (first
     |(apply yFb;exact rfl;exact rfl)
     |(apply W.qd;(first
     |(exact zW (hs))|(exact zM)|(exact zN)|(exact jAn)|(exact jAj)|(exact jAv)|(exact jAg)|(exact jBd)|(exact jBl)|(exact jAd)|(exact jAz)|(exact jAl)|(exact jA)
     |(apply (yDb (u := .d _));exact rfl;exact rfl)))|(apply W.ed;((apply (e_app1F (l := S1) (f := sD) x);exact congrArg (AV.osl 1 k 0) l1.symm;(iterate 7 exact rfl);omega)))|(apply yA)|(apply yB)|(refine jAe ?_)|(refine jAs ?_)|(apply yE)|(refine jBc ?_)|(apply yG)|(apply yH)|(apply yL)
     |(refine W.cond _ rfl (fun hb => ?_) (fun hb => ?_) <;> ((try simp only [hb,zK]) <;> (try simp only [zL,zI] at hb) <;> (try (exfalso;omega))))))
    all_goals first
     |(exfalso;omega)|(refine ⟨k + 1,⟨by omega,h1⟩,by omega,?_⟩;(try dsimp only);rw [h2,b1];exact ⟨[0,1],rfl,rfl,rfl,iV_eq (by omega),rfl,rfl,rfl,rfl,rfl,trivial⟩)
   ·clear h1 h2 l1
    generalize slL at' g us k = S1 at *
    (repeat' (first
     |(apply yFb;exact rfl;exact rfl)
     |(apply W.qd;(first
     |(exact zW (hs))|(exact zM)|(exact zN)|(exact jAn)|(exact jAj)|(exact jAv)|(exact jBd)|(exact jBl)|(exact jAd)|(exact jAz)|(exact jA)|(apply (yEb (u := .d _));exact rfl;exact rfl)
     |(apply (yDb (u := .d _));exact rfl;exact rfl)))|(refine W.gOff _ _ rfl rfl (by intro h;cases h) ?_)|(apply yA)|(apply yB)|(refine jAe ?_)|(refine jAs ?_)|(apply yE)|(refine jBc ?_)|(apply yG)|(apply yH)|(apply yJ)|(apply yP)|(apply yN)|(refine jBa ?_)|(refine W.gF _ _ rfl rfl (fun hb => ?_) (fun hb => ?_) <;> ((try simp only [hb,zK]) <;> (try simp only [zL,zI] at hb) <;> (try (exfalso;omega))))
     |(refine W.cond _ rfl (fun hb => ?_) (fun hb => ?_) <;> ((try simp only [hb,zK]) <;> (try simp only [zL,zI] at hb) <;> (try (exfalso;omega))))))
    all_goals first
     |(exfalso;omega)
     |exact ⟨.inl rfl,[],[.d (.v (.slice none 0 0)),bV false],rfl,⟨rfl,rfl,trivial⟩,AVle.of_eq rfl,rfl⟩
  ·obtain rfl : k = us.length := by omega
   rw [hB] at hkB
   cases hkB
 ·(repeat' (first
  |(apply W.qd;(first
  |(exact zM)|(exact zN)|(exact jAv)
  |(exact jB)))|(apply W.ed;(exact jAc))|(apply yA)|(apply yB)|(refine jAe ?_)|(apply yE)|(apply yJ)|(apply yP)
  |(refine W.cond _ rfl (fun hb => ?_) (fun hb => ?_) <;> ((try simp only [hb,zK]) <;> (try simp only [zL,zI] at hb) <;> (try (exfalso;omega))))))
  all_goals first
   |(exfalso;omega)
   |exact ⟨.inl rfl,[],[.d (.v (.slice none 0 0)),bV false],rfl,⟨rfl,rfl,trivial⟩,AVle.of_eq rfl,rfl⟩
theorem A_lallO {n : Nat} (hn : n ≤ 1000000) : ACalls Tryz.prog 44 [iV n] [] (.osl 0 0 0 n) [.row 0 1 4 ((List.replicate n true).map tD)] := by
 refine acalls_of_bodyO Tryz.func44 rfl (zU rfl) ?_
 have hset := fun k (h : k < n) => fil_set (f := fun _ => true) (z := false) h
 have hll := fun k => fil_len (f := fun _ => true) (z := false) (n := n) k
 (repeat' (first
  |(apply W.qd;(first
  |(exact zM)
  |(exact zN)))|(apply W.ed;(apply e_makeF;exact rfl;exact rfl;(first | (with_reducible exact rfl) | exact natI_spec rfl | assumption | exact (Int.toNat_of_nonneg (by omega)).symm);(iterate 6 exact rfl);omega))|(apply yA)|(apply yB)|(apply (W.regionS 2);exact rfl;kernel_rfl)
  |(apply yE)))
 all_goals try (exfalso;omega)
 (repeat' (first
  |(apply W.qd;(first
  |(exact zM)
  |(exact q_len_osl rfl rfl rfl)))|(apply yB)|(apply (W.regionS 3);exact rfl;kernel_rfl)|(apply yE)
  |(apply yG)))
 refine AWP.loopW (α := Nat) (fun k => k ≤ n) (fun k => ⟨[(9,iV k),(8,iV n),(3,.osl 0 0 0 n)],[.row 0 1 4 ((fil (fun _ => true) false n k).map tD)]⟩) (fun k => n - k) 0 (Nat.zero_le _) ?wkA fun k hk => ?_
 case wkA =>
  rw [fil_zero,List.map_replicate,List.map_replicate]
  exact ⟨[0],rfl,rfl,rfl,by (repeat (first | exact trivial | refine ⟨rfl,?_⟩))⟩
 by_cases hkl : k < n
 ·have s1 := hset k hkl
  have l1 := hll k
  clear hset hll
  generalize fil (fun _ => true) false n k = S1 at *
  (repeat' (first
   |(apply W.qd;(first
   |(exact zM)|(exact zN)|(exact jAj)|(exact jAg)
   |(exact jAb)))|(apply W.ln;(exact jAi))|(apply yA)|(apply yB)|(refine jAe ?_)|(apply yE)|(apply yG)|(apply yH)|(apply yL)
   |(refine W.cond _ rfl (fun hb => ?_) (fun hb => ?_) <;> ((try simp only [hb,zK]) <;> (try simp only [zL,zI] at hb) <;> (try (exfalso;omega))))))
  all_goals first
   |(exfalso;omega)|(refine ⟨k + 1,by omega,by omega,?_⟩;(try dsimp only);rw [← s1];exact ⟨[0],rfl,rfl,rfl,iV_eq (by omega),rfl,rfl,trivial⟩)
 ·obtain rfl : k = n := by omega
  rw [fil_all,repl_map]
  (repeat' (first
   |(apply W.qd;(first
   |(exact zM)|(exact zN)
   |(exact jAj)))|(apply yA)|(apply yB)|(refine jAe ?_)|(apply yE)|(apply yI)|(apply yJ)|(apply yK)|(apply yM)
   |(refine W.cond _ rfl (fun hb => ?_) (fun hb => ?_) <;> ((try simp only [hb,zK]) <;> (try simp only [zL,zI] at hb) <;> (try (exfalso;omega))))))
  all_goals first
   |(exfalso;omega)
   |exact ⟨.inl rfl,[0],[.osl 0 0 0 k],rfl,rfl,⟨rfl,trivial⟩,AVle.of_eq rfl,rfl⟩
end
section
theorem isB_getDL {W : List (List Nat)} (h : ∀ u ∈ W,isB u) (k : Nat) : isB (W.getD k []) := by
 rw [List.getD_eq_getElem?_getD]
 cases e : W[k]? with
 | none => exact isB_nil
 | some s => exact h s (List.mem_of_getElem? e)
end
section
theorem AVle.topX (x : AV) : AVle x .top := fun _ _ _ _ _ _ => by rw [AV.sat];trivial
attribute [local irreducible] Quiet Eff OpOk AWPG ACont ABlock ACalls AGoto
theorem strip_cases {M D : Int} {par : List (List Int)} {ds : List (List Nat)} {at' : List Pl} {g : Gn} (hal : at'.length ≤ 9223372036854775807) (hdl : ds.length ≤ 9223372036854775807) (hds : ∀ u ∈ ds, isB u ∧ u.length ≤ 2000000) :
 ACalls Tryz.prog 43 [cdA M D par,strs ds,pcs at',gnA g] [] (.tup [.top,.top,bV false]) [] ∨ ∃ (m d : Nat) (ps : List (List Nat)),M = m ∧ D = d ∧ par = toZ ps ∧ CodeOk m d ps ∧ ds.length = d ∧ (∀ u ∈ ds,isB u ∧ u.length = 32) ∧ at'.length = d + ps.length ∧ slB at' g (encN m ps ds) (d + ps.length) = true ∧ ACalls Tryz.prog 43 [cdA M D par,strs ds,pcs at',gnA g] [] (.tup [strs (encN m ps ds),.osl 0 (d + ps.length) 0 (d + ps.length),bV true]) [.row (d + ps.length) 1 9 ((slL at' g (encN m ps ds) (d + ps.length)).map sD)] := by
 have hsm := A_small (M := M) (D := D) (par := par)
 have hma : (at'.map pcD).length = at'.length := List.length_map _
 have hmd : (ds.map sD).length = ds.length := List.length_map _
 by_cases hfit : smallB D par = true ∧ ds.length ≤ 24 ∧ at'.length ≤ 32
 ·obtain ⟨f1, f2, f3⟩ := hfit
  have f4 := f1
  unfold smallB at f4
  simp only [Bool.and_eq_true,decide_eq_true_eq] at f4
  rw [f1] at hsm
  by_cases hg : validC M D par = true ∧ (ds.length : Int) = D
  ·obtain ⟨g1, g2⟩ := hg
   obtain ⟨m,d,ps,rfl,rfl,rfl,hok⟩ := ok_valid g1
   have hd := hok.d
   have hw := hok.w
   have hl : ds.length = d := by omega
   have he := A_r8enc hok hl hds
   rw [cdN_A] at he
   cases hU : uniB m ds with
   | false =>
     rw [hU,if_neg (by decide)] at he
     refine .inl (acalls_of_body Tryz.func43 rfl (zU rfl) ?_)
     (repeat' (first
      |(apply yFb;exact rfl;exact rfl)
      |(apply W.qd;(first
      |(exact zW (hsm))|(exact zW (he))|(exact zM)|(exact zN)|(exact jAn)|(exact q_gtr rfl rfl)|(exact jAv)|(exact jBg)|(exact jBd)|(exact jB)
      |(apply (yDb (u := .d _));exact rfl;exact rfl)))|(apply W.ed;(exact jAc))|(apply yA)|(apply yB)|(refine jAe ?_)|(apply yE)|(apply yH)|(apply yJ)|(apply yP)|(refine jBa ?_)|(refine W.gF _ _ rfl rfl (fun hb => ?_) (fun hb => ?_) <;> ((try simp only [hb,zK]) <;> (try simp only [zL,zI] at hb) <;> (try (exfalso;omega))))
      |(refine W.cond _ rfl (fun hb => ?_) (fun hb => ?_) <;> ((try simp only [hb,zK]) <;> (try simp only [zL,zI] at hb) <;> (try (exfalso;omega))))))
     all_goals first
      |(exfalso;omega)
      |exact ⟨.inl rfl,[],[_,_,bV false],rfl,⟨rfl,rfl,rfl,trivial⟩,AVle.tup ⟨AVle.topX _,AVle.topX _,AVle.of_eq rfl,trivial⟩,rfl⟩
   | true =>
     rw [hU,if_pos rfl] at he
     obtain ⟨u1,u2⟩ := uni_ok hok.f hU (by omega)
     have hn0 : (ds.headD []).length ≤ 2000000 := by
      cases ds with
      | nil => simp at hl;omega
      | cons x t => exact (hds x (by simp)).2
     have hus : ∀ u ∈ ds,isB u ∧ u.length = (ds.headD []).length := fun u hx => ⟨(hds u hx).1,u1 u hx⟩
     have hW := encN_ok hok hl hus u2
     have hWl : (encN m ps ds).length = d + ps.length := by rw [encN_length,hl]
     have hWb : ∀ u ∈ encN m ps ds,isB u ∧ u.length ≤ 9223372036854775807 := fun u hx => ⟨(hW u hx).1,by rw [(hW u hx).2];omega⟩
     by_cases hS : at'.length = d + ps.length ∧ slB at' g (encN m ps ds) (d + ps.length) = true
     ·obtain ⟨s1, s2⟩ := hS
      have h32 : ∀ u ∈ ds,isB u ∧ u.length = 32 := fun u hx => by
       obtain ⟨k,hk,rfl⟩ := List.getElem_of_mem hx
       have h1 := (slB_get s2 (k := k) (by omega)).2
       have e : (encN m ps ds).getD k [] = ds[k] := by
        unfold encN
        rw [List.getD_eq_getElem?_getD,List.getElem?_append_left hk,List.getElem?_eq_getElem hk];rfl
       rw [e] at h1
       exact ⟨(hds _ hx).1,h1⟩
      refine .inr ⟨m,d,ps,rfl,rfl,rfl,hok,hl,h32,s1,s2,?_⟩
      have hsl := A_lsealOk (at' := at') (g := g) (us := encN m ps ds) (by omega) (by omega) hWb (by rw [hWl];exact s2)
      rw [hWl] at hsl
      refine acalls_of_bodyO Tryz.func43 rfl (zU rfl) ?_
      clear hW hWb hus u1 u2 s2 h32
      generalize slL at' g (encN m ps ds) (d + ps.length) = X at *
      generalize encN m ps ds = Wd at *
      (repeat' (first
       |(apply yFb;exact rfl;exact rfl)
       |(apply W.qd;(first
       |(exact zW (hsm))|(exact zW (he))|(exact zM)|(exact zN)|(exact jAn)|(exact q_gtr rfl rfl)|(exact jAv)|(exact jBg)|(exact jBd)|(exact jB)
       |(apply (yDb (u := .d _));exact rfl;exact rfl)))
       |(apply W.ed;(first
       |(apply (e_callJ (js := []) (hsl));(iterate 5 exact rfl);kernel_rfl;kernel_rfl)
       |(exact jAc)))|(apply yA)|(apply yB)|(refine jAe ?_)|(apply yE)|(apply yH)|(apply yJ)|(refine jAw ?_)|(refine W.gF _ _ rfl rfl (fun hb => ?_) (fun hb => ?_) <;> ((try simp only [hb,zK]) <;> (try simp only [zL,zI] at hb) <;> (try (exfalso;omega))))
       |(refine W.cond _ rfl (fun hb => ?_) (fun hb => ?_) <;> ((try simp only [hb,zK]) <;> (try simp only [zL,zI] at hb) <;> (try (exfalso;omega))))))
      all_goals first
       |(exfalso;omega)
       |exact ⟨.inl rfl,[2],[strs Wd,.osl 2 (d + ps.length) 0 (d + ps.length),bV true],rfl,rfl,⟨rfl,rfl,rfl,trivial⟩,AVle.of_eq rfl,rfl⟩
     ·have hsl := A_lsealBad (at' := at') (g := g) (us := encN m ps ds) (by omega) (by omega) hWb (by
       rw [hWl]
       by_cases h1 : at'.length = d + ps.length
       ·refine .inr ?_
        cases h2 : slB at' g (encN m ps ds) (d + ps.length) with
        | false => rfl
        | true => exact absurd ⟨h1,h2⟩ hS
       ·exact .inl h1)
      refine .inl (acalls_of_body Tryz.func43 rfl (zU rfl) ?_)
      clear hW hWb hus u1 u2 hS
      generalize encN m ps ds = Wd at *
      (repeat' (first
       |(apply yFb;exact rfl;exact rfl)
       |(apply W.qd;(first
       |(exact zW (hsm))|(exact zW (he))|(exact zW (hsl))|(exact zM)|(exact zN)|(exact jAn)|(exact q_gtr rfl rfl)|(exact jAv)|(exact jBg)|(exact jBd)|(exact jB)
       |(apply (yDb (u := .d _));exact rfl;exact rfl)))|(apply W.ed;(exact jAc))|(apply yA)|(apply yB)|(refine jAe ?_)|(apply yE)|(apply yH)|(apply yJ)|(refine jAw ?_)|(refine W.gF _ _ rfl rfl (fun hb => ?_) (fun hb => ?_) <;> ((try simp only [hb,zK]) <;> (try simp only [zL,zI] at hb) <;> (try (exfalso;omega))))
       |(refine W.cond _ rfl (fun hb => ?_) (fun hb => ?_) <;> ((try simp only [hb,zK]) <;> (try simp only [zL,zI] at hb) <;> (try (exfalso;omega))))))
      all_goals first
       |(exfalso;omega)
       |exact ⟨.inl rfl,[],[_,_,bV false],rfl,⟨rfl,rfl,rfl,trivial⟩,AVle.tup ⟨AVle.topX _,AVle.topX _,AVle.of_eq rfl,trivial⟩,rfl⟩
  ·have he := A_r8enc_bad (M := M) (D := D) (par := par) (us := ds) (by omega) (by omega) hg
   refine .inl (acalls_of_body Tryz.func43 rfl (zU rfl) ?_)
   (repeat' (first
    |(apply yFb;exact rfl;exact rfl)
    |(apply W.qd;(first
    |(exact zW (hsm))|(exact zW (he))|(exact zM)|(exact zN)|(exact jAn)|(exact q_gtr rfl rfl)|(exact jAv)|(exact jBg)|(exact jBd)|(exact jB)
    |(apply (yDb (u := .d _));exact rfl;exact rfl)))|(apply W.ed;(exact jAc))|(apply yA)|(apply yB)|(refine jAe ?_)|(apply yE)|(apply yH)|(apply yJ)|(apply yP)|(refine jBa ?_)|(refine W.gF _ _ rfl rfl (fun hb => ?_) (fun hb => ?_) <;> ((try simp only [hb,zK]) <;> (try simp only [zL,zI] at hb) <;> (try (exfalso;omega))))
    |(refine W.cond _ rfl (fun hb => ?_) (fun hb => ?_) <;> ((try simp only [hb,zK]) <;> (try simp only [zL,zI] at hb) <;> (try (exfalso;omega))))))
   all_goals first
    |(exfalso;omega)
    |exact ⟨.inl rfl,[],[_,_,bV false],rfl,⟨rfl,rfl,rfl,trivial⟩,AVle.tup ⟨AVle.topX _,AVle.topX _,AVle.of_eq rfl,trivial⟩,rfl⟩
 ·refine .inl (acalls_of_body Tryz.func43 rfl (zU rfl) ?_)
  cases hs : smallB D par with
  | false =>
    rw [hs] at hsm
    (repeat' (first
     |(apply W.qd;(first
     |(exact zW (hsm))|(exact zM)|(exact zN)|(exact jAn)|(exact jBg)
     |(apply (yEb (u := .d _));exact rfl;exact rfl)))|(apply W.ed;(exact jAc))|(refine W.gOff _ _ rfl rfl (by intro h;cases h) ?_)|(apply yA)|(apply yB)|(refine jAe ?_)|(apply yE)|(apply yJ)|(apply yP)
     |(refine jBa ?_)))
    all_goals first
     |(exfalso;omega)
     |exact ⟨.inl rfl,[],[_,_,bV false],rfl,⟨rfl,rfl,rfl,trivial⟩,AVle.tup ⟨AVle.topX _,AVle.topX _,AVle.of_eq rfl,trivial⟩,rfl⟩
  | true =>
    rw [hs] at hsm
    have hfit : ¬ (ds.length ≤ 24 ∧ at'.length ≤ 32) := fun h => hfit ⟨hs,h⟩
    (repeat' (first
     |(apply yFb;exact rfl;exact rfl)
     |(apply W.qd;(first
     |(exact zW (hsm))|(exact zM)|(exact zN)|(exact jAn)|(exact q_gtr rfl rfl)|(exact jBg)|(exact jB)|(apply (yEb (u := .d _));exact rfl;exact rfl)
     |(apply (yDb (u := .d _));exact rfl;exact rfl)))|(apply W.ed;(exact jAc))|(refine W.gOff _ _ rfl rfl (by intro h;cases h) ?_)|(apply yA)|(apply yB)|(refine jAe ?_)|(apply yE)|(apply yJ)|(apply yP)|(refine jBa ?_)|(refine W.gF _ _ rfl rfl (fun hb => ?_) (fun hb => ?_) <;> ((try simp only [hb,zK]) <;> (try simp only [zL,zI] at hb) <;> (try (exfalso;omega))))
     |(refine W.cond _ rfl (fun hb => ?_) (fun hb => ?_) <;> ((try simp only [hb,zK]) <;> (try simp only [zL,zI] at hb) <;> (try (exfalso;omega))))))
    all_goals first
     |(exfalso;omega)
     |exact ⟨.inl rfl,[],[_,_,bV false],rfl,⟨rfl,rfl,rfl,trivial⟩,AVle.tup ⟨AVle.topX _,AVle.topX _,AVle.of_eq rfl,trivial⟩,rfl⟩
end
section
def xorB (s : List Nat) (i : Nat) : List Nat := s.set i (s.getD i 0 ^^^ 5)
abbrev Sr2 := List (List Nat) × List Bool
section
variable (at' : List Pl) (g : Gn) (W : List (List Nat))
def hur1 (x : Sr2) (h : Hu) : Sr2 :=
 if h.1 < 0 ∨ (W.length : Int) ≤ h.1 then x
 else if h.2.1 = 0 then (x.1,x.2.set h.1.toNat false)
 else if h.2.1 = 1 then (if (sealN (at'.getD h.1.toNat pz0) h.2.2.2.1 (W.getD h.1.toNat [])).2 = 0 then (x.1.set h.1.toNat (sealN (at'.getD h.1.toNat pz0) h.2.2.2.1 (W.getD h.1.toNat [])).1,x.2) else x)
 else if h.2.1 = 2 then (if (sealN h.2.2.1 g (W.getD h.1.toNat [])).2 = 0 then (x.1.set h.1.toNat (sealN h.2.2.1 g (W.getD h.1.toNat [])).1,x.2) else x)
 else if h.2.1 = 3 then (if (x.1.getD h.1.toNat []).length = 64 ∧ 0 ≤ h.2.2.2.2.1 ∧ h.2.2.2.2.1 < 64 then (x.1.set h.1.toNat (xorB (x.1.getD h.1.toNat []) h.2.2.2.2.1.toNat),x.2) else x)
 else (x.1.set h.1.toNat h.2.2.2.2.2,x.2)
def hurN (l : List Hu) (x : Sr2) : Sr2 := l.foldl (hur1 at' g W) x
end
structure SrOk (n : Nat) (x : Sr2) : Prop where
 s : x.1.length = n
 r : x.2.length = n
 b : ∀ s ∈ x.1,isB s ∧ s.length ≤ 9223372036854775807
def HuIn (h : Hu) : Prop := isB h.2.2.2.2.2 ∧ h.2.2.2.2.2.length ≤ 9223372036854775807
theorem xorB_isB {s : List Nat} {i : Nat} (h : isB s) : isB (xorB s i) := fun y hy => by
 unfold xorB at hy
 rcases List.mem_or_eq_of_mem_set hy with h1 | rfl
 ·exact h y h1
 ·refine Nat.xor_lt_two_pow (n := 8) ?_ (by decide)
  rw [List.getD_eq_getElem?_getD]
  cases e : s[i]? with
  | none => decide
  | some v => exact h v (List.mem_of_getElem? e)
theorem xorB_len (s : List Nat) (i : Nat) : (xorB s i).length = s.length := by simp [xorB]
theorem memD {l : List (List Nat)} {Q : List Nat → Prop} (h : ∀ s ∈ l,Q s) (h0 : Q []) (k : Nat) : Q (l.getD k []) := by
 rw [List.getD_eq_getElem?_getD]
 cases e : l[k]? with
 | none => exact h0
 | some v => exact h v (List.mem_of_getElem? e)
theorem seal_in {p : Pl} {g : Gn} {u : List Nat} (hu : isB u) (h : (sealN p g u).2 = 0) : isB (sealN p g u).1 ∧ (sealN p g u).1.length ≤ 9223372036854775807 := by
 obtain ⟨p1,p2,p3,p4⟩ := sealN_ok h
 rw [p4]
 exact ⟨sealL_isB p1 hu,by rw [sealL_length p3];decide⟩
theorem hur1_ok {at' : List Pl} {g : Gn} {W : List (List Nat)} {n : Nat} {x : Sr2} {h : Hu} (hW : ∀ u ∈ W,isB u) (hx : SrOk n x) (hh : HuIn h) : SrOk n (hur1 at' g W x h) := by
 have hs : ∀ (k : Nat) (t : List Nat),isB t ∧ t.length ≤ 9223372036854775807 → SrOk n (x.1.set k t,x.2) := fun k t ht =>
  ⟨by rw [List.length_set];exact hx.s,hx.r,fun s hs => (List.mem_or_eq_of_mem_set hs).elim (hx.b s) (fun e => e ▸ ht)⟩
 unfold hur1
 split
 ·exact hx
 split
 ·exact ⟨hx.s,by rw [List.length_set];exact hx.r,hx.b⟩
 split
 ·split
  ·rename_i e;exact hs _ _ (seal_in (memD hW isB_nil _) e)
  ·exact hx
 split
 ·split
  ·rename_i e;exact hs _ _ (seal_in (memD hW isB_nil _) e)
  ·exact hx
 split
 ·split
  ·rename_i e
   have := memD (Q := fun s => isB s ∧ s.length ≤ 9223372036854775807) hx.b ⟨isB_nil,by decide⟩ h.1.toNat
   exact hs _ _ ⟨xorB_isB this.1,by rw [xorB_len];exact this.2⟩
  ·exact hx
 ·exact hs _ _ hh
theorem hurN_ok {at' : List Pl} {g : Gn} {W : List (List Nat)} {n : Nat} (hW : ∀ u ∈ W, isB u) : ∀ {l : List Hu} {x : Sr2}, SrOk n x → (∀ h ∈ l, HuIn h) → SrOk n (hurN at' g W l x)
 | [],_,hx,_ => hx
 | a :: l,_,hx,hh => hurN_ok hW (l := l) (hur1_ok hW hx (hh a (by simp))) fun b hb => hh b (by simp [hb])
theorem hurN_take {at' : List Pl} {g : Gn} {W : List (List Nat)} {l : List Hu} {x : Sr2} {k : Nat} (hk : k < l.length) : hurN at' g W (l.take (k + 1)) x = hur1 at' g W (hurN at' g W (l.take k) x) l[k] := by
 unfold hurN
 rw [List.take_succ_eq_append_getElem hk,List.foldl_append];rfl
def gdN (at' : List Pl) (g : Gn) (x : Sr2) (n : Nat) : List Bool := stH (staL at' g x.1 x.2 n)
def truT (at' : List Pl) (g : Gn) (W : List (List Nat)) (ss : List (List Nat)) (H : List Bool) (k : Nat) : Bool := (List.range k).all fun i => !(H.getD i false && !decide ((staN (at'.getD i pz0) g (ss.getD i []) (H.getD i false)).2 = W.getD i []))
theorem truT_succ (at' : List Pl) (g : Gn) (W : List (List Nat)) (ss : List (List Nat)) (H : List Bool) (k : Nat) : truT at' g W ss H (k + 1) = (truT at' g W ss H k && !(H.getD k false && !decide ((staN (at'.getD k pz0) g (ss.getD k []) (H.getD k false)).2 = W.getD k []))) := by
 unfold truT;rw [List.range_succ,List.all_append];simp
theorem truT_mono {at' : List Pl} {g : Gn} {W : List (List Nat)} {ss : List (List Nat)} {H : List Bool} {i : Nat} (h : truT at' g W ss H i = false) : ∀ k,i ≤ k → truT at' g W ss H k = false := fun k hk => by
 obtain ⟨d,rfl⟩ := Nat.le.dest hk
 clear hk
 induction d with
 | zero => exact h
 | succ d ih => rw [← Nat.add_assoc,truT_succ,ih,Bool.false_and]
theorem gdN_len (at' : List Pl) (g : Gn) (x : Sr2) (n : Nat) : (gdN at' g x n).length = n := by unfold gdN stH;rw [List.length_map,staL_length]
theorem stS_len (at' : List Pl) (g : Gn) (x : Sr2) (n : Nat) : (stS (staL at' g x.1 x.2 n)).length = n := by unfold stS;rw [List.length_map,staL_length]
theorem sta_read {p : Pl} {g : Gn} {s : List Nat} {r : Bool} (h : (staN p g s r).1 = 1) : r = true := by
 cases r with
 | true => rfl
 | false =>
   have e : (staN p g s false).1 = 2 := rfl
   rw [e] at h
   exact absurd h (by decide)
theorem tru_agree {at' : List Pl} {g : Gn} {W : List (List Nat)} {x : Sr2} {n : Nat} (h : truT at' g W x.1 (gdN at' g x n) n = true) {i : Nat} (hi : (gdN at' g x n).getD i false = true) : (stU (staL at' g x.1 x.2 n)).getD i [] = W.getD i [] := by
 obtain ⟨h1,h2⟩ := stH_iff.1 hi
 unfold truT at h
 rw [List.all_eq_true] at h
 have h3 := h i (List.mem_range.2 h1)
 rw [hi] at h3
 rw [stU_getD h1,sta_read h2]
 simpa using h3
section
variable {M D : Nat} {ps ds : List (List Nat)} {at' : List Pl} {g : Gn} {x : Sr2} (h : CodeOk M D ps) (hd : ds.length = D) (hb : ∀ u ∈ ds, isB u ∧ u.length = 32)
 (ht : truT at' g (encN M ps ds) x.1 (gdN at' g x (D + ps.length)) (D + ps.length) = true)
include h hd hb ht
end
theorem fix_ok {at' : List Pl} {g : Gn} {W : List (List Nat)} {n : Nat} {S : List Int} (hB : slB at' g W n = true) {k : Nat} (hk : k ≤ n) : fixB at' g S k = true := by
 unfold fixB fixT
 rw [List.all_eq_true]
 intro j hj
 have hj := List.mem_range.1 (List.mem_filter.1 hj).1
 obtain ⟨p1,p2,_,_⟩ := sealN_ok (slB_get hB (show j < n by omega)).1
 rw [p1,p2];rfl
theorem fx_whole {at' : List Pl} {g : Gn} {W V : List (List Nat)} {n : Nat} {S : List Int} {s : Int} (hB : slB at' g W n = true) (hS : S.length = n) : fixN at' g (1,S,V,s) = (fixL at' g (1,S,V,s) n,0) := by
 unfold fixN
 rw [if_neg (by simp),if_neg (by simp)]
 dsimp only
 rw [hS,if_pos (fix_ok hB (Nat.le_refl _))]
end
section
theorem xor_cells (s : List Nat) (i : Nat) (h : i < s.length) : (s.map cB).set i (cB (s[i] ^^^ 5)) = (xorB s i).map cB := by
 unfold xorB
 rw [List.map_set,List.getD_eq_getElem?_getD,List.getElem?_eq_getElem h];rfl
attribute [local irreducible] Quiet Eff OpOk AWPG ACont ABlock ACalls AGoto
theorem A_hurt {at' : List Pl} {g : Gn} {U : List (List Nat)} {v1 v2 n : Nat} {l : List Hu} {x : Sr2} (hx : SrOk n x) (hn : n ≤ 1000) (ha : at'.length = n) (hWl : U.length = n) (hWb : ∀ u ∈ U,isB u ∧ u.length ≤ 9223372036854775807) (hl : ∀ h ∈ l,HuIn h) (hll : l.length ≤ 9223372036854775807) : ACalls Tryz.prog 46 [pcs at',gnA g,strs U,.osl 0 v1 0 n,.osl 1 v2 0 n,hus l] [.row v1 1 9 (x.1.map sD),.row v2 1 4 (x.2.map tD)] (.osl 2 0 0 n) [.row v1 1 9 ((hurN at' g U l x).1.map sD),.row v2 1 4 ((hurN at' g U l x).2.map tD),.row 0 1 4 ((gdN at' g (hurN at' g U l x) n).map tD)] := by
 refine acalls_of_bodyO Tryz.func46 rfl (zU rfl) ?_
 have hma : (at'.map pcD).length = at'.length := List.length_map _
 have hmW : (U.map sD).length = U.length := List.length_map _
 have hml : (l.map huD).length = l.length := List.length_map _
 have hall := A_lallO (n := n) (by omega)
 have hall : ACalls Tryz.prog 44 [iV ((U.map sD).length : Nat)] [] (.osl 0 0 0 n) [.row 0 1 4 ((List.replicate n true).map tD)] := by rw [hmW,hWl];exact hall
 (repeat' (first
  |(apply W.qd;(first
  |(exact zM)|(exact zN)
  |(exact jB)))
  |(apply W.ed;(first
  |(apply (e_callJ (js := []) (hall));(iterate 5 exact rfl);kernel_rfl;kernel_rfl)
  |(exact jAc)))|(apply yA)|(apply yB)|(apply (W.regionS 2);exact rfl;kernel_rfl)
  |(apply yE)))
 all_goals try (exfalso;omega)
 (repeat' (first
  |(apply W.qd;(first
  |(exact zM)
  |(exact jB)))|(apply yB)|(apply (W.regionS 3);exact rfl;kernel_rfl)|(apply yE)
  |(apply yG)))
 refine AWP.loopW (α := Nat) (fun j => j ≤ l.length) (fun j => ⟨[(30,iV j),(29,iV l.length),(28,hus l),(0,pcs at'),(2,strs U),(3,.osl 0 v1 0 n),(4,.osl 1 v2 0 n),(7,.opt 2 0),(13,.osl 3 0 0 n)],[.row v1 1 9 ((hurN at' g U (l.take j) x).1.map sD),.row v2 1 4 ((hurN at' g U (l.take j) x).2.map tD),.box [iV g.1,iV g.2],.row 0 1 4 ((List.replicate n true).map tD)]⟩) (fun j => l.length - j) 0 (Nat.zero_le _) ?wkA fun j hj => ?_
 case wkA =>
  exact ⟨[0,1,2,3],rfl,rfl,rfl,rfl,iV_eq (by omega),rfl,rfl,rfl,rfl,rfl,rfl,rfl,trivial⟩
 by_cases hjl : j < l.length
 ·have hok := hurN_ok (at' := at') (g := g) (W := U) (fun u hu => (hWb u hu).1) hx (l := l.take j) fun h hh => hl h (List.mem_of_mem_take hh)
  have e1 := hurN_take (at' := at') (g := g) (W := U) (x := x) hjl
  have hh := hl _ (List.getElem_mem hjl)
  generalize hurN at' g U (l.take j) x = X at *
  obtain ⟨S,R⟩ := X
  obtain ⟨hS,hR,hSb⟩ := hok
  dsimp only at hS hR hSb
  clear hall
  unfold hur1 at e1
  dsimp only at e1
  by_cases c0 : l[j].1 < 0 ∨ (U.length : Int) ≤ l[j].1
  ·rw [if_pos c0] at e1
   (repeat' (first
    |(apply yFb;exact rfl;exact rfl)
    |(apply W.qd;(first
    |(exact zM)|(exact zN)|(exact jAr)|(exact jAm)|(exact jAj)|(exact q_geq rfl rfl)|(exact jAg)|(exact jB)|(exact jAz)|(exact jA)|(apply (yEb (u := .d _));exact rfl;exact rfl)
    |(apply (yDb (u := .d _));exact rfl;exact rfl)))|(apply W.ed;(exact jAq))|(apply W.ln;(exact jAh))|(refine W.gOff _ _ rfl rfl (by intro h;cases h) ?_)|(apply yA)|(apply yB)|(refine jAe ?_)|(apply yE)|(apply yG)|(apply yH)|(apply yI)|(apply yK)|(apply yM)|(refine jBa ?_)|(refine W.gF _ _ rfl rfl (fun hb => ?_) (fun hb => ?_) <;> ((try simp only [hb,zK]) <;> (try simp only [zL,zI] at hb) <;> (try (exfalso;omega))))
    |(refine W.cond _ rfl (fun hb => ?_) (fun hb => ?_) <;> ((try simp only [hb,zK]) <;> (try simp only [zL,zI] at hb) <;> (try (exfalso;omega))))))
   all_goals first
    |(exfalso;omega)|(refine ⟨j + 1,by omega,by omega,?_⟩;(try dsimp only);rw [e1];exact ⟨[0,1,2,3],rfl,rfl,rfl,iV_eq (by omega),rfl,rfl,rfl,rfl,rfl,rfl,rfl,rfl,trivial⟩)
  rw [if_neg c0] at e1
  have hkn : l[j].1.toNat < n := by omega
  have hkW : l[j].1.toNat < U.length := by omega
  have hkS : l[j].1.toNat < S.length := by omega
  have hka : l[j].1.toNat < at'.length := by omega
  have eW : U.getD l[j].1.toNat [] = U[l[j].1.toNat] := by rw [List.getD_eq_getElem?_getD,List.getElem?_eq_getElem hkW];rfl
  have eS : S.getD l[j].1.toNat [] = S[l[j].1.toNat] := by rw [List.getD_eq_getElem?_getD,List.getElem?_eq_getElem hkS];rfl
  have eA : at'.getD l[j].1.toNat pz0 = at'[l[j].1.toNat] := by rw [List.getD_eq_getElem?_getD,List.getElem?_eq_getElem hka];rfl
  rw [eW,eS,eA] at e1
  have hw := hWb _ (List.getElem_mem hkW)
  have hs := hSb _ (List.getElem_mem hkS)
  (repeat' (first
   |(apply yFb;exact rfl;exact rfl)
   |(apply W.qd;(first
   |(exact zM)|(exact zN)|(exact jAr)|(exact jAm)|(exact jAj)|(exact q_geq rfl rfl)|(exact jB)|(exact jAz)|(exact jA)
   |(apply (yDb (u := .d _));exact rfl;exact rfl)))|(apply W.ed;(exact jAq))|(apply W.ln;(exact jAh))|(apply yA)|(apply yB)|(apply (W.regionS 9);exact rfl;kernel_rfl)|(apply yE)|(apply yG)|(apply yH)|(refine W.gF _ _ rfl rfl (fun hb => ?_) (fun hb => ?_) <;> ((try simp only [hb,zK]) <;> (try simp only [zL,zI] at hb) <;> (try (exfalso;omega))))
   |(refine W.cond _ rfl (fun hb => ?_) (fun hb => ?_) <;> ((try simp only [hb,zK]) <;> (try simp only [zL,zI] at hb) <;> (try (exfalso;omega))))))
  all_goals try (exfalso;omega)
  by_cases k0 : l[j].2.1 = 0
  ·rw [if_pos k0] at e1
   (repeat' (first
    |(apply W.qd;(first
    |(exact zM)|(exact zN)|(exact jBb)|(exact jAg)
    |(exact jAb)))|(apply W.ln;(exact jAi))|(apply yB)|(refine jAe ?_)|(apply yE)|(apply yL)
    |(refine W.cond _ rfl (fun hb => ?_) (fun hb => ?_) <;> ((try simp only [hb,zK]) <;> (try simp only [zL,zI] at hb) <;> (try (exfalso;omega))))))
   all_goals first
    |(exfalso;omega)|(refine ⟨j + 1,by omega,by omega,?_⟩;(try dsimp only);rw [e1];exact ⟨[0,1,2,3],rfl,rfl,rfl,iV_eq (by omega),rfl,rfl,rfl,rfl,rfl,rfl,rfl,rfl,trivial⟩)
  rw [if_neg k0] at e1
  by_cases k1 : l[j].2.1 = 1
  ·rw [if_pos k1] at e1
   have hc := A_rseal (p := at'[l[j].1.toNat]) (g := l[j].2.2.2.1) hw.1 hw.2
   generalize sealN at'[l[j].1.toNat] l[j].2.2.2.1 U[l[j].1.toNat] = q at *
   obtain ⟨y,z⟩ := q
   dsimp only at e1 hc
   by_cases hz : z = 0
   ·rw [if_pos hz] at e1
    (repeat' (first
     |(apply W.qd;(first
     |(exact zW (hc))|(exact zM)|(exact zN)|(exact jAr)|(exact jAn)|(exact jBb)|(exact jAg)|(exact jBd)|(exact jAd)|(exact jAz)|(exact jA)
     |(exact jAb)))|(apply W.ln;(exact jAi))|(apply yA)|(apply yB)|(refine jAe ?_)|(refine jAs ?_)|(apply yE)|(refine jBc ?_)|(apply yL)
     |(refine W.cond _ rfl (fun hb => ?_) (fun hb => ?_) <;> ((try simp only [hb,zK]) <;> (try simp only [zL,zI] at hb) <;> (try (exfalso;omega))))))
    all_goals first
     |(exfalso;omega)|(refine ⟨j + 1,by omega,by omega,?_⟩;(try dsimp only);rw [e1];exact ⟨[0,1,2,3],rfl,rfl,rfl,iV_eq (by omega),rfl,rfl,rfl,rfl,rfl,rfl,rfl,rfl,trivial⟩)
   ·rw [if_neg hz] at e1
    (repeat' (first
     |(apply W.qd;(first
     |(exact zW (hc))|(exact zM)|(exact zN)|(exact jAr)|(exact jAn)|(exact jBb)|(exact jAg)|(exact jBd)|(exact jAd)|(exact jAz)
     |(exact jA)))|(apply yA)|(apply yB)|(refine jAe ?_)|(refine jAs ?_)|(apply yE)|(refine jBc ?_)|(apply yH)|(apply yL)
     |(refine W.cond _ rfl (fun hb => ?_) (fun hb => ?_) <;> ((try simp only [hb,zK]) <;> (try simp only [zL,zI] at hb) <;> (try (exfalso;omega))))))
    all_goals first
     |(exfalso;omega)|(refine ⟨j + 1,by omega,by omega,?_⟩;(try dsimp only);rw [e1];exact ⟨[0,1,2,3],rfl,rfl,rfl,iV_eq (by omega),rfl,rfl,rfl,rfl,rfl,rfl,rfl,rfl,trivial⟩)
  rw [if_neg k1] at e1
  by_cases k2 : l[j].2.1 = 2
  ·rw [if_pos k2] at e1
   have hc := A_rseal (p := l[j].2.2.1) (g := g) hw.1 hw.2
   generalize sealN l[j].2.2.1 g U[l[j].1.toNat] = q at *
   obtain ⟨y,z⟩ := q
   dsimp only at e1 hc
   by_cases hz : z = 0
   ·rw [if_pos hz] at e1
    (repeat' (first
     |(apply W.qd;(first
     |(exact zW (hc))|(exact zM)|(exact zN)|(exact jAr)|(exact jAn)|(exact jBb)|(exact jAg)|(exact jBd)|(exact jAd)|(exact jA)
     |(exact jAb)))|(apply W.ln;(exact jAi))|(apply yA)|(apply yB)|(refine jAe ?_)|(refine jAs ?_)|(apply yE)|(refine jBc ?_)|(apply yL)
     |(refine W.cond _ rfl (fun hb => ?_) (fun hb => ?_) <;> ((try simp only [hb,zK]) <;> (try simp only [zL,zI] at hb) <;> (try (exfalso;omega))))))
    all_goals first
     |(exfalso;omega)|(refine ⟨j + 1,by omega,by omega,?_⟩;(try dsimp only);rw [e1];exact ⟨[0,1,2,3],rfl,rfl,rfl,iV_eq (by omega),rfl,rfl,rfl,rfl,rfl,rfl,rfl,rfl,trivial⟩)
   ·rw [if_neg hz] at e1
    (repeat' (first
     |(apply W.qd;(first
     |(exact zW (hc))|(exact zM)|(exact zN)|(exact jAr)|(exact jAn)|(exact jBb)|(exact jAg)|(exact jBd)|(exact jAd)
     |(exact jA)))|(apply yA)|(apply yB)|(refine jAe ?_)|(refine jAs ?_)|(apply yE)|(refine jBc ?_)|(apply yH)|(apply yL)
     |(refine W.cond _ rfl (fun hb => ?_) (fun hb => ?_) <;> ((try simp only [hb,zK]) <;> (try simp only [zL,zI] at hb) <;> (try (exfalso;omega))))))
    all_goals first
     |(exfalso;omega)|(refine ⟨j + 1,by omega,by omega,?_⟩;(try dsimp only);rw [e1];exact ⟨[0,1,2,3],rfl,rfl,rfl,iV_eq (by omega),rfl,rfl,rfl,rfl,rfl,rfl,rfl,rfl,trivial⟩)
  rw [if_neg k2] at e1
  by_cases k3 : l[j].2.1 = 3
  ·rw [if_pos k3] at e1
   by_cases hz : S[l[j].1.toNat].length = 64 ∧ 0 ≤ l[j].2.2.2.2.1 ∧ l[j].2.2.2.2.1 < 64
   ·rw [if_pos hz] at e1
    have hb1 : l[j].2.2.2.2.1.toNat < S[l[j].1.toNat].length := by omega
    have hset := xor_cells _ _ hb1
    have hgb : (S[l[j].1.toNat].map cB)[l[j].2.2.2.2.1.toNat]? = some (cB S[l[j].1.toNat][l[j].2.2.2.2.1.toNat]) := by rw [List.getElem?_map,List.getElem?_eq_getElem hb1];rfl
    have h256 : S[l[j].1.toNat][l[j].2.2.2.2.1.toNat] < 256 := hs.1 _ (List.getElem_mem hb1)
    have hxl := xorB_len S[l[j].1.toNat] l[j].2.2.2.2.1.toNat
    have hxb := xorB_isB (i := l[j].2.2.2.2.1.toNat) hs.1
    have hlt : l[j].2.2.2.2.1.toNat < (S[l[j].1.toNat].map cB).length := by rw [List.length_map];exact hb1
    (repeat' (first
     |(apply yFb;exact rfl;exact rfl)
     |(apply W.qd;(first
     |((apply q_mv;exact Eq.refl (AV.bsl _ _ _)))
     |((apply q_as;exact Eq.refl (AV.bsl _ _ _)))
     |((exact q_len_bsl rfl rfl))
     |((apply (q_ix_bsl (j := l[j].2.2.2.2.1.toNat));(iterate 3 exact rfl);omega;omega))
     |((apply yT;(iterate 3 exact rfl);exact hgb))
     |((apply (q_xorU (xn := S[l[j].1.toNat][l[j].2.2.2.2.1.toNat]) (yn := 5) (v := S[l[j].1.toNat][l[j].2.2.2.2.1.toNat] ^^^ 5));(iterate 5 exact rfl);exact h256;decide;exact rfl))
     |((apply q_str_bsl;(iterate 4 exact rfl);exact hxl.symm;exact hxb))|(exact zM)|(exact zN)|(exact jAr)|(exact jAm)|(exact jAj)|(exact q_geq rfl rfl)|(exact jBb)|(exact jAg)|(apply (yEb (u := .d _));exact rfl;exact rfl)|(exact jAb)
     |(exact jAo)))|(apply W.ed;((apply e_bytesB;(iterate 3 exact rfl);exact hs.1;exact hs.2;exact rfl;exact rfl)))|(apply W.ln;(exact jAi))|(apply W.en;((apply e_stS;(iterate 4 exact rfl);exact congrArg (fun c => [_,_,_,_,_,Ent.box c]) hset;(iterate 3 exact rfl);exact hlt)))|(apply yA)|(apply yB)|(refine jAe ?_)|(apply yE)|(apply yL)|(refine W.gT _ _ rfl rfl (fun hb => ?_) (fun hb => ?_) <;> ((try simp only [hb,zK]) <;> (try simp only [zL,zI] at hb) <;> (try (exfalso;omega))))
     |(refine W.cond _ rfl (fun hb => ?_) (fun hb => ?_) <;> ((try simp only [hb,zK]) <;> (try simp only [zL,zI] at hb) <;> (try (exfalso;omega))))))
    all_goals first
     |(exfalso;omega)|(refine ⟨j + 1,by omega,by omega,?_⟩;(try dsimp only);rw [e1];exact ⟨[0,1,2,3],rfl,rfl,rfl,iV_eq (by omega),rfl,rfl,rfl,rfl,rfl,rfl,rfl,rfl,trivial⟩)
   ·rw [if_neg hz] at e1
    (repeat' (first
     |(apply yFb;exact rfl;exact rfl)
     |(apply W.qd;(first
     |((apply q_mv;exact Eq.refl (AV.bsl _ _ _)))
     |((apply q_as;exact Eq.refl (AV.bsl _ _ _)))
     |((exact q_len_bsl rfl rfl))|(exact zM)|(exact zN)|(exact jAr)|(exact jAm)|(exact jAj)|(exact q_geq rfl rfl)|(exact jBb)|(exact jAg)|(apply (yEb (u := .d _));exact rfl;exact rfl)|(apply (yDb (u := .d _));exact rfl;exact rfl)|(exact jAb)
     |(exact jAo)))|(apply W.ed;((apply e_bytesB;(iterate 3 exact rfl);exact hs.1;exact hs.2;exact rfl;exact rfl)))|(refine W.gOff _ _ rfl rfl (by intro h;cases h) ?_)|(apply yA)|(apply yB)|(refine jAe ?_)|(apply yE)|(apply yH)|(apply yL)|(refine jAw ?_)|(refine W.gT _ _ rfl rfl (fun hb => ?_) (fun hb => ?_) <;> ((try simp only [hb,zK]) <;> (try simp only [zL,zI] at hb) <;> (try (exfalso;omega))))
     |(refine W.cond _ rfl (fun hb => ?_) (fun hb => ?_) <;> ((try simp only [hb,zK]) <;> (try simp only [zL,zI] at hb) <;> (try (exfalso;omega))))))
    all_goals first
     |(exfalso;omega)|(refine ⟨j + 1,by omega,by omega,?_⟩;(try dsimp only);rw [e1];exact ⟨[0,1,2,3],rfl,rfl,rfl,iV_eq (by omega),rfl,rfl,rfl,rfl,rfl,rfl,rfl,rfl,trivial⟩)
  rw [if_neg k3] at e1
  (repeat' (first
   |(apply W.qd;(first
   |(exact zM)|(exact zN)|(exact jAr)|(exact jAm)|(exact jBb)|(exact jAg)
   |(exact jAb)))|(apply W.ln;(exact jAi))|(apply yA)|(apply yB)|(refine jAe ?_)|(apply yE)|(apply yL)
   |(refine W.cond _ rfl (fun hb => ?_) (fun hb => ?_) <;> ((try simp only [hb,zK]) <;> (try simp only [zL,zI] at hb) <;> (try (exfalso;omega))))))
  all_goals first
   |(exfalso;omega)|(refine ⟨j + 1,by omega,by omega,?_⟩;(try dsimp only);rw [e1];exact ⟨[0,1,2,3],rfl,rfl,rfl,iV_eq (by omega),rfl,rfl,rfl,rfl,rfl,rfl,rfl,rfl,trivial⟩)
 ·obtain rfl : j = l.length := by omega
  rw [List.take_length]
  have hok := hurN_ok (at' := at') (g := g) (W := U) (fun u hu => (hWb u hu).1) hx hl
  generalize hurN at' g U l x = X at *
  obtain ⟨S,R⟩ := X
  obtain ⟨hS,hR,hSb⟩ := hok
  dsimp only at hS hR hSb
  clear hall
  obtain ⟨_,_,m3⟩ := sta_maps at' g S R n
  have hst := fun k (hk : k < S.length) (ha : k < at'.length) (hr : k < R.length) => A_rstate (p := at'[k]) (g := g) (s := S[k]) (r := R[k]) (hSb _ (List.getElem_mem hk)).1 (hSb _ (List.getElem_mem hk)).2
  generalize hfH : (fun k => decide ((staN (at'.getD k pz0) g (S.getD k []) (R.getD k false)).1 = 1)) = fH at *
  have eH : ∀ k (hk : k < S.length) (ha : k < at'.length) (hr : k < R.length),fH k = decide ((staN at'[k] g S[k] R[k]).1 = 1) := fun k hk ha hr => by
   rw [← hfH]
   simp only [List.getD_eq_getElem?_getD,List.getElem?_eq_getElem hk,List.getElem?_eq_getElem ha,List.getElem?_eq_getElem hr,Option.getD_some]
  clear hfH
  (repeat' (first
   |(apply W.qd;(first
   |(exact zM)|(exact jAj)
   |(exact q_len_osl rfl rfl rfl)))|(apply yA)|(apply yB)|(apply (W.regionS 26);exact rfl;kernel_rfl)|(apply yE)|(apply yG)|(apply yI)|(apply yK)|(apply yM)
   |(refine W.cond _ rfl (fun hb => ?_) (fun hb => ?_) <;> ((try simp only [hb,zK]) <;> (try simp only [zL,zI] at hb) <;> (try (exfalso;omega))))))
  all_goals try (exfalso;omega)
  refine AWP.loopW (α := Nat) (fun k => k ≤ n) (fun k => ⟨[(132,iV k),(131,iV n),(0,pcs at'),(3,.osl 0 v1 0 n),(4,.osl 1 v2 0 n),(7,.opt 2 0),(13,.osl 3 0 0 n)],[.row v1 1 9 (S.map sD),.row v2 1 4 (R.map tD),.box [iV g.1,iV g.2],.row 0 1 4 ((fil fH true n k).map tD)]⟩) (fun k => n - k) 0 (Nat.zero_le _) ?wkB fun k hk => ?_
  case wkB =>
   rw [fil_zero]
   exact ⟨[0,1,2,3],rfl,rfl,rfl,rfl,iV_eq (by omega),rfl,rfl,rfl,rfl,rfl,trivial⟩
  by_cases hkl : k < n
  ·have hkS : k < S.length := by omega
   have hka : k < at'.length := by omega
   have hkR : k < R.length := by omega
   have hs := hst k hkS hka hkR
   have e3 := eH k hkS hka hkR
   have s3 := fil_set (f := fH) (z := true) hkl
   have l3 := fil_len (f := fH) (z := true) (n := n) k
   rw [e3] at s3
   generalize staN at'[k] g S[k] R[k] = q at *
   obtain ⟨y,z⟩ := q
   dsimp only at *
   clear hst eH m3
   generalize fil fH true n k = H1 at *
   (repeat' (first
    |(apply W.qd;(first
    |(exact zW (hs))|(exact zM)|(exact zN)|(exact jAn)|(exact jAj)|(exact jBb)|(exact jAg)|(exact jBd)|(exact jAz)|(exact jA)|(exact jAb)
    |(exact jAo)))|(apply W.ln;(exact jAi))|(apply yA)|(apply yB)|(refine jAe ?_)|(refine jAs ?_)|(apply yE)|(refine jBc ?_)|(apply yG)|(apply yH)|(apply yL)
    |(refine W.cond _ rfl (fun hb => ?_) (fun hb => ?_) <;> ((try simp only [hb,zK]) <;> (try simp only [zL,zI] at hb) <;> (try (exfalso;omega))))))
   all_goals first
    |(exfalso;omega)|(refine ⟨k + 1,by omega,by omega,?_⟩;(try dsimp only);rw [← s3];exact ⟨[0,1,2,3],rfl,rfl,rfl,iV_eq (by omega),rfl,rfl,rfl,rfl,rfl,rfl,trivial⟩)
  ·obtain rfl : k = n := by omega
   rw [fil_all,m3]
   (repeat' (first
    |(apply W.qd;(first
    |(exact zM)|(exact zN)
    |(exact jAj)))|(apply yA)|(apply yB)|(refine jAe ?_)|(apply yE)|(apply yI)|(apply yJ)|(apply yK)|(apply yM)
    |(refine W.cond _ rfl (fun hb => ?_) (fun hb => ?_) <;> ((try simp only [hb,zK]) <;> (try simp only [zL,zI] at hb) <;> (try (exfalso;omega))))))
   all_goals first
    |(exfalso;omega)
    |exact ⟨.inl rfl,[0,1,3],[.osl 3 0 0 k],rfl,rfl,⟨rfl,trivial⟩,AVle.of_eq rfl,rfl⟩
theorem A_truth {at' : List Pl} {g : Gn} {U S : List (List Nat)} {H : List Bool} {n : Nat} (hn : n ≤ 1000) (ha : at'.length = n) (hWl : U.length = n) (hSl : S.length = n) (hHl : H.length = n) (hWb : ∀ u ∈ U,isB u) (hSb : ∀ s ∈ S,isB s ∧ s.length ≤ 9223372036854775807) : ACalls Tryz.prog 48 [pcs at',gnA g,strs U,strs S,bools H] [] (bV (truT at' g U S H n)) [] := by
 refine acalls_of_body Tryz.func48 rfl (zU rfl) ?_
 have hma : (at'.map pcD).length = at'.length := List.length_map _
 have hmW : (U.map sD).length = U.length := List.length_map _
 have hmS : (S.map sD).length = S.length := List.length_map _
 have hmH : (H.map tD).length = H.length := List.length_map _
 (repeat' (first
  |(apply W.qd;(first
  |(exact zM)|(exact zN)
  |(exact jB)))|(apply W.ed;(exact jAc))|(apply yA)|(apply yB)|(apply (W.regionS 2);exact rfl;kernel_rfl)|(apply yE)
  |(apply yG)))
 refine AWP.loopW (α := Nat) (fun k => k ≤ n ∧ truT at' g U S H k = true) (fun k => ⟨[(16,iV k),(15,iV n),(0,pcs at'),(2,strs U),(3,strs S),(4,bools H),(6,.opt 0 0)],[.box [iV g.1,iV g.2]]⟩) (fun k => n - k) 0 ⟨Nat.zero_le _,rfl⟩ ?wkA fun k hk => ?_
 case wkA =>
  exact ⟨[0],rfl,rfl,rfl,rfl,iV_eq (by omega),rfl,rfl,rfl,rfl,rfl,trivial⟩
 obtain ⟨hk,hkt⟩ := hk
 by_cases hkl : k < n
 ·have hkS : k < S.length := by omega
  have hka : k < at'.length := by omega
  have hkW : k < U.length := by omega
  have hkH : k < H.length := by omega
  have hs := A_rstate (p := at'[k]) (g := g) (s := S[k]) (r := H[k]) (hSb _ (List.getElem_mem hkS)).1 (hSb _ (List.getElem_mem hkS)).2
  have ht := truT_succ at' g U S H k
  rw [hkt,Bool.true_and] at ht
  simp only [List.getD_eq_getElem?_getD,List.getElem?_eq_getElem hkS,List.getElem?_eq_getElem hka,List.getElem?_eq_getElem hkW,List.getElem?_eq_getElem hkH,Option.getD_some] at ht
  have hi1 : isB (staN at'[k] g S[k] H[k]).2 := staN_isB (hSb _ (List.getElem_mem hkS)).1
  have hi2 := hWb _ (List.getElem_mem hkW)
  generalize staN at'[k] g S[k] H[k] = q at *
  obtain ⟨y,z⟩ := q
  dsimp only at hs ht hi1
  have hm := fun (h : truT at' g U S H (k + 1) = false) => truT_mono h n (by omega)
  cases hHk : H[k] with
  | false =>
    rw [hHk] at ht
    (repeat' (first
     |(apply yFb;exact rfl;exact rfl)
     |(apply W.qd;(first
     |(exact zW (hs))|(exact zM)|(exact zN)|(exact jAn)|(exact jAj)|(exact jAg)|(exact jBd)|(exact jAd)|(exact jAz)|(exact jA)|(apply (yEb (u := .d _));exact rfl;exact rfl)|(apply (yDb (u := .d _));exact rfl;exact rfl)
     |(exact jAx)))|(refine W.gOff _ _ rfl rfl (by intro h;cases h) ?_)|(apply yA)|(apply yB)|(refine jAe ?_)|(refine jAs ?_)|(apply yE)|(refine jBc ?_)|(apply yG)|(apply yH)|(apply yJ)|(apply yP)|(apply yL)|(apply yN)|(refine jAw ?_)|(refine W.gT _ _ rfl rfl (fun hb => ?_) (fun hb => ?_) <;> ((try simp only [hb,zK]) <;> (try simp only [zL,zI] at hb) <;> (try (exfalso;omega))))
     |(refine W.cond _ rfl (fun hb => ?_) (fun hb => ?_) <;> ((try simp only [hb,zK]) <;> (try simp only [zL,zI] at hb) <;> (try (exfalso;omega))))))
    (all_goals (try (exfalso;exact absurd ((‹H[k] = true› : H[k] = true).symm.trans (‹H[k] = false› : H[k] = false)) (by decide))))
    all_goals first
     |(exfalso;omega)|(refine ⟨k + 1,⟨by omega,ht⟩,by omega,?_⟩;exact ⟨[0],rfl,rfl,rfl,iV_eq (by omega),rfl,rfl,rfl,rfl,rfl,rfl,trivial⟩)
  | true =>
    rw [hHk,Bool.true_and] at ht
    by_cases hz : z = U[k]
    ·rw [decide_eq_true hz] at ht
     (repeat' (first
      |(apply yFb;exact rfl;exact rfl)
      |(apply W.qd;(first
      |(exact zW (hs))|(exact zM)|(exact zN)|(exact jAn)|(exact jAj)|(exact jAg)|(exact jBd)|(exact jAd)|(exact jAz)|(exact jA)|(apply (yEb (u := .d _));exact rfl;exact rfl)|(apply (yDb (u := .d _));exact rfl;exact rfl)
      |(exact jAx)))|(refine W.gOff _ _ rfl rfl (by intro h;cases h) ?_)|(apply yA)|(apply yB)|(refine jAe ?_)|(refine jAs ?_)|(apply yE)|(refine jBc ?_)|(apply yG)|(apply yH)|(apply yJ)|(apply yP)|(apply yL)|(apply yN)|(refine jAw ?_)|(refine W.gT _ _ rfl rfl (fun hb => ?_) (fun hb => ?_) <;> ((try simp only [hb,zK]) <;> (try simp only [zL,zI] at hb) <;> (try (exfalso;omega))))
      |(refine W.cond _ rfl (fun hb => ?_) (fun hb => ?_) <;> ((try simp only [hb,zK]) <;> (try simp only [zL,zI] at hb) <;> (try (exfalso;omega))))))
     (all_goals (try (exfalso;exact absurd ((‹H[k] = true› : H[k] = true).symm.trans (‹H[k] = false› : H[k] = false)) (by decide))))
     all_goals (try exact absurd hz ‹_›)
     all_goals first
      |(exfalso;omega)|(refine ⟨k + 1,⟨by omega,ht⟩,by omega,?_⟩;exact ⟨[0],rfl,rfl,rfl,iV_eq (by omega),rfl,rfl,rfl,rfl,rfl,rfl,trivial⟩)
    ·rw [decide_eq_false hz] at ht
     have hf := hm ht
     (repeat' (first
      |(apply yFb;exact rfl;exact rfl)
      |(apply W.qd;(first
      |(exact zW (hs))|(exact zM)|(exact zN)|(exact jAn)|(exact jAj)|(exact jAg)|(exact jBd)|(exact jAd)|(exact jAz)|(exact jA)|(apply (yEb (u := .d _));exact rfl;exact rfl)|(apply (yDb (u := .d _));exact rfl;exact rfl)
      |(exact jAx)))|(refine W.gOff _ _ rfl rfl (by intro h;cases h) ?_)|(apply yA)|(apply yB)|(refine jAe ?_)|(refine jAs ?_)|(apply yE)|(refine jBc ?_)|(apply yG)|(apply yH)|(apply yJ)|(apply yP)|(apply yL)|(apply yN)|(refine jAw ?_)|(refine W.gT _ _ rfl rfl (fun hb => ?_) (fun hb => ?_) <;> ((try simp only [hb,zK]) <;> (try simp only [zL,zI] at hb) <;> (try (exfalso;omega))))
      |(refine W.cond _ rfl (fun hb => ?_) (fun hb => ?_) <;> ((try simp only [hb,zK]) <;> (try simp only [zL,zI] at hb) <;> (try (exfalso;omega))))))
     (all_goals (try (exfalso;exact absurd ((‹H[k] = true› : H[k] = true).symm.trans (‹H[k] = false› : H[k] = false)) (by decide))))
     all_goals (try exact absurd ‹_› hz)
     all_goals first
      |(exfalso;omega)
      |exact Ends.b rfl hf.symm
 ·obtain rfl : k = n := by omega
  (repeat' (first
   |(apply W.qd;(first
   |(exact zN)
   |(exact jAj)))|(apply yA)|(apply yB)|(refine jAe ?_)|(apply yE)|(apply yI)|(apply yJ)|(apply yK)|(apply yM)
   |(refine W.cond _ rfl (fun hb => ?_) (fun hb => ?_) <;> ((try simp only [hb,zK]) <;> (try simp only [zL,zI] at hb) <;> (try (exfalso;omega))))))
  all_goals first
   |(exfalso;omega)
   |exact Ends.b rfl hkt.symm
end
section
set_option linter.unusedSectionVars false
section
variable {M D : Nat} {ps ds : List (List Nat)} {at' : List Pl} {g : Gn} {x : Sr2} {u : Nat} {t : List Nat} (h : CodeOk M D ps) (hd : ds.length = D) (hb : ∀ u ∈ ds, isB u ∧ u.length = 32)
 (hB : slB at' g (encN M ps ds) (D + ps.length) = true) (hx : SrOk (D + ps.length) x) (hu : u < D + ps.length) (htb : isB t) (htl : t.length = 32) (hne : t ≠ (encN M ps ds).getD u [])
 (ht : truT at' g (encN M ps ds) x.1 (gdN at' g x (D + ps.length)) (D + ps.length) = true) (hgu : (gdN at' g x (D + ps.length)).getD u false = true)
def rplT (at' : List Pl) (g : Gn) (x : Sr2) (u : Nat) (t : List Nat) : Sr2 := (x.1.set u (sealL (at'.getD u pz0) g t),x.2)
include hB hx hu htb htl hgu
omit htb htl hgu in
theorem rplT_ok (hti : isB t) (htl : t.length = 32) : SrOk (D + ps.length) (rplT at' g x u t) := by
 obtain ⟨p1,p2,_,_⟩ := sealN_ok (slB_get hB hu).1
 refine ⟨by unfold rplT;rw [List.length_set];exact hx.s,hx.r,fun s hs => ?_⟩
 unfold rplT at hs
 exact (List.mem_or_eq_of_mem_set hs).elim (hx.b s) fun e => by
  rw [e];exact ⟨sealL_isB p1 hti,by rw [sealL_length (by omega)];decide⟩
theorem rplT_sta {k : Nat} (hk : k < D + ps.length) : staN (at'.getD k pz0) g ((rplT at' g x u t).1.getD k []) ((rplT at' g x u t).2.getD k false) = if k = u then (1,t) else staN (at'.getD k pz0) g (x.1.getD k []) (x.2.getD k false) := by
 obtain ⟨p1,p2,_,_⟩ := sealN_ok (slB_get hB hu).1
 unfold rplT
 dsimp only
 by_cases e : k = u
 ·subst e
  obtain ⟨_,h2⟩ := stH_iff.1 hgu
  have e : (x.1.set k (sealL (at'.getD k pz0) g t)).getD k [] = sealL (at'.getD k pz0) g t := by
   rw [List.getD_eq_getElem?_getD,List.getElem?_set_self (by rw [hx.s];exact hk)];rfl
  rw [if_pos rfl,sta_read h2,e]
  exact seal_state p1 p2 htb (by omega) htl
 ·have e2 : (x.1.set u (sealL (at'.getD u pz0) g t)).getD k [] = x.1.getD k [] := by
   rw [List.getD_eq_getElem?_getD,List.getElem?_set_ne (fun h => e h.symm),List.getD_eq_getElem?_getD]
  rw [if_neg e,e2]
theorem rplT_gd : gdN at' g (rplT at' g x u t) (D + ps.length) = gdN at' g x (D + ps.length) := by
 unfold gdN stH staL
 rw [List.map_map,List.map_map]
 apply List.map_congr_left
 intro k hk
 have hk := List.mem_range.1 hk
 show decide ((staN _ _ _ _).1 = 1) = decide ((staN _ _ _ _).1 = 1)
 rw [rplT_sta (ps := ps) (D := D) (M := M) (ds := ds) hB hx hu htb htl hgu hk]
 split
 ·rename_i e
  subst e
  obtain ⟨_,h2⟩ := stH_iff.1 hgu
  rw [h2]
 ·rfl
theorem rplT_U {k : Nat} (hk : k < D + ps.length) : (stU (staL at' g (rplT at' g x u t).1 (rplT at' g x u t).2 (D + ps.length))).getD k [] = if k = u then t else (stU (staL at' g x.1 x.2 (D + ps.length))).getD k [] := by
 rw [stU_getD hk,stU_getD hk,rplT_sta (ps := ps) (D := D) (M := M) (ds := ds) hB hx hu htb htl hgu hk]
 split <;> rfl
include h hd hb hne ht
theorem rplT_src : SrcOk M D ps (stU (staL at' g (rplT at' g x u t).1 (rplT at' g x u t).2 (D + ps.length))) (gdN at' g x (D + ps.length)) := by
 have := sta_src (at' := at') (g := g) (ss := (rplT at' g x u t).1) (rd := (rplT at' g x u t).2) h fun s hs => ((rplT_ok (M := M) (ds := ds) hB hx hu htb htl).b s hs).1
 have e := rplT_gd (M := M) (ds := ds) hB hx hu htb htl hgu
 unfold gdN at e
 rw [e] at this
 exact this
theorem rplT_agree {i : Nat} (hi : i ≠ u) (hh : (gdN at' g x (D + ps.length)).getD i false = true) : (stU (staL at' g (rplT at' g x u t).1 (rplT at' g x u t).2 (D + ps.length))).getD i [] = (encN M ps ds).getD i [] := by
 rw [rplT_U (M := M) (ds := ds) hB hx hu htb htl hgu (stH_iff.1 hh).1,if_neg hi]
 exact tru_agree ht hh
theorem rplT_con (hdec : decN M D ps ((gdN at' g x (D + ps.length)).set u false) = true) : conN M D ps (stU (staL at' g (rplT at' g x u t).1 (rplT at' g x u t).2 (D + ps.length))) (gdN at' g x (D + ps.length)) = false :=
 con_false h hd hb (rplT_src h hd hb hB hx hu htb htl hne ht hgu) hgu hdec (fun i hi hh => rplT_agree h hd hb hB hx hu htb htl hne ht hgu hi hh) (by
  rw [rplT_U (M := M) (ds := ds) hB hx hu htb htl hgu hu,if_pos rfl];exact hne)
theorem loc_one (hdec : decN M D ps ((gdN at' g x (D + ps.length)).set u false) = true) (hd0 : decN M D ps (gdN at' g x (D + ps.length)) = true) : (rpN M D ps at' g (rplT at' g x u t).1 (rplT at' g x u t).2).1 = 1 → (rpN M D ps at' g (rplT at' g x u t).1 (rplT at' g x u t).2).2.2.2 ≠ -1 := by
 have hc := rplT_con h hd hb hB hx hu htb htl hne ht hgu hdec
 have e := rplT_gd (M := M) (ds := ds) hB hx hu htb htl hgu
 have ha : allN M D ps (stU (staL at' g (rplT at' g x u t).1 (rplT at' g x u t).2 (D + ps.length))) (gdN at' g x (D + ps.length)) = true := by rw [allN_dec h (gdN_len _ _ _ _),hd0]
 unfold gdN at e
 unfold rpN
 rw [e]
 show (repU M D ps _ _ (gdN at' g x (D + ps.length))).1 = 1 → (repU M D ps _ _ (gdN at' g x (D + ps.length))).2.2.2 ≠ -1
 unfold repU
 rw [locN_eq,ha,hc]
 simp only [Bool.false_eq_true,if_false,Bool.true_eq_false]
 cases oneN (fndN M D ps (stU (staL at' g (rplT at' g x u t).1 (rplT at' g x u t).2 (D + ps.length))) (gdN at' g x (D + ps.length))) with
 | none => simp
 | some v => simp
theorem loc_two (hdec : ∀ L : List Nat,L.length ≤ 2 → decN M D ps (minusN (gdN at' g x (D + ps.length)) L) = true) : rpN M D ps at' g (rplT at' g x u t).1 (rplT at' g x u t).2 = (1,(stS (staL at' g (rplT at' g x u t).1 (rplT at' g x u t).2 (D + ps.length))).set u 3,encN M ps ds,(u : Int)) := by
 have d0 : decN M D ps (gdN at' g x (D + ps.length)) = true := hdec [] (by simp)
 have d1 : decN M D ps ((gdN at' g x (D + ps.length)).set u false) = true := hdec [u] (by simp)
 have d2 : ∀ j,decN M D ps (((gdN at' g x (D + ps.length)).set j false).set u false) = true := fun j => hdec [j,u] (by simp)
 have hc := rplT_con h hd hb hB hx hu htb htl hne ht hgu d1
 have e := rplT_gd (M := M) (ds := ds) hB hx hu htb htl hgu
 have hs := rplT_src h hd hb hB hx hu htb htl hne ht hgu
 have hag := fun i hi hh => rplT_agree (i := i) h hd hb hB hx hu htb htl hne ht hgu hi hh
 have hf := fnd_one h hd hb hs hgu d2 hag (by rw [rplT_U (M := M) (ds := ds) hB hx hu htb htl hgu hu,if_pos rfl];exact hne)
 have ha : allN M D ps (stU (staL at' g (rplT at' g x u t).1 (rplT at' g x u t).2 (D + ps.length))) (gdN at' g x (D + ps.length)) = true := by rw [allN_dec h (gdN_len _ _ _ _),d0]
 have hw := wrd_enc h hd hb (us := stU (staL at' g (rplT at' g x u t).1 (rplT at' g x u t).2 (D + ps.length))) (hv := (gdN at' g x (D + ps.length)).set u false) (by rw [List.length_set];exact gdN_len _ _ _ _) d1 fun i hi => hag i (set_false hi).1 (set_false hi).2
 have hL : locN M D ps (stU (staL at' g (rplT at' g x u t).1 (rplT at' g x u t).2 (D + ps.length))) (gdN at' g x (D + ps.length)) = ((u : Int),0) := by
  rw [locN_eq,if_neg (by rw [ha];decide),if_neg (by rw [hc];decide),hf];rfl
 have hC : corN M D ps (stU (staL at' g (rplT at' g x u t).1 (rplT at' g x u t).2 (D + ps.length))) (gdN at' g x (D + ps.length)) = (encN M ps ds,0) := by
  rw [corN_eq,if_neg (by rw [ha];decide),if_neg (by rw [hc];decide),hf]
  show (wrdN M D ps _ ((gdN at' g x (D + ps.length)).set u false),(0 : Int)) = _
  rw [hw]
 unfold gdN at e
 unfold rpN
 rw [e]
 show repU M D ps _ _ (gdN at' g x (D + ps.length)) = _
 unfold repU
 rw [hL,hC,if_pos rfl]
 simp
end
def mrk (H : List Bool) (T : List Nat) : List Bool := T.foldl (fun h j => h.set j true) H
theorem mrk_take {H : List Bool} {T : List Nat} {k : Nat} (hk : k < T.length) : mrk H (T.take (k + 1)) = (mrk H (T.take k)).set T[k] true := by
 unfold mrk
 rw [List.take_succ_eq_append_getElem hk,List.foldl_append];rfl
theorem mrk_len : ∀ (T : List Nat) (H : List Bool), (mrk H T).length = H.length
 | [],_ => rfl
 | j :: T,H => by
   have := mrk_len T (H.set j true)
   rw [List.length_set] at this
   exact this
theorem mrk_get {j : Nat} : ∀ (T : List Nat) (H : List Bool), j < H.length → (mrk H T).getD j false = if j ∈ T then true else H.getD j false
 | [],_,_ => by simp [mrk]
 | i :: T,H,h => by
   have e : mrk H (i :: T) = mrk (H.set i true) T := rfl
   rw [e,mrk_get T (H.set i true) (by rw [List.length_set];exact h),getD_setB]
   by_cases hj : j ∈ T
   ·simp [hj]
   ·by_cases hi : j = i
    ·subst hi
     simp [h]
    ·simp [hj,hi]
def unI (u : Nat) (T : List Nat) : Int := if u ∈ T then -1 else (u : Int)
theorem unI_take {u : Nat} {T : List Nat} {k : Nat} (hk : k < T.length) : unI u (T.take (k + 1)) = if (T[k] : Int) = unI u (T.take k) then -1 else unI u (T.take k) := by
 unfold unI
 rw [List.take_succ_eq_append_getElem hk]
 by_cases h1 : u ∈ T.take k
 ·rw [if_pos (List.mem_append_left _ h1),if_pos h1,if_neg (by omega)]
 ·rw [if_neg h1]
  by_cases h2 : T[k] = u
  ·rw [if_pos (List.mem_append_right _ (by rw [h2];exact List.mem_singleton_self _)),if_pos (by rw [h2])]
  ·rw [if_neg (fun hm => (List.mem_append.1 hm).elim h1 fun hm => h2 (List.mem_singleton.1 hm).symm),if_neg (by omega)]
section
variable {M D : Nat} {ps ds : List (List Nat)} {at' : List Pl} {g : Gn} {x : Sr2} {u : Nat} {t : List Nat}
def locT (at' : List Pl) (g : Gn) (x : Sr2) (n u : Nat) (t : List Nat) : List Nat := fixT ((stS (staL at' g (rplT at' g x u t).1 (rplT at' g x u t).2 n)).set u 3) n
theorem loc_mem {n j : Nat} (hj : j ∈ locT at' g x n u t) : j < n := List.mem_range.1 (List.mem_filter.1 hj).1
theorem loc_u {n : Nat} (hu : u < n) : u ∈ locT at' g x n u t := by
 unfold locT fixT
 refine List.mem_filter.2 ⟨List.mem_range.2 hu,?_⟩
 rw [List.getD_eq_getElem?_getD,List.getElem?_set_self (by rw [stS_len];exact hu)]
 rfl
theorem loc_mrk (hB : slB at' g (encN M ps ds) (D + ps.length) = true) (hx : SrOk (D + ps.length) x) (hu : u < D + ps.length) (htb : isB t) (htl : t.length = 32) (hgu : (gdN at' g x (D + ps.length)).getD u false = true) {k : Nat} (hk : k < D + ps.length) : (mrk (gdN at' g x (D + ps.length)) (locT at' g x (D + ps.length) u t)).getD k false = true := by
 rw [mrk_get _ _ (by rw [gdN_len];exact hk)]
 by_cases hm : k ∈ locT at' g x (D + ps.length) u t
 ·rw [if_pos hm]
 ·rw [if_neg hm, ← rplT_gd (M := M) (ds := ds) hB hx hu htb htl hgu]
  refine stH_iff.2 ⟨hk,Classical.byContradiction fun hn => hm ?_⟩
  unfold locT fixT
  refine List.mem_filter.2 ⟨List.mem_range.2 hk,?_⟩
  by_cases e : k = u
  ·subst e
   rw [List.getD_eq_getElem?_getD,List.getElem?_set_self (by rw [stS_len];exact hk)]
   rfl
  ·rw [List.getD_eq_getElem?_getD, List.getElem?_set_ne (fun h => e h.symm), ← List.getD_eq_getElem?_getD, stS_getD hk, decide_eq_false hn]
   rfl
end
end
section
theorem seal_srok {M D : Nat} {ps ds : List (List Nat)} {at' : List Pl} {g : Gn} (hWb : ∀ u ∈ encN M ps ds, isB u) (hB : slB at' g (encN M ps ds) (D + ps.length) = true) : SrOk (D + ps.length) (slL at' g (encN M ps ds) (D + ps.length), List.replicate (D + ps.length) true) where
 s := slL_len _ _ _ _
 r := by simp
 b s hs := by
  unfold slL at hs
  obtain ⟨k,hk,rfl⟩ := List.mem_map.1 hs
  exact seal_in (isB_getDL hWb k) (slB_get hB (List.mem_range.1 hk)).1
attribute [local irreducible] Quiet Eff OpOk AWPG ACont ABlock ACalls AGoto
end
section
section
variable {P : Program} {m : Nat} {env : List (Nat × AV)} {own : List Ent} {dst : Option Tmp} {ty : TypeId} {pos : String} {af : Array Edge} {gd : Option (Nat × Bool)}
theorem q_eqlSV {t t' : TypeId} {x y : Operand} {l l' : List Nat} {v : Bool} (hx : lookO env x = bS l) (hy : lookO env y = bS l') (h1 : isB l) (h2 : isB l') (hv : decide (l = l') = v) :
 Quiet P m ⟨dst,.binOp .eql t x y t',ty,pos,af,gd⟩ env own [] (bV v) := by
 subst hv;exact q_eqlS hx hy h1 h2
end
theorem left_dec {m d : Nat} {ps : List (List Nat)} {H : List Bool} {f : Nat} (hf : f ≤ 4) (h : (f : Int) ≤ leftC [99] m d (toZ ps) 1 H) : ∀ L : List Nat,L.length ≤ f → decN m d ps (minusN H L) = true := by
 unfold leftC at h
 split at h
 ·rw [decZ_nat] at h
  exact (left_iff hf).1 h
 ·omega
attribute [local irreducible] Quiet Eff OpOk AWPG ACont ABlock ACalls AGoto
theorem A_scrubLocates {M D un : Int} {par : List (List Int)} {ds : List (List Nat)} {at' : List Pl} {g : Gn} {l : List Hu} {t : List Nat} (hal : at'.length ≤ 9223372036854775807) (hdl : ds.length ≤ 9223372036854775807) (hds : ∀ u ∈ ds,isB u ∧ u.length ≤ 2000000) (hl : ∀ h ∈ l,HuIn h) (hll : l.length ≤ 9223372036854775807) (hti : isB t) (htl : t.length ≤ 9223372036854775807) : ACalls Tryz.prog 13 [cdA M D par,strs ds,pcs at',gnA g,hus l,iV un,bS t] [] (bV true) [] := by
 refine acalls_of_body Tryz.func13 rfl (zU rfl) ?_
 have hsa := A_sanity40
 have hml : (l.map huD).length = l.length := List.length_map _
 rcases strip_cases (M := M) (D := D) (par := par) (g := g) hal hdl hds with hstr | ⟨m,d,ps,rfl,rfl,rfl,hok,hdl2,h32,ha,hB,hstr⟩
 ·(repeat' (first
  |(apply W.qd;(first
  |(exact zW (hstr))|(exact zW (hsa))|(exact zM)|(exact zN)|(exact jAn)|(exact jBg)|(exact jBd)
  |(apply (yEb (u := .d _));exact rfl;exact rfl)))|(apply W.ed;(exact jAc))|(refine W.gOff _ _ rfl rfl (by intro h;cases h) ?_)|(apply yA)|(apply yB)|(refine jAe ?_)|(apply yE)|(apply yJ)|(apply yP)
  |(refine jBa ?_)))
  all_goals first | (exfalso;omega) | exact Ends.b rfl rfl
 ·have hd := hok.d
  have hw := hok.w
  have hEb := encN_ok hok hdl2 h32 (fit32 hok.f)
  have hWl : (encN m ps ds).length = d + ps.length := by rw [encN_length,hdl2]
  have hmW : ((encN m ps ds).map sD).length = (encN m ps ds).length := List.length_map _
  by_cases hpre : l.length ≤ 20 ∧ d + ps.length ≤ 12 ∧ 0 ≤ un ∧ un < (d + ps.length : Nat) ∧ t.length = 32
  case neg =>
   clear hB
   generalize slL at' g (encN m ps ds) (d + ps.length) = X at *
   have hWi : ∀ k (hk : k < (encN m ps ds).length),isB (encN m ps ds)[k] := fun k hk => (hEb _ (List.getElem_mem hk)).1
   clear hEb
   generalize encN m ps ds = Wd at *
   (repeat' (first
    |(apply yFb;exact rfl;exact rfl)
    |(apply W.qd;(first
    |(exact zW (hsa))|(exact zM)|(exact zN)|(exact jAn)|(exact jAj)|(exact q_gtr rfl rfl)|(exact q_geq rfl rfl)|(exact jAv)|(exact jBg)|(exact jBd)|(exact jB)|(exact jBl)|(apply (yEb (u := .d _));exact rfl;exact rfl)
    |(apply (yDb (u := .d _));exact rfl;exact rfl)))
    |(apply W.ed;(first
    |(apply (e_callJ (js := []) (hstr));(iterate 5 exact rfl);kernel_rfl;kernel_rfl)
    |(exact jAc)))|(refine W.gOff _ _ rfl rfl (by intro h;cases h) ?_)|(apply yA)|(apply yB)|(apply (W.regionS 4);exact rfl;kernel_rfl)|(apply yE)|(apply yJ)|(apply yP)|(refine jBa ?_)
    |(refine W.gF _ _ rfl rfl (fun hb => ?_) (fun hb => ?_) <;> ((try simp only [hb,zK]) <;> (try simp only [zL,zI] at hb) <;> (try (exfalso;omega))))))
   all_goals first | (exfalso;omega) | exact Ends.b rfl rfl
  obtain ⟨h20,h12,hu0,hun,ht32⟩ := hpre
  obtain ⟨k,rfl⟩ : ∃ k : Nat,un = k := ⟨un.toNat,by omega⟩
  have hkn : k < d + ps.length := by omega
  have hkW : k < (encN m ps ds).length := by omega
  have hka : k < at'.length := by omega
  have hki : isB (encN m ps ds)[k] := (hEb _ (List.getElem_mem hkW)).1
  by_cases hne : t = (encN m ps ds)[k]
  ·clear hB hEb
   generalize slL at' g (encN m ps ds) (d + ps.length) = X at *
   generalize encN m ps ds = Wd at *
   (repeat' (first
    |(apply yFb;exact rfl;exact rfl)
    |(apply W.qd;(first
    |(exact zW (hsa))
    |((apply (q_eqlSV (l := t) (v := true));exact rfl;exact rfl;exact hti;exact hki;exact decide_eq_true hne))|(exact zM)|(exact zN)|(exact jAn)|(exact jAj)|(exact q_gtr rfl rfl)|(exact q_geq rfl rfl)|(exact jAv)|(exact jBg)|(exact jBd)|(exact jB)|(exact jBl)|(exact jAd)|(exact jA)
    |(apply (yDb (u := .d _));exact rfl;exact rfl)))
    |(apply W.ed;(first
    |(apply (e_callJ (js := []) (hstr));(iterate 5 exact rfl);kernel_rfl;kernel_rfl)
    |(exact jAc)))|(apply yA)|(apply yB)|(apply (W.regionS 4);exact rfl;kernel_rfl)|(apply yE)|(apply yJ)|(apply yP)|(refine jBa ?_)
    |(refine W.gF _ _ rfl rfl (fun hb => ?_) (fun hb => ?_) <;> ((try simp only [hb,zK]) <;> (try simp only [zL,zI] at hb) <;> (try (exfalso;omega))))))
   all_goals first | (exfalso;omega) | exact Ends.b rfl rfl
  have hne2 : t ≠ (encN m ps ds).getD k [] := by rw [List.getD_eq_getElem?_getD,List.getElem?_eq_getElem hkW];exact hne
  have hWb : ∀ u ∈ encN m ps ds,isB u := fun u hu => (hEb u hu).1
  have hWb2 : ∀ u ∈ encN m ps ds,isB u ∧ u.length ≤ 9223372036854775807 := fun u hu => ⟨(hEb u hu).1,by rw [(hEb u hu).2];decide⟩
  have hx0 := seal_srok (M := m) (D := d) (ps := ps) (ds := ds) hWb hB
  have hX := hurN_ok (at' := at') (g := g) (W := encN m ps ds) hWb hx0 hl
  have hhu := A_hurt (v1 := d + ps.length) (v2 := 0) (g := g) hx0 (by omega) ha hWl hWb2 hl hll
  have hgl := gdN_len at' g (hurN at' g (encN m ps ds) l (slL at' g (encN m ps ds) (d + ps.length),List.replicate (d + ps.length) true)) (d + ps.length)
  have htr := A_truth (g := g) (U := encN m ps ds) (by omega) ha hWl hX.s hgl hWb hX.b
  have hlf := A_left9 (nm := [99]) (M := m) (D := d) (par := toZ ps) (dom := 1) (hv := gdN at' g (hurN at' g (encN m ps ds) l (slL at' g (encN m ps ds) (d + ps.length),List.replicate (d + ps.length) true)) (d + ps.length)) ⟨by unfold isB;decide,by decide,by omega,by simp [toZ];omega⟩ (by omega)
  have hall := A_lallO (n := d + ps.length) (by omega)
  have hall : ACalls Tryz.prog 44 [iV (((encN m ps ds).map sD).length : Nat)] [] (.osl 0 0 0 (d + ps.length)) [.row 0 1 4 ((List.replicate (d + ps.length) true).map tD)] := by rw [hmW,hWl];exact hall
  clear hEb hx0
  have hX1 := hX.s
  have hX2 := hX.r
  dsimp only at hhu
  generalize hurN at' g (encN m ps ds) l (slL at' g (encN m ps ds) (d + ps.length),List.replicate (d + ps.length) true) = Y at *
  have hgk : ((gdN at' g Y (d + ps.length)).map tD)[k]? = some (tD ((gdN at' g Y (d + ps.length)).getD k false)) := by
   rw [List.getElem?_map,List.getD_eq_getElem?_getD,List.getElem?_eq_getElem (by omega)];rfl
  have hfz : ∀ (own own' : List Ent) (H : List Bool),H.length = d + ps.length → own[2]? = some (.row (d + ps.length) 1 9 (Y.1.map sD)) → own[3]? = some (.row 0 1 4 (H.map tD)) → same [2,3] own own' → AV.frzL own' [] [pcs at',gnA g,strs (encN m ps ds),.osl 2 (d + ps.length) 0 (d + ps.length),.osl 3 0 0 (d + ps.length)] = [pcs at',gnA g,strs (encN m ps ds),strs Y.1,bools H] := fun own own' H hH k1 k2 hs => by
   show [pcs at',gnA g,strs (encN m ps ds),AV.frz own' [] (.osl 2 (d + ps.length) 0 (d + ps.length)),AV.frz own' [] (.osl 3 0 0 (d + ps.length))] = _
   rw [frz_rowJ ((hs 2 (by simp)).trans k1) rfl (by rw [List.length_map];exact hX1.symm),frz_rowJ ((hs 3 (by simp)).trans k2) rfl (by rw [List.length_map];exact hH.symm)]
  have hfl : ∀ (own own' : List Ent) (H : List Bool),H.length = d + ps.length → own[3]? = some (.row 0 1 4 (H.map tD)) → same [3] own own' → AV.frzL own' [] [cdF [99] m d (toZ ps) 1,.osl 3 0 0 (d + ps.length)] = [cdF [99] m d (toZ ps) 1,bools H] := fun own own' H hH k2 hs => by
   show [cdF [99] m d (toZ ps) 1,AV.frz own' [] (.osl 3 0 0 (d + ps.length))] = _
   rw [frz_rowJ ((hs 3 (by simp)).trans k2) rfl (by rw [List.length_map];exact hH.symm)]
  by_cases hgo : (gdN at' g Y (d + ps.length)).getD k false = true ∧ 1 ≤ leftC [99] m d (toZ ps) 1 (gdN at' g Y (d + ps.length)) ∧ truT at' g (encN m ps ds) Y.1 (gdN at' g Y (d + ps.length)) (d + ps.length) = true
  case neg =>
   clear hB hX
   generalize (gdN at' g Y (d + ps.length)).getD k false = gb at *
   generalize truT at' g (encN m ps ds) Y.1 (gdN at' g Y (d + ps.length)) (d + ps.length) = tb at *
   generalize leftC [99] m d (toZ ps) 1 (gdN at' g Y (d + ps.length)) = lf at *
   generalize gdN at' g Y (d + ps.length) = H at *
   have hfz := fun own own' => hfz own own' H hgl
   have hfl := fun own own' => hfl own own' H hgl
   generalize slL at' g (encN m ps ds) (d + ps.length) = X at *
   generalize encN m ps ds = Wd at *
   generalize hn : d + ps.length = n at *
   (repeat' (first
    |(apply yFb;exact rfl;exact rfl)
    |(apply W.qd;(first
    |((apply (q_eqlSV (l := t) (v := false));exact rfl;exact rfl;exact hti;exact hki;exact decide_eq_false hne))|(exact zM)|(exact zN)|(exact jAn)|(exact jAj)|(exact q_gtr rfl rfl)|(exact q_geq rfl rfl)|(exact jAv)|(exact jBg)|(exact jBd)|(exact jB)|(exact jBl)|(exact jAd)|(exact jA)
    |(apply (yDb (u := .d _));exact rfl;exact rfl)))
    |(apply W.ed;(first
    |(apply (e_callJ (js := []) (hstr));(iterate 5 exact rfl);kernel_rfl;kernel_rfl)|(apply (e_callJ (js := []) (hall));(iterate 5 exact rfl);kernel_rfl;kernel_rfl)|(apply (e_callJ (js := [2,3]) (hhu));(iterate 5 exact rfl);kernel_rfl;kernel_rfl)
    |(exact jAc)))|(apply yA)|(apply yB)|(apply (W.regionS 6);exact rfl;kernel_rfl)|(apply yE)|(apply yH)|(refine jAw ?_)
    |(refine W.gF _ _ rfl rfl (fun hb => ?_) (fun hb => ?_) <;> ((try simp only [hb,zK]) <;> (try simp only [zL,zI] at hb) <;> (try (exfalso;omega))))))
   all_goals try (exfalso;omega)
   refine AWP.wk ⟨[(2,pcs at'),(5,iV k),(7,.opt 0 0),(10,.opt 1 0),(15,strs Wd),(16,.osl 2 n 0 n),(19,.osl 3 0 0 n)],[.box [.d .any,iV m,iV d,rowsA (toZ ps),.d .any],.box [iV g.1,iV g.2],.row n 1 9 (Y.1.map sD),.row 0 1 4 (H.map tD)]⟩ ⟨[0,1,2,4],rfl,rfl,rfl,rfl,rfl,rfl,rfl,rfl,rfl,rfl,trivial⟩ ?_
   cases gb with
   | false =>
     (repeat' (first
      |(apply W.qd;(first
      |(exact zW (hsa))
      |((apply q_ld_rpt;(iterate 3 exact rfl);exact hgk;exact rfl))
      |((apply (q_callF (js := [3]) hlf);exact rfl;exact fun own' hh => hfl _ own' rfl hh;exact rfl;kernel_rfl))|(exact zM)|(exact zN)|(exact jAr)|(exact jAn)|(exact jBg)|(apply (yEb (u := .d _));exact rfl;exact rfl)
      |(exact jAb)))|(apply W.ln;(exact jAh))|(refine W.gOff _ _ rfl rfl (by intro h;cases h) ?_)|(apply yA)|(apply yB)|(refine jAe ?_)|(apply yE)|(apply yJ)|(apply yP)
      |(refine jBa ?_)))
     all_goals first | (exfalso;omega) | exact Ends.b rfl rfl
   | true =>
     by_cases hlf1 : 1 ≤ lf
     ·cases tb with
      | true => exact absurd ⟨rfl,hlf1,rfl⟩ hgo
      | false =>
        (repeat' (first
         |(apply yFb;exact rfl;exact rfl)
         |(apply W.qd;(first
         |(exact zW (hsa))
         |((apply q_ld_rpt;(iterate 3 exact rfl);exact hgk;exact rfl))
         |((apply (q_callF (js := [3]) hlf);exact rfl;exact fun own' hh => hfl _ own' rfl hh;exact rfl;kernel_rfl))
         |((apply (q_callF (js := [2,3]) htr);exact rfl;exact fun own' hh => hfz _ own' rfl rfl hh;exact rfl;kernel_rfl))|(exact zM)|(exact zN)|(exact jAr)|(exact jAn)|(exact jAj)|(exact jBg)|(apply (yDb (u := .d _));exact rfl;exact rfl)
         |(exact jAb)))|(apply W.ln;(exact jAh))|(apply yA)|(apply yB)|(refine jAe ?_)|(apply yE)|(apply yJ)|(apply yP)|(refine jBa ?_)
         |(refine W.gF _ _ rfl rfl (fun hb => ?_) (fun hb => ?_) <;> ((try simp only [hb,zK]) <;> (try simp only [zL,zI] at hb) <;> (try (exfalso;omega))))))
        all_goals first | (exfalso;omega) | exact Ends.b rfl rfl
     ·(repeat' (first
      |(apply yFb;exact rfl;exact rfl)
      |(apply W.qd;(first
      |(exact zW (hsa))
      |((apply q_ld_rpt;(iterate 3 exact rfl);exact hgk;exact rfl))
      |((apply (q_callF (js := [3]) hlf);exact rfl;exact fun own' hh => hfl _ own' rfl hh;exact rfl;kernel_rfl))|(exact zM)|(exact zN)|(exact jAr)|(exact jAn)|(exact jAj)|(exact jBg)|(apply (yEb (u := .d _));exact rfl;exact rfl)|(apply (yDb (u := .d _));exact rfl;exact rfl)
      |(exact jAb)))|(apply W.ln;(exact jAh))|(refine W.gOff _ _ rfl rfl (by intro h;cases h) ?_)|(apply yA)|(apply yB)|(refine jAe ?_)|(apply yE)|(apply yJ)|(apply yP)|(refine jBa ?_)
      |(refine W.gF _ _ rfl rfl (fun hb => ?_) (fun hb => ?_) <;> ((try simp only [hb,zK]) <;> (try simp only [zL,zI] at hb) <;> (try (exfalso;omega))))))
      all_goals first | (exfalso;omega) | exact Ends.b rfl rfl
  obtain ⟨g1,g2,g3⟩ := hgo
  rw [g1] at hgk
  rw [g3] at htr
  have eA : at'.getD k pz0 = at'[k] := by rw [List.getD_eq_getElem?_getD,List.getElem?_eq_getElem hka];rfl
  obtain ⟨p1,p2,_,_⟩ := sealN_ok (slB_get hB hkn).1
  rw [eA] at p1
  have hse := A_rseal (p := at'[k]) (g := g) hti htl
  have hse2 : sealN at'[k] g t = (sealL at'[k] g t,0) := if_pos ⟨p1,p2,by omega⟩
  rw [hse2] at hse
  have hZ := rplT_ok (M := m) (ds := ds) (u := k) hB hX hkn hti ht32
  have eZ : rplT at' g Y k t = (Y.1.set k (sealL at'[k] g t),Y.2) := by unfold rplT;rw [eA]
  have c1 := A_checkR (v := d + ps.length) (g := g) hok ha hZ.s hZ.r hZ.b
  have c2 := A_fixesR (v := d + ps.length) (g := g) hok ha hZ.s hZ.r hZ.b
  rw [hZ.s,cdN_A] at c1 c2
  have d1 := left_dec (f := 1) (by decide) g2
  have l1 := loc_one hok hdl2 h32 hB hX hkn hti ht32 hne2 g3 g1 (d1 [k] (by simp)) (d1 [] (by simp))
  have hZs := hZ.s
  by_cases hlf2 : leftC [99] m d (toZ ps) 1 (gdN at' g Y (d + ps.length)) < 2
  ·clear c2 d1 hB hX hZ
   generalize rpN m d ps at' g (rplT at' g Y k t).1 (rplT at' g Y k t).2 = q at *
   obtain ⟨f,Z,V,s⟩ := q
   dsimp only [rpA] at c1
   dsimp only at l1
   have l1 : f ≠ 1 ∨ s ≠ -1 := Classical.byContradiction fun hc => by
    have : f = 1 := Classical.byContradiction fun hf => hc (.inl hf)
    exact hc (.inr (l1 this))
   have c1 := c1.le (args' := [cdF [99] m d (toZ ps) 1,pcs at',gnA g,.osl 0 (d + ps.length) 0 (d + ps.length),bools (rplT at' g Y k t).2]) (fun F κ w vs => satL_le1 (fun F own κ w u => cdF_le) F _ κ w vs)
   rw [eZ] at c1 hZs
   clear eZ
   generalize leftC [99] m d (toZ ps) 1 (gdN at' g Y (d + ps.length)) = lf at *
   generalize gdN at' g Y (d + ps.length) = H at *
   have hfz := fun own own' => hfz own own' H hgl
   have hfl := fun own own' => hfl own own' H hgl
   generalize slL at' g (encN m ps ds) (d + ps.length) = X at *
   generalize encN m ps ds = Wd at *
   generalize sealL at'[k] g t = x at *
   generalize hn : d + ps.length = n at *
   dsimp only at hZs c1
   (repeat' (first
    |(apply yFb;exact rfl;exact rfl)
    |(apply W.qd;(first
    |((apply (q_eqlSV (l := t) (v := false));exact rfl;exact rfl;exact hti;exact hki;exact decide_eq_false hne))|(exact zM)|(exact zN)|(exact jAn)|(exact jAj)|(exact q_gtr rfl rfl)|(exact q_geq rfl rfl)|(exact jAv)|(exact jBg)|(exact jBd)|(exact jB)|(exact jBl)|(exact jAd)|(exact jA)
    |(apply (yDb (u := .d _));exact rfl;exact rfl)))
    |(apply W.ed;(first
    |(apply (e_callJ (js := []) (hstr));(iterate 5 exact rfl);kernel_rfl;kernel_rfl)|(apply (e_callJ (js := []) (hall));(iterate 5 exact rfl);kernel_rfl;kernel_rfl)|(apply (e_callJ (js := [2,3]) (hhu));(iterate 5 exact rfl);kernel_rfl;kernel_rfl)
    |(exact jAc)))|(apply yA)|(apply yB)|(apply (W.regionS 6);exact rfl;kernel_rfl)|(apply yE)|(apply yH)|(refine jAw ?_)
    |(refine W.gF _ _ rfl rfl (fun hb => ?_) (fun hb => ?_) <;> ((try simp only [hb,zK]) <;> (try simp only [zL,zI] at hb) <;> (try (exfalso;omega))))))
   all_goals try (exfalso;omega)
   refine AWP.wk ⟨[(2,pcs at'),(5,iV k),(6,bS t),(7,.opt 0 0),(10,.opt 1 0),(15,strs Wd),(16,.osl 2 n 0 n),(18,bools Y.2),(19,.osl 3 0 0 n)],[.box [.d .any,iV m,iV d,rowsA (toZ ps),.d .any],.box [iV g.1,iV g.2],.row n 1 9 (Y.1.map sD),.row 0 1 4 (H.map tD)]⟩ ⟨[0,1,2,4],rfl,rfl,rfl,rfl,rfl,rfl,rfl,rfl,rfl,rfl,(frz_rowJ rfl rfl (by rw [List.length_map];exact hX2.symm)).symm,rfl,trivial⟩ ?_
   (repeat' (first
    |(apply yFb;exact rfl;exact rfl)
    |(apply W.qd;(first
    |(exact zW (hse))
    |((apply q_ld_rpt;(iterate 3 exact rfl);exact hgk;exact rfl))
    |((apply (q_callF (js := [3]) hlf);exact rfl;exact fun own' hh => hfl _ own' rfl hh;exact rfl;kernel_rfl))
    |((apply (q_callF (js := [2,3]) htr);exact rfl;exact fun own' hh => hfz _ own' rfl rfl hh;exact rfl;kernel_rfl))|(exact zM)|(exact zN)|(exact jAr)|(exact jAn)|(exact jAj)|(exact jBg)|(exact jBd)|(exact jAz)|(exact jA)|(apply (yDb (u := .d _));exact rfl;exact rfl)
    |(exact jAb)))
    |(apply W.ln;(first
    |(exact jAh)
    |(exact jAi)))|(apply yA)|(apply yB)|(apply (W.regionS 11);exact rfl;kernel_rfl)|(apply (W.regionDS 11);exact rfl;exact rfl;kernel_rfl)|(apply yE)|(refine jBc ?_)|(apply yH)|(refine jAw ?_)
    |(refine W.gF _ _ rfl rfl (fun hb => ?_) (fun hb => ?_) <;> ((try simp only [hb,zK]) <;> (try simp only [zL,zI] at hb) <;> (try (exfalso;omega))))))
   all_goals try (exfalso;omega)
   refine AWP.wk ⟨[(2,pcs at'),(5,iV k),(7,.opt 0 0),(10,.opt 1 0),(15,strs Wd),(16,.osl 2 n 0 n),(18,bools Y.2),(20,iV lf)],[.box [bS [99],iV m,iV d,rowsA (toZ ps),iV 1],.box [iV g.1,iV g.2],.row n 1 9 ((Y.1.set k x).map sD)]⟩ ⟨[0,1,2],rfl,rfl,rfl,rfl,rfl,rfl,rfl,rfl,rfl,rfl,rfl,trivial⟩ ?_
   (repeat' (first
    |(apply yFb;exact rfl;exact rfl)
    |(apply W.qd;(first
    |(exact zW (hsa))|(exact zM)|(exact zN)|(exact jAr)|(exact jAm)|(exact jAn)|(exact jAj)|(exact jBb)|(exact jAv)|(exact jBd)|(apply (yEb (u := .d _));exact rfl;exact rfl)
    |(apply (yDb (u := .d _));exact rfl;exact rfl)))
    |(apply W.ed;(first
    |(apply (e_callJ (js := [2]) (c1));(iterate 5 exact rfl);kernel_rfl;kernel_rfl)
    |(exact jAq)))|(apply W.ln;(exact jAh))|(refine W.gOff _ _ rfl rfl (by intro h;cases h) ?_)|(apply yA)|(apply yB)|(refine jAe ?_)|(apply yE)|(apply yH)|(apply yJ)|(apply yP)|(refine jAw ?_)|(refine W.gT _ _ rfl rfl (fun hb => ?_) (fun hb => ?_) <;> ((try simp only [hb,zK]) <;> (try simp only [zL,zI] at hb) <;> (try (exfalso;omega))))
    |(refine W.cond _ rfl (fun hb => ?_) (fun hb => ?_) <;> ((try simp only [hb,zK]) <;> (try simp only [zL,zI] at hb) <;> (try (exfalso;omega))))))
   all_goals first
    |(exfalso;omega)
    |exact Ends.b rfl rfl
  ·have d2 := left_dec (f := 2) (by decide) (by omega) (H := gdN at' g Y (d + ps.length)) (m := m) (d := d) (ps := ps)
   have l2 := loc_two hok hdl2 h32 hB hX hkn hti ht32 hne2 g3 g1 d2
   have hSl := stS_len at' g (rplT at' g Y k t) (d + ps.length)
   have hfx := fx_whole (S := (stS (staL at' g (rplT at' g Y k t).1 (rplT at' g Y k t).2 (d + ps.length))).set k 3) (V := encN m ps ds) (s := (k : Int)) hB (by rw [List.length_set];exact hSl)
   obtain ⟨F0,hF0,hLT⟩ : ∃ F0 : Nat → List Nat,(∀ j,F0 j = sealL (at'.getD j pz0) g ((encN m ps ds).getD j [])) ∧ fixL at' g (1,(stS (staL at' g (rplT at' g Y k t).1 (rplT at' g Y k t).2 (d + ps.length))).set k 3,encN m ps ds,(k : Int)) (d + ps.length) = (locT at' g Y (d + ps.length) k t).map fun j => (j,F0 j) := ⟨_,fun _ => rfl,rfl⟩
   have hLn := fixL_len (at' := at') (g := g) (r := (1,(stS (staL at' g (rplT at' g Y k t).1 (rplT at' g Y k t).2 (d + ps.length))).set k 3,encN m ps ds,(k : Int))) (k := d + ps.length)
   rw [hLT] at hLn
   rw [l2] at c1 c2
   rw [hfx,hLT] at c2
   have hZ3 : ∀ h : k < ((stS (staL at' g (rplT at' g Y k t).1 (rplT at' g Y k t).2 (d + ps.length))).set k 3).length,((stS (staL at' g (rplT at' g Y k t).1 (rplT at' g Y k t).2 (d + ps.length))).set k 3)[k] = 3 := fun h => List.getElem_set_self h
   have hZ3l : ((stS (staL at' g (rplT at' g Y k t).1 (rplT at' g Y k t).2 (d + ps.length))).set k 3).length = d + ps.length := by rw [List.length_set];exact hSl
   have hTn := fun j hj => loc_mem (at' := at') (g := g) (x := Y) (u := k) (t := t) (n := d + ps.length) (j := j) hj
   have hTk := loc_u (at' := at') (g := g) (x := Y) (t := t) hkn
   have hmk := fun j hj => loc_mrk (M := m) (ds := ds) (k := j) hB hX hkn hti ht32 g1 hj
   have hmt := fun i hi => mrk_take (H := gdN at' g Y (d + ps.length)) (T := locT at' g Y (d + ps.length) k t) (k := i) hi
   have hut := fun i hi => unI_take (u := k) (T := locT at' g Y (d + ps.length) k t) (k := i) hi
   have hml2 := fun i => mrk_len ((locT at' g Y (d + ps.length) k t).take i) (gdN at' g Y (d + ps.length))
   have hsj : ∀ j (hj : j < at'.length) (hw : j < (encN m ps ds).length),ACalls Tryz.prog 50 [pcA at'[j],gnA g,bS (encN m ps ds)[j]] [] (.tup [bS (F0 j),iV 0]) [] ∧ isB (F0 j) := fun j hj hw => by
    rw [hF0 j]
    have h1 := slB_get hB (k := j) (by omega)
    obtain ⟨_,_,_,p4⟩ := sealN_ok h1.1
    have h2 := seal_in (isB_getDL hWb j) h1.1
    rw [p4] at h2
    have h3 := A_rseal (p := at'[j]) (g := g) (hWb2 _ (List.getElem_mem hw)).1 (hWb2 _ (List.getElem_mem hw)).2
    have ea : at'.getD j pz0 = at'[j] := by rw [List.getD_eq_getElem?_getD,List.getElem?_eq_getElem hj];rfl
    have ew : (encN m ps ds).getD j [] = (encN m ps ds)[j] := by rw [List.getD_eq_getElem?_getD,List.getElem?_eq_getElem hw];rfl
    refine ⟨?_,h2.1⟩
    rw [ea,ew] at p4
    rw [p4] at h3
    rw [ea,ew]
    exact h3
   have hst1 := A_same_texts (a := encN m ps ds) (b := encN m ps ds) hWb hWb (by omega) (by omega)
   rw [decide_eq_true rfl] at hst1
   dsimp only [rpA] at c1 c2
   have c1 := c1.le (args' := [cdF [99] m d (toZ ps) 1,pcs at',gnA g,.osl 0 (d + ps.length) 0 (d + ps.length),bools (rplT at' g Y k t).2]) (fun F κ w vs => satL_le1 (fun F own κ w u => cdF_le) F _ κ w vs)
   have c2 := c2.le (args' := [cdF [99] m d (toZ ps) 1,pcs at',gnA g,.osl 0 (d + ps.length) 0 (d + ps.length),bools (rplT at' g Y k t).2]) (fun F κ w vs => satL_le1 (fun F own κ w u => cdF_le) F _ κ w vs)
   generalize (stS (staL at' g (rplT at' g Y k t).1 (rplT at' g Y k t).2 (d + ps.length))).set k 3 = Z at *
   rw [eZ] at c1 c2 hZs
   clear eZ l1 l2 hfx hLT hB hX hZ d1 d2 hSl
   clear hF0
   generalize leftC [99] m d (toZ ps) 1 (gdN at' g Y (d + ps.length)) = lf at *
   generalize locT at' g Y (d + ps.length) k t = T at *
   have hLi : ∀ i (hi : i < (T.map fun j => (j,F0 j)).length) (hT : i < T.length),(T.map fun j => (j,F0 j))[i].1 = T[i] ∧ (T.map fun j => (j,F0 j))[i].2 = F0 T[i] := fun i hi hT => by rw [List.getElem_map];exact ⟨rfl,rfl⟩
   have hLl : (T.map fun j => (j,F0 j)).length = T.length := by simp
   generalize (T.map fun j => (j,F0 j)) = L at *
   have hmL : (L.map fxD).length = L.length := List.length_map _
   generalize gdN at' g Y (d + ps.length) = H at *
   have hfz := fun own own' => hfz own own' H hgl
   have hfl := fun own own' => hfl own own' H hgl
   generalize slL at' g (encN m ps ds) (d + ps.length) = X at *
   generalize encN m ps ds = Wd at *
   generalize sealL at'[k] g t = x at *
   generalize hn : d + ps.length = n at *
   dsimp only at hZs c1 c2
   (repeat' (first
    |(apply yFb;exact rfl;exact rfl)
    |(apply W.qd;(first
    |((apply (q_eqlSV (l := t) (v := false));exact rfl;exact rfl;exact hti;exact hki;exact decide_eq_false hne))|(exact zM)|(exact zN)|(exact jAn)|(exact jAj)|(exact q_gtr rfl rfl)|(exact q_geq rfl rfl)|(exact jAv)|(exact jBg)|(exact jBd)|(exact jB)|(exact jBl)|(exact jAd)|(exact jA)
    |(apply (yDb (u := .d _));exact rfl;exact rfl)))
    |(apply W.ed;(first
    |(apply (e_callJ (js := []) (hstr));(iterate 5 exact rfl);kernel_rfl;kernel_rfl)|(apply (e_callJ (js := []) (hall));(iterate 5 exact rfl);kernel_rfl;kernel_rfl)|(apply (e_callJ (js := [2,3]) (hhu));(iterate 5 exact rfl);kernel_rfl;kernel_rfl)
    |(exact jAc)))|(apply yA)|(apply yB)|(apply (W.regionS 6);exact rfl;kernel_rfl)|(apply yE)|(apply yH)|(refine jAw ?_)
    |(refine W.gF _ _ rfl rfl (fun hb => ?_) (fun hb => ?_) <;> ((try simp only [hb,zK]) <;> (try simp only [zL,zI] at hb) <;> (try (exfalso;omega))))))
   all_goals try (exfalso;omega)
   refine AWP.wk ⟨[(2,pcs at'),(5,iV k),(6,bS t),(7,.opt 0 0),(10,.opt 1 0),(15,strs Wd),(16,.osl 2 n 0 n),(18,bools Y.2),(19,.osl 3 0 0 n)],[.box [.d .any,iV m,iV d,rowsA (toZ ps),.d .any],.box [iV g.1,iV g.2],.row n 1 9 (Y.1.map sD),.row 0 1 4 (H.map tD)]⟩ ⟨[0,1,2,4],rfl,rfl,rfl,rfl,rfl,rfl,rfl,rfl,rfl,rfl,(frz_rowJ rfl rfl (by rw [List.length_map];exact hX2.symm)).symm,rfl,trivial⟩ ?_
   (repeat' (first
    |(apply yFb;exact rfl;exact rfl)
    |(apply W.qd;(first
    |(exact zW (hse))
    |((apply q_ld_rpt;(iterate 3 exact rfl);exact hgk;exact rfl))
    |((apply (q_callF (js := [3]) hlf);exact rfl;exact fun own' hh => hfl _ own' rfl hh;exact rfl;kernel_rfl))
    |((apply (q_callF (js := [2,3]) htr);exact rfl;exact fun own' hh => hfz _ own' rfl rfl hh;exact rfl;kernel_rfl))|(exact zM)|(exact zN)|(exact jAr)|(exact jAn)|(exact jAj)|(exact jBg)|(exact jBd)|(exact jAz)|(exact jA)|(apply (yDb (u := .d _));exact rfl;exact rfl)
    |(exact jAb)))
    |(apply W.ln;(first
    |(exact jAh)
    |(exact jAi)))|(apply yA)|(apply yB)|(apply (W.regionS 11);exact rfl;kernel_rfl)|(apply (W.regionDS 11);exact rfl;exact rfl;kernel_rfl)|(apply yE)|(refine jBc ?_)|(apply yH)|(refine jAw ?_)
    |(refine W.gF _ _ rfl rfl (fun hb => ?_) (fun hb => ?_) <;> ((try simp only [hb,zK]) <;> (try simp only [zL,zI] at hb) <;> (try (exfalso;omega))))))
   all_goals try (exfalso;omega)
   refine AWP.wk ⟨[(2,pcs at'),(5,iV k),(7,.opt 0 0),(10,.opt 1 0),(15,strs Wd),(16,.osl 2 n 0 n),(18,bools Y.2),(19,.osl 3 0 0 n),(20,iV lf)],[.box [bS [99],iV m,iV d,rowsA (toZ ps),iV 1],.box [iV g.1,iV g.2],.row n 1 9 ((Y.1.set k x).map sD),.row 0 1 4 (H.map tD)]⟩ ⟨[0,1,2,3],rfl,rfl,rfl,rfl,rfl,rfl,rfl,rfl,rfl,rfl,rfl,rfl,trivial⟩ ?_
   have hmZ : (Z.map iD).length = Z.length := List.length_map _
   have hkZ : k < Z.length := by omega
   have hZk := hZ3 hkZ
   clear hstr hall hhu htr hlf hse
   (repeat' (first
    |(apply yFb;exact rfl;exact rfl)
    |(apply W.qd;(first
    |(exact zW (hst1))|(exact zM)|(exact zN)|(exact jAr)|(exact jAm)|(exact jAn)|(exact jAj)|(exact jBb)|(exact jAv)|(exact jBg)|(exact jBd)|(exact jB)|(exact jAd)|(exact jA)|(apply (yEb (u := .d _));exact rfl;exact rfl)
    |(apply (yDb (u := .d _));exact rfl;exact rfl)))
    |(apply W.ed;(first
    |(apply (e_callJ (js := [2]) (c1));(iterate 5 exact rfl);kernel_rfl;kernel_rfl)|(apply (e_callJ (js := [2]) (c2));(iterate 5 exact rfl);kernel_rfl;kernel_rfl)
    |(exact jAq)))|(apply W.ln;(exact jAh))|(apply yA)|(apply yB)|(apply (W.regionS 20);exact rfl;kernel_rfl)|(apply yE)|(apply yG)|(apply yH)|(refine jAw ?_)|(refine W.gF _ _ rfl rfl (fun hb => ?_) (fun hb => ?_) <;> ((try simp only [hb,zK]) <;> (try simp only [zL,zI] at hb) <;> (try (exfalso;omega))))
    |(refine W.cond _ rfl (fun hb => ?_) (fun hb => ?_) <;> ((try simp only [hb,zK]) <;> (try simp only [zL,zI] at hb) <;> (try (exfalso;omega))))))
   all_goals try (exfalso;omega)
   refine AWP.loopW (α := Nat) (fun i => i ≤ L.length) (fun i => ⟨[(194,iV i),(193,iV L.length),(192,fxs L),(2,pcs at'),(5,iV (unI k (T.take i))),(10,.opt 1 0),(15,strs Wd),(19,.osl 2 0 0 n)],[.box [bS [99],iV m,iV d,rowsA (toZ ps),iV 1],.box [iV g.1,iV g.2],.row 0 1 4 ((mrk H (T.take i)).map tD)]⟩) (fun i => L.length - i) 0 (Nat.zero_le _) ?wkA fun i hi => ?_
   case wkA => exact ⟨[0,1,3],rfl,rfl,rfl,rfl,iV_eq (by omega),rfl,rfl,rfl,rfl,rfl,rfl,trivial⟩
   clear c1 c2
   by_cases hil : i < L.length
   ·have hiT : i < T.length := by omega
    obtain ⟨e1,e2⟩ := hLi i hil hiT
    have q1 := hTn T[i] (List.getElem_mem hiT)
    have e3 := hmt i hiT
    have e4 := hut i hiT
    have w1 := hml2 i
    rw [← e1] at e2 q1 e3 e4
    obtain ⟨hs,hFb⟩ := hsj L[i].1 (by omega) (by omega)
    have hL2 : isB L[i].2 := by rw [e2];exact hFb
    have hv : (!decide (L[i].2 = F0 L[i].1)) = false := by rw [decide_eq_true e2];rfl
    clear hsa hst1 hsj hLi hmk hmt hut hml2 hTn
    by_cases hq : (L[i].1 : Int) = unI k (T.take i)
    ·rw [if_pos hq] at e4
     (repeat' (first
      |(apply yFb;exact rfl;exact rfl)
      |(apply W.qd;(first
      |(exact zW (hs))
      |((apply (q_neqSV (l := L[i].2) (v := false));exact rfl;exact rfl;exact hL2;exact hFb;exact hv))|(exact zM)|(exact zN)|(exact jAr)|(exact jAm)|(exact jAn)|(exact jAj)|(exact q_geq rfl rfl)|(exact jBb)|(exact jAg)|(exact jBd)|(exact jB)|(exact jAd)|(exact jAz)|(exact jA)|(apply (yDb (u := .d _));exact rfl;exact rfl)
      |(exact jAb)))|(apply W.ed;(exact jAq))
      |(apply W.ln;(first
      |(exact jAh)
      |(exact jAi)))|(apply yA)|(apply yB)|(refine jAe ?_)|(refine jAs ?_)|(apply yE)|(refine jBc ?_)|(apply yG)|(apply yH)|(apply yL)|(refine jAw ?_)
      |(refine W.cond _ rfl (fun hb => ?_) (fun hb => ?_) <;> ((try simp only [hb,zK]) <;> (try simp only [zL,zI] at hb) <;> (try (exfalso;omega))))))
     all_goals first
      |(exfalso;omega)|(refine ⟨i + 1,by omega,by omega,?_⟩;(try dsimp only);rw [e3,e4];exact ⟨[0,1,2],rfl,rfl,rfl,iV_eq (by omega),rfl,rfl,rfl,rfl,rfl,rfl,rfl,trivial⟩)
    ·rw [if_neg hq] at e4
     (repeat' (first
      |(apply yFb;exact rfl;exact rfl)
      |(apply W.qd;(first
      |(exact zW (hs))
      |((apply (q_neqSV (l := L[i].2) (v := false));exact rfl;exact rfl;exact hL2;exact hFb;exact hv))|(exact zM)|(exact zN)|(exact jAr)|(exact jAm)|(exact jAn)|(exact jAj)|(exact q_geq rfl rfl)|(exact jBb)|(exact jAg)|(exact jBd)|(exact jB)|(exact jAd)|(exact jAz)|(exact jA)|(apply (yDb (u := .d _));exact rfl;exact rfl)
      |(exact jAb)))|(apply W.ed;(exact jAq))
      |(apply W.ln;(first
      |(exact jAh)
      |(exact jAi)))|(apply yA)|(apply yB)|(refine jAe ?_)|(refine jAs ?_)|(apply yE)|(refine jBc ?_)|(apply yG)|(apply yH)|(apply yL)|(refine jAw ?_)
      |(refine W.cond _ rfl (fun hb => ?_) (fun hb => ?_) <;> ((try simp only [hb,zK]) <;> (try simp only [zL,zI] at hb) <;> (try (exfalso;omega))))))
     all_goals first
      |(exfalso;omega)|(refine ⟨i + 1,by omega,by omega,?_⟩;(try dsimp only);rw [e3,e4];exact ⟨[0,1,2],rfl,rfl,rfl,iV_eq (by omega),rfl,rfl,rfl,rfl,rfl,rfl,rfl,trivial⟩)
   ·obtain rfl : i = L.length := by omega
    have eT : T.take L.length = T := by rw [hLl];exact List.take_length
    rw [eT]
    have hun1 : unI k T = -1 := if_pos hTk
    rw [hun1]
    have hMl := hml2 L.length
    rw [eT] at hMl
    clear hst1 hsj hLi hmt hut hml2 hTn
    generalize mrk H T = V at *
    have hVn : V.length = n := by omega
    have hV : ∀ j (hj : j < V.length),(V.map tD)[j]? = some (tD true) := fun j hj => by
     have := hmk j (by omega)
     rw [List.getD_eq_getElem?_getD,List.getElem?_eq_getElem hj] at this
     rw [List.getElem?_map,List.getElem?_eq_getElem hj]
     exact congrArg (fun b => some (tD b)) this
    have hmV : (V.map tD).length = V.length := List.length_map _
    refine AWP.wk ⟨[(194,iV L.length),(193,iV L.length),(5,iV (-1)),(19,bools V)],[]⟩ ⟨[],rfl,rfl,rfl,rfl,rfl,rfl,(frz_rowJ rfl rfl (by rw [List.length_map];exact hVn.symm)).symm,trivial⟩ ?_
    (repeat' (first
     |(apply W.qd;(first
     |(exact zM)|(exact jAj)
     |(exact jB)))|(apply yA)|(apply yB)|(apply (W.regionS 32);exact rfl;kernel_rfl)|(apply yE)|(apply yG)|(apply yI)|(apply yK)|(apply yM)
     |(refine W.cond _ rfl (fun hb => ?_) (fun hb => ?_) <;> ((try simp only [hb,zK]) <;> (try simp only [zL,zI] at hb) <;> (try (exfalso;omega))))))
    all_goals try (exfalso;omega)
    refine AWP.loopW (α := Nat) (fun j => j ≤ n) (fun j => ⟨[(238,iV j),(237,iV n),(236,bools V),(5,iV (-1))],[]⟩) (fun j => n - j) 0 (Nat.zero_le _) ?wkB fun j hj => ?_
    case wkB => exact ⟨[],rfl,rfl,rfl,rfl,iV_eq (by omega),rfl,rfl,trivial⟩
    by_cases hjl : j < n
    ·have hgt := hV j (by omega)
     clear hsa
     (repeat' (first
      |(apply W.qd;(first
      |((apply q_ld_fpt;exact rfl;exact rfl;exact hgt;exact rfl))|(exact zM)|(exact zN)|(exact jAj)|(exact jBg)|(exact jAg)
      |(exact jA)))|(apply yA)|(apply yB)|(refine jAe ?_)|(apply yE)|(apply yG)|(apply yH)|(apply yL)|(refine jAw ?_)
      |(refine W.cond _ rfl (fun hb => ?_) (fun hb => ?_) <;> ((try simp only [hb,zK]) <;> (try simp only [zL,zI] at hb) <;> (try (exfalso;omega))))))
     all_goals first
      |(exfalso;omega)
      |exact ⟨j + 1,by omega,by omega,[],rfl,rfl,rfl,iV_eq (by omega),rfl,rfl,rfl,trivial⟩
    ·obtain rfl : j = n := by omega
     (repeat' (first
      |(apply yFb;exact rfl;exact rfl)
      |(apply W.qd;(first
      |(exact zW (hsa))|(exact zM)|(exact zN)|(exact jAj)|(exact jBb)
      |(apply (yEb (u := .d _));exact rfl;exact rfl)))|(apply yA)|(apply yB)|(refine jAe ?_)|(apply yE)|(apply yI)|(apply yJ)|(apply yK)|(apply yM)
      |(refine W.cond _ rfl (fun hb => ?_) (fun hb => ?_) <;> ((try simp only [hb,zK]) <;> (try simp only [zL,zI] at hb) <;> (try (exfalso;omega))))))
     all_goals first
      |(exfalso;omega)
      |exact Ends.b rfl rfl
end
end Go.Proofs.YtplpgijpmgbaiaaGreatDoor
