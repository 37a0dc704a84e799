import Derived.Test.YtplpgijpmgbaiaaGreatDoorMScrubClean5
/- Joined texts: Sc14 Sc15 Sc19 Sc20 Sc21 Sc24 Sc25 Sc26 Sc27. -/
set_option linter.unusedVariables false
set_option linter.unusedSimpArgs false
namespace Go.Proofs.YtplpgijpmgbaiaaGreatDoor
open Go.RowKit
set_option maxHeartbeats 4000000
set_option maxRecDepth 100000
section
def fil {α : Type} (f : Nat → α) (z : α) (n k : Nat) : List α := (List.range n).map fun j => if j < k then f j else z
section
variable {α : Type} {f : Nat → α} {z : α} {n : Nat}
theorem fil_len (k : Nat) : (fil f z n k).length = n := by simp [fil]
theorem fil_get {k j : Nat} (h : j < n) : (fil f z n k)[j]? = some (if j < k then f j else z) := by
 unfold fil
 rw [List.getElem?_map,List.getElem?_range h];rfl
theorem fil_zero : fil f z n 0 = List.replicate n z := by
 apply List.ext_getElem (by simp [fil])
 intro i h1 h2
 simp [fil]
theorem fil_all : fil f z n n = (List.range n).map f := by
 unfold fil
 apply List.map_congr_left
 intro j hj
 rw [if_pos (List.mem_range.1 hj)]
theorem fil_set {k : Nat} (h : k < n) : (fil f z n k).set k (f k) = fil f z n (k + 1) := by
 apply List.ext_getElem?
 intro i
 rw [List.getElem?_set,fil_len]
 by_cases e : k = i
 ·subst e;rw [if_pos rfl,if_pos h,fil_get h,if_pos (by omega)]
 ·rw [if_neg e]
  by_cases hi : i < n
  ·rw [fil_get hi, fil_get hi]
   by_cases h2 : i < k
   ·rw [if_pos h2,if_pos (by omega)]
   ·rw [if_neg h2,if_neg (by omega)]
  ·rw [List.getElem?_eq_none (by rw [fil_len];omega),List.getElem?_eq_none (by rw [fil_len];omega)]
theorem fil_map {β : Type} (g : α → List β) {k j : Nat} (h : j < k) (hk : k ≤ n) : ((fil f z n k).map g)[j]? = some (g (f j)) := by
 rw [List.getElem?_map,fil_get (by omega),if_pos h];rfl
end
abbrev rpA (r : Rep) : AV := .agg [iV r.1,ints r.2.1,strs r.2.2.1,iV r.2.2.2]
def rep0 : Rep := (0,[],[],0)
section
variable (M D : Nat) (ps : List (List Nat)) (at' : List Pl) (g : Gn) (ss : List (List Nat)) (rd : List Bool)
def rpN : Rep := repU M D ps (stU (staL at' g ss rd (D + ps.length))) (stS (staL at' g ss rd (D + ps.length))) (stH (staL at' g ss rd (D + ps.length)))
end
theorem sta_maps (at' : List Pl) (g : Gn) (ss : List (List Nat)) (rd : List Bool) (n : Nat) : (List.range n).map (fun k => (staN (at'.getD k pz0) g (ss.getD k []) (rd.getD k false)).1) = stS (staL at' g ss rd n) ∧ (List.range n).map (fun k => (staN (at'.getD k pz0) g (ss.getD k []) (rd.getD k false)).2) = stU (staL at' g ss rd n) ∧ (List.range n).map (fun k => decide ((staN (at'.getD k pz0) g (ss.getD k []) (rd.getD k false)).1 = 1)) = stH (staL at' g ss rd n) := by
 unfold stS stU stH staL
 simp [List.map_map,Function.comp_def]
theorem fnd_lt {M D : Nat} {ps us : List (List Nat)} {hv : List Bool} {u : Nat} (h : oneN (fndN M D ps us hv) = some u) : u < hv.length := by
 have h1 := oneN_some h
 have h2 : u ∈ fndN M D ps us hv := by rw [h1];simp
 unfold fndN fndT at h2
 exact List.mem_range.1 (List.mem_filter.1 h2).1
theorem loc_cases (M D : Nat) (ps us : List (List Nat)) (hv : List Bool) : (∃ u,u < hv.length ∧ locN M D ps us hv = ((u : Int),0)) ∨ locN M D ps us hv = (0,12) ∨ locN M D ps us hv = (0,13) ∨ locN M D ps us hv = (0,11) := by
 rw [locN_eq]
 split
 ·exact .inr (.inr (.inr rfl))
 ·split
  ·exact .inr (.inl rfl)
  ·cases h : oneN (fndN M D ps us hv) with
   | some u => exact .inl ⟨u,fnd_lt h,rfl⟩
   | none => exact .inr (.inr (.inl rfl))
theorem frz_rep1 {own : List Ent} {n : Nat} {e : TypeId} {l : List Int} {a b c : Int} {y : Dat} (h : own[3]? = some (.row 0 1 e (l.map iD))) (hn : n = l.length) : AV.frz own [] (.tup [.agg [iV a,.osl 3 0 0 n,.d y,iV b],iV c]) = .tup [.agg [iV a,ints l,.d y,iV b],iV c] := by
 show AV.tup [.agg [iV a,AV.frz own [] (.osl 3 0 0 n),.d y,iV b],iV c] = _
 rw [frz_rowJ h rfl (by rw [List.length_map];exact hn)]
theorem frz_rep2 {own : List Ent} {n : Nat} {e e' : TypeId} {l : List Int} {q : List (List Nat)} {a b c : Int} (h : own[3]? = some (.row 0 1 e (l.map iD))) (hn : n = l.length) (h' : own[4]? = some (.row 0 1 e' (q.map sD))) (hn' : n = q.length) : AV.frz own [] (.tup [.agg [iV a,.osl 3 0 0 n,.osl 4 0 0 n,iV b],iV c]) = .tup [.agg [iV a,ints l,strs q,iV b],iV c] := by
 show AV.tup [.agg [iV a,AV.frz own [] (.osl 3 0 0 n),AV.frz own [] (.osl 4 0 0 n),iV b],iV c] = _
 rw [frz_rowJ h rfl (by rw [List.length_map];exact hn),frz_rowJ h' rfl (by rw [List.length_map];exact hn')]
theorem recR_eq (o : Option (List Nat)) : ∃ e : Int,recR o = .tup [bS (o.getD []),iV e] := by
 cases o with
 | none => exact ⟨11,rfl⟩
 | some x => exact ⟨0,rfl⟩
attribute [local irreducible] Quiet Eff OpOk AWPG ACont ABlock ACalls AGoto
theorem A_checkG {M D : Nat} {ps : List (List Nat)} {at' : List Pl} {g : Gn} {ss : List (List Nat)} {rd : List Bool} (h : CodeOk M D ps) (ha : at'.length = D + ps.length) (hs : ss.length = D + ps.length) (hr : rd.length = D + ps.length) (hsb : ∀ s ∈ ss,isB s ∧ s.length ≤ 9223372036854775807) : ACalls Tryz.prog 38 [cdN M D ps,pcs at',gnA g,strs ss,bools rd] [] (.tup [rpA (rpN M D ps at' g ss rd),iV 0]) [] := by
 refine acalls_of_body Tryz.func38 rfl (zU rfl) ?_
 have h1 := h.d
 have h2 := h.w
 have hma : (at'.map pcD).length = at'.length := List.length_map _
 have hms : (ss.map sD).length = ss.length := List.length_map _
 have hmr : (rd.map tD).length = rd.length := List.length_map _
 have hw := A_ewidthN h
 have hsrc := sta_src (at' := at') (g := g) (rd := rd) h (fun s hx => (hsb s hx).1)
 have hhl := hsrc.hl
 have f1 := A_locate hsrc
 have f2 := A_correct hsrc
 have f3 := fun u (hu : u < D + ps.length) => A_erecS hsrc (u := u) hu
 have hlc := loc_cases M D ps (stU (staL at' g ss rd (D + ps.length))) (stH (staL at' g ss rd (D + ps.length)))
 obtain ⟨m1,m2,m3⟩ := sta_maps at' g ss rd (D + ps.length)
 have hSl : (stS (staL at' g ss rd (D + ps.length))).length = D + ps.length := by unfold stS;rw [List.length_map,staL_length]
 unfold rpN repU
 generalize stU (staL at' g ss rd (D + ps.length)) = U at *
 generalize stS (staL at' g ss rd (D + ps.length)) = S at *
 generalize stH (staL at' g ss rd (D + ps.length)) = H at *
 have hstt := fun k (hk : k < ss.length) (ha : k < at'.length) (hr : k < rd.length) => A_state (p := at'[k]) (g := g) (s := ss[k]) (r := rd[k]) (hsb _ (List.getElem_mem hk)).1 (hsb _ (List.getElem_mem hk)).2
 have hga : ∀ k (hk : k < at'.length),at'.getD k pz0 = at'[k] := fun k hk => by rw [List.getD_eq_getElem?_getD,List.getElem?_eq_getElem hk];rfl
 have hgs : ∀ k (hk : k < ss.length),ss.getD k [] = ss[k] := fun k hk => by rw [List.getD_eq_getElem?_getD,List.getElem?_eq_getElem hk];rfl
 have hgr : ∀ k (hk : k < rd.length),rd.getD k false = rd[k] := fun k hk => by rw [List.getD_eq_getElem?_getD,List.getElem?_eq_getElem hk];rfl
 generalize hfS : (fun k => (staN (at'.getD k pz0) g (ss.getD k []) (rd.getD k false)).1) = fS at *
 generalize hfU : (fun k => (staN (at'.getD k pz0) g (ss.getD k []) (rd.getD k false)).2) = fU at *
 generalize hfH : (fun k => decide ((staN (at'.getD k pz0) g (ss.getD k []) (rd.getD k false)).1 = 1)) = fH at *
 have eS : ∀ k (hk : k < ss.length) (ha : k < at'.length) (hr : k < rd.length),fS k = (staN at'[k] g ss[k] rd[k]).1 := fun k hk ha hr => by rw [← hfS];show (staN _ _ _ _).1 = _;rw [hga k ha,hgs k hk,hgr k hr]
 have eU : ∀ k (hk : k < ss.length) (ha : k < at'.length) (hr : k < rd.length),fU k = (staN at'[k] g ss[k] rd[k]).2 := fun k hk ha hr => by rw [← hfU];show (staN _ _ _ _).2 = _;rw [hga k ha,hgs k hk,hgr k hr]
 have eH : ∀ k (hk : k < ss.length) (ha : k < at'.length) (hr : k < rd.length),fH k = decide ((staN at'[k] g ss[k] rd[k]).1 = 1) := fun k hk ha hr => by rw [← hfH];show decide ((staN _ _ _ _).1 = 1) = _;rw [hga k ha,hgs k hk,hgr k hr]
 have hrec : ∀ k,k < D + ps.length → ∃ e : Int,ACalls Tryz.prog 88 [cdN M D ps,strs U,bools H,iV k] [] (.tup [bS ((recN M D ps U H k).getD []),iV e]) [] := fun k hk => by
  have h1 := f3 k hk
  obtain ⟨e,he⟩ := recR_eq (recN M D ps U H k)
  rw [he] at h1
  exact ⟨e,h1⟩
 generalize hR : (fun k => (recN M D ps U H k).getD []) = fR at *
 have eR : ∀ k,(recN M D ps U H k).getD [] = fR k := fun k => congrFun hR k
 simp only [eR] at hrec ⊢
 clear hfS hfU hfH hga hgs hgr f3 hsrc hR eR
 generalize locN M D ps U H = L at *
 generalize corN M D ps U H = C at *
 generalize hn : D + ps.length = n at *
 (repeat' (first
  |(apply yFb;exact rfl;exact rfl)
  |(apply W.qd;(first
  |(exact zW (hw))|(exact zM)|(exact zN)|(exact yU rfl rfl rfl rfl)|(exact q_eql rfl rfl)|(exact q_neq rfl rfl)|(exact yV rfl rfl)
  |(apply (yDb (u := .d _));exact rfl;exact rfl)))
  |(apply W.ed;(first
  |(apply yBb;(iterate 3 exact rfl);kernel_rfl;kernel_rfl)
  |(apply yCb;(iterate 3 exact rfl);kernel_rfl)))|(apply yA)|(apply yB)|(apply (W.regionS 4);exact rfl;kernel_rfl)|(apply yE)|(apply yH)|(refine W.gF _ _ rfl rfl (fun hb => ?_) (fun hb => ?_) <;> ((try simp only [hb,zK]) <;> (try simp only [zL,zI] at hb) <;> (try (exfalso;omega))))
  |(refine W.cond _ rfl (fun hb => ?_) (fun hb => ?_) <;> ((try simp only [hb,zK]) <;> (try simp only [zL,zI] at hb) <;> (try (exfalso;omega))))))
 all_goals try (exfalso;omega)
 refine AWP.hole rfl (AWP.hole rfl (AWP.hole rfl ?_))
 (repeat' (first
  |(apply W.qd;(first
  |(exact zM)
  |(apply yZ;exact rfl;exact rfl;kernel_rfl)))
  |(apply W.ld;(first
  |(apply (l_make (f := iD) 0);(iterate 10 exact rfl);kernel_rfl;omega)|(apply (l_make (f := sD) []);(iterate 10 exact rfl);kernel_rfl;omega)
  |(apply l_alloc;(iterate 3 exact rfl);kernel_rfl;kernel_rfl)))|(apply W.ln;(apply l_st_box;(iterate 6 exact rfl);(iterate 3 kernel_rfl)))|(apply yA)|(apply yB)|(apply (W.regionDS 5);exact rfl;exact rfl;kernel_rfl)|(apply yE)
  |(apply yF;kernel_rfl)))
 refine AWP.hole rfl (AWP.hole rfl ?_)
 (repeat' (first
  |(apply W.qd;(first
  |(exact zM)
  |(exact zN)))
  |(apply W.ld;(first
  |(apply (l_make (f := tD) false);(iterate 10 exact rfl);kernel_rfl;omega)
  |(apply (l_make (f := sD) []);(iterate 10 exact rfl);kernel_rfl;omega)))|(apply yA)|(apply yB)|(apply (W.regionS 7);exact rfl;kernel_rfl)|(apply (W.regionDS 7);exact rfl;exact rfl;kernel_rfl)|(apply yE)|(apply yF;kernel_rfl)
  |(apply yG)))
 refine AWP.loopW (α := Nat) (fun k => k ≤ n) (fun k => ⟨[(53,iV k),(52,iV n),(12,iV n),(13,.opt 5 0),(14,.osl 6 0 0 n),(15,.osl 7 0 0 n),(1,pcs at'),(3,strs ss),(4,bools rd),(5,.opt 0 0),(7,.opt 1 0),(10,.opt 2 0)],[.box [.d .any,iV M,iV D,rowsN ps,.d .any],.box [iV g.1,iV g.2],.box [iV 0,.d (.v (.slice none 0 0)),.d (.v (.slice none 0 0)),iV 0],.row 0 1 3 ((fil fS 0 n k).map iD),.row 0 1 9 ((List.replicate n []).map sD),.box [iV 1,.osl 3 0 0 n,.osl 4 0 0 n,iV (-1)],.row 0 1 9 ((fil fU [] n k).map sD),.row 0 1 4 ((fil fH false n k).map tD)]⟩) (fun k => n - k) 0 (Nat.zero_le _) ?wkA fun k hk => ?_
 case wkA =>
  rw [fil_zero,fil_zero,fil_zero]
  exact ⟨[0,1,2,3,4,5,6,7],rfl,rfl,rfl,by (repeat (first | exact trivial | refine ⟨rfl,?_⟩))⟩
 by_cases hkl : k < n
 ·have hka : k < at'.length := by omega
  have hks : k < ss.length := by omega
  have hkr : k < rd.length := by omega
  have hst := hstt k hks hka hkr
  have e1 := eS k hks hka hkr
  have e2 := eU k hks hka hkr
  have e3 := eH k hks hka hkr
  have s1 := fil_set (f := fS) (z := 0) hkl
  have s2 := fil_set (f := fU) (z := []) hkl
  have s3 := fil_set (f := fH) (z := false) hkl
  have g1 := fil_map (f := fS) (z := 0) (n := n) iD (k := k + 1) (j := k) (by omega) (by omega)
  have l1 := fil_len (f := fS) (z := 0) (n := n) k
  have l2 := fil_len (f := fU) (z := []) (n := n) k
  have l3 := fil_len (f := fH) (z := false) (n := n) k
  have l4 := fil_len (f := fS) (z := 0) (n := n) (k + 1)
  rw [e1] at s1 g1
  rw [e2] at s2
  rw [e3] at s3
  generalize staN at'[k] g ss[k] rd[k] = q at *
  obtain ⟨x,y⟩ := q
  dsimp only at *
  clear f1 f2 hlc hrec hstt eS eU eH m1 m2 m3
  generalize fil fS 0 n k = S1 at *
  generalize fil fU [] n k = U1 at *
  generalize fil fH false n k = H1 at *
  (repeat' (first
   |(apply W.qd;(first
   |(exact zW (hst))|(exact zM)|(exact zN)|(exact yS rfl rfl rfl)|(exact yT rfl rfl rfl rfl)|(exact yU rfl rfl rfl rfl)|(exact q_lss rfl rfl)|(exact yAb rfl rfl)|(apply yX;(iterate 3 exact rfl);(first | omega | (focus (simp;done))))|(apply yY;(iterate 3 exact rfl);(first | omega | (focus (simp;done))))|(apply yGb;(iterate 4 exact rfl);(first | (with_reducible exact rfl) | exact natI_spec rfl | assumption | exact (Int.toNat_of_nonneg (by omega)).symm);(first | omega | (focus (simp only [List.length_map];omega)) | (focus (simp;done)) | (focus (simp;omega))))
   |(apply q_ix_osl0;(iterate 4 exact rfl);(first | (with_reducible exact rfl) | exact natI_spec rfl | assumption | exact (Int.toNat_of_nonneg (by omega)).symm);(first | omega | (focus (simp only [List.length_map];omega)) | (focus (simp;done)) | (focus (simp;omega))))))|(apply W.ln;(apply l_st_rpt;(iterate 7 exact rfl);exact fun _ => rfl;(first | omega | (focus (simp only [List.length_map];omega)) | (focus (simp;omega)))))|(apply yA)|(apply yB)|(apply (W.regionS 10);exact rfl;kernel_rfl)|(apply (W.regionDS 10);exact rfl;exact rfl;kernel_rfl)|(apply yE)|(apply yF;kernel_rfl)|(apply yG)|(apply yH)
   |(refine W.cond _ rfl (fun hb => ?_) (fun hb => ?_) <;> ((try simp only [hb,zK]) <;> (try simp only [zL,zI] at hb) <;> (try (exfalso;omega))))))
  all_goals try (exfalso;omega)
  rw [s1,s2]
  (repeat' (first
   |(apply W.qd;(first
   |((apply q_ld_rpt;(iterate 3 exact rfl);exact g1;exact rfl))|(exact zM)|(exact yS rfl rfl rfl)|(exact yT rfl rfl rfl rfl)|(exact q_eql rfl rfl)|(exact q_add rfl rfl (by omega))
   |(apply q_ix_osl0;(iterate 4 exact rfl);(first | (with_reducible exact rfl) | exact natI_spec rfl | assumption | exact (Int.toNat_of_nonneg (by omega)).symm);(first | omega | (focus (simp only [List.length_map];omega)) | (focus (simp;done)) | (focus (simp;omega))))))|(apply W.ln;(apply l_st_rpt;(iterate 7 exact rfl);exact fun _ => rfl;(first | omega | (focus (simp only [List.length_map];omega)) | (focus (simp;omega)))))|(apply yB)|(apply yC;kernel_rfl)|(apply yE)
   |(apply yL)))
  all_goals first
   |(exfalso;omega)|(refine ⟨k + 1,by omega,by omega,?_⟩;(try dsimp only);rw [← s3];exact ⟨[0,1,2,3,4,5,6,7],rfl,rfl,rfl,iV_eq (by omega),rfl,rfl,rfl,rfl,rfl,rfl,rfl,rfl,rfl,rfl,rfl,trivial⟩)
 ·obtain rfl : k = n := by omega
  rw [fil_all,fil_all,fil_all,m1,m2,m3]
  have hUl : k = (U.map sD).length := by rw [← m2];simp
  have hHl : k = (H.map tD).length := by rw [← m3];simp
  clear hstt eS eU eH m1 m2 m3
  refine AWP.wk ⟨[(53,iV k),(52,iV k),(12,iV k),(13,.opt 5 0),(14,strs U),(15,bools H),(5,.opt 0 0),(10,.opt 2 0)],[.box [.d .any,iV M,iV D,rowsN ps,.d .any],.box [iV g.1,iV g.2],.box [iV 0,.d (.v (.slice none 0 0)),.d (.v (.slice none 0 0)),iV 0],.row 0 1 3 (S.map iD),.row 0 1 9 ((List.replicate k []).map sD),.box [iV 1,.osl 3 0 0 k,.osl 4 0 0 k,iV (-1)]]⟩ ⟨[0,1,2,3,4,5],rfl,rfl,rfl,rfl,rfl,rfl,rfl,(frz_rowJ rfl rfl hUl).symm,(frz_rowJ rfl rfl hHl).symm,rfl,rfl,trivial⟩ ?_
  rcases hlc with ⟨u,hu,hL⟩ | hL | hL | hL
  ·rw [hL] at f1 ⊢
   rw [if_pos rfl]
   have huk : u < k := by omega
   obtain ⟨c1,c2⟩ := C
   (repeat' (first
    |(apply W.qd;(first
    |(exact zW (f1))|(exact zW (f2))|(exact zM)|(exact zN)|(exact yS rfl rfl rfl)|(exact yT rfl rfl rfl rfl)|(exact yU rfl rfl rfl rfl)|(exact q_lss rfl rfl)|(exact q_eql rfl rfl)|(exact yAb rfl rfl)
    |(apply q_ix_osl0;(iterate 4 exact rfl);(first | (with_reducible exact rfl) | exact natI_spec rfl | assumption | exact (Int.toNat_of_nonneg (by omega)).symm);(first | omega | (focus (simp only [List.length_map];omega)) | (focus (simp;done)) | (focus (simp;omega))))))
    |(apply W.ln;(first
    |(apply l_st_box;(iterate 6 exact rfl);(iterate 3 kernel_rfl))
    |(apply l_st_rpt;(iterate 7 exact rfl);exact fun _ => rfl;(first | omega | (focus (simp only [List.length_map];omega)) | (focus (simp;omega))))))|(apply yA)|(apply yB)|(apply yC;kernel_rfl)|(apply yE)|(apply yG)|(apply yI)|(apply yJ)|(apply yK)|(apply yL)|(apply yM)|(apply yO;exact rfl)|(apply yQ;exact rfl)
    |(refine W.cond _ rfl (fun hb => ?_) (fun hb => ?_) <;> ((try simp only [hb,zK]) <;> (try simp only [zL,zI] at hb) <;> (try (exfalso;omega))))))
   all_goals first
    |(exfalso;omega)|(refine Ends.cell2 rfl rfl rfl rfl ?_;exact frz_rep1 rfl (by rw [List.length_set];exact hSl.symm))
  ·rw [hL] at f1 ⊢
   rw [if_neg (by decide),if_pos rfl]
   obtain ⟨c1,c2⟩ := C
   (repeat' (first
    |(apply W.qd;(first
    |(exact zW (f1))|(exact zW (f2))|(exact zM)|(exact zN)|(exact yS rfl rfl rfl)|(exact yU rfl rfl rfl rfl)|(exact q_lss rfl rfl)|(exact q_eql rfl rfl)
    |(exact yAb rfl rfl)))|(apply W.ln;(apply l_st_box;(iterate 6 exact rfl);(iterate 3 kernel_rfl)))|(apply yA)|(apply yB)|(apply yC;kernel_rfl)|(apply yE)|(apply yG)|(apply yH)|(apply yI)|(apply yJ)|(apply yK)|(apply yM)|(apply yO;exact rfl)|(apply yQ;exact rfl)|(apply yR;exact rfl)
    |(refine W.cond _ rfl (fun hb => ?_) (fun hb => ?_) <;> ((try simp only [hb,zK]) <;> (try simp only [zL,zI] at hb) <;> (try (exfalso;omega))))))
   all_goals first
    |(exfalso;omega)|(refine Ends.cell2 rfl rfl rfl rfl ?_;exact frz_rep1 rfl hSl.symm)
  ·rw [hL] at f1 ⊢
   rw [if_neg (by decide),if_neg (by decide),if_pos rfl]
   (repeat' (first
    |(apply W.qd;(first
    |(exact zW (f1))|(exact zM)|(exact zN)|(exact yS rfl rfl rfl)|(exact yU rfl rfl rfl rfl)|(exact q_lss rfl rfl)|(exact q_eql rfl rfl)
    |(exact yAb rfl rfl)))|(apply W.ln;(apply l_st_box;(iterate 6 exact rfl);(iterate 3 kernel_rfl)))|(apply yA)|(apply yB)|(apply yC;kernel_rfl)|(apply yE)|(apply yG)|(apply yH)|(apply yI)|(apply yJ)|(apply yK)|(apply yM)|(apply yO;exact rfl)|(apply yQ;exact rfl)|(apply yR;exact rfl)
    |(refine W.cond _ rfl (fun hb => ?_) (fun hb => ?_) <;> ((try simp only [hb,zK]) <;> (try simp only [zL,zI] at hb) <;> (try (exfalso;omega))))))
   all_goals first
    |(exfalso;omega)|(refine Ends.cell2 rfl rfl rfl rfl ?_;exact frz_rep2 rfl hSl.symm rfl (by rw [List.length_replicate]))
  ·rw [hL] at f1 ⊢
   rw [if_neg (by decide),if_neg (by decide),if_neg (by decide)]
   (repeat' (first
    |(apply W.qd;(first
    |(exact zW (f1))|(exact zM)|(exact zN)|(exact yS rfl rfl rfl)|(exact yU rfl rfl rfl rfl)|(exact q_lss rfl rfl)|(exact q_eql rfl rfl)
    |(exact yAb rfl rfl)))|(apply W.ln;(apply l_st_box;(iterate 6 exact rfl);(iterate 3 kernel_rfl)))|(apply yA)|(apply yB)|(apply (W.regionS 23);exact rfl;kernel_rfl)|(apply yE)|(apply yG)|(apply yH)|(apply yI)|(apply yK)|(apply yM)|(apply yO;exact rfl)|(apply yR;exact rfl)
    |(refine W.cond _ rfl (fun hb => ?_) (fun hb => ?_) <;> ((try simp only [hb,zK]) <;> (try simp only [zL,zI] at hb) <;> (try (exfalso;omega))))))
   all_goals try (exfalso;omega)
   refine AWP.loopW (α := Nat) (fun j => j ≤ k) (fun j => ⟨[(121,iV j),(120,iV k),(13,.opt 5 0),(14,strs U),(15,bools H),(5,.opt 0 0),(10,.opt 2 0)],[.box [.d .any,iV M,iV D,rowsN ps,.d .any],.box [iV g.1,iV g.2],.box [iV 0,.d (.v (.slice none 0 0)),.d (.v (.slice none 0 0)),iV 0],.row 0 1 3 (S.map iD),.row 0 1 9 ((fil fR [] k j).map sD),.box [iV 3,.osl 3 0 0 k,.osl 4 0 0 k,iV (-1)]]⟩) (fun j => k - j) 0 (Nat.zero_le _) ?wkB fun j hj => ?_
   case wkB =>
    rw [fil_zero]
    exact ⟨[0,1,2,3,4,5],rfl,rfl,rfl,by (repeat (first | exact trivial | refine ⟨rfl,?_⟩))⟩
   by_cases hjl : j < k
   ·obtain ⟨e, hre⟩ := hrec j hjl
    have s1 := fil_set (f := fR) (z := []) hjl
    have l1 := fil_len (f := fR) (z := []) (n := k) j
    clear f1 f2 hrec
    generalize fR j = x at *
    generalize fil fR [] k j = R1 at *
    (repeat' (first
     |(apply W.qd;(first
     |(exact zW (hre))|(exact zM)|(exact zN)|(exact yS rfl rfl rfl)|(exact yT rfl rfl rfl rfl)|(exact yU rfl rfl rfl rfl)|(exact q_lss rfl rfl)|(exact q_add rfl rfl (by omega))|(exact yAb rfl rfl)
     |(apply q_ix_osl0;(iterate 4 exact rfl);(first | (with_reducible exact rfl) | exact natI_spec rfl | assumption | exact (Int.toNat_of_nonneg (by omega)).symm);(first | omega | (focus (simp only [List.length_map];omega)) | (focus (simp;done)) | (focus (simp;omega))))))|(apply W.ln;(apply l_st_rpt;(iterate 7 exact rfl);exact fun _ => rfl;(first | omega | (focus (simp only [List.length_map];omega)) | (focus (simp;omega)))))|(apply yA)|(apply yB)|(apply yC;kernel_rfl)|(apply yD;exact rfl;kernel_rfl)|(apply yE)|(apply yF;kernel_rfl)|(apply yG)|(apply yH)|(apply yL)
     |(refine W.cond _ rfl (fun hb => ?_) (fun hb => ?_) <;> ((try simp only [hb,zK]) <;> (try simp only [zL,zI] at hb) <;> (try (exfalso;omega))))))
    all_goals first
     |(exfalso;omega)|(refine ⟨j + 1,by omega,by omega,?_⟩;(try dsimp only);rw [← s1];exact ⟨[0,1,2,3,4,5],rfl,rfl,rfl,iV_eq (by omega),rfl,rfl,rfl,rfl,rfl,rfl,trivial⟩)
   ·obtain rfl : j = k := by omega
    rw [fil_all]
    (repeat' (first
     |(apply W.qd;(first
     |(exact zN)|(exact yU rfl rfl rfl rfl)
     |(exact q_lss rfl rfl)))|(apply W.ln;(apply l_st_box;(iterate 6 exact rfl);(iterate 3 kernel_rfl)))|(apply yA)|(apply yB)|(apply yC;kernel_rfl)|(apply yE)|(apply yI)|(apply yJ)|(apply yK)|(apply yM)
     |(refine W.cond _ rfl (fun hb => ?_) (fun hb => ?_) <;> ((try simp only [hb,zK]) <;> (try simp only [zL,zI] at hb) <;> (try (exfalso;omega))))))
    all_goals first
     |(exfalso;omega)|(refine Ends.cell2 rfl rfl rfl rfl ?_;exact frz_rep2 rfl hSl.symm rfl (by simp))
end
section
abbrev fxs (l : List Fx) : AV := .d (.sl 2 (l.map fxD))
section
variable {at' : List Pl} {g : Gn} {r : Rep} {st : List Int} {k : Nat}
theorem fixL_succ : fixL at' g r (k + 1) = fixL at' g r k ++ if r.2.1.getD k 0 = 1 then [] else [(k,sealL (at'.getD k pz0) g (r.2.2.1.getD k []))] := by
 unfold fixL
 rw [fixT_succ,List.map_append]
 congr 1
 by_cases h : r.2.1.getD k 0 = 1
 ·rw [if_pos h,if_pos h];rfl
 ·rw [if_neg h,if_neg h];rfl
theorem fixB_succ : fixB at' g st (k + 1) = (fixB at' g st k && (decide (st.getD k 0 = 1) || (plB (at'.getD k pz0) && gnB g))) := by
 unfold fixB
 rw [fixT_succ,List.all_append]
 congr 1
 by_cases h : st.getD k 0 = 1
 ·rw [if_pos h,decide_eq_true h];rfl
 ·rw [if_neg h,decide_eq_false h];simp
theorem fixB_mono {i : Nat} (h : fixB at' g st i = false) : ∀ k, i ≤ k → fixB at' g st k = false
 | 0, hk => by obtain rfl : i = 0 := by omega
               exact h
 | k + 1,hk => by
   rw [fixB_succ]
   by_cases e : i = k + 1
   ·subst e;rw [fixB_succ] at h;exact h
   ·rw [fixB_mono h k (by omega),Bool.false_and]
theorem fixL_len : (fixL at' g r k).length ≤ k := by
 unfold fixL fixT
 rw [List.length_map]
 exact Nat.le_trans (List.length_filter_le _ _) (by simp)
end
theorem corN_ok {M D : Nat} {ps us : List (List Nat)} {hv : List Bool} (h : SrcOk M D ps us hv) (hl : (locN M D ps us hv).2 = 0 ∨ (locN M D ps us hv).2 = 12) : (corN M D ps us hv).1.length = D + ps.length ∧ ∀ u ∈ (corN M D ps us hv).1,isB u ∧ u.length = 32 := by
 rw [locN_eq] at hl
 rw [corN_eq]
 by_cases h1 : allN M D ps us hv = false
 ·rw [if_pos h1] at hl;exact absurd hl (by decide)
 ·rw [if_neg h1] at hl ⊢
  by_cases h2 : conN M D ps us hv = true
  ·rw [if_pos h2]
   exact wrd_props h (by simpa using h1)
  ·rw [if_neg h2] at hl ⊢
   cases h3 : oneN (fndN M D ps us hv) with
   | none => rw [h3] at hl;exact absurd hl (by decide)
   | some u =>
     have h4 := oneN_some h3
     have h5 : u ∈ fndN M D ps us hv := by rw [h4];simp
     unfold fndN fndT at h5
     have h6 := (List.mem_filter.1 h5).2
     rw [Bool.and_eq_true] at h6
     exact wrd_props (src_set h.c h u) (con_all h6.2)
theorem rpN_cases {M D : Nat} {ps : List (List Nat)} {at' : List Pl} {g : Gn} {ss : List (List Nat)} {rd : List Bool} (h : CodeOk M D ps) (hb : ∀ s ∈ ss,isB s) : (rpN M D ps at' g ss rd).1 = 2 ∨ (rpN M D ps at' g ss rd).1 = 3 ∨ (rpN M D ps at' g ss rd).1 = 1 ∧ (rpN M D ps at' g ss rd).2.1.length = D + ps.length ∧ (rpN M D ps at' g ss rd).2.2.1.length = D + ps.length ∧ ∀ u ∈ (rpN M D ps at' g ss rd).2.2.1,isB u ∧ u.length = 32 := by
 have hs := sta_src (at' := at') (g := g) (rd := rd) h hb
 have hSl : (stS (staL at' g ss rd (D + ps.length))).length = D + ps.length := by unfold stS;rw [List.length_map,staL_length]
 have hc := corN_ok hs
 unfold rpN repU
 by_cases h1 : (locN M D ps (stU (staL at' g ss rd (D + ps.length))) (stH (staL at' g ss rd (D + ps.length)))).2 = 0
 ·rw [if_pos h1]
  exact .inr (.inr ⟨rfl,by rw [List.length_set];exact hSl,hc (.inl h1)⟩)
 ·rw [if_neg h1]
  by_cases h2 : (locN M D ps (stU (staL at' g ss rd (D + ps.length))) (stH (staL at' g ss rd (D + ps.length)))).2 = 12
  ·rw [if_pos h2]
   exact .inr (.inr ⟨rfl,hSl,hc (.inr h2)⟩)
  ·rw [if_neg h2]
   split
   ·exact .inl rfl
   ·exact .inr (.inl rfl)
attribute [local irreducible] Quiet Eff OpOk AWPG ACont ABlock ACalls AGoto
theorem A_bseal {at' : List Pl} {g : Gn} {k : Nat} {u : List Nat} (hk : k < at'.length) (hal : at'.length ≤ 1000000) (hub : isB u) (h32 : u.length = 32) : ACalls Tryz.prog 93 [.agg [pcs at',iV g.1,iV g.2],iV k,bS u] [] (.tup [bS (sealN at'[k] g u).1,iV (sealN at'[k] g u).2]) [] := by
 refine acalls_of_body Tryz.func93 rfl (zU rfl) ?_
 have hs := A_seal (p := at'[k]) (g := g) hub h32
 have hma : (at'.map pcD).length = at'.length := List.length_map _
 generalize sealN at'[k] g u = q at *
 obtain ⟨x,y⟩ := q
 (repeat' (first
  |(apply W.qd;(first
  |(exact zW (hs))|(exact zM)|(exact zN)|(exact yS rfl rfl rfl)|(exact yT rfl rfl rfl rfl)|(exact yU rfl rfl rfl rfl)|(exact yAb rfl rfl)|(apply yY;(iterate 3 exact rfl);(first | omega | (focus (simp;done))))
  |(apply yGb;(iterate 4 exact rfl);(first | (with_reducible exact rfl) | exact natI_spec rfl | assumption | exact (Int.toNat_of_nonneg (by omega)).symm);(first | omega | (focus (simp only [List.length_map];omega)) | (focus (simp;done)) | (focus (simp;omega))))))|(apply W.ed;(apply yBb;(iterate 3 exact rfl);kernel_rfl;kernel_rfl))|(apply yA)|(apply yB)|(apply yC;kernel_rfl)|(apply yD;exact rfl;kernel_rfl)|(apply yE)|(apply yF;kernel_rfl)
  |(apply yJ)))
 all_goals first
  |(exfalso;omega)
  |exact ⟨.inl rfl,[],[bS x,iV y],rfl,⟨rfl,rfl,trivial⟩,AVle.of_eq rfl,rfl⟩
theorem A_fixes {M D : Nat} {ps : List (List Nat)} {at' : List Pl} {g : Gn} {ss : List (List Nat)} {rd : List Bool} (h : CodeOk M D ps) (ha : at'.length = D + ps.length) (hs : ss.length = D + ps.length) (hr : rd.length = D + ps.length) (hsb : ∀ s ∈ ss,isB s ∧ s.length ≤ 9223372036854775807) : ACalls Tryz.prog 40 [cdN M D ps,pcs at',gnA g,strs ss,bools rd] [] (.tup [fxs (fixN at' g (rpN M D ps at' g ss rd)).1,iV (fixN at' g (rpN M D ps at' g ss rd)).2]) [] := by
 refine acalls_of_body Tryz.func40 rfl (zU rfl) ?_
 have h1 := h.d
 have h2 := h.w
 have hc := A_checkG (g := g) h ha hs hr hsb
 have hcs := rpN_cases (at' := at') (g := g) (rd := rd) h (fun s hx => (hsb s hx).1)
 generalize rpN M D ps at' g ss rd = r at *
 obtain ⟨f,S,U,s⟩ := r
 generalize hn : D + ps.length = n at *
 unfold fixN
 dsimp only at hcs
 dsimp only [rpA] at hc
 rcases hcs with rfl | rfl | ⟨rfl,hS,hU,h32⟩
 ·rw [if_pos rfl]
  (repeat' (first
   |(apply W.qd;(first
   |(exact zW (hc))|(exact zM)|(exact zN)|(exact yS rfl rfl rfl)|(exact yT rfl rfl rfl rfl)|(exact yU rfl rfl rfl rfl)|(exact q_eql rfl rfl)|(exact q_neq rfl rfl)
   |(exact yAb rfl rfl)))
   |(apply W.ed;(first
   |(apply yBb;(iterate 3 exact rfl);kernel_rfl;kernel_rfl)
   |(apply yCb;(iterate 3 exact rfl);kernel_rfl)))|(apply W.ln;(apply l_st_box;(iterate 6 exact rfl);(iterate 3 kernel_rfl)))|(apply yA)|(apply yB)|(apply yC;kernel_rfl)|(apply yE)|(apply yG)|(apply yJ)|(apply yP)|(apply yN)|(apply yQ;exact rfl)
   |(apply yR;exact rfl)))
  all_goals first
   |(exfalso;omega)
   |exact ⟨.inl rfl,[],[.d (.v (.slice none 0 0)),iV 13],rfl,⟨rfl,rfl,trivial⟩,AVle.tup ⟨AVle.nil 2,AVle.of_eq rfl,trivial⟩,rfl⟩
 ·rw [if_neg (by simp), if_pos rfl]
  (repeat' (first
   |(apply W.qd;(first
   |(exact zW (hc))|(exact zM)|(exact zN)|(exact yS rfl rfl rfl)|(exact yT rfl rfl rfl rfl)|(exact yU rfl rfl rfl rfl)|(exact q_eql rfl rfl)|(exact q_neq rfl rfl)
   |(exact yAb rfl rfl)))
   |(apply W.ed;(first
   |(apply yBb;(iterate 3 exact rfl);kernel_rfl;kernel_rfl)
   |(apply yCb;(iterate 3 exact rfl);kernel_rfl)))|(apply W.ln;(apply l_st_box;(iterate 6 exact rfl);(iterate 3 kernel_rfl)))|(apply yA)|(apply yB)|(apply yC;kernel_rfl)|(apply yE)|(apply yG)|(apply yJ)|(apply yP)|(apply yN)|(apply yQ;exact rfl)
   |(apply yR;exact rfl)))
  all_goals first
   |(exfalso;omega)
   |exact ⟨.inl rfl,[],[.d (.v (.slice none 0 0)),iV 11],rfl,⟨rfl,rfl,trivial⟩,AVle.tup ⟨AVle.nil 2,AVle.of_eq rfl,trivial⟩,rfl⟩
 ·rw [if_neg (by simp), if_neg (by simp)]
  dsimp only
  have hmS : (S.map iD).length = S.length := List.length_map _
  have hmU : (U.map sD).length = U.length := List.length_map _
  (repeat' (first
   |(apply W.qd;(first
   |(exact zW (hc))
   |((apply q_makeBd;exact Eq.refl [AV.agg [pcs at',iV g.1,iV g.2]]))
   |((apply q_as;exact Eq.refl (AV.bd _ _)))|(exact zM)|(exact zN)|(exact yS rfl rfl rfl)|(exact yT rfl rfl rfl rfl)|(exact yU rfl rfl rfl rfl)|(exact q_eql rfl rfl)|(exact q_neq rfl rfl)|(exact yAb rfl rfl)
   |(apply yZ;exact rfl;exact rfl;kernel_rfl)))
   |(apply W.ed;(first
   |(apply yBb;(iterate 3 exact rfl);kernel_rfl;kernel_rfl)
   |(apply yCb;(iterate 3 exact rfl);kernel_rfl)))|(apply W.ln;(apply l_st_box;(iterate 6 exact rfl);(iterate 3 kernel_rfl)))|(apply yA)|(apply yB)|(apply (W.regionS 10);exact rfl;kernel_rfl)|(apply yE)|(apply yG)|(apply yH)|(apply yL)
   |(apply yR;exact rfl)))
  all_goals try (exfalso;omega)
  refine AWP.nilRow 15 2 107 rfl (by omega) ?_
  (repeat' (first
   |(apply W.qd;(first
   |(exact zM)|(exact yS rfl rfl rfl)|(exact yT rfl rfl rfl rfl)
   |(exact yV rfl rfl)))|(apply yB)|(apply (W.regionS 11);exact rfl;kernel_rfl)|(apply yE)
   |(apply yG)))
  refine AWP.loopW (α := Nat) (fun k => k ≤ n ∧ fixB at' g S k = true) (fun k => ⟨[(48,iV k),(47,iV n),(46,ints S),(12,.opt 2 0),(14,.bd 93 [.agg [pcs at',iV g.1,iV g.2]]),(15,.osl 3 (fixL at' g (1,S,U,s) k).length 0 (fixL at' g (1,S,U,s) k).length)],[.box [.d .any,iV M,iV D,rowsN ps,.d .any],.box [iV g.1,iV g.2],.box [iV 1,ints S,strs U,iV s],.row (fixL at' g (1,S,U,s) k).length 2 107 ((fixL at' g (1,S,U,s) k).map fxD)]⟩) (fun k => n - k) 0 ⟨Nat.zero_le _,rfl⟩ ?wkA fun k hk => ?_
  case wkA =>
   exact ⟨[0,1,2,3],rfl,rfl,rfl,rfl,iV_eq (by omega),rfl,rfl,rfl,rfl,trivial⟩
  obtain ⟨hk,hfb⟩ := hk
  have hfl := fixL_len (at' := at') (g := g) (r := (1,S,U,s)) (k := k)
  by_cases hkl : k < n
  ·have hka : k < at'.length := by omega
   have hkS : k < S.length := by omega
   have hkU : k < U.length := by omega
   have e1 : S.getD k 0 = S[k] := by rw [List.getD_eq_getElem?_getD,List.getElem?_eq_getElem hkS];rfl
   have e2 : U.getD k [] = U[k] := by rw [List.getD_eq_getElem?_getD,List.getElem?_eq_getElem hkU];rfl
   have e3 : at'.getD k pz0 = at'[k] := by rw [List.getD_eq_getElem?_getD,List.getElem?_eq_getElem hka];rfl
   have hL := fixL_succ (at' := at') (g := g) (r := (1,S,U,s)) (k := k)
   have hB := fixB_succ (at' := at') (g := g) (st := S) (k := k)
   have hm := fixB_mono (at' := at') (g := g) (st := S) (i := k + 1)
   have hu := h32 _ (List.getElem_mem hkU)
   have hcb := A_bseal (g := g) hka (by omega) hu.1 hu.2
   dsimp only at hL
   rw [e1,e2,e3] at hL
   rw [e1,e3,hfb,Bool.true_and] at hB
   by_cases hs1 : S[k] = 1
   ·rw [if_pos hs1, List.append_nil] at hL
    rw [decide_eq_true hs1,Bool.true_or] at hB
    clear hcb hc
    generalize fixL at' g (1,S,U,s) k = A at *
    (repeat' (first
     |(apply W.qd;(first
     |(exact zM)|(exact zN)|(exact q_lss rfl rfl)|(exact q_eql rfl rfl)|(exact q_add rfl rfl (by omega))|(apply yX;(iterate 3 exact rfl);(first | omega | (focus (simp;done))))
     |(apply yGb;(iterate 4 exact rfl);(first | (with_reducible exact rfl) | exact natI_spec rfl | assumption | exact (Int.toNat_of_nonneg (by omega)).symm);(first | omega | (focus (simp only [List.length_map];omega)) | (focus (simp;done)) | (focus (simp;omega))))))|(apply yA)|(apply yB)|(apply yC;kernel_rfl)|(apply yE)|(apply yG)|(apply yH)|(apply yI)|(apply yK)|(apply yM)
     |(refine W.cond _ rfl (fun hb => ?_) (fun hb => ?_) <;> ((try simp only [hb,zK]) <;> (try simp only [zL,zI] at hb) <;> (try (exfalso;omega))))))
    all_goals first
     |(exfalso;omega)|(refine ⟨k + 1,⟨by omega,hB⟩,by omega,?_⟩;rw [hL];exact ⟨[0,1,2,3],rfl,rfl,rfl,iV_eq (by omega),rfl,rfl,rfl,rfl,rfl,trivial⟩)
   ·rw [if_neg hs1] at hL
    rw [decide_eq_false hs1,Bool.false_or] at hB
    by_cases hpg : plB at'[k] = true ∧ gnB g = true
    ·have e4 : sealN at'[k] g U[k] = (sealL at'[k] g U[k], 0) := if_pos ⟨hpg.1, hpg.2, by omega⟩
     rw [e4] at hcb
     rw [hpg.1,hpg.2] at hB
     have el : (fixL at' g (1,S,U,s) k ++ [(k,sealL at'[k] g U[k])]).length = (fixL at' g (1,S,U,s) k).length + 1 := by simp
     clear hc e4
     generalize sealL at'[k] g U[k] = x at *
     generalize fixL at' g (1,S,U,s) k = A at *
     (repeat' (first
      |(apply W.qd;(first
      |((apply q_mv;exact Eq.refl (AV.bd _ _)))
      |((apply q_callBd hcb;(iterate 4 exact rfl);kernel_rfl))|(exact zM)|(exact zN)|(exact yS rfl rfl rfl)|(exact yT rfl rfl rfl rfl)|(exact q_lss rfl rfl)|(exact q_eql rfl rfl)|(exact q_neq rfl rfl)|(exact q_add rfl rfl (by omega))|(exact yAb rfl rfl)|(apply yX;(iterate 3 exact rfl);(first | omega | (focus (simp;done))))|(apply yZ;exact rfl;exact rfl;kernel_rfl)|(apply q_litF;(iterate 5 exact rfl);kernel_rfl;kernel_rfl;exact rfl)
      |(apply yGb;(iterate 4 exact rfl);(first | (with_reducible exact rfl) | exact natI_spec rfl | assumption | exact (Int.toNat_of_nonneg (by omega)).symm);(first | omega | (focus (simp only [List.length_map];omega)) | (focus (simp;done)) | (focus (simp;omega))))))|(apply W.ed;((apply (e_app1F (f := fxD) ((k,x) : Fx));(iterate 8 exact rfl);omega)))|(apply yA)|(apply yB)|(apply yC;kernel_rfl)|(apply yE)|(apply yG)|(apply yH)|(apply yL)|(apply yR;exact rfl)
      |(refine W.cond _ rfl (fun hb => ?_) (fun hb => ?_) <;> ((try simp only [hb,zK]) <;> (try simp only [zL,zI] at hb) <;> (try (exfalso;omega))))))
     all_goals first
      |(exfalso;omega)|(refine ⟨k + 1,⟨by omega,hB⟩,by omega,?_⟩;rw [hL,el];exact ⟨[0,1,2,3],rfl,rfl,rfl,iV_eq (by omega),rfl,rfl,rfl,rfl,congrArg (AV.osl 3 (A.length + 1) 0) (by simp),trivial⟩)
    ·have e4 : sealN at'[k] g U[k] = ([], 1) := if_neg (fun hh => hpg ⟨hh.1, hh.2.1⟩)
     rw [e4] at hcb
     have hB' : fixB at' g S (k + 1) = false := by
      rw [hB]
      cases hp : plB at'[k]
      ·rfl
      ·cases hg : gnB g
       ·rfl
       ·exact absurd ⟨hp,hg⟩ hpg
     have hf := hm hB' S.length (by omega)
     rw [if_neg (by rw [hf];decide)]
     clear hc e4 hm hL hB hB' hf
     generalize fixL at' g (1,S,U,s) k = A at *
     (repeat' (first
      |(apply W.qd;(first
      |((apply q_mv;exact Eq.refl (AV.bd _ _)))
      |((apply q_callBd hcb;(iterate 4 exact rfl);kernel_rfl))|(exact zM)|(exact zN)|(exact yS rfl rfl rfl)|(exact yT rfl rfl rfl rfl)|(exact q_lss rfl rfl)|(exact q_eql rfl rfl)|(exact q_neq rfl rfl)|(exact yAb rfl rfl)|(apply yX;(iterate 3 exact rfl);(first | omega | (focus (simp;done))))
      |(apply yGb;(iterate 4 exact rfl);(first | (with_reducible exact rfl) | exact natI_spec rfl | assumption | exact (Int.toNat_of_nonneg (by omega)).symm);(first | omega | (focus (simp only [List.length_map];omega)) | (focus (simp;done)) | (focus (simp;omega))))))|(apply yA)|(apply yB)|(apply yC;kernel_rfl)|(apply yE)|(apply yG)|(apply yH)|(apply yJ)|(apply yP)|(apply yN)|(apply yQ;exact rfl)
      |(refine W.cond _ rfl (fun hb => ?_) (fun hb => ?_) <;> ((try simp only [hb,zK]) <;> (try simp only [zL,zI] at hb) <;> (try (exfalso;omega))))))
     all_goals first
      |(exfalso;omega)
      |exact ⟨.inl rfl,[],[.d (.v (.slice none 0 0)),iV 1],rfl,⟨rfl,rfl,trivial⟩,AVle.tup ⟨AVle.nil 2,AVle.of_eq rfl,trivial⟩,rfl⟩
  ·obtain rfl : k = n := by omega
   rw [hS,if_pos hfb]
   clear hc
   generalize fixL at' g (1,S,U,s) k = A at *
   (repeat' (first
    |(apply W.qd;(first
    |(exact zM)|(exact zN)
    |(exact q_lss rfl rfl)))|(apply yA)|(apply yB)|(apply yC;kernel_rfl)|(apply yE)|(apply yI)|(apply yJ)|(apply yK)|(apply yM)
    |(refine W.cond _ rfl (fun hb => ?_) (fun hb => ?_) <;> ((try simp only [hb,zK]) <;> (try simp only [zL,zI] at hb) <;> (try (exfalso;omega))))))
   all_goals first
    |(exfalso;omega)|(refine Ends.two rfl rfl ?_;show AV.tup [AV.frz _ [] (.osl 3 A.length 0 A.length),iV 0] = _;rw [frz_rowJ rfl rfl (by simp)])
end
section
open Go.Shelf Go.RowKit
section
variable (at' : List Pl) (g : Gn) (us : List (List Nat)) (k : Nat)
def slB : Bool := (List.range k).all fun j => decide ((sealN (at'.getD j pz0) g (us.getD j [])).2 = 0 ∧ (us.getD j []).length = 32)
def slL : List (List Nat) := (List.range k).map fun j => (sealN (at'.getD j pz0) g (us.getD j [])).1
theorem slB_succ : slB at' g us (k + 1) = (slB at' g us k && decide ((sealN (at'.getD k pz0) g (us.getD k [])).2 = 0 ∧ (us.getD k []).length = 32)) := by
 unfold slB;rw [List.range_succ,List.all_append];simp
theorem slL_succ : slL at' g us (k + 1) = slL at' g us k ++ [(sealN (at'.getD k pz0) g (us.getD k [])).1] := by
 unfold slL;rw [List.range_succ,List.map_append];rfl
theorem slL_len : (slL at' g us k).length = k := by simp [slL]
end
theorem slB_get {at' : List Pl} {g : Gn} {us : List (List Nat)} {n : Nat} (h : slB at' g us n = true) {k : Nat} (hk : k < n) : (sealN (at'.getD k pz0) g (us.getD k [])).2 = 0 ∧ (us.getD k []).length = 32 := by
 unfold slB at h
 rw [List.all_eq_true] at h
 exact of_decide_eq_true (h k (List.mem_range.2 hk))
theorem seal_other {p : Pl} {g g' : Gn} {u : List Nat} (hp : plB p = true) (hg : gnB g = true) (hb : isB u) (hu : u.length ≤ 40) (hne : g ≠ g') : staN p g' (sealL p g u) true = (3,[]) := by
 unfold staN
 rw [if_pos rfl,if_neg]
 rintro ⟨_,h⟩
 rw [seal_labG hg] at h
 exact hne h
attribute [local irreducible] Quiet Eff OpOk AWPG ACont ABlock ACalls AGoto
theorem A_lsealOk {at' : List Pl} {g : Gn} {us : List (List Nat)} (ha : at'.length = us.length) (hul : us.length ≤ 1000000) (hub : ∀ u ∈ us,isB u ∧ u.length ≤ 9223372036854775807) (hB : slB at' g us us.length = true) : ACalls Tryz.prog 80 [pcs at',gnA g,strs us] [] (.tup [.osl 0 us.length 0 us.length,bV true]) [.row us.length 1 9 ((slL at' g us us.length).map sD)] := by
 refine acalls_of_bodyO Tryz.func80 rfl (zU rfl) ?_
 have hma : (at'.map pcD).length = at'.length := List.length_map _
 have hmu : (us.map sD).length = us.length := List.length_map _
 have hget := fun k (hk : k < us.length) => slB_get hB hk
 have hsu := slL_succ at' g us
 have hsl := slL_len at' g us
 (repeat' (first
  |(apply W.qd;(first
  |(exact zM)|(exact zN)|(exact q_neq rfl rfl)
  |(exact yV rfl rfl)))|(apply W.ed;(apply yBb;(iterate 3 exact rfl);kernel_rfl;kernel_rfl))|(apply yA)|(apply yB)|(apply (W.regionS 4);exact rfl;kernel_rfl)|(apply yE)|(apply yH)
  |(refine W.cond _ rfl (fun hb => ?_) (fun hb => ?_) <;> ((try simp only [hb,zK]) <;> (try simp only [zL,zI] at hb) <;> (try (exfalso;omega))))))
 all_goals try (exfalso;omega)
 refine AWP.nilRow 8 1 9 rfl (by omega) ?_
 (repeat' (first
  |(apply W.qd;(first
  |(exact zM)
  |(exact yV rfl rfl)))|(apply yB)|(apply (W.regionS 5);exact rfl;kernel_rfl)|(apply yE)
  |(apply yG)))
 refine AWP.loopW (α := Nat) (fun k => k ≤ us.length) (fun k => ⟨[(20,iV k),(19,iV us.length),(18,strs us),(0,pcs at'),(4,.opt 0 0),(8,.osl 1 k 0 k)],[.box [iV g.1,iV g.2],.row k 1 9 ((slL at' g us k).map sD)]⟩) (fun k => us.length - k) 0 (Nat.zero_le _) ?wkA fun k hk => ?_
 case wkA =>
  exact ⟨[0,1],rfl,rfl,rfl,rfl,iV_eq (by omega),rfl,rfl,rfl,rfl,trivial⟩
 by_cases hkl : k < us.length
 ·have hka : k < at'.length := by omega
  have e2 : us.getD k [] = us[k] := by rw [List.getD_eq_getElem?_getD,List.getElem?_eq_getElem hkl];rfl
  have e3 : at'.getD k pz0 = at'[k] := by rw [List.getD_eq_getElem?_getD,List.getElem?_eq_getElem hka];rfl
  have h1 := hget k hkl
  have h2 := hsu k
  have l1 := hsl k
  rw [e2,e3] at h1 h2
  have hu := hub _ (List.getElem_mem hkl)
  have hs := A_rseal (p := at'[k]) (g := g) hu.1 hu.2
  rw [h1.1] at hs
  have h32 := h1.2
  clear hget hsu hsl h1
  generalize (sealN at'[k] g us[k]).1 = x at *
  generalize slL at' g us k = S1 at *
  have b1 : (S1 ++ [x]).length = k + 1 := by simp [l1]
  (repeat' (first
   |(apply yFb;exact rfl;exact rfl)
   |(apply W.qd;(first
   |(exact zW (hs))|(exact zM)|(exact zN)|(exact yU rfl rfl rfl rfl)|(exact q_lss rfl rfl)|(exact q_neq rfl rfl)|(exact q_add rfl rfl (by omega))|(exact yAb rfl rfl)|(exact q_len_bs rfl rfl)|(apply yX;(iterate 3 exact rfl);(first | omega | (focus (simp;done))))|(apply yY;(iterate 3 exact rfl);(first | omega | (focus (simp;done))))|(apply q_litF;(iterate 5 exact rfl);kernel_rfl;kernel_rfl;exact rfl)|(apply yGb;(iterate 4 exact rfl);(first | (with_reducible exact rfl) | exact natI_spec rfl | assumption | exact (Int.toNat_of_nonneg (by omega)).symm);(first | omega | (focus (simp only [List.length_map];omega)) | (focus (simp;done)) | (focus (simp;omega))))
   |(apply (yDb (u := .d _));exact rfl;exact rfl)))|(apply W.ed;((apply (e_app1F (l := S1) (f := sD) x);exact congrArg (AV.osl 1 k 0) l1.symm;(iterate 7 exact rfl);omega)))|(apply yA)|(apply yB)|(apply yC;kernel_rfl)|(apply yD;exact rfl;kernel_rfl)|(apply yE)|(apply yF;kernel_rfl)|(apply yG)|(apply yH)|(apply yL)
   |(refine W.cond _ rfl (fun hb => ?_) (fun hb => ?_) <;> ((try simp only [hb,zK]) <;> (try simp only [zL,zI] at hb) <;> (try (exfalso;omega))))))
  all_goals first
   |(exfalso;omega)|(refine ⟨k + 1,by omega,by omega,?_⟩;(try dsimp only);rw [h2,b1];exact ⟨[0,1],rfl,rfl,rfl,iV_eq (by omega),rfl,rfl,rfl,rfl,rfl,trivial⟩)
 ·obtain rfl : k = us.length := by omega
  (repeat' (first
   |(apply W.qd;(first
   |(exact zM)|(exact zN)
   |(exact q_lss rfl rfl)))|(apply yA)|(apply yB)|(apply yC;kernel_rfl)|(apply yE)|(apply yI)|(apply yJ)|(apply yK)|(apply yM)
   |(refine W.cond _ rfl (fun hb => ?_) (fun hb => ?_) <;> ((try simp only [hb,zK]) <;> (try simp only [zL,zI] at hb) <;> (try (exfalso;omega))))))
  all_goals first
   |(exfalso;omega)
   |exact ⟨.inl rfl,[1],[.osl 1 us.length 0 us.length,bV true],rfl,rfl,⟨rfl,rfl,trivial⟩,AVle.of_eq rfl,rfl⟩
def p40 : List Pl := [(0,4,7),(1,4,7),(2,4,7)]
def g40 : Gn := (1,5)
def u40 (b : Nat) : List Nat := List.replicate 32 b
theorem isB_u40 {b : Nat} (h : b < 256) : isB (u40 b) := fun x hx => by rw [(List.mem_replicate.1 hx).2];exact h
theorem ok40 : CodeOk 8 2 [[1,1]] := ⟨.inl rfl,by decide,by decide,by decide⟩
abbrev s40 (k : Int) (b : Nat) : List Nat := sealL (k,4,7) g40 (u40 b)
theorem seal40 {k : Int} {b : Nat} (hk : plB (k,4,7) = true) : sealN (k,4,7) g40 (u40 b) = (s40 k b,0) := by
 unfold sealN
 rw [if_pos ⟨hk,by decide,by simp [u40]⟩]
theorem st40 {k : Int} {b : Nat} (hk : plB (k,4,7) = true) (hb : b < 256) : staN (k,4,7) g40 (s40 k b) true = (1,u40 b) := seal_state hk (by decide) (isB_u40 hb) (by simp [u40]) (by simp [u40])
theorem slB40 : slB p40 g40 [u40 97,u40 98,u40 3] 3 = true := by
 have e : slB p40 g40 [u40 97,u40 98,u40 3] 3 = (decide ((sealN (0,4,7) g40 (u40 97)).2 = 0 ∧ (u40 97).length = 32) && (decide ((sealN (1,4,7) g40 (u40 98)).2 = 0 ∧ (u40 98).length = 32) && (decide ((sealN (2,4,7) g40 (u40 3)).2 = 0 ∧ (u40 3).length = 32) && true))) := rfl
 rw [e,seal40 (by decide),seal40 (by decide),seal40 (by decide)]
 simp [u40]
theorem slL40 : slL p40 g40 [u40 97,u40 98,u40 3] 3 = [s40 0 97,s40 1 98,s40 2 3] := by
 have e : slL p40 g40 [u40 97,u40 98,u40 3] 3 = [(sealN (0,4,7) g40 (u40 97)).1,(sealN (1,4,7) g40 (u40 98)).1,(sealN (2,4,7) g40 (u40 3)).1] := rfl
 rw [e,seal40 (by decide),seal40 (by decide),seal40 (by decide)]
theorem rpN_three {g : Gn} {x y z : List Nat} {a b c : Bool} : rpN 8 2 [[1,1]] p40 g [x,y,z] [a,b,c] = repU 8 2 [[1,1]] (stU [staN (0,4,7) g x a,staN (1,4,7) g y b,staN (2,4,7) g z c]) (stS [staN (0,4,7) g x a,staN (1,4,7) g y b,staN (2,4,7) g z c]) (stH [staN (0,4,7) g x a,staN (1,4,7) g y b,staN (2,4,7) g z c]) := rfl
theorem sta_no {p : Pl} {g : Gn} {s : List Nat} : staN p g s false = (2,[]) := rfl
theorem rp40a : rpN 8 2 [[1,1]] p40 g40 [s40 0 97,s40 1 98,s40 2 3] [true,true,true] = (1,[1,1,1],[u40 97,u40 98,u40 3],-1) := by
 rw [rpN_three,st40 (by decide) (by decide),st40 (by decide) (by decide),st40 (by decide) (by decide)]
 kernel_rfl
theorem rp40b : rpN 8 2 [[1,1]] p40 (1,4) [s40 0 97,s40 1 98,s40 2 3] [true,true,true] = (3,[3,3,3],[[],[],[]],-1) := by
 rw [rpN_three,seal_other (by decide) (by decide) (isB_u40 (by decide)) (by simp [u40]) (by decide),seal_other (by decide) (by decide) (isB_u40 (by decide)) (by simp [u40]) (by decide),seal_other (by decide) (by decide) (isB_u40 (by decide)) (by simp [u40]) (by decide)]
 kernel_rfl
theorem rp40c : rpN 8 2 [[1,1]] p40 g40 [s40 0 97,s40 1 98,s40 2 3] [true,false,true] = (1,[1,2,1],[u40 97,u40 98,u40 3],-1) := by
 rw [rpN_three,st40 (by decide) (by decide),sta_no,st40 (by decide) (by decide)]
 kernel_rfl
theorem rp40d : rpN 8 2 [[1,1]] p40 g40 [s40 0 97,s40 1 98,s40 2 3] [false,false,true] = (3,[2,2,1],[[],[],u40 3],-1) := by
 rw [rpN_three,sta_no,sta_no,st40 (by decide) (by decide)]
 kernel_rfl
theorem rp40e : rpN 8 2 [[1,1]] p40 g40 [s40 0 97,s40 1 97,s40 2 3] [true,true,true] = (2,[1,1,1],[[],[],[]],-1) := by
 rw [rpN_three,st40 (by decide) (by decide),st40 (by decide) (by decide),st40 (by decide) (by decide)]
 kernel_rfl
theorem fx40c : fixN p40 g40 (1,[1,2,1],[u40 97,u40 98,u40 3],-1) = ([(1,s40 1 98)],0) := rfl
theorem fx40d : fixN p40 g40 (3,[2,2,1],[[],[],u40 3],-1) = ([],11) := rfl
theorem A_rep97 : ACalls Tryz.prog 79 [.d (.v (.string ⟨#[97]⟩)),iV 32] [] (bS (u40 97)) [] :=
 acalls_of_exact rfl fun w => Any.strings_Repeat layRepeat extra_repeat ⟨#[97]⟩ 32 w (by omega) (by decide)
theorem A_rep98 : ACalls Tryz.prog 79 [.d (.v (.string ⟨#[98]⟩)),iV 32] [] (bS (u40 98)) [] :=
 acalls_of_exact rfl fun w => Any.strings_Repeat layRepeat extra_repeat ⟨#[98]⟩ 32 w (by omega) (by decide)
theorem A_rep3 : ACalls Tryz.prog 79 [.d (.v (.string ⟨#[3]⟩)),iV 32] [] (bS (u40 3)) [] :=
 acalls_of_exact rfl fun w => Any.strings_Repeat layRepeat extra_repeat ⟨#[3]⟩ 32 w (by omega) (by decide)
end
section
theorem Ends.cell2K {P : Program} {env : List (Nat × AV)} {own own' : List Ent} {t p i : Nat} {tyc : TypeId} {l : List AV} {y r : AV} {mm : Nat} (js : List Nat) (hx : look env p = .opt i 0) (ho : own[i]? = some (.box l)) (ht : tyInfo P tyc = some (true,l.length)) (hy : look env t = y) (hj : selOk own js = true) (hm : js.take mm = List.range mm) (hs : selOwn own js = own') (hr : AV.frz own js (.tup [.agg l,y]) = r) : EndsO P mm [.cell p tyc,.tmp t] r own' .ret ⟨env,own⟩ :=
 ⟨.inl rfl,js,[.agg l,y],hj,hm,⟨⟨i,l,true,hx,ho,ht,rfl⟩,hy,trivial⟩,AVle.of_eq hr,hs⟩
theorem frz_repK1 {own : List Ent} {n : Nat} {e : TypeId} {l : List Int} {a b c : Int} {y : Dat} (h : own[4]? = some (.row 0 1 e (l.map iD))) (hn : n = l.length) : AV.frz own [0] (.tup [.agg [iV a,.osl 4 0 0 n,.d y,iV b],iV c]) = .tup [.agg [iV a,ints l,.d y,iV b],iV c] := by
 show AV.tup [.agg [iV a,AV.frz own [0] (.osl 4 0 0 n),.d y,iV b],iV c] = _
 rw [frz_rowJ h rfl (by rw [List.length_map];exact hn)]
theorem frz_repK2 {own : List Ent} {n : Nat} {e e' : TypeId} {l : List Int} {q : List (List Nat)} {a b c : Int} (h : own[4]? = some (.row 0 1 e (l.map iD))) (hn : n = l.length) (h' : own[5]? = some (.row 0 1 e' (q.map sD))) (hn' : n = q.length) : AV.frz own [0] (.tup [.agg [iV a,.osl 4 0 0 n,.osl 5 0 0 n,iV b],iV c]) = .tup [.agg [iV a,ints l,strs q,iV b],iV c] := by
 show AV.tup [.agg [iV a,AV.frz own [0] (.osl 4 0 0 n),AV.frz own [0] (.osl 5 0 0 n),iV b],iV c] = _
 rw [frz_rowJ h rfl (by rw [List.length_map];exact hn),frz_rowJ h' rfl (by rw [List.length_map];exact hn')]
attribute [local irreducible] Quiet Eff OpOk AWPG ACont ABlock ACalls AGoto
theorem A_checkBR {M D : Int} {par : List (List Int)} {at' : List Pl} {g : Gn} {ss : List (List Nat)} {rd : List Bool} {v : Nat} (hp : CodeIn par) (h : chkB M D par at' ss rd = false) (hD : D ≤ 1000000) (hP : par.length ≤ 1000000) : ACalls Tryz.prog 38 [cdA M D par,pcs at',gnA g,.osl 0 v 0 ss.length,bools rd] [.row v 1 9 (ss.map sD)] (.tup [rpA rep0,iV 1]) [.row v 1 9 (ss.map sD)] := by
 refine acalls_of_bodyO Tryz.func38 rfl (zU rfl) ?_
 have hw := A_ewidth (M := M) (D := D) hp
 have hma : (at'.map pcD).length = at'.length := List.length_map _
 have hms : (ss.map sD).length = ss.length := List.length_map _
 have hmr : (rd.map tD).length = rd.length := List.length_map _
 unfold chkB at h
 cases hv : validC M D par with
 | false =>
   rw [hv,if_neg (by decide)] at hw
   (repeat' (first
    |(apply W.qd;(first
    |(exact zW (hw))|(exact zM)|(exact zN)|(exact yU rfl rfl rfl rfl)|(exact q_eql rfl rfl)|(apply yZ;exact rfl;exact rfl;kernel_rfl)
    |(apply (yEb (u := .d _));exact rfl;exact rfl)))
    |(apply W.ed;(first
    |(apply yBb;(iterate 3 exact rfl);kernel_rfl;kernel_rfl)
    |(apply yCb;(iterate 3 exact rfl);kernel_rfl)))|(apply W.ln;(apply l_st_box;(iterate 6 exact rfl);(iterate 3 kernel_rfl)))|(refine W.gOff _ _ rfl rfl (by intro h;cases h) ?_)|(apply yA)|(apply yB)|(apply yC;kernel_rfl)|(apply yE)|(apply yJ)|(apply yP)
    |(apply yQ;exact rfl)))
   all_goals first
    |(exfalso;omega)
    |exact ⟨.inl rfl,[0],[.agg [iV 0,.d (.v (.slice none 0 0)),.d (.v (.slice none 0 0)),iV 0],iV 1],rfl,rfl,⟨⟨3,_,true,rfl,rfl,rfl,rfl⟩,rfl,trivial⟩,AVle.tup ⟨AVle.agg ⟨AVle.of_eq rfl,AVle.nil 1,AVle.nil 1,AVle.of_eq rfl,trivial⟩,AVle.of_eq rfl,trivial⟩,rfl⟩
 | true =>
   rw [hv,if_pos rfl] at hw
   rw [hv,Bool.true_and,decide_eq_false_iff_not] at h
   (repeat' (first
    |(apply yFb;exact rfl;exact rfl)
    |(apply W.qd;(first
    |(exact zW (hw))|(exact zM)|(exact zN)|(exact yU rfl rfl rfl rfl)|(exact q_eql rfl rfl)|(exact q_neq rfl rfl)|(exact yV rfl rfl)|(exact q_len_osl rfl rfl rfl)|(apply yZ;exact rfl;exact rfl;kernel_rfl)|(apply (yEb (u := .d _));exact rfl;exact rfl)
    |(apply (yDb (u := .d _));exact rfl;exact rfl)))
    |(apply W.ed;(first
    |(apply yBb;(iterate 3 exact rfl);kernel_rfl;kernel_rfl)
    |(apply yCb;(iterate 3 exact rfl);kernel_rfl)))|(apply W.ln;(apply l_st_box;(iterate 6 exact rfl);(iterate 3 kernel_rfl)))|(refine W.gOff _ _ rfl rfl (by intro h;cases h) ?_)|(apply yA)|(apply yB)|(apply (W.regionS 4);exact rfl;kernel_rfl)|(apply yE)|(apply yJ)|(apply yP)|(apply yQ;exact rfl)|(refine W.gF _ _ rfl rfl (fun hb => ?_) (fun hb => ?_) <;> ((try simp only [hb,zK]) <;> (try simp only [zL,zI] at hb) <;> (try (exfalso;omega))))
    |(refine W.cond _ rfl (fun hb => ?_) (fun hb => ?_) <;> ((try simp only [hb,zK]) <;> (try simp only [zL,zI] at hb) <;> (try (exfalso;omega))))))
   all_goals first
    |(exfalso;omega)
    |exact ⟨.inl rfl,[0],[.agg [iV 0,.d (.v (.slice none 0 0)),.d (.v (.slice none 0 0)),iV 0],iV 1],rfl,rfl,⟨⟨3,_,true,rfl,rfl,rfl,rfl⟩,rfl,trivial⟩,AVle.tup ⟨AVle.agg ⟨AVle.of_eq rfl,AVle.nil 1,AVle.nil 1,AVle.of_eq rfl,trivial⟩,AVle.of_eq rfl,trivial⟩,rfl⟩
theorem A_checkR {M D : Nat} {ps : List (List Nat)} {at' : List Pl} {g : Gn} {ss : List (List Nat)} {rd : List Bool} {v : Nat} (h : CodeOk M D ps) (ha : at'.length = D + ps.length) (hs : ss.length = D + ps.length) (hr : rd.length = D + ps.length) (hsb : ∀ s ∈ ss,isB s ∧ s.length ≤ 9223372036854775807) : ACalls Tryz.prog 38 [cdN M D ps,pcs at',gnA g,.osl 0 v 0 ss.length,bools rd] [.row v 1 9 (ss.map sD)] (.tup [rpA (rpN M D ps at' g ss rd),iV 0]) [.row v 1 9 (ss.map sD)] := by
 refine acalls_of_bodyO Tryz.func38 rfl (zU rfl) ?_
 have h1 := h.d
 have h2 := h.w
 have hma : (at'.map pcD).length = at'.length := List.length_map _
 have hms : (ss.map sD).length = ss.length := List.length_map _
 have hmr : (rd.map tD).length = rd.length := List.length_map _
 have hw := A_ewidthN h
 have hsrc := sta_src (at' := at') (g := g) (rd := rd) h (fun s hx => (hsb s hx).1)
 have hhl := hsrc.hl
 have f1 := A_locate hsrc
 have f2 := A_correct hsrc
 have f3 := fun u (hu : u < D + ps.length) => A_erecS hsrc (u := u) hu
 have hlc := loc_cases M D ps (stU (staL at' g ss rd (D + ps.length))) (stH (staL at' g ss rd (D + ps.length)))
 obtain ⟨m1,m2,m3⟩ := sta_maps at' g ss rd (D + ps.length)
 have hSl : (stS (staL at' g ss rd (D + ps.length))).length = D + ps.length := by unfold stS;rw [List.length_map,staL_length]
 unfold rpN repU
 generalize stU (staL at' g ss rd (D + ps.length)) = U at *
 generalize stS (staL at' g ss rd (D + ps.length)) = S at *
 generalize stH (staL at' g ss rd (D + ps.length)) = H at *
 have hstt := fun k (hk : k < ss.length) (ha : k < at'.length) (hr : k < rd.length) => A_state (p := at'[k]) (g := g) (s := ss[k]) (r := rd[k]) (hsb _ (List.getElem_mem hk)).1 (hsb _ (List.getElem_mem hk)).2
 have hga : ∀ k (hk : k < at'.length),at'.getD k pz0 = at'[k] := fun k hk => by rw [List.getD_eq_getElem?_getD,List.getElem?_eq_getElem hk];rfl
 have hgs : ∀ k (hk : k < ss.length),ss.getD k [] = ss[k] := fun k hk => by rw [List.getD_eq_getElem?_getD,List.getElem?_eq_getElem hk];rfl
 have hgr : ∀ k (hk : k < rd.length),rd.getD k false = rd[k] := fun k hk => by rw [List.getD_eq_getElem?_getD,List.getElem?_eq_getElem hk];rfl
 generalize hfS : (fun k => (staN (at'.getD k pz0) g (ss.getD k []) (rd.getD k false)).1) = fS at *
 generalize hfU : (fun k => (staN (at'.getD k pz0) g (ss.getD k []) (rd.getD k false)).2) = fU at *
 generalize hfH : (fun k => decide ((staN (at'.getD k pz0) g (ss.getD k []) (rd.getD k false)).1 = 1)) = fH at *
 have eS : ∀ k (hk : k < ss.length) (ha : k < at'.length) (hr : k < rd.length),fS k = (staN at'[k] g ss[k] rd[k]).1 := fun k hk ha hr => by rw [← hfS];show (staN _ _ _ _).1 = _;rw [hga k ha,hgs k hk,hgr k hr]
 have eU : ∀ k (hk : k < ss.length) (ha : k < at'.length) (hr : k < rd.length),fU k = (staN at'[k] g ss[k] rd[k]).2 := fun k hk ha hr => by rw [← hfU];show (staN _ _ _ _).2 = _;rw [hga k ha,hgs k hk,hgr k hr]
 have eH : ∀ k (hk : k < ss.length) (ha : k < at'.length) (hr : k < rd.length),fH k = decide ((staN at'[k] g ss[k] rd[k]).1 = 1) := fun k hk ha hr => by rw [← hfH];show decide ((staN _ _ _ _).1 = 1) = _;rw [hga k ha,hgs k hk,hgr k hr]
 have hrec : ∀ k,k < D + ps.length → ∃ e : Int,ACalls Tryz.prog 88 [cdN M D ps,strs U,bools H,iV k] [] (.tup [bS ((recN M D ps U H k).getD []),iV e]) [] := fun k hk => by
  have h1 := f3 k hk
  obtain ⟨e,he⟩ := recR_eq (recN M D ps U H k)
  rw [he] at h1
  exact ⟨e,h1⟩
 generalize hR : (fun k => (recN M D ps U H k).getD []) = fR at *
 have eR : ∀ k,(recN M D ps U H k).getD [] = fR k := fun k => congrFun hR k
 simp only [eR] at hrec ⊢
 clear hfS hfU hfH hga hgs hgr f3 hsrc hR eR
 generalize locN M D ps U H = L at *
 generalize corN M D ps U H = C at *
 generalize hn : D + ps.length = n at *
 (repeat' (first
  |(apply yFb;exact rfl;exact rfl)
  |(apply W.qd;(first
  |(exact zW (hw))|(exact zM)|(exact zN)|(exact yU rfl rfl rfl rfl)|(exact q_eql rfl rfl)|(exact q_neq rfl rfl)|(exact yV rfl rfl)|(exact q_len_osl rfl rfl rfl)
  |(apply (yDb (u := .d _));exact rfl;exact rfl)))
  |(apply W.ed;(first
  |(apply yBb;(iterate 3 exact rfl);kernel_rfl;kernel_rfl)
  |(apply yCb;(iterate 3 exact rfl);kernel_rfl)))|(apply yA)|(apply yB)|(apply (W.regionS 4);exact rfl;kernel_rfl)|(apply yE)|(apply yH)|(refine W.gF _ _ rfl rfl (fun hb => ?_) (fun hb => ?_) <;> ((try simp only [hb,zK]) <;> (try simp only [zL,zI] at hb) <;> (try (exfalso;omega))))
  |(refine W.cond _ rfl (fun hb => ?_) (fun hb => ?_) <;> ((try simp only [hb,zK]) <;> (try simp only [zL,zI] at hb) <;> (try (exfalso;omega))))))
 all_goals try (exfalso;omega)
 refine AWP.hole rfl (AWP.hole rfl (AWP.hole rfl ?_))
 (repeat' (first
  |(apply W.qd;(first
  |(exact zM)
  |(apply yZ;exact rfl;exact rfl;kernel_rfl)))
  |(apply W.ld;(first
  |(apply (l_make (f := iD) 0);(iterate 10 exact rfl);kernel_rfl;omega)|(apply (l_make (f := sD) []);(iterate 10 exact rfl);kernel_rfl;omega)
  |(apply l_alloc;(iterate 3 exact rfl);kernel_rfl;kernel_rfl)))|(apply W.ln;(apply l_st_box;(iterate 6 exact rfl);(iterate 3 kernel_rfl)))|(apply yA)|(apply yB)|(apply (W.regionDS 5);exact rfl;exact rfl;kernel_rfl)|(apply yE)
  |(apply yF;kernel_rfl)))
 refine AWP.hole rfl (AWP.hole rfl ?_)
 (repeat' (first
  |(apply W.qd;(first
  |(exact zM)
  |(exact zN)))
  |(apply W.ld;(first
  |(apply (l_make (f := tD) false);(iterate 10 exact rfl);kernel_rfl;omega)
  |(apply (l_make (f := sD) []);(iterate 10 exact rfl);kernel_rfl;omega)))|(apply yA)|(apply yB)|(apply (W.regionS 7);exact rfl;kernel_rfl)|(apply (W.regionDS 7);exact rfl;exact rfl;kernel_rfl)|(apply yE)|(apply yF;kernel_rfl)
  |(apply yG)))
 refine AWP.loopW (α := Nat) (fun k => k ≤ n) (fun k => ⟨[(53,iV k),(52,iV n),(12,iV n),(13,.opt 6 0),(14,.osl 7 0 0 n),(15,.osl 8 0 0 n),(1,pcs at'),(3,.osl 0 v 0 ss.length),(4,bools rd),(5,.opt 1 0),(7,.opt 2 0),(10,.opt 3 0)],[.row v 1 9 (ss.map sD),.box [.d .any,iV M,iV D,rowsN ps,.d .any],.box [iV g.1,iV g.2],.box [iV 0,.d (.v (.slice none 0 0)),.d (.v (.slice none 0 0)),iV 0],.row 0 1 3 ((fil fS 0 n k).map iD),.row 0 1 9 ((List.replicate n []).map sD),.box [iV 1,.osl 4 0 0 n,.osl 5 0 0 n,iV (-1)],.row 0 1 9 ((fil fU [] n k).map sD),.row 0 1 4 ((fil fH false n k).map tD)]⟩) (fun k => n - k) 0 (Nat.zero_le _) ?wkA fun k hk => ?_
 case wkA =>
  rw [fil_zero,fil_zero,fil_zero]
  exact ⟨[0,1,2,3,4,5,6,7,8],rfl,rfl,rfl,by (repeat (first | exact trivial | refine ⟨rfl,?_⟩))⟩
 by_cases hkl : k < n
 ·have hka : k < at'.length := by omega
  have hks : k < ss.length := by omega
  have hkr : k < rd.length := by omega
  have hst := hstt k hks hka hkr
  have e1 := eS k hks hka hkr
  have e2 := eU k hks hka hkr
  have e3 := eH k hks hka hkr
  have s1 := fil_set (f := fS) (z := 0) hkl
  have s2 := fil_set (f := fU) (z := []) hkl
  have s3 := fil_set (f := fH) (z := false) hkl
  have g1 := fil_map (f := fS) (z := 0) (n := n) iD (k := k + 1) (j := k) (by omega) (by omega)
  have l1 := fil_len (f := fS) (z := 0) (n := n) k
  have l2 := fil_len (f := fU) (z := []) (n := n) k
  have l3 := fil_len (f := fH) (z := false) (n := n) k
  have l4 := fil_len (f := fS) (z := 0) (n := n) (k + 1)
  rw [e1] at s1 g1
  rw [e2] at s2
  rw [e3] at s3
  generalize staN at'[k] g ss[k] rd[k] = q at *
  obtain ⟨x,y⟩ := q
  dsimp only at *
  have gk : (ss.map sD)[k]? = some (sD ss[k]) := by rw [List.getElem?_map,List.getElem?_eq_getElem hks];rfl
  clear f1 f2 hlc hrec hstt eS eU eH m1 m2 m3
  generalize fil fS 0 n k = S1 at *
  generalize fil fU [] n k = U1 at *
  generalize fil fH false n k = H1 at *
  (repeat' (first
   |(apply W.qd;(first
   |(exact zW (hst))
   |((apply q_ld_rpt;(iterate 3 exact rfl);exact gk;exact rfl))|(exact zM)|(exact zN)|(exact yS rfl rfl rfl)|(exact yT rfl rfl rfl rfl)|(exact yU rfl rfl rfl rfl)|(exact q_lss rfl rfl)|(exact yAb rfl rfl)|(apply yX;(iterate 3 exact rfl);(first | omega | (focus (simp;done))))|(apply yY;(iterate 3 exact rfl);(first | omega | (focus (simp;done))))|(apply yGb;(iterate 4 exact rfl);(first | (with_reducible exact rfl) | exact natI_spec rfl | assumption | exact (Int.toNat_of_nonneg (by omega)).symm);(first | omega | (focus (simp only [List.length_map];omega)) | (focus (simp;done)) | (focus (simp;omega))))
   |(apply q_ix_osl0;(iterate 4 exact rfl);(first | (with_reducible exact rfl) | exact natI_spec rfl | assumption | exact (Int.toNat_of_nonneg (by omega)).symm);(first | omega | (focus (simp only [List.length_map];omega)) | (focus (simp;done)) | (focus (simp;omega))))))|(apply W.ln;(apply l_st_rpt;(iterate 7 exact rfl);exact fun _ => rfl;(first | omega | (focus (simp only [List.length_map];omega)) | (focus (simp;omega)))))|(apply yA)|(apply yB)|(apply (W.regionS 10);exact rfl;kernel_rfl)|(apply (W.regionDS 10);exact rfl;exact rfl;kernel_rfl)|(apply yE)|(apply yF;kernel_rfl)|(apply yG)|(apply yH)
   |(refine W.cond _ rfl (fun hb => ?_) (fun hb => ?_) <;> ((try simp only [hb,zK]) <;> (try simp only [zL,zI] at hb) <;> (try (exfalso;omega))))))
  all_goals try (exfalso;omega)
  rw [s1,s2]
  (repeat' (first
   |(apply W.qd;(first
   |((apply q_ld_rpt;(iterate 3 exact rfl);exact g1;exact rfl))|(exact zM)|(exact yS rfl rfl rfl)|(exact yT rfl rfl rfl rfl)|(exact q_eql rfl rfl)|(exact q_add rfl rfl (by omega))
   |(apply q_ix_osl0;(iterate 4 exact rfl);(first | (with_reducible exact rfl) | exact natI_spec rfl | assumption | exact (Int.toNat_of_nonneg (by omega)).symm);(first | omega | (focus (simp only [List.length_map];omega)) | (focus (simp;done)) | (focus (simp;omega))))))|(apply W.ln;(apply l_st_rpt;(iterate 7 exact rfl);exact fun _ => rfl;(first | omega | (focus (simp only [List.length_map];omega)) | (focus (simp;omega)))))|(apply yB)|(apply yC;kernel_rfl)|(apply yE)
   |(apply yL)))
  all_goals first
   |(exfalso;omega)|(refine ⟨k + 1,by omega,by omega,?_⟩;(try dsimp only);rw [← s3];exact ⟨[0,1,2,3,4,5,6,7,8],rfl,rfl,rfl,iV_eq (by omega),rfl,rfl,rfl,rfl,rfl,rfl,rfl,rfl,rfl,rfl,rfl,trivial⟩)
 ·obtain rfl : k = n := by omega
  rw [fil_all,fil_all,fil_all,m1,m2,m3]
  have hUl : k = (U.map sD).length := by rw [← m2];simp
  have hHl : k = (H.map tD).length := by rw [← m3];simp
  clear hstt eS eU eH m1 m2 m3
  refine AWP.wk ⟨[(53,iV k),(52,iV k),(12,iV k),(13,.opt 6 0),(14,strs U),(15,bools H),(5,.opt 1 0),(10,.opt 3 0)],[.row v 1 9 (ss.map sD),.box [.d .any,iV M,iV D,rowsN ps,.d .any],.box [iV g.1,iV g.2],.box [iV 0,.d (.v (.slice none 0 0)),.d (.v (.slice none 0 0)),iV 0],.row 0 1 3 (S.map iD),.row 0 1 9 ((List.replicate k []).map sD),.box [iV 1,.osl 4 0 0 k,.osl 5 0 0 k,iV (-1)]]⟩ ⟨[0,1,2,3,4,5,6],rfl,rfl,rfl,rfl,rfl,rfl,rfl,(frz_rowJ rfl rfl hUl).symm,(frz_rowJ rfl rfl hHl).symm,rfl,rfl,trivial⟩ ?_
  rcases hlc with ⟨u,hu,hL⟩ | hL | hL | hL
  ·rw [hL] at f1 ⊢
   rw [if_pos rfl]
   have huk : u < k := by omega
   obtain ⟨c1,c2⟩ := C
   (repeat' (first
    |(apply W.qd;(first
    |(exact zW (f1))|(exact zW (f2))|(exact zM)|(exact zN)|(exact yS rfl rfl rfl)|(exact yT rfl rfl rfl rfl)|(exact yU rfl rfl rfl rfl)|(exact q_lss rfl rfl)|(exact q_eql rfl rfl)|(exact yAb rfl rfl)
    |(apply q_ix_osl0;(iterate 4 exact rfl);(first | (with_reducible exact rfl) | exact natI_spec rfl | assumption | exact (Int.toNat_of_nonneg (by omega)).symm);(first | omega | (focus (simp only [List.length_map];omega)) | (focus (simp;done)) | (focus (simp;omega))))))
    |(apply W.ln;(first
    |(apply l_st_box;(iterate 6 exact rfl);(iterate 3 kernel_rfl))
    |(apply l_st_rpt;(iterate 7 exact rfl);exact fun _ => rfl;(first | omega | (focus (simp only [List.length_map];omega)) | (focus (simp;omega))))))|(apply yA)|(apply yB)|(apply yC;kernel_rfl)|(apply yE)|(apply yG)|(apply yI)|(apply yJ)|(apply yK)|(apply yL)|(apply yM)|(apply yO;exact rfl)|(apply yQ;exact rfl)
    |(refine W.cond _ rfl (fun hb => ?_) (fun hb => ?_) <;> ((try simp only [hb,zK]) <;> (try simp only [zL,zI] at hb) <;> (try (exfalso;omega))))))
   all_goals first
    |(exfalso;omega)|(refine Ends.cell2K [0] rfl rfl rfl rfl rfl rfl rfl ?_;exact frz_repK1 rfl (by rw [List.length_set];exact hSl.symm))
  ·rw [hL] at f1 ⊢
   rw [if_neg (by decide),if_pos rfl]
   obtain ⟨c1,c2⟩ := C
   (repeat' (first
    |(apply W.qd;(first
    |(exact zW (f1))|(exact zW (f2))|(exact zM)|(exact zN)|(exact yS rfl rfl rfl)|(exact yU rfl rfl rfl rfl)|(exact q_lss rfl rfl)|(exact q_eql rfl rfl)
    |(exact yAb rfl rfl)))|(apply W.ln;(apply l_st_box;(iterate 6 exact rfl);(iterate 3 kernel_rfl)))|(apply yA)|(apply yB)|(apply yC;kernel_rfl)|(apply yE)|(apply yG)|(apply yH)|(apply yI)|(apply yJ)|(apply yK)|(apply yM)|(apply yO;exact rfl)|(apply yQ;exact rfl)|(apply yR;exact rfl)
    |(refine W.cond _ rfl (fun hb => ?_) (fun hb => ?_) <;> ((try simp only [hb,zK]) <;> (try simp only [zL,zI] at hb) <;> (try (exfalso;omega))))))
   all_goals first
    |(exfalso;omega)|(refine Ends.cell2K [0] rfl rfl rfl rfl rfl rfl rfl ?_;exact frz_repK1 rfl hSl.symm)
  ·rw [hL] at f1 ⊢
   rw [if_neg (by decide),if_neg (by decide),if_pos rfl]
   (repeat' (first
    |(apply W.qd;(first
    |(exact zW (f1))|(exact zM)|(exact zN)|(exact yS rfl rfl rfl)|(exact yU rfl rfl rfl rfl)|(exact q_lss rfl rfl)|(exact q_eql rfl rfl)
    |(exact yAb rfl rfl)))|(apply W.ln;(apply l_st_box;(iterate 6 exact rfl);(iterate 3 kernel_rfl)))|(apply yA)|(apply yB)|(apply yC;kernel_rfl)|(apply yE)|(apply yG)|(apply yH)|(apply yI)|(apply yJ)|(apply yK)|(apply yM)|(apply yO;exact rfl)|(apply yQ;exact rfl)|(apply yR;exact rfl)
    |(refine W.cond _ rfl (fun hb => ?_) (fun hb => ?_) <;> ((try simp only [hb,zK]) <;> (try simp only [zL,zI] at hb) <;> (try (exfalso;omega))))))
   all_goals first
    |(exfalso;omega)|(refine Ends.cell2K [0] rfl rfl rfl rfl rfl rfl rfl ?_;exact frz_repK2 rfl hSl.symm rfl (by rw [List.length_replicate]))
  ·rw [hL] at f1 ⊢
   rw [if_neg (by decide),if_neg (by decide),if_neg (by decide)]
   (repeat' (first
    |(apply W.qd;(first
    |(exact zW (f1))|(exact zM)|(exact zN)|(exact yS rfl rfl rfl)|(exact yU rfl rfl rfl rfl)|(exact q_lss rfl rfl)|(exact q_eql rfl rfl)
    |(exact yAb rfl rfl)))|(apply W.ln;(apply l_st_box;(iterate 6 exact rfl);(iterate 3 kernel_rfl)))|(apply yA)|(apply yB)|(apply (W.regionS 23);exact rfl;kernel_rfl)|(apply yE)|(apply yG)|(apply yH)|(apply yI)|(apply yK)|(apply yM)|(apply yO;exact rfl)|(apply yR;exact rfl)
    |(refine W.cond _ rfl (fun hb => ?_) (fun hb => ?_) <;> ((try simp only [hb,zK]) <;> (try simp only [zL,zI] at hb) <;> (try (exfalso;omega))))))
   all_goals try (exfalso;omega)
   refine AWP.loopW (α := Nat) (fun j => j ≤ k) (fun j => ⟨[(121,iV j),(120,iV k),(13,.opt 6 0),(14,strs U),(15,bools H),(5,.opt 1 0),(10,.opt 3 0)],[.row v 1 9 (ss.map sD),.box [.d .any,iV M,iV D,rowsN ps,.d .any],.box [iV g.1,iV g.2],.box [iV 0,.d (.v (.slice none 0 0)),.d (.v (.slice none 0 0)),iV 0],.row 0 1 3 (S.map iD),.row 0 1 9 ((fil fR [] k j).map sD),.box [iV 3,.osl 4 0 0 k,.osl 5 0 0 k,iV (-1)]]⟩) (fun j => k - j) 0 (Nat.zero_le _) ?wkB fun j hj => ?_
   case wkB =>
    rw [fil_zero]
    exact ⟨[0,1,2,3,4,5,6],rfl,rfl,rfl,by (repeat (first | exact trivial | refine ⟨rfl,?_⟩))⟩
   by_cases hjl : j < k
   ·obtain ⟨e, hre⟩ := hrec j hjl
    have s1 := fil_set (f := fR) (z := []) hjl
    have l1 := fil_len (f := fR) (z := []) (n := k) j
    clear f1 f2 hrec
    generalize fR j = x at *
    generalize fil fR [] k j = R1 at *
    (repeat' (first
     |(apply W.qd;(first
     |(exact zW (hre))|(exact zM)|(exact zN)|(exact yS rfl rfl rfl)|(exact yT rfl rfl rfl rfl)|(exact yU rfl rfl rfl rfl)|(exact q_lss rfl rfl)|(exact q_add rfl rfl (by omega))|(exact yAb rfl rfl)
     |(apply q_ix_osl0;(iterate 4 exact rfl);(first | (with_reducible exact rfl) | exact natI_spec rfl | assumption | exact (Int.toNat_of_nonneg (by omega)).symm);(first | omega | (focus (simp only [List.length_map];omega)) | (focus (simp;done)) | (focus (simp;omega))))))|(apply W.ln;(apply l_st_rpt;(iterate 7 exact rfl);exact fun _ => rfl;(first | omega | (focus (simp only [List.length_map];omega)) | (focus (simp;omega)))))|(apply yA)|(apply yB)|(apply yC;kernel_rfl)|(apply yD;exact rfl;kernel_rfl)|(apply yE)|(apply yF;kernel_rfl)|(apply yG)|(apply yH)|(apply yL)
     |(refine W.cond _ rfl (fun hb => ?_) (fun hb => ?_) <;> ((try simp only [hb,zK]) <;> (try simp only [zL,zI] at hb) <;> (try (exfalso;omega))))))
    all_goals first
     |(exfalso;omega)|(refine ⟨j + 1,by omega,by omega,?_⟩;(try dsimp only);rw [← s1];exact ⟨[0,1,2,3,4,5,6],rfl,rfl,rfl,iV_eq (by omega),rfl,rfl,rfl,rfl,rfl,rfl,trivial⟩)
   ·obtain rfl : j = k := by omega
    rw [fil_all]
    (repeat' (first
     |(apply W.qd;(first
     |(exact zN)|(exact yU rfl rfl rfl rfl)
     |(exact q_lss rfl rfl)))|(apply W.ln;(apply l_st_box;(iterate 6 exact rfl);(iterate 3 kernel_rfl)))|(apply yA)|(apply yB)|(apply yC;kernel_rfl)|(apply yE)|(apply yI)|(apply yJ)|(apply yK)|(apply yM)
     |(refine W.cond _ rfl (fun hb => ?_) (fun hb => ?_) <;> ((try simp only [hb,zK]) <;> (try simp only [zL,zI] at hb) <;> (try (exfalso;omega))))))
    all_goals first
     |(exfalso;omega)|(refine Ends.cell2K [0] rfl rfl rfl rfl rfl rfl rfl ?_;exact frz_repK2 rfl hSl.symm rfl (by simp))
theorem A_fixesR {M D : Nat} {ps : List (List Nat)} {at' : List Pl} {g : Gn} {ss : List (List Nat)} {rd : List Bool} {v : Nat} (h : CodeOk M D ps) (ha : at'.length = D + ps.length) (hs : ss.length = D + ps.length) (hr : rd.length = D + ps.length) (hsb : ∀ s ∈ ss,isB s ∧ s.length ≤ 9223372036854775807) : ACalls Tryz.prog 40 [cdN M D ps,pcs at',gnA g,.osl 0 v 0 ss.length,bools rd] [.row v 1 9 (ss.map sD)] (.tup [fxs (fixN at' g (rpN M D ps at' g ss rd)).1,iV (fixN at' g (rpN M D ps at' g ss rd)).2]) [.row v 1 9 (ss.map sD)] := by
 refine acalls_of_bodyO Tryz.func40 rfl (zU rfl) ?_
 have h1 := h.d
 have h2 := h.w
 have hc := A_checkR (v := v) (g := g) h ha hs hr hsb
 have hcs := rpN_cases (at' := at') (g := g) (rd := rd) h (fun s hx => (hsb s hx).1)
 generalize rpN M D ps at' g ss rd = r at *
 obtain ⟨f,S,U,s⟩ := r
 generalize hn : D + ps.length = n at *
 unfold fixN
 dsimp only at hcs
 dsimp only [rpA] at hc
 rcases hcs with rfl | rfl | ⟨rfl,hS,hU,h32⟩
 ·rw [if_pos rfl]
  (repeat' (first
   |(apply W.qd;(first
   |(exact zM)|(exact zN)|(exact yS rfl rfl rfl)|(exact yT rfl rfl rfl rfl)|(exact yU rfl rfl rfl rfl)|(exact q_eql rfl rfl)|(exact q_neq rfl rfl)
   |(exact yAb rfl rfl)))
   |(apply W.ed;(first
   |(apply (e_callJ (js := [0]) (hc));(iterate 5 exact rfl);kernel_rfl;kernel_rfl)|(apply yBb;(iterate 3 exact rfl);kernel_rfl;kernel_rfl)
   |(apply yCb;(iterate 3 exact rfl);kernel_rfl)))|(apply W.ln;(apply l_st_box;(iterate 6 exact rfl);(iterate 3 kernel_rfl)))|(apply yA)|(apply yB)|(apply yC;kernel_rfl)|(apply yE)|(apply yG)|(apply yJ)|(apply yP)|(apply yN)|(apply yQ;exact rfl)
   |(apply yR;exact rfl)))
  all_goals first
   |(exfalso;omega)
   |exact ⟨.inl rfl,[0],[.d (.v (.slice none 0 0)),iV 13],rfl,rfl,⟨rfl,rfl,trivial⟩,AVle.tup ⟨AVle.nil 2,AVle.of_eq rfl,trivial⟩,rfl⟩
 ·rw [if_neg (by simp), if_pos rfl]
  (repeat' (first
   |(apply W.qd;(first
   |(exact zM)|(exact zN)|(exact yS rfl rfl rfl)|(exact yT rfl rfl rfl rfl)|(exact yU rfl rfl rfl rfl)|(exact q_eql rfl rfl)|(exact q_neq rfl rfl)
   |(exact yAb rfl rfl)))
   |(apply W.ed;(first
   |(apply (e_callJ (js := [0]) (hc));(iterate 5 exact rfl);kernel_rfl;kernel_rfl)|(apply yBb;(iterate 3 exact rfl);kernel_rfl;kernel_rfl)
   |(apply yCb;(iterate 3 exact rfl);kernel_rfl)))|(apply W.ln;(apply l_st_box;(iterate 6 exact rfl);(iterate 3 kernel_rfl)))|(apply yA)|(apply yB)|(apply yC;kernel_rfl)|(apply yE)|(apply yG)|(apply yJ)|(apply yP)|(apply yN)|(apply yQ;exact rfl)
   |(apply yR;exact rfl)))
  all_goals first
   |(exfalso;omega)
   |exact ⟨.inl rfl,[0],[.d (.v (.slice none 0 0)),iV 11],rfl,rfl,⟨rfl,rfl,trivial⟩,AVle.tup ⟨AVle.nil 2,AVle.of_eq rfl,trivial⟩,rfl⟩
 ·rw [if_neg (by simp), if_neg (by simp)]
  dsimp only
  have hmS : (S.map iD).length = S.length := List.length_map _
  have hmU : (U.map sD).length = U.length := List.length_map _
  (repeat' (first
   |(apply W.qd;(first
   |((apply q_makeBd;exact Eq.refl [AV.agg [pcs at',iV g.1,iV g.2]]))
   |((apply q_as;exact Eq.refl (AV.bd _ _)))|(exact zM)|(exact zN)|(exact yS rfl rfl rfl)|(exact yT rfl rfl rfl rfl)|(exact yU rfl rfl rfl rfl)|(exact q_eql rfl rfl)|(exact q_neq rfl rfl)|(exact yAb rfl rfl)
   |(apply yZ;exact rfl;exact rfl;kernel_rfl)))
   |(apply W.ed;(first
   |(apply (e_callJ (js := [0]) (hc));(iterate 5 exact rfl);kernel_rfl;kernel_rfl)|(apply yBb;(iterate 3 exact rfl);kernel_rfl;kernel_rfl)
   |(apply yCb;(iterate 3 exact rfl);kernel_rfl)))|(apply W.ln;(apply l_st_box;(iterate 6 exact rfl);(iterate 3 kernel_rfl)))|(apply yA)|(apply yB)|(apply (W.regionS 10);exact rfl;kernel_rfl)|(apply yE)|(apply yG)|(apply yH)|(apply yL)
   |(apply yR;exact rfl)))
  all_goals try (exfalso;omega)
  refine AWP.nilRow 15 2 107 rfl (by omega) ?_
  (repeat' (first
   |(apply W.qd;(first
   |(exact zM)|(exact yS rfl rfl rfl)|(exact yT rfl rfl rfl rfl)
   |(exact yV rfl rfl)))|(apply yB)|(apply (W.regionS 11);exact rfl;kernel_rfl)|(apply yE)
   |(apply yG)))
  refine AWP.loopW (α := Nat) (fun k => k ≤ n ∧ fixB at' g S k = true) (fun k => ⟨[(48,iV k),(47,iV n),(46,ints S),(12,.opt 3 0),(14,.bd 93 [.agg [pcs at',iV g.1,iV g.2]]),(15,.osl 4 (fixL at' g (1,S,U,s) k).length 0 (fixL at' g (1,S,U,s) k).length)],[.row v 1 9 (ss.map sD),.box [.d .any,iV M,iV D,rowsN ps,.d .any],.box [iV g.1,iV g.2],.box [iV 1,ints S,strs U,iV s],.row (fixL at' g (1,S,U,s) k).length 2 107 ((fixL at' g (1,S,U,s) k).map fxD)]⟩) (fun k => n - k) 0 ⟨Nat.zero_le _,rfl⟩ ?wkA fun k hk => ?_
  case wkA =>
   exact ⟨[0,1,2,3,4],rfl,rfl,rfl,rfl,iV_eq (by omega),rfl,rfl,rfl,rfl,trivial⟩
  obtain ⟨hk,hfb⟩ := hk
  have hfl := fixL_len (at' := at') (g := g) (r := (1,S,U,s)) (k := k)
  by_cases hkl : k < n
  ·have hka : k < at'.length := by omega
   have hkS : k < S.length := by omega
   have hkU : k < U.length := by omega
   have e1 : S.getD k 0 = S[k] := by rw [List.getD_eq_getElem?_getD,List.getElem?_eq_getElem hkS];rfl
   have e2 : U.getD k [] = U[k] := by rw [List.getD_eq_getElem?_getD,List.getElem?_eq_getElem hkU];rfl
   have e3 : at'.getD k pz0 = at'[k] := by rw [List.getD_eq_getElem?_getD,List.getElem?_eq_getElem hka];rfl
   have hL := fixL_succ (at' := at') (g := g) (r := (1,S,U,s)) (k := k)
   have hB := fixB_succ (at' := at') (g := g) (st := S) (k := k)
   have hm := fixB_mono (at' := at') (g := g) (st := S) (i := k + 1)
   have hu := h32 _ (List.getElem_mem hkU)
   have hcb := A_bseal (g := g) hka (by omega) hu.1 hu.2
   dsimp only at hL
   rw [e1,e2,e3] at hL
   rw [e1,e3,hfb,Bool.true_and] at hB
   by_cases hs1 : S[k] = 1
   ·rw [if_pos hs1, List.append_nil] at hL
    rw [decide_eq_true hs1,Bool.true_or] at hB
    clear hcb hc
    generalize fixL at' g (1,S,U,s) k = A at *
    (repeat' (first
     |(apply W.qd;(first
     |(exact zM)|(exact zN)|(exact q_lss rfl rfl)|(exact q_eql rfl rfl)|(exact q_add rfl rfl (by omega))|(apply yX;(iterate 3 exact rfl);(first | omega | (focus (simp;done))))
     |(apply yGb;(iterate 4 exact rfl);(first | (with_reducible exact rfl) | exact natI_spec rfl | assumption | exact (Int.toNat_of_nonneg (by omega)).symm);(first | omega | (focus (simp only [List.length_map];omega)) | (focus (simp;done)) | (focus (simp;omega))))))|(apply yA)|(apply yB)|(apply yC;kernel_rfl)|(apply yE)|(apply yG)|(apply yH)|(apply yI)|(apply yK)|(apply yM)
     |(refine W.cond _ rfl (fun hb => ?_) (fun hb => ?_) <;> ((try simp only [hb,zK]) <;> (try simp only [zL,zI] at hb) <;> (try (exfalso;omega))))))
    all_goals first
     |(exfalso;omega)|(refine ⟨k + 1,⟨by omega,hB⟩,by omega,?_⟩;rw [hL];exact ⟨[0,1,2,3,4],rfl,rfl,rfl,iV_eq (by omega),rfl,rfl,rfl,rfl,rfl,trivial⟩)
   ·rw [if_neg hs1] at hL
    rw [decide_eq_false hs1,Bool.false_or] at hB
    by_cases hpg : plB at'[k] = true ∧ gnB g = true
    ·have e4 : sealN at'[k] g U[k] = (sealL at'[k] g U[k], 0) := if_pos ⟨hpg.1, hpg.2, by omega⟩
     rw [e4] at hcb
     rw [hpg.1,hpg.2] at hB
     have el : (fixL at' g (1,S,U,s) k ++ [(k,sealL at'[k] g U[k])]).length = (fixL at' g (1,S,U,s) k).length + 1 := by simp
     clear hc e4
     generalize sealL at'[k] g U[k] = x at *
     generalize fixL at' g (1,S,U,s) k = A at *
     (repeat' (first
      |(apply W.qd;(first
      |((apply q_mv;exact Eq.refl (AV.bd _ _)))
      |((apply q_callBd hcb;(iterate 4 exact rfl);kernel_rfl))|(exact zM)|(exact zN)|(exact yS rfl rfl rfl)|(exact yT rfl rfl rfl rfl)|(exact q_lss rfl rfl)|(exact q_eql rfl rfl)|(exact q_neq rfl rfl)|(exact q_add rfl rfl (by omega))|(exact yAb rfl rfl)|(apply yX;(iterate 3 exact rfl);(first | omega | (focus (simp;done))))|(apply yZ;exact rfl;exact rfl;kernel_rfl)|(apply q_litF;(iterate 5 exact rfl);kernel_rfl;kernel_rfl;exact rfl)
      |(apply yGb;(iterate 4 exact rfl);(first | (with_reducible exact rfl) | exact natI_spec rfl | assumption | exact (Int.toNat_of_nonneg (by omega)).symm);(first | omega | (focus (simp only [List.length_map];omega)) | (focus (simp;done)) | (focus (simp;omega))))))|(apply W.ed;((apply (e_app1F (f := fxD) ((k,x) : Fx));(iterate 8 exact rfl);omega)))|(apply yA)|(apply yB)|(apply yC;kernel_rfl)|(apply yE)|(apply yG)|(apply yH)|(apply yL)|(apply yR;exact rfl)
      |(refine W.cond _ rfl (fun hb => ?_) (fun hb => ?_) <;> ((try simp only [hb,zK]) <;> (try simp only [zL,zI] at hb) <;> (try (exfalso;omega))))))
     all_goals first
      |(exfalso;omega)|(refine ⟨k + 1,⟨by omega,hB⟩,by omega,?_⟩;rw [hL,el];exact ⟨[0,1,2,3,4],rfl,rfl,rfl,iV_eq (by omega),rfl,rfl,rfl,rfl,congrArg (AV.osl 4 (A.length + 1) 0) (by simp),trivial⟩)
    ·have e4 : sealN at'[k] g U[k] = ([], 1) := if_neg (fun hh => hpg ⟨hh.1, hh.2.1⟩)
     rw [e4] at hcb
     have hB' : fixB at' g S (k + 1) = false := by
      rw [hB]
      cases hp : plB at'[k]
      ·rfl
      ·cases hg : gnB g
       ·rfl
       ·exact absurd ⟨hp,hg⟩ hpg
     have hf := hm hB' S.length (by omega)
     rw [if_neg (by rw [hf];decide)]
     clear hc e4 hm hL hB hB' hf
     generalize fixL at' g (1,S,U,s) k = A at *
     (repeat' (first
      |(apply W.qd;(first
      |((apply q_mv;exact Eq.refl (AV.bd _ _)))
      |((apply q_callBd hcb;(iterate 4 exact rfl);kernel_rfl))|(exact zM)|(exact zN)|(exact yS rfl rfl rfl)|(exact yT rfl rfl rfl rfl)|(exact q_lss rfl rfl)|(exact q_eql rfl rfl)|(exact q_neq rfl rfl)|(exact yAb rfl rfl)|(apply yX;(iterate 3 exact rfl);(first | omega | (focus (simp;done))))
      |(apply yGb;(iterate 4 exact rfl);(first | (with_reducible exact rfl) | exact natI_spec rfl | assumption | exact (Int.toNat_of_nonneg (by omega)).symm);(first | omega | (focus (simp only [List.length_map];omega)) | (focus (simp;done)) | (focus (simp;omega))))))|(apply yA)|(apply yB)|(apply yC;kernel_rfl)|(apply yE)|(apply yG)|(apply yH)|(apply yJ)|(apply yP)|(apply yN)|(apply yQ;exact rfl)
      |(refine W.cond _ rfl (fun hb => ?_) (fun hb => ?_) <;> ((try simp only [hb,zK]) <;> (try simp only [zL,zI] at hb) <;> (try (exfalso;omega))))))
     all_goals first
      |(exfalso;omega)
      |exact ⟨.inl rfl,[0],[.d (.v (.slice none 0 0)),iV 1],rfl,rfl,⟨rfl,rfl,trivial⟩,AVle.tup ⟨AVle.nil 2,AVle.of_eq rfl,trivial⟩,rfl⟩
  ·obtain rfl : k = n := by omega
   rw [hS,if_pos hfb]
   clear hc
   generalize fixL at' g (1,S,U,s) k = A at *
   (repeat' (first
    |(apply W.qd;(first
    |(exact zM)|(exact zN)
    |(exact q_lss rfl rfl)))|(apply yA)|(apply yB)|(apply yC;kernel_rfl)|(apply yE)|(apply yI)|(apply yJ)|(apply yK)|(apply yM)
    |(refine W.cond _ rfl (fun hb => ?_) (fun hb => ?_) <;> ((try simp only [hb,zK]) <;> (try simp only [zL,zI] at hb) <;> (try (exfalso;omega))))))
   all_goals first
    |(exfalso;omega)
    |exact ⟨.inl rfl,[0],[.osl 4 A.length 0 A.length,iV 0],rfl,rfl,⟨rfl,rfl,trivial⟩,AVle.of_eq (by show AV.tup [AV.frz _ [0] (.osl 4 A.length 0 A.length),iV 0] = _;rw [frz_rowJ rfl rfl (by simp)]),rfl⟩
end
section
abbrev C40 : AV := cdX (.string ⟨#[112,97,114]⟩) (.int .i64 3) 8 2 [[1,1]]
attribute [local irreducible] Quiet Eff OpOk AWPG ACont ABlock ACalls AGoto
theorem A_sanity40 : ACalls Tryz.prog 34 [] [] (bV true) [] := by
 refine acalls_of_bodyO Tryz.func34 rfl (zU rfl) ?_
 have hle : ∀ (own : List Ent) (l : List AV),∀ F κ w vs,AV.satL F own κ w (C40 :: l) vs → AV.satL F own κ w (cdN 8 2 [[1,1]] :: l) vs := fun own l F κ w vs => satL_le1 (fun F own κ w u => cdX_le rfl rfl) F own κ w vs
 have r1 := A_rep97
 have r2 := A_rep98
 have r3 := A_rep3
 have hsl := A_lsealOk (at' := p40) (g := g40) (us := [u40 97,u40 98,u40 3]) rfl (by decide) (fun u hu => by simp at hu;rcases hu with rfl | rfl | rfl <;> exact ⟨isB_u40 (by decide),by simp [u40]⟩) slB40
 rw [show [u40 97,u40 98,u40 3].length = 3 from rfl,slL40] at hsl
 have hb3 : ∀ {k0 k1 k2 : Int} {b0 b1 b2 : Nat},plB (k0,4,7) = true → plB (k1,4,7) = true → plB (k2,4,7) = true → b0 < 256 → b1 < 256 → b2 < 256 → ∀ s ∈ [s40 k0 b0,s40 k1 b1,s40 k2 b2],isB s ∧ s.length ≤ 9223372036854775807 := fun h0 h1 h2 c0 c1 c2 s hs => by
  simp at hs
  rcases hs with rfl | rfl | rfl
  ·exact ⟨sealL_isB h0 (isB_u40 c0),by rw [sealL_length (by simp [u40])];decide⟩
  ·exact ⟨sealL_isB h1 (isB_u40 c1),by rw [sealL_length (by simp [u40])];decide⟩
  ·exact ⟨sealL_isB h2 (isB_u40 c2),by rw [sealL_length (by simp [u40])];decide⟩
 have hbA := hb3 (k0 := 0) (k1 := 1) (k2 := 2) (b0 := 97) (b1 := 98) (b2 := 3) (by decide) (by decide) (by decide) (by decide) (by decide) (by decide)
 have hbE := hb3 (k0 := 0) (k1 := 1) (k2 := 2) (b0 := 97) (b1 := 97) (b2 := 3) (by decide) (by decide) (by decide) (by decide) (by decide) (by decide)
 have c1 := (A_checkR (v := 3) (at' := p40) (g := g40) (rd := [true,true,true]) ok40 rfl rfl rfl hbA).le (hle _ _)
 rw [rp40a] at c1
 have c2 := (A_checkR (v := 3) (at' := p40) (g := (1,4)) (rd := [true,true,true]) ok40 rfl rfl rfl hbA).le (hle _ _)
 rw [rp40b] at c2
 have c3 := (A_fixesR (v := 3) (at' := p40) (g := g40) (rd := [true,false,true]) ok40 rfl rfl rfl hbA).le (hle _ _)
 rw [rp40c,fx40c] at c3
 have c4 := (A_fixesR (v := 3) (at' := p40) (g := g40) (rd := [false,false,true]) ok40 rfl rfl rfl hbA).le (hle _ _)
 rw [rp40d,fx40d] at c4
 have c5 := (A_checkR (v := 3) (at' := p40) (g := g40) (rd := [true,true,true]) ok40 rfl rfl rfl hbE).le (hle _ _)
 rw [rp40e] at c5
 have hs1 := A_rseal (p := (1,4,7)) (g := g40) (u := u40 97) (isB_u40 (by decide)) (by simp [u40])
 rw [seal40 (by decide)] at hs1
 have c6 := ((A_checkBR (v := 3) (M := 8) (D := 2) (par := [[1,1]]) (at' := []) (g := g40) (ss := [s40 0 97,s40 1 97,s40 2 3]) (rd := [true,true,true]) (code_in ok40) rfl (by decide) (by decide)).le (hle _ _)).le (args' := [C40,.d (.v (.slice none 0 0)),gnA g40,.osl 0 3 0 3,bools [true,true,true]]) fun F κ w vs hs => AVleL.sat (xs := [C40,.d (.v (.slice none 0 0)),gnA g40,.osl 0 3 0 3,bools [true,true,true]]) (ys := [C40,pcs [],gnA g40,.osl 0 3 0 3,bools [true,true,true]]) ⟨AVle.refl _,AVle.nil 3,AVle.refl _,AVle.refl _,AVle.refl _,trivial⟩ F _ κ w vs hs
 dsimp only [rpA] at c1 c2 c3 c4 c5 c6 hs1
 have l64 : (s40 1 98).length = 64 := sealL_length (by simp [u40])
 clear hb3 hbA hbE hle
 generalize s40 0 97 = x0 at *
 generalize s40 1 98 = x1 at *
 generalize s40 2 3 = x2 at *
 generalize s40 1 97 = x3 at *
 have i1 := A_same_ints (a := [1,1,1]) (b := [1,1,1]) (by decide) (by decide)
 rw [decide_eq_true rfl] at i1
 have i2 := A_same_ints (a := [3,3,3]) (b := [3,3,3]) (by decide) (by decide)
 rw [decide_eq_true rfl] at i2
 (repeat' (first
  |(apply W.qd;(first
  |(exact zW (r1))|(exact zW (r2))|(exact zW (r3))|(exact zM)|(exact zN)|(exact yU rfl rfl rfl rfl)|(exact yAb rfl rfl)|(apply yZ;exact rfl;exact rfl;kernel_rfl)
  |(apply q_litF;(iterate 5 exact rfl);kernel_rfl;kernel_rfl;exact rfl)))
  |(apply W.ed;(first
  |(apply (e_callJ (js := []) (hsl));(iterate 5 exact rfl);kernel_rfl;kernel_rfl)
  |(apply yCb;(iterate 3 exact rfl);kernel_rfl)))|(apply W.ln;(apply l_st_box;(iterate 6 exact rfl);(iterate 3 kernel_rfl)))|(apply yA)|(apply yB)|(apply (W.regionS 6);exact rfl;kernel_rfl)
  |(apply yE)))
 all_goals try (exfalso;omega)
 refine AWP.wk ⟨[(1,.opt 0 0),(2,bS (u40 97)),(3,bS (u40 98)),(4,bS (u40 3)),(5,pcs p40),(6,.opt 1 0),(7,.osl 2 3 0 3),(8,bV true)],[.box [.d (.v (.string ⟨#[112,97,114]⟩)),iV 8,iV 2,rowsN [[1,1]],.d (.v (.int .i64 3))],.box [iV 1,iV 5],.row 3 1 9 ([x0,x1,x2].map sD)]⟩ ⟨[0,1,2],rfl,rfl,rfl,by (repeat (first | exact trivial | refine ⟨rfl,?_⟩))⟩ ?_
 (repeat' (first
  |(apply W.qd;(first
  |(exact zM)|(exact zN)|(exact yU rfl rfl rfl rfl)|(exact q_not rfl)|(exact yAb rfl rfl)|(apply yZ;exact rfl;exact rfl;kernel_rfl)
  |(apply q_litF;(iterate 5 exact rfl);kernel_rfl;kernel_rfl;exact rfl)))
  |(apply W.ed;(first
  |(apply (e_callJ (js := [2]) (c1));(iterate 5 exact rfl);kernel_rfl;kernel_rfl)|(apply (e_callJ (js := [2]) (c2));(iterate 5 exact rfl);kernel_rfl;kernel_rfl)|(apply (e_callJ (js := [2]) (c3));(iterate 5 exact rfl);kernel_rfl;kernel_rfl)|(apply (e_callJ (js := [2]) (c4));(iterate 5 exact rfl);kernel_rfl;kernel_rfl)
  |(apply yCb;(iterate 3 exact rfl);kernel_rfl)))|(apply W.ln;(apply l_st_box;(iterate 6 exact rfl);(iterate 3 kernel_rfl)))|(apply yA)|(apply yB)|(apply (W.regionS 13);exact rfl;kernel_rfl)|(apply yE)|(apply yH)
  |(apply yR;exact rfl)))
 all_goals try (exfalso;omega)
 refine AWP.wk ⟨[(1,.opt 0 0),(2,bS (u40 97)),(5,pcs p40),(6,.opt 1 0),(7,.osl 2 3 0 3),(9,bools [true,true,true]),(10,.opt 3 0),(11,iV 0),(12,.opt 4 0),(13,iV 0),(14,fxs [(1,x1)]),(15,iV 0),(17,iV 11)],[.box [.d (.v (.string ⟨#[112,97,114]⟩)),iV 8,iV 2,rowsN [[1,1]],.d (.v (.int .i64 3))],.box [iV 1,iV 5],.row 3 1 9 ([x0,x1,x2].map sD),.box [iV 1,ints [1,1,1],strs [u40 97,u40 98,u40 3],iV (-1)],.box [iV 3,ints [3,3,3],strs [[],[],[]],iV (-1)]]⟩ ⟨[0,1,2,3,4],rfl,rfl,rfl,by (repeat (first | exact trivial | refine ⟨rfl,?_⟩))⟩ ?_
 (repeat' (first
  |(apply yFb;exact rfl;exact rfl)
  |(apply W.qd;(first
  |(exact zW (hs1))|(exact zW (i1))|(exact zW (i2))
  |((apply yY;(iterate 3 exact rfl);exact Nat.le_of_ble_eq_true rfl))
  |((apply yX;(iterate 3 exact rfl);exact Nat.le_of_ble_eq_true rfl))
  |((apply (yGb (j := 1));(iterate 5 exact rfl);exact Nat.le_of_ble_eq_true rfl))
  |((apply (yGb (j := 0));(iterate 5 exact rfl);exact Nat.le_of_ble_eq_true rfl))
  |((apply (q_ix_osl0 (j := 1));(iterate 5 exact rfl);exact Nat.le_of_ble_eq_true rfl))|(exact zM)|(exact zN)|(exact yS rfl rfl rfl)|(exact yT rfl rfl rfl rfl)|(exact yU rfl rfl rfl rfl)|(exact q_eql rfl rfl)|(exact yAb rfl rfl)|(exact yV rfl rfl)|(exact q_len_bs rfl rfl)|(apply q_fld_fptF;(iterate 3 exact rfl))|(apply q_litF;(iterate 5 exact rfl);kernel_rfl;kernel_rfl;exact rfl)|(apply (yEb (u := .d _));exact rfl;exact rfl)
  |(apply (yDb (u := .d _));exact rfl;exact rfl)))
  |(apply W.ed;(first
  |(apply (e_callJ (js := [2]) (c5));(iterate 5 exact rfl);kernel_rfl;kernel_rfl)|(apply (e_callJ (js := [2]) (c6));(iterate 5 exact rfl);kernel_rfl;kernel_rfl)
  |(apply yCb;(iterate 3 exact rfl);kernel_rfl)))|(apply W.ln;(apply l_st_box;(iterate 6 exact rfl);(iterate 3 kernel_rfl)))|(apply W.en;((apply (e_st_rptm x3);(iterate 7 exact rfl);exact fun _ => rfl;exact Nat.le_of_ble_eq_true rfl)))|(refine W.gOff _ _ rfl rfl (by intro h;cases h) ?_)|(apply yA)|(apply yB)|(apply yC;kernel_rfl)|(apply yD;exact rfl;kernel_rfl)|(apply yE)|(apply yF;kernel_rfl)|(apply yJ)
  |(refine W.gT _ _ rfl rfl (fun hb => ?_) (fun hb => ?_) <;> ((try simp only [hb,zK]) <;> (try simp only [zL,zI] at hb) <;> (try (exfalso;omega))))))
 all_goals first
  |(exfalso;exact hb (by show (x1.length : Int) = 64;rw [l64];rfl))
  |(exfalso;omega)
  |exact ⟨.inl rfl,[],[bV true],rfl,rfl,⟨rfl,trivial⟩,AVle.of_eq rfl,rfl⟩
end
section
theorem repl_map (n : Nat) : (List.range n).map (fun _ => true) = List.replicate n true := by
 apply List.ext_getElem (by simp)
 intro i h1 h2
 simp
attribute [local irreducible] Quiet Eff OpOk AWPG ACont ABlock ACalls AGoto
theorem A_lsealBad {at' : List Pl} {g : Gn} {us : List (List Nat)} (hal : at'.length ≤ 9223372036854775807) (hul : us.length ≤ 1000000) (hub : ∀ u ∈ us,isB u ∧ u.length ≤ 9223372036854775807) (hB : at'.length ≠ us.length ∨ slB at' g us us.length = false) : ACalls Tryz.prog 80 [pcs at',gnA g,strs us] [] (.tup [.d (.v (.slice none 0 0)),bV false]) [] := by
 refine acalls_of_body Tryz.func80 rfl (zU rfl) ?_
 have hma : (at'.map pcD).length = at'.length := List.length_map _
 have hmu : (us.map sD).length = us.length := List.length_map _
 by_cases ha : at'.length = us.length
 ·have hB : slB at' g us us.length = false := by rcases hB with h | h; exact absurd ha h; exact h
  have hsu := slL_succ at' g us
  have hbu := slB_succ at' g us
  have hsl := slL_len at' g us
  (repeat' (first
   |(apply W.qd;(first
   |(exact zM)|(exact zN)|(exact q_neq rfl rfl)
   |(exact yV rfl rfl)))|(apply W.ed;(apply yBb;(iterate 3 exact rfl);kernel_rfl;kernel_rfl))|(apply yA)|(apply yB)|(apply (W.regionS 4);exact rfl;kernel_rfl)|(apply yE)|(apply yH)
   |(refine W.cond _ rfl (fun hb => ?_) (fun hb => ?_) <;> ((try simp only [hb,zK]) <;> (try simp only [zL,zI] at hb) <;> (try (exfalso;omega))))))
  all_goals try (exfalso;omega)
  refine AWP.nilRow 8 1 9 rfl (by omega) ?_
  (repeat' (first
   |(apply W.qd;(first
   |(exact zM)
   |(exact yV rfl rfl)))|(apply yB)|(apply (W.regionS 5);exact rfl;kernel_rfl)|(apply yE)
   |(apply yG)))
  refine AWP.loopW (α := Nat) (fun k => k ≤ us.length ∧ slB at' g us k = true) (fun k => ⟨[(20,iV k),(19,iV us.length),(18,strs us),(0,pcs at'),(4,.opt 0 0),(8,.osl 1 k 0 k)],[.box [iV g.1,iV g.2],.row k 1 9 ((slL at' g us k).map sD)]⟩) (fun k => us.length - k) 0 ⟨Nat.zero_le _,rfl⟩ ?wkA fun k hk => ?_
  case wkA =>
   exact ⟨[0,1],rfl,rfl,rfl,rfl,iV_eq (by omega),rfl,rfl,rfl,rfl,trivial⟩
  obtain ⟨hk,hkB⟩ := hk
  by_cases hkl : k < us.length
  ·have hka : k < at'.length := by omega
   have e2 : us.getD k [] = us[k] := by rw [List.getD_eq_getElem?_getD,List.getElem?_eq_getElem hkl];rfl
   have e3 : at'.getD k pz0 = at'[k] := by rw [List.getD_eq_getElem?_getD,List.getElem?_eq_getElem hka];rfl
   have h1 := hbu k
   have h2 := hsu k
   have l1 := hsl k
   rw [e2,e3] at h1 h2
   rw [hkB,Bool.true_and] at h1
   have hu := hub _ (List.getElem_mem hkl)
   have hs := A_rseal (p := at'[k]) (g := g) hu.1 hu.2
   clear hsu hsl hbu
   generalize sealN at'[k] g us[k] = q at *
   obtain ⟨x,y⟩ := q
   dsimp only at h1 h2 hs
   by_cases hgd : y = 0 ∧ us[k].length = 32
   ·rw [decide_eq_true hgd] at h1
    obtain ⟨rfl,h32⟩ := hgd
    generalize slL at' g us k = S1 at *
    have b1 : (S1 ++ [x]).length = k + 1 := by simp [l1]
    (repeat' (first
     |(apply yFb;exact rfl;exact rfl)
     |(apply W.qd;(first
     |(exact zW (hs))|(exact zM)|(exact zN)|(exact yU rfl rfl rfl rfl)|(exact q_lss rfl rfl)|(exact q_neq rfl rfl)|(exact q_add rfl rfl (by omega))|(exact yAb rfl rfl)|(exact q_len_bs rfl rfl)|(apply yX;(iterate 3 exact rfl);(first | omega | (focus (simp;done))))|(apply yY;(iterate 3 exact rfl);(first | omega | (focus (simp;done))))|(apply q_litF;(iterate 5 exact rfl);kernel_rfl;kernel_rfl;exact rfl)|(apply yGb;(iterate 4 exact rfl);(first | (with_reducible exact rfl) | exact natI_spec rfl | assumption | exact (Int.toNat_of_nonneg (by omega)).symm);(first | omega | (focus (simp only [List.length_map];omega)) | (focus (simp;done)) | (focus (simp;omega))))
     |(apply (yDb (u := .d _));exact rfl;exact rfl)))|(apply W.ed;((apply (e_app1F (l := S1) (f := sD) x);exact congrArg (AV.osl 1 k 0) l1.symm;(iterate 7 exact rfl);omega)))|(apply yA)|(apply yB)|(apply yC;kernel_rfl)|(apply yD;exact rfl;kernel_rfl)|(apply yE)|(apply yF;kernel_rfl)|(apply yG)|(apply yH)|(apply yL)
     |(refine W.cond _ rfl (fun hb => ?_) (fun hb => ?_) <;> ((try simp only [hb,zK]) <;> (try simp only [zL,zI] at hb) <;> (try (exfalso;omega))))))
    all_goals first
     |(exfalso;omega)|(refine ⟨k + 1,⟨by omega,h1⟩,by omega,?_⟩;(try dsimp only);rw [h2,b1];exact ⟨[0,1],rfl,rfl,rfl,iV_eq (by omega),rfl,rfl,rfl,rfl,rfl,trivial⟩)
   ·clear h1 h2 l1
    generalize slL at' g us k = S1 at *
    (repeat' (first
     |(apply yFb;exact rfl;exact rfl)
     |(apply W.qd;(first
     |(exact zW (hs))|(exact zM)|(exact zN)|(exact yU rfl rfl rfl rfl)|(exact q_lss rfl rfl)|(exact q_neq rfl rfl)|(exact yAb rfl rfl)|(exact q_len_bs rfl rfl)|(apply yX;(iterate 3 exact rfl);(first | omega | (focus (simp;done))))|(apply yY;(iterate 3 exact rfl);(first | omega | (focus (simp;done))))|(apply yGb;(iterate 4 exact rfl);(first | (with_reducible exact rfl) | exact natI_spec rfl | assumption | exact (Int.toNat_of_nonneg (by omega)).symm);(first | omega | (focus (simp only [List.length_map];omega)) | (focus (simp;done)) | (focus (simp;omega))))|(apply (yEb (u := .d _));exact rfl;exact rfl)
     |(apply (yDb (u := .d _));exact rfl;exact rfl)))|(refine W.gOff _ _ rfl rfl (by intro h;cases h) ?_)|(apply yA)|(apply yB)|(apply yC;kernel_rfl)|(apply yD;exact rfl;kernel_rfl)|(apply yE)|(apply yF;kernel_rfl)|(apply yG)|(apply yH)|(apply yJ)|(apply yP)|(apply yN)|(apply yQ;exact rfl)|(refine W.gF _ _ rfl rfl (fun hb => ?_) (fun hb => ?_) <;> ((try simp only [hb,zK]) <;> (try simp only [zL,zI] at hb) <;> (try (exfalso;omega))))
     |(refine W.cond _ rfl (fun hb => ?_) (fun hb => ?_) <;> ((try simp only [hb,zK]) <;> (try simp only [zL,zI] at hb) <;> (try (exfalso;omega))))))
    all_goals first
     |(exfalso;omega)
     |exact ⟨.inl rfl,[],[.d (.v (.slice none 0 0)),bV false],rfl,⟨rfl,rfl,trivial⟩,AVle.of_eq rfl,rfl⟩
  ·obtain rfl : k = us.length := by omega
   rw [hB] at hkB
   cases hkB
 ·(repeat' (first
  |(apply W.qd;(first
  |(exact zM)|(exact zN)|(exact q_neq rfl rfl)
  |(exact yV rfl rfl)))|(apply W.ed;(apply yBb;(iterate 3 exact rfl);kernel_rfl;kernel_rfl))|(apply yA)|(apply yB)|(apply yC;kernel_rfl)|(apply yE)|(apply yJ)|(apply yP)
  |(refine W.cond _ rfl (fun hb => ?_) (fun hb => ?_) <;> ((try simp only [hb,zK]) <;> (try simp only [zL,zI] at hb) <;> (try (exfalso;omega))))))
  all_goals first
   |(exfalso;omega)
   |exact ⟨.inl rfl,[],[.d (.v (.slice none 0 0)),bV false],rfl,⟨rfl,rfl,trivial⟩,AVle.of_eq rfl,rfl⟩
theorem A_lallD {n : Nat} (hn : n ≤ 1000000) : ACalls Tryz.prog 44 [iV n] [] (bools (List.replicate n true)) [] := by
 refine acalls_of_body Tryz.func44 rfl (zU rfl) ?_
 have hset := fun k (h : k < n) => fil_set (f := fun _ => true) (z := false) h
 have hll := fun k => fil_len (f := fun _ => true) (z := false) (n := n) k
 (repeat' (first
  |(apply W.qd;(first
  |(exact zM)
  |(exact zN)))|(apply W.ed;(apply e_makeF;exact rfl;exact rfl;(first | (with_reducible exact rfl) | exact natI_spec rfl | assumption | exact (Int.toNat_of_nonneg (by omega)).symm);(iterate 6 exact rfl);omega))|(apply yA)|(apply yB)|(apply (W.regionS 2);exact rfl;kernel_rfl)
  |(apply yE)))
 all_goals try (exfalso;omega)
 (repeat' (first
  |(apply W.qd;(first
  |(exact zM)
  |(exact q_len_osl rfl rfl rfl)))|(apply yB)|(apply (W.regionS 3);exact rfl;kernel_rfl)|(apply yE)
  |(apply yG)))
 refine AWP.loopW (α := Nat) (fun k => k ≤ n) (fun k => ⟨[(9,iV k),(8,iV n),(3,.osl 0 0 0 n)],[.row 0 1 4 ((fil (fun _ => true) false n k).map tD)]⟩) (fun k => n - k) 0 (Nat.zero_le _) ?wkA fun k hk => ?_
 case wkA =>
  rw [fil_zero,List.map_replicate,List.map_replicate]
  exact ⟨[0],rfl,rfl,rfl,by (repeat (first | exact trivial | refine ⟨rfl,?_⟩))⟩
 by_cases hkl : k < n
 ·have s1 := hset k hkl
  have l1 := hll k
  clear hset hll
  generalize fil (fun _ => true) false n k = S1 at *
  (repeat' (first
   |(apply W.qd;(first
   |(exact zM)|(exact zN)|(exact q_lss rfl rfl)|(exact q_add rfl rfl (by omega))
   |(apply q_ix_osl0;(iterate 4 exact rfl);(first | (with_reducible exact rfl) | exact natI_spec rfl | assumption | exact (Int.toNat_of_nonneg (by omega)).symm);(first | omega | (focus (simp only [List.length_map];omega)) | (focus (simp;done)) | (focus (simp;omega))))))|(apply W.ln;(apply l_st_rpt;(iterate 7 exact rfl);exact fun _ => rfl;(first | omega | (focus (simp only [List.length_map];omega)) | (focus (simp;omega)))))|(apply yA)|(apply yB)|(apply yC;kernel_rfl)|(apply yE)|(apply yG)|(apply yH)|(apply yL)
   |(refine W.cond _ rfl (fun hb => ?_) (fun hb => ?_) <;> ((try simp only [hb,zK]) <;> (try simp only [zL,zI] at hb) <;> (try (exfalso;omega))))))
  all_goals first
   |(exfalso;omega)|(refine ⟨k + 1,by omega,by omega,?_⟩;(try dsimp only);rw [← s1];exact ⟨[0],rfl,rfl,rfl,iV_eq (by omega),rfl,rfl,trivial⟩)
 ·obtain rfl : k = n := by omega
  rw [fil_all,repl_map]
  (repeat' (first
   |(apply W.qd;(first
   |(exact zM)|(exact zN)
   |(exact q_lss rfl rfl)))|(apply yA)|(apply yB)|(apply yC;kernel_rfl)|(apply yE)|(apply yI)|(apply yJ)|(apply yK)|(apply yM)
   |(refine W.cond _ rfl (fun hb => ?_) (fun hb => ?_) <;> ((try simp only [hb,zK]) <;> (try simp only [zL,zI] at hb) <;> (try (exfalso;omega))))))
  all_goals first
   |(exfalso;omega)
   |exact Ends.osl rfl rfl (by simp) rfl
end
section
theorem getD_repl (n i : Nat) (b : Bool) : (List.replicate n b).getD i false = (decide (i < n) && b) := by
 rw [List.getD_eq_getElem?_getD,List.getElem?_replicate]
 by_cases h : i < n
 ·rw [if_pos h,decide_eq_true h];simp
 ·rw [if_neg h,decide_eq_false h];rfl
theorem slL_get {at' : List Pl} {g : Gn} {W : List (List Nat)} {n k : Nat} (hk : k < n) : (slL at' g W n).getD k [] = (sealN (at'.getD k pz0) g (W.getD k [])).1 := by
 unfold slL
 rw [List.getD_eq_getElem?_getD,List.getElem?_map,List.getElem?_range hk];rfl
theorem isB_getDL {W : List (List Nat)} (h : ∀ u ∈ W,isB u) (k : Nat) : isB (W.getD k []) := by
 rw [List.getD_eq_getElem?_getD]
 cases e : W[k]? with
 | none => exact isB_nil
 | some s => exact h s (List.mem_of_getElem? e)
theorem sta_sealed {at' : List Pl} {g : Gn} {W : List (List Nat)} {n : Nat} (hB : slB at' g W n = true) (hW : ∀ u ∈ W,isB u) : staL at' g (slL at' g W n) (List.replicate n true) n = (List.range n).map fun k => ((1 : Int),W.getD k []) := by
 unfold staL
 apply List.map_congr_left
 intro k hk
 have hk := List.mem_range.1 hk
 obtain ⟨h1,h2⟩ := slB_get hB hk
 obtain ⟨p1,p2,p3,p4⟩ := sealN_ok h1
 rw [slL_get hk,p4,getD_repl,decide_eq_true hk]
 exact seal_state p1 p2 (isB_getDL hW k) p3 h2
theorem stU_sealed {W : List (List Nat)} {n : Nat} (hl : W.length = n) : stU ((List.range n).map fun k => ((1 : Int),W.getD k [])) = W := by
 unfold stU
 rw [List.map_map]
 apply List.ext_getElem (by simp [hl])
 intro i h1 h2
 simp [List.getD_eq_getElem?_getD,List.getElem?_eq_getElem h2]
theorem stS_sealed {W : List (List Nat)} {n : Nat} : stS ((List.range n).map fun k => ((1 : Int),W.getD k [])) = List.replicate n 1 := by
 unfold stS
 rw [List.map_map]
 apply List.ext_getElem (by simp)
 intro i h1 h2
 simp
theorem stH_sealed {W : List (List Nat)} {n : Nat} : stH ((List.range n).map fun k => ((1 : Int),W.getD k [])) = List.replicate n true := by
 unfold stH
 rw [List.map_map]
 apply List.ext_getElem (by simp)
 intro i h1 h2
 simp
theorem dec_repl {M D : Nat} {ps : List (List Nat)} (h : CodeOk M D ps) : decN M D ps (List.replicate (D + ps.length) true) = true := by
 unfold decN
 rw [decide_eq_true (by simp),Bool.true_and,decide_eq_true_eq]
 exact full_of_data h (by simp) fun i hi => by rw [getD_repl,decide_eq_true (by omega)];rfl
theorem rp_all {M D : Nat} {ps ds : List (List Nat)} {at' : List Pl} {g : Gn} {ss : List (List Nat)} {rd : List Bool} (h : CodeOk M D ps) (hd : ds.length = D) (hb : ∀ u ∈ ds,isB u ∧ u.length = 32) (hS : staL at' g ss rd (D + ps.length) = (List.range (D + ps.length)).map fun k => ((1 : Int),(encN M ps ds).getD k [])) : rpN M D ps at' g ss rd = (1,List.replicate (D + ps.length) 1,encN M ps ds,-1) := by
 have hWl : (encN M ps ds).length = D + ps.length := by rw [encN_length,hd]
 have hl : (List.replicate (D + ps.length) true).length = D + ps.length := by simp
 have hdec := dec_repl h
 have hc := con_enc h hd hb hl hdec (us := encN M ps ds) (fun i _ => rfl)
 have hw := wrd_enc h hd hb hl hdec (us := encN M ps ds) (fun i _ => rfl)
 have ha := con_all hc
 unfold rpN
 rw [hS,stU_sealed hWl,stS_sealed,stH_sealed]
 unfold repU
 have hL : locN M D ps (encN M ps ds) (List.replicate (D + ps.length) true) = (0,12) := by
  rw [locN_eq,if_neg (by rw [ha];decide),if_pos hc]
 have hC : corN M D ps (encN M ps ds) (List.replicate (D + ps.length) true) = (encN M ps ds,0) := by
  rw [corN_eq,if_neg (by rw [ha];decide),if_pos hc,hw]
 rw [hL,hC,if_neg (by decide),if_pos rfl]
theorem rp_clean {M D : Nat} {ps ds : List (List Nat)} {at' : List Pl} {g : Gn} (h : CodeOk M D ps) (hd : ds.length = D) (hb : ∀ u ∈ ds,isB u ∧ u.length = 32) (hB : slB at' g (encN M ps ds) (D + ps.length) = true) : rpN M D ps at' g (slL at' g (encN M ps ds) (D + ps.length)) (List.replicate (D + ps.length) true) = (1,List.replicate (D + ps.length) 1,encN M ps ds,-1) :=
 rp_all h hd hb (sta_sealed hB fun u hu => (encN_ok h hd hb (fit32 h.f) u hu).1)
theorem fx_clean {at' : List Pl} {g : Gn} {n : Nat} {W : List (List Nat)} {s : Int} : fixN at' g (1,List.replicate n 1,W,s) = ([],0) := by
 have hT : ∀ k,k ≤ n → fixT (List.replicate n 1) k = [] := fun k hk => by
  unfold fixT
  rw [List.filter_eq_nil_iff]
  intro j hj
  have hj := List.mem_range.1 hj
  rw [List.getD_eq_getElem?_getD,List.getElem?_replicate,if_pos (by omega)]
  simp
 have h1 := hT n (Nat.le_refl _)
 unfold fixN
 rw [if_neg (by simp),if_neg (by simp)]
 dsimp only
 rw [List.length_replicate]
 have h2 : fixB at' g (List.replicate n 1) n = true := by unfold fixB;rw [h1];rfl
 have h3 : fixL at' g (1,List.replicate n 1,W,s) n = [] := by unfold fixL;dsimp only;rw [h1];rfl
 rw [if_pos h2,h3]
end
section
theorem AVle.topX (x : AV) : AVle x .top := fun _ _ _ _ _ _ => by rw [AV.sat];trivial
attribute [local irreducible] Quiet Eff OpOk AWPG ACont ABlock ACalls AGoto
theorem strip_cases {M D : Int} {par : List (List Int)} {ds : List (List Nat)} {at' : List Pl} {g : Gn} (hal : at'.length ≤ 9223372036854775807) (hdl : ds.length ≤ 9223372036854775807) (hds : ∀ u ∈ ds, isB u ∧ u.length ≤ 2000000) :
 ACalls Tryz.prog 43 [cdA M D par,strs ds,pcs at',gnA g] [] (.tup [.top,.top,bV false]) [] ∨ ∃ (m d : Nat) (ps : List (List Nat)),M = m ∧ D = d ∧ par = toZ ps ∧ CodeOk m d ps ∧ ds.length = d ∧ (∀ u ∈ ds,isB u ∧ u.length = 32) ∧ at'.length = d + ps.length ∧ slB at' g (encN m ps ds) (d + ps.length) = true ∧ ACalls Tryz.prog 43 [cdA M D par,strs ds,pcs at',gnA g] [] (.tup [strs (encN m ps ds),.osl 0 (d + ps.length) 0 (d + ps.length),bV true]) [.row (d + ps.length) 1 9 ((slL at' g (encN m ps ds) (d + ps.length)).map sD)] := by
 have hsm := A_small (M := M) (D := D) (par := par)
 have hma : (at'.map pcD).length = at'.length := List.length_map _
 have hmd : (ds.map sD).length = ds.length := List.length_map _
 by_cases hfit : smallB D par = true ∧ ds.length ≤ 24 ∧ at'.length ≤ 32
 ·obtain ⟨f1, f2, f3⟩ := hfit
  have f4 := f1
  unfold smallB at f4
  simp only [Bool.and_eq_true,decide_eq_true_eq] at f4
  rw [f1] at hsm
  by_cases hg : validC M D par = true ∧ (ds.length : Int) = D
  ·obtain ⟨g1, g2⟩ := hg
   obtain ⟨m,d,ps,rfl,rfl,rfl,hok⟩ := ok_valid g1
   have hd := hok.d
   have hw := hok.w
   have hl : ds.length = d := by omega
   have he := A_r8enc hok hl hds
   rw [cdN_A] at he
   cases hU : uniB m ds with
   | false =>
     rw [hU,if_neg (by decide)] at he
     refine .inl (acalls_of_body Tryz.func43 rfl (zU rfl) ?_)
     (repeat' (first
      |(apply yFb;exact rfl;exact rfl)
      |(apply W.qd;(first
      |(exact zW (hsm))|(exact zW (he))|(exact zM)|(exact zN)|(exact yU rfl rfl rfl rfl)|(exact q_gtr rfl rfl)|(exact q_neq rfl rfl)|(exact q_not rfl)|(exact yAb rfl rfl)|(exact yV rfl rfl)
      |(apply (yDb (u := .d _));exact rfl;exact rfl)))|(apply W.ed;(apply yBb;(iterate 3 exact rfl);kernel_rfl;kernel_rfl))|(apply yA)|(apply yB)|(apply yC;kernel_rfl)|(apply yE)|(apply yH)|(apply yJ)|(apply yP)|(apply yQ;exact rfl)|(refine W.gF _ _ rfl rfl (fun hb => ?_) (fun hb => ?_) <;> ((try simp only [hb,zK]) <;> (try simp only [zL,zI] at hb) <;> (try (exfalso;omega))))
      |(refine W.cond _ rfl (fun hb => ?_) (fun hb => ?_) <;> ((try simp only [hb,zK]) <;> (try simp only [zL,zI] at hb) <;> (try (exfalso;omega))))))
     all_goals first
      |(exfalso;omega)
      |exact ⟨.inl rfl,[],[_,_,bV false],rfl,⟨rfl,rfl,rfl,trivial⟩,AVle.tup ⟨AVle.topX _,AVle.topX _,AVle.of_eq rfl,trivial⟩,rfl⟩
   | true =>
     rw [hU,if_pos rfl] at he
     obtain ⟨u1,u2⟩ := uni_ok hok.f hU (by omega)
     have hn0 : (ds.headD []).length ≤ 2000000 := by
      cases ds with
      | nil => simp at hl;omega
      | cons x t => exact (hds x (by simp)).2
     have hus : ∀ u ∈ ds,isB u ∧ u.length = (ds.headD []).length := fun u hx => ⟨(hds u hx).1,u1 u hx⟩
     have hW := encN_ok hok hl hus u2
     have hWl : (encN m ps ds).length = d + ps.length := by rw [encN_length,hl]
     have hWb : ∀ u ∈ encN m ps ds,isB u ∧ u.length ≤ 9223372036854775807 := fun u hx => ⟨(hW u hx).1,by rw [(hW u hx).2];omega⟩
     by_cases hS : at'.length = d + ps.length ∧ slB at' g (encN m ps ds) (d + ps.length) = true
     ·obtain ⟨s1, s2⟩ := hS
      have h32 : ∀ u ∈ ds,isB u ∧ u.length = 32 := fun u hx => by
       obtain ⟨k,hk,rfl⟩ := List.getElem_of_mem hx
       have h1 := (slB_get s2 (k := k) (by omega)).2
       have e : (encN m ps ds).getD k [] = ds[k] := by
        unfold encN
        rw [List.getD_eq_getElem?_getD,List.getElem?_append_left hk,List.getElem?_eq_getElem hk];rfl
       rw [e] at h1
       exact ⟨(hds _ hx).1,h1⟩
      refine .inr ⟨m,d,ps,rfl,rfl,rfl,hok,hl,h32,s1,s2,?_⟩
      have hsl := A_lsealOk (at' := at') (g := g) (us := encN m ps ds) (by omega) (by omega) hWb (by rw [hWl];exact s2)
      rw [hWl] at hsl
      refine acalls_of_bodyO Tryz.func43 rfl (zU rfl) ?_
      clear hW hWb hus u1 u2 s2 h32
      generalize slL at' g (encN m ps ds) (d + ps.length) = X at *
      generalize encN m ps ds = Wd at *
      (repeat' (first
       |(apply yFb;exact rfl;exact rfl)
       |(apply W.qd;(first
       |(exact zW (hsm))|(exact zW (he))|(exact zM)|(exact zN)|(exact yU rfl rfl rfl rfl)|(exact q_gtr rfl rfl)|(exact q_neq rfl rfl)|(exact q_not rfl)|(exact yAb rfl rfl)|(exact yV rfl rfl)
       |(apply (yDb (u := .d _));exact rfl;exact rfl)))
       |(apply W.ed;(first
       |(apply (e_callJ (js := []) (hsl));(iterate 5 exact rfl);kernel_rfl;kernel_rfl)
       |(apply yBb;(iterate 3 exact rfl);kernel_rfl;kernel_rfl)))|(apply yA)|(apply yB)|(apply yC;kernel_rfl)|(apply yE)|(apply yH)|(apply yJ)|(apply yR;exact rfl)|(refine W.gF _ _ rfl rfl (fun hb => ?_) (fun hb => ?_) <;> ((try simp only [hb,zK]) <;> (try simp only [zL,zI] at hb) <;> (try (exfalso;omega))))
       |(refine W.cond _ rfl (fun hb => ?_) (fun hb => ?_) <;> ((try simp only [hb,zK]) <;> (try simp only [zL,zI] at hb) <;> (try (exfalso;omega))))))
      all_goals first
       |(exfalso;omega)
       |exact ⟨.inl rfl,[2],[strs Wd,.osl 2 (d + ps.length) 0 (d + ps.length),bV true],rfl,rfl,⟨rfl,rfl,rfl,trivial⟩,AVle.of_eq rfl,rfl⟩
     ·have hsl := A_lsealBad (at' := at') (g := g) (us := encN m ps ds) (by omega) (by omega) hWb (by
       rw [hWl]
       by_cases h1 : at'.length = d + ps.length
       ·refine .inr ?_
        cases h2 : slB at' g (encN m ps ds) (d + ps.length) with
        | false => rfl
        | true => exact absurd ⟨h1,h2⟩ hS
       ·exact .inl h1)
      refine .inl (acalls_of_body Tryz.func43 rfl (zU rfl) ?_)
      clear hW hWb hus u1 u2 hS
      generalize encN m ps ds = Wd at *
      (repeat' (first
       |(apply yFb;exact rfl;exact rfl)
       |(apply W.qd;(first
       |(exact zW (hsm))|(exact zW (he))|(exact zW (hsl))|(exact zM)|(exact zN)|(exact yU rfl rfl rfl rfl)|(exact q_gtr rfl rfl)|(exact q_neq rfl rfl)|(exact q_not rfl)|(exact yAb rfl rfl)|(exact yV rfl rfl)
       |(apply (yDb (u := .d _));exact rfl;exact rfl)))|(apply W.ed;(apply yBb;(iterate 3 exact rfl);kernel_rfl;kernel_rfl))|(apply yA)|(apply yB)|(apply yC;kernel_rfl)|(apply yE)|(apply yH)|(apply yJ)|(apply yR;exact rfl)|(refine W.gF _ _ rfl rfl (fun hb => ?_) (fun hb => ?_) <;> ((try simp only [hb,zK]) <;> (try simp only [zL,zI] at hb) <;> (try (exfalso;omega))))
       |(refine W.cond _ rfl (fun hb => ?_) (fun hb => ?_) <;> ((try simp only [hb,zK]) <;> (try simp only [zL,zI] at hb) <;> (try (exfalso;omega))))))
      all_goals first
       |(exfalso;omega)
       |exact ⟨.inl rfl,[],[_,_,bV false],rfl,⟨rfl,rfl,rfl,trivial⟩,AVle.tup ⟨AVle.topX _,AVle.topX _,AVle.of_eq rfl,trivial⟩,rfl⟩
  ·have he := A_r8enc_bad (M := M) (D := D) (par := par) (us := ds) (by omega) (by omega) hg
   refine .inl (acalls_of_body Tryz.func43 rfl (zU rfl) ?_)
   (repeat' (first
    |(apply yFb;exact rfl;exact rfl)
    |(apply W.qd;(first
    |(exact zW (hsm))|(exact zW (he))|(exact zM)|(exact zN)|(exact yU rfl rfl rfl rfl)|(exact q_gtr rfl rfl)|(exact q_neq rfl rfl)|(exact q_not rfl)|(exact yAb rfl rfl)|(exact yV rfl rfl)
    |(apply (yDb (u := .d _));exact rfl;exact rfl)))|(apply W.ed;(apply yBb;(iterate 3 exact rfl);kernel_rfl;kernel_rfl))|(apply yA)|(apply yB)|(apply yC;kernel_rfl)|(apply yE)|(apply yH)|(apply yJ)|(apply yP)|(apply yQ;exact rfl)|(refine W.gF _ _ rfl rfl (fun hb => ?_) (fun hb => ?_) <;> ((try simp only [hb,zK]) <;> (try simp only [zL,zI] at hb) <;> (try (exfalso;omega))))
    |(refine W.cond _ rfl (fun hb => ?_) (fun hb => ?_) <;> ((try simp only [hb,zK]) <;> (try simp only [zL,zI] at hb) <;> (try (exfalso;omega))))))
   all_goals first
    |(exfalso;omega)
    |exact ⟨.inl rfl,[],[_,_,bV false],rfl,⟨rfl,rfl,rfl,trivial⟩,AVle.tup ⟨AVle.topX _,AVle.topX _,AVle.of_eq rfl,trivial⟩,rfl⟩
 ·refine .inl (acalls_of_body Tryz.func43 rfl (zU rfl) ?_)
  cases hs : smallB D par with
  | false =>
    rw [hs] at hsm
    (repeat' (first
     |(apply W.qd;(first
     |(exact zW (hsm))|(exact zM)|(exact zN)|(exact yU rfl rfl rfl rfl)|(exact q_not rfl)
     |(apply (yEb (u := .d _));exact rfl;exact rfl)))|(apply W.ed;(apply yBb;(iterate 3 exact rfl);kernel_rfl;kernel_rfl))|(refine W.gOff _ _ rfl rfl (by intro h;cases h) ?_)|(apply yA)|(apply yB)|(apply yC;kernel_rfl)|(apply yE)|(apply yJ)|(apply yP)
     |(apply yQ;exact rfl)))
    all_goals first
     |(exfalso;omega)
     |exact ⟨.inl rfl,[],[_,_,bV false],rfl,⟨rfl,rfl,rfl,trivial⟩,AVle.tup ⟨AVle.topX _,AVle.topX _,AVle.of_eq rfl,trivial⟩,rfl⟩
  | true =>
    rw [hs] at hsm
    have hfit : ¬ (ds.length ≤ 24 ∧ at'.length ≤ 32) := fun h => hfit ⟨hs,h⟩
    (repeat' (first
     |(apply yFb;exact rfl;exact rfl)
     |(apply W.qd;(first
     |(exact zW (hsm))|(exact zM)|(exact zN)|(exact yU rfl rfl rfl rfl)|(exact q_gtr rfl rfl)|(exact q_not rfl)|(exact yV rfl rfl)|(apply (yEb (u := .d _));exact rfl;exact rfl)
     |(apply (yDb (u := .d _));exact rfl;exact rfl)))|(apply W.ed;(apply yBb;(iterate 3 exact rfl);kernel_rfl;kernel_rfl))|(refine W.gOff _ _ rfl rfl (by intro h;cases h) ?_)|(apply yA)|(apply yB)|(apply yC;kernel_rfl)|(apply yE)|(apply yJ)|(apply yP)|(apply yQ;exact rfl)|(refine W.gF _ _ rfl rfl (fun hb => ?_) (fun hb => ?_) <;> ((try simp only [hb,zK]) <;> (try simp only [zL,zI] at hb) <;> (try (exfalso;omega))))
     |(refine W.cond _ rfl (fun hb => ?_) (fun hb => ?_) <;> ((try simp only [hb,zK]) <;> (try simp only [zL,zI] at hb) <;> (try (exfalso;omega))))))
    all_goals first
     |(exfalso;omega)
     |exact ⟨.inl rfl,[],[_,_,bV false],rfl,⟨rfl,rfl,rfl,trivial⟩,AVle.tup ⟨AVle.topX _,AVle.topX _,AVle.of_eq rfl,trivial⟩,rfl⟩
end
section
attribute [local irreducible] Quiet Eff OpOk AWPG ACont ABlock ACalls AGoto
theorem A_scrubClean {M D : Int} {par : List (List Int)} {ds : List (List Nat)} {at' : List Pl} {g : Gn} (hal : at'.length ≤ 9223372036854775807) (hdl : ds.length ≤ 9223372036854775807) (hds : ∀ u ∈ ds,isB u ∧ u.length ≤ 2000000) : ACalls Tryz.prog 11 [cdA M D par,strs ds,pcs at',gnA g] [] (bV true) [] := by
 refine acalls_of_body Tryz.func11 rfl (zU rfl) ?_
 have hsa := A_sanity40
 rcases strip_cases (M := M) (D := D) (par := par) (g := g) hal hdl hds with hstr | ⟨m,d,ps,rfl,rfl,rfl,hok,hl,h32,ha,hB,hstr⟩
 ·(repeat' (first
  |(apply W.qd;(first
  |(exact zW (hstr))|(exact zW (hsa))|(exact zM)|(exact zN)|(exact yU rfl rfl rfl rfl)|(exact q_not rfl)
  |(exact yAb rfl rfl)))|(apply W.ed;(apply yBb;(iterate 3 exact rfl);kernel_rfl;kernel_rfl))|(apply yA)|(apply yB)|(apply yC;kernel_rfl)|(apply yE)|(apply yJ)|(apply yP)
  |(apply yQ;exact rfl)))
  all_goals first | (exfalso;omega) | exact Ends.b rfl rfl
 ·have hd := hok.d
  have hw := hok.w
  have hW := encN_ok hok hl h32 (fit32 hok.f)
  have hWl : (encN m ps ds).length = d + ps.length := by rw [encN_length,hl]
  have hrp := rp_clean (g := g) hok hl h32 hB
  have hsb : ∀ s ∈ slL at' g (encN m ps ds) (d + ps.length),isB s ∧ s.length ≤ 9223372036854775807 := fun s hs => by
   unfold slL at hs
   obtain ⟨k,hk,rfl⟩ := List.mem_map.1 hs
   obtain ⟨h1,h2⟩ := slB_get hB (List.mem_range.1 hk)
   obtain ⟨p1,p2,p3,p4⟩ := sealN_ok h1
   rw [p4]
   exact ⟨sealL_isB p1 (isB_getDL (fun u hu => (hW u hu).1) k),by rw [sealL_length p3];decide⟩
  have c1 := A_checkG (g := g) hok ha (slL_len _ _ _ _) (rd := List.replicate (d + ps.length) true) (by simp) hsb
  have c2 := A_fixes (g := g) hok ha (slL_len _ _ _ _) (rd := List.replicate (d + ps.length) true) (by simp) hsb
  rw [hrp] at c1 c2
  rw [fx_clean] at c2
  dsimp only [rpA] at c1 c2
  rw [cdN_A] at c1 c2
  have hXl := slL_len at' g (encN m ps ds) (d + ps.length)
  have hall := A_lallD (n := d + ps.length) (by omega)
  have t1 := A_same_texts (a := encN m ps ds) (b := encN m ps ds) (fun u hu => (hW u hu).1) (fun u hu => (hW u hu).1) (by omega) (by omega)
  rw [decide_eq_true rfl] at t1
  have hS1 : ∀ k (h : k < (List.replicate (d + ps.length) (1 : Int)).length),(List.replicate (d + ps.length) (1 : Int))[k] = 1 := fun k h => by simp
  have hSl : (List.replicate (d + ps.length) (1 : Int)).length = d + ps.length := by simp
  clear hW hrp hsb hB h32
  generalize slL at' g (encN m ps ds) (d + ps.length) = X at *
  generalize encN m ps ds = Wd at *
  generalize List.replicate (d + ps.length) (1 : Int) = S at *
  generalize d + ps.length = n at *
  subst hWl
  have hmW : (Wd.map sD).length = Wd.length := List.length_map _
  have hmS : (S.map iD).length = S.length := List.length_map _
  have hall : ACalls Tryz.prog 44 [iV ((Wd.map sD).length : Nat)] [] (bools (List.replicate Wd.length true)) [] := by rw [hmW];exact hall
  (repeat' (first
   |(apply W.qd;(first
   |(exact zM)|(exact zN)|(exact yU rfl rfl rfl rfl)|(exact q_not rfl)
   |(exact yAb rfl rfl)))
   |(apply W.ed;(first
   |(apply (e_callJ (js := []) (hstr));(iterate 5 exact rfl);kernel_rfl;kernel_rfl)
   |(apply yBb;(iterate 3 exact rfl);kernel_rfl;kernel_rfl)))|(apply yA)|(apply yB)|(apply (W.regionS 4);exact rfl;kernel_rfl)|(apply yE)|(apply yH)
   |(apply yR;exact rfl)))
  all_goals try (exfalso;omega)
  refine AWP.wk ⟨[(2,pcs at'),(4,.opt 0 0),(7,.opt 1 0),(9,strs Wd),(10,strs X)],[.box [.d .any,iV m,iV d,rowsA (toZ ps),.d .any],.box [iV g.1,iV g.2]]⟩ ⟨[0,1],rfl,rfl,rfl,rfl,rfl,rfl,rfl,(frz_rowJ rfl rfl (by rw [List.length_map];exact hXl.symm)).symm,trivial⟩ ?_
  (repeat' (first
   |(apply W.qd;(first
   |(exact zW (hall))|(exact zW (c1))|(exact zW (c2))|(exact zM)|(exact zN)|(exact yS rfl rfl rfl)|(exact yT rfl rfl rfl rfl)|(exact yU rfl rfl rfl rfl)|(exact yAb rfl rfl)
   |(exact yV rfl rfl)))|(apply W.ed;(apply yCb;(iterate 3 exact rfl);kernel_rfl))|(apply W.ln;(apply l_st_box;(iterate 6 exact rfl);(iterate 3 kernel_rfl)))|(apply yA)|(apply yB)|(apply (W.regionS 7);exact rfl;kernel_rfl)|(apply (W.regionDS 7);exact rfl;exact rfl;kernel_rfl)|(apply yE)|(apply yF;kernel_rfl)
   |(apply yG)))
  all_goals try (exfalso;omega)
  refine AWP.loopW (α := Nat) (fun k => k ≤ S.length) (fun k => ⟨[(55,iV k),(54,iV S.length),(53,ints S),(9,strs Wd),(12,.opt 2 0),(13,iV 0),(14,fxs []),(15,iV 0)],[.box [.d .any,iV m,iV d,rowsA (toZ ps),.d .any],.box [iV g.1,iV g.2],.box [iV 1,ints S,strs Wd,iV (-1)]]⟩) (fun k => S.length - k) 0 (Nat.zero_le _) ?wkA fun k hk => ?_
  case wkA => exact ⟨[0,1,2],rfl,rfl,rfl,rfl,iV_eq (by omega),rfl,rfl,rfl,rfl,rfl,rfl,trivial⟩
  by_cases hkl : k < S.length
  ·have e1 := hS1 k hkl
   clear hall c1 c2 hstr hsa t1
   (repeat' (first
    |(apply W.qd;(first
    |(exact zM)|(exact zN)|(exact q_lss rfl rfl)|(exact q_neq rfl rfl)|(exact q_add rfl rfl (by omega))|(apply yX;(iterate 3 exact rfl);(first | omega | (focus (simp;done))))
    |(apply yGb;(iterate 4 exact rfl);(first | (with_reducible exact rfl) | exact natI_spec rfl | assumption | exact (Int.toNat_of_nonneg (by omega)).symm);(first | omega | (focus (simp only [List.length_map];omega)) | (focus (simp;done)) | (focus (simp;omega))))))|(apply yA)|(apply yB)|(apply yC;kernel_rfl)|(apply yE)|(apply yG)|(apply yH)|(apply yL)
    |(refine W.cond _ rfl (fun hb => ?_) (fun hb => ?_) <;> ((try simp only [hb,zK]) <;> (try simp only [zL,zI] at hb) <;> (try (exfalso;omega))))))
   all_goals first
    |(exfalso;omega)
    |exact ⟨k + 1,by omega,by omega,[0,1,2],rfl,rfl,rfl,iV_eq (by omega),rfl,rfl,rfl,rfl,rfl,rfl,rfl,trivial⟩
  ·obtain rfl : k = S.length := by omega
   clear hall c1 c2 hstr
   (repeat' (first
    |(apply yFb;exact rfl;exact rfl)
    |(apply W.qd;(first
    |(exact zW (hsa))|(exact zW (t1))|(exact zM)|(exact zN)|(exact yS rfl rfl rfl)|(exact yT rfl rfl rfl rfl)|(exact q_lss rfl rfl)|(exact q_eql rfl rfl)|(exact yV rfl rfl)
    |(apply (yEb (u := .d _));exact rfl;exact rfl)))|(apply yA)|(apply yB)|(apply yC;kernel_rfl)|(apply yE)|(apply yI)|(apply yJ)|(apply yK)|(apply yM)|(refine W.gT _ _ rfl rfl (fun hb => ?_) (fun hb => ?_) <;> ((try simp only [hb,zK]) <;> (try simp only [zL,zI] at hb) <;> (try (exfalso;omega))))
    |(refine W.cond _ rfl (fun hb => ?_) (fun hb => ?_) <;> ((try simp only [hb,zK]) <;> (try simp only [zL,zI] at hb) <;> (try (exfalso;omega))))))
   all_goals first
    |(exfalso;omega)
    |exact Ends.b rfl rfl
    |exact Ends.b rfl (decide_eq_true rfl)
end
end Go.Proofs.YtplpgijpmgbaiaaGreatDoor
