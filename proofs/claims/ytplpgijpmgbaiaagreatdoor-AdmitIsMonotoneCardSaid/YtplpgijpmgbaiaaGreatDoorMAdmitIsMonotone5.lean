import Derived.Test.YtplpgijpmgbaiaaGreatDoorMAdmitIsMonotone4
/- Joined texts: Ad4 Ad5 Ad7 Ad8 Ad10 Ad12 Ad13. -/
set_option linter.unusedVariables false
set_option linter.unusedSimpArgs false
namespace Go.Proofs.YtplpgijpmgbaiaaGreatDoor
open Go.RowKit
set_option maxHeartbeats 4000000
set_option maxRecDepth 100000
section
section
variable {P : Program} {m : Nat} {env : List (Nat × AV)} {own : List Ent} {dst : Option Tmp} {ty : TypeId} {pos : String} {af : Array Edge} {gd : Option (Nat × Bool)}
theorem q_maxM {x y : Operand} {ts : Array TypeId} {a b : Int} (hx : lookO env x = iV a) (hy : lookO env y = iV b) :
 Quiet P m ⟨dst,.call ⟨.builtin .max,#[x,y],ts⟩,ty,pos,af,gd⟩ env own [] (iV (mxI a b)) := q_max hx hy
theorem q_minV {x y : Operand} {ts : Array TypeId} {a b v : Int} (hx : lookO env x = iV a) (hy : lookO env y = iV b) (h : (if b < a then b else a) = v) :
 Quiet P m ⟨dst,.call ⟨.builtin .min,#[x,y],ts⟩,ty,pos,af,gd⟩ env own [] (iV v) := by
 subst h;exact q_min hx hy
end
theorem getDt {ts : List Tn} {i : Nat} (h : i < ts.length) : ts.getD i tn0 = ts[i] := by rw [List.getD_eq_getElem?_getD,List.getElem?_eq_getElem h];rfl
theorem getDu {us : List Ue} {i : Nat} (h : i < us.length) : us.getD i ue0 = us[i] := by rw [List.getD_eq_getElem?_getD,List.getElem?_eq_getElem h];rfl
theorem mxI_bd {a b : Int} (ha : inT a = true) (hb : inT b = true) : 0 ≤ mxI a b ∧ mxI a b ≤ 2147483647 := by
 unfold inT at ha hb
 simp only [decide_eq_true_eq] at ha hb
 unfold mxI
 split <;> omega
theorem ten_at {nv : Nat} {ts : List Tn} {us : List Ue} (h : tenB nv ts us = true) {i : Nat} (hi : i < ts.length) (hu : i < us.length) : (inT ts[i].2.1 = true ∧ inT ts[i].2.2.1 = true) ∧ (inT us[i].1 = true ∧ inT us[i].2 = true) := by
 unfold tenB at h
 simp only [Bool.and_eq_true,List.all_eq_true] at h
 have := h.2 i (List.mem_range.2 hi)
 rw [getDt hi,getDu hu] at this
 unfold tnOk at this
 simp only [Bool.and_eq_true] at this
 exact this.2
def blkK (nv : Nat) (ts : List Tn) (us : List Ue) (k : Nat) : List Int := (List.range nv).map fun j : Nat => if j < k then blkN ts us (j : Int) else 0
theorem blkK_len (nv : Nat) (ts : List Tn) (us : List Ue) (k : Nat) : (blkK nv ts us k).length = nv := by unfold blkK;simp
theorem blkK_zero (nv : Nat) (ts : List Tn) (us : List Ue) : blkK nv ts us 0 = List.replicate nv 0 := by
 apply List.ext_getElem (by rw [blkK_len];simp)
 intro i h1 h2
 unfold blkK
 simp
theorem blkK_all (nv : Nat) (ts : List Tn) (us : List Ue) : blkK nv ts us nv = blkL nv ts us := by
 unfold blkK blkL
 apply List.map_congr_left
 intro j hj
 rw [if_pos (List.mem_range.1 hj)]
theorem blkK_get (nv : Nat) (ts : List Tn) (us : List Ue) (k i : Nat) (h : i < (blkK nv ts us k).length) : (blkK nv ts us k)[i] = if i < k then blkN ts us (i : Int) else 0 := by
 simp [blkK]
theorem blkK_step {nv k : Nat} {ts : List Tn} {us : List Ue} (h : k < nv) : (blkK nv ts us k).set k (blkN ts us k) = blkK nv ts us (k + 1) := by
 apply List.ext_getElem (by rw [List.length_set,blkK_len,blkK_len])
 intro i h1 h2
 rw [List.getElem_set,blkK_get]
 by_cases e : k = i
 ·subst e;rw [if_pos rfl,blkK_get,if_pos (by omega)]
 ·rw [if_neg e, blkK_get]
  by_cases h3 : i < k
  ·rw [if_pos h3,if_pos (by omega)]
  ·rw [if_neg h3,if_neg (by omega)]
attribute [local irreducible] Quiet Eff OpOk AWPG ACont ABlock ACalls AGoto
theorem A_wrong (x : Int) : ACalls Tryz.prog 173 [iV x] [] (bV (!inT x)) [] := by
 refine acalls_of_body Tryz.func173 rfl (zU rfl) ?_
 unfold inT
 (repeat' (first
  |(apply yFb;exact rfl;exact rfl)
  |(apply W.qd;(first
  |(exact zM)|(exact zN)|(exact jAk)|(exact q_gtr rfl rfl)|(apply (yEb (u := .d _));exact rfl;exact rfl)
  |(apply (yDb (u := .d _));exact rfl;exact rfl)))|(refine W.gOff _ _ rfl rfl (by intro h;cases h) ?_)|(apply yA)|(apply yB)|(refine jAc ?_)|(apply yE)|(apply yJ)
  |(refine W.gF _ _ rfl rfl (fun hb => ?_) (fun hb => ?_) <;> ((try simp only [hb,zK]) <;> (try simp only [zL,zI] at hb) <;> (try (exfalso;omega))))))
 all_goals refine Ends.b rfl ?_
 all_goals first | (rw [Bool.eq_iff_iff];simp <;> omega) | (simp;omega)
theorem A_avalid {cs : List Cd} {vs : List Sv} {ts : List Tn} {us : List Ue} (hvl : vs.length ≤ 9223372036854775807) (htl : ts.length ≤ 9223372036854775807) (hul : us.length ≤ 9223372036854775807) : ACalls Tryz.prog 109 [lib cs vs,tns ts,ues us] [] (bV (tenB vs.length ts us)) [] := by
 refine acalls_of_body Tryz.func109 rfl (zU rfl) ?_
 have hmt : (ts.map tnD).length = ts.length := List.length_map _
 have hmu : (us.map ueD).length = us.length := List.length_map _
 have hmv : (vs.map svD).length = vs.length := List.length_map _
 unfold tenB
 by_cases h1 : ts.length ≤ 16 ∧ ts.length ≤ us.length
 case neg =>
  rw [decide_eq_false h1,Bool.false_and]
  (repeat' (first
   |(apply yFb;exact rfl;exact rfl)
   |(apply W.qd;(first
   |(exact zM)|(exact zN)|(exact jAk)|(exact q_gtr rfl rfl)|(exact jAu)|(apply (yEb (u := .d _));exact rfl;exact rfl)
   |(apply (yDb (u := .d _));exact rfl;exact rfl)))|(apply W.ed;(exact jAa))|(refine W.gOff _ _ rfl rfl (by intro h;cases h) ?_)|(apply yA)|(apply yB)|(apply (W.regionS 5);exact rfl;kernel_rfl)|(apply yE)|(apply yJ)|(apply yP)|(refine jAv ?_)|(refine W.gF _ _ rfl rfl (fun hb => ?_) (fun hb => ?_) <;> ((try simp only [hb,zK]) <;> (try simp only [zL,zI] at hb) <;> (try (exfalso;omega))))
   |(refine W.cond _ rfl (fun hb => ?_) (fun hb => ?_) <;> ((try simp only [hb,zK]) <;> (try simp only [zL,zI] at hb) <;> (try (exfalso;omega))))))
  all_goals first | (exfalso;omega) | exact Ends.b rfl rfl
 rw [decide_eq_true h1,Bool.true_and]
 obtain ⟨h1,h2⟩ := h1
 have hq : ∀ i (hi : i < ts.length),(fun i => tnOk vs.length (ts.getD i tn0) (us.getD i ue0)) i = tnOk vs.length ts[i] (us[i]'(by omega)) := fun i hi => by
  show tnOk _ _ _ = _
  rw [getDt hi,getDu (by omega)]
 generalize (fun i => tnOk vs.length (ts.getD i tn0) (us.getD i ue0)) = Q at *
 (repeat' (first
  |(apply yFb;exact rfl;exact rfl)
  |(apply W.qd;(first
  |(exact zM)|(exact zN)|(exact jAk)|(exact q_gtr rfl rfl)|(exact jAu)
  |(apply (yDb (u := .d _));exact rfl;exact rfl)))|(apply W.ed;(exact jAa))|(apply yA)|(apply yB)|(apply (W.regionS 5);exact rfl;kernel_rfl)|(apply yE)|(apply yG)|(apply yH)|(refine W.gF _ _ rfl rfl (fun hb => ?_) (fun hb => ?_) <;> ((try simp only [hb,zK]) <;> (try simp only [zL,zI] at hb) <;> (try (exfalso;omega))))
  |(refine W.cond _ rfl (fun hb => ?_) (fun hb => ?_) <;> ((try simp only [hb,zK]) <;> (try simp only [zL,zI] at hb) <;> (try (exfalso;omega))))))
 all_goals try (exfalso;omega)
 refine AWP.loopW (α := Nat) (fun i => i ≤ ts.length ∧ ∀ j,j < i → Q j = true) (fun i => ⟨[(23,iV i),(22,iV ts.length),(21,tns ts),(2,ues us),(7,.fn 173 []),(3,.opt 0 0)],[.box [cds cs,svs vs]]⟩) (fun i => ts.length - i) 0 ⟨Nat.zero_le _,fun j hj => by omega⟩ ?wkA fun i hi => ?_
 case wkA => exact ⟨[0],rfl,rfl,rfl,rfl,iV_eq (by rw [hmt]),rfl,rfl,rfl,rfl,trivial⟩
 by_cases hil : i < ts.length
 ·have hui : i < us.length := by omega
  have hqi := hq i hil
  have hbad : Q i = false → (List.range ts.length).all Q = false := fun h => by
   rw [List.all_eq_false]
   exact ⟨i,List.mem_range.2 hil,by rw [h];decide⟩
  have hnx : Q i = true → ∀ j,j < i + 1 → Q j = true := fun h j hj => by
   by_cases e : j = i
   ·subst e;exact h
   ·exact hi.2 j (by omega)
  have hct := A_contains_int (O := []) (g := 173) (caps := []) (fun x => !inT x) [ts[i].2.1,ts[i].2.2.1,us[i].1,us[i].2] (by simp) (by kernel_rfl) (fun x _ => A_wrong x)
  have hany : [ts[i].2.1,ts[i].2.2.1,us[i].1,us[i].2].any (fun x => !inT x) = !((inT ts[i].2.1 && inT ts[i].2.2.1) && (inT us[i].1 && inT us[i].2)) := by
   simp only [List.any_cons,List.any_nil]
   cases inT ts[i].2.1 <;> cases inT ts[i].2.2.1 <;> cases inT us[i].1 <;> cases inT us[i].2 <;> rfl
  rw [hany] at hct
  unfold tnOk at hqi
  generalize ((inT ts[i].2.1 && inT ts[i].2.2.1) && (inT us[i].1 && inT us[i].2)) = B at *
  clear hi hq hany
  generalize (List.range ts.length).all Q = R at *
  by_cases hc : 0 ≤ ts[i].2.2.2.2.2 ∧ ts[i].2.2.2.2.2 < (vs.length : Int)
  ·rw [decide_eq_true hc, Bool.true_and] at hqi
   cases B with
   | true =>
     have hn2 := hnx hqi
     clear hnx hbad
     (repeat' (first
      |(apply yFb;exact rfl;exact rfl)
      |(apply W.qd;(first
      |(exact zW (hct))|(exact zM)|(exact zN)|(exact jAq)|(exact jAh)|(exact jAk)|(exact q_geq rfl rfl)|(exact jAl)|(exact jAu)|(exact jAg)|(exact jAj)|(apply q_fld_fptF;(iterate 3 exact rfl))|(exact jAp)|(exact jA)
      |(apply (yDb (u := .d _));exact rfl;exact rfl)))|(apply W.ed;(exact jAm))|(apply W.ln;(exact jAe))|(apply yA)|(apply yB)|(refine jAc ?_)|(refine jAs ?_)|(apply yE)|(refine jBa ?_)|(apply yG)|(apply yH)|(apply yL)|(refine jAx ?_)|(refine W.gF _ _ rfl rfl (fun hb => ?_) (fun hb => ?_) <;> ((try simp only [hb,zK]) <;> (try simp only [zL,zI] at hb) <;> (try (exfalso;omega))))
      |(refine W.cond _ rfl (fun hb => ?_) (fun hb => ?_) <;> ((try simp only [hb,zK]) <;> (try simp only [zL,zI] at hb) <;> (try (exfalso;omega))))))
     all_goals first
      |(exfalso;omega)
      |exact ⟨i + 1,⟨by omega,hn2⟩,by omega,[0],rfl,rfl,rfl,iV_eq (by omega),rfl,rfl,rfl,rfl,rfl,trivial⟩
   | false =>
     rw [hbad hqi]
     clear hnx hbad
     (repeat' (first
      |(apply yFb;exact rfl;exact rfl)
      |(apply W.qd;(first
      |(exact zW (hct))|(exact zM)|(exact zN)|(exact jAq)|(exact jAh)|(exact jAk)|(exact q_geq rfl rfl)|(exact jAu)|(exact jAg)|(exact jAj)|(apply q_fld_fptF;(iterate 3 exact rfl))|(exact jAp)|(exact jA)
      |(apply (yDb (u := .d _));exact rfl;exact rfl)))|(apply W.ed;(exact jAm))|(apply W.ln;(exact jAe))|(apply yA)|(apply yB)|(refine jAc ?_)|(refine jAs ?_)|(apply yE)|(refine jBa ?_)|(apply yG)|(apply yH)|(apply yJ)|(apply yP)|(apply yN)|(refine jAv ?_)|(refine W.gF _ _ rfl rfl (fun hb => ?_) (fun hb => ?_) <;> ((try simp only [hb,zK]) <;> (try simp only [zL,zI] at hb) <;> (try (exfalso;omega))))
      |(refine W.cond _ rfl (fun hb => ?_) (fun hb => ?_) <;> ((try simp only [hb,zK]) <;> (try simp only [zL,zI] at hb) <;> (try (exfalso;omega))))))
     all_goals first | (exfalso;omega) | exact Ends.b rfl rfl
  ·rw [decide_eq_false hc, Bool.false_and] at hqi
   rw [hbad hqi]
   clear hnx hbad
   (repeat' (first
    |(apply yFb;exact rfl;exact rfl)
    |(apply W.qd;(first
    |(exact zM)|(exact zN)|(exact jAq)|(exact jAh)|(exact jAk)|(exact q_geq rfl rfl)|(exact jAu)|(exact jAg)|(exact jAj)|(apply q_fld_fptF;(iterate 3 exact rfl))|(exact jAp)|(exact jA)|(apply (yEb (u := .d _));exact rfl;exact rfl)
    |(apply (yDb (u := .d _));exact rfl;exact rfl)))|(apply W.ed;(exact jAm))|(apply W.ln;(exact jAe))|(refine W.gOff _ _ rfl rfl (by intro h;cases h) ?_)|(apply yA)|(apply yB)|(refine jAc ?_)|(refine jAs ?_)|(apply yE)|(refine jBa ?_)|(apply yG)|(apply yH)|(apply yJ)|(apply yP)|(apply yN)|(refine jAv ?_)|(refine W.gF _ _ rfl rfl (fun hb => ?_) (fun hb => ?_) <;> ((try simp only [hb,zK]) <;> (try simp only [zL,zI] at hb) <;> (try (exfalso;omega))))
    |(refine W.cond _ rfl (fun hb => ?_) (fun hb => ?_) <;> ((try simp only [hb,zK]) <;> (try simp only [zL,zI] at hb) <;> (try (exfalso;omega))))))
   all_goals first | (exfalso;omega) | exact Ends.b rfl rfl
 ·have hall : (List.range ts.length).all Q = true := by
   rw [List.all_eq_true]
   intro j hj
   exact hi.2 j (by have := List.mem_range.1 hj;omega)
  rw [hall]
  clear hi hq
  (repeat' (first
   |(apply W.qd;(first
   |(exact zN)
   |(exact jAk)))|(apply yA)|(apply yB)|(refine jAc ?_)|(apply yE)|(apply yI)|(apply yJ)|(apply yK)|(apply yM)
   |(refine W.cond _ rfl (fun hb => ?_) (fun hb => ?_) <;> ((try simp only [hb,zK]) <;> (try simp only [zL,zI] at hb) <;> (try (exfalso;omega))))))
  all_goals exact Ends.b rfl rfl
theorem A_blocks {nv : Nat} {ts : List Tn} {us : List Ue} {k : Int} (h : tenB nv ts us = true) (hul : us.length ≤ 9223372036854775807) : ACalls Tryz.prog 55 [tns ts,ues us,iV k] [] (iV (blkN ts us k)) [] := by
 refine acalls_of_body Tryz.func55 rfl (zU rfl) ?_
 have hmt : (ts.map tnD).length = ts.length := List.length_map _
 have hmu : (us.map ueD).length = us.length := List.length_map _
 obtain ⟨h1,h2⟩ := ten_len h
 have hbd := blkT_nn (k := k) h
 have hmin : (if ((us.map ueD).length : Int) < ((ts.map tnD).length : Int) then ((us.map ueD).length : Int) else ((ts.map tnD).length : Int)) = ((ts.length : Nat) : Int) := by rw [hmt,hmu,if_neg (by omega)]
 have hN : blkN ts us k = blkT ts us k ts.length := by unfold blkN;rw [show min ts.length us.length = ts.length by omega]
 have hst : ∀ i (hi : i < ts.length),blkT ts us k (i + 1) = blkT ts us k i + if ts[i].2.2.2.2.2 = k then mxI ts[i].2.1 (us[i]'(by omega)).1 + mxI ts[i].2.2.1 (us[i]'(by omega)).2 else 0 := fun i hi => by rw [blkT,getDt hi,getDu (by omega)];rfl
 rw [hN]
 generalize blkT ts us k = T at *
 (repeat' (first
  |(apply W.qd;(first
  |((apply q_minV;exact rfl;exact rfl;exact hmin))|(exact zM)|(exact zN)|(exact jAu)
  |(apply q_slc_map;exact rfl;exact rfl;(first | exact ⟨_,_,rfl,rfl⟩ | exact ⟨_,_,rfl,natI_spec rfl⟩ | exact ⟨_,_,rfl,(Int.toNat_of_nonneg (by omega)).symm⟩ | exact rfl);(first | exact ⟨_,_,rfl,rfl⟩ | exact ⟨_,_,rfl,natI_spec rfl⟩ | exact ⟨_,_,rfl,(Int.toNat_of_nonneg (by omega)).symm⟩ | exact rfl);(first | omega | (focus (simp only [List.length_map];omega)) | (focus (simp;done)) | (focus (simp;omega)));(first | omega | (focus (simp only [List.length_map];omega)) | (focus (simp;done)) | (focus (simp;omega)));exact Or.inl rfl)))|(apply yA)|(apply yB)|(apply (W.regionS 3);exact rfl;kernel_rfl)|(apply yE)
  |(apply yG)))
 refine AWP.loopW (α := Nat) (fun i => i ≤ ts.length) (fun i => ⟨[(18,iV i),(17,iV ts.length),(16,tns ts),(1,ues us),(2,iV k),(7,iV (T i))],[]⟩) (fun i => ts.length - i) 0 (Nat.zero_le _) ?wkA fun i hi => ?_
 case wkA =>
  have hT0 : T 0 = 0 := by have := hbd 0 (Nat.zero_le _);omega
  refine ⟨[],rfl,rfl,rfl,rfl,iV_eq (by simp),?_,rfl,rfl,iV_eq hT0,trivial⟩
  show _ = AV.d (.sl 6 (((ts.drop 0).take (ts.length - 0)).map tnD))
  rw [List.drop_zero,Nat.sub_zero,List.take_length]
 by_cases hil : i < ts.length
 ·have hui : i < us.length := by omega
  obtain ⟨⟨i1,i2⟩,i3,i4⟩ := ten_at h hil hui
  have m1 := mxI_bd i1 i3
  have m2 := mxI_bd i2 i4
  have hb1 := hbd i hi
  have hs := hst i hil
  clear hst hbd
  by_cases hc : ts[i].2.2.2.2.2 = k
  ·rw [if_pos hc] at hs
   (repeat' (first
    |(apply W.qd;(first
    |((apply q_maxM;exact rfl;exact rfl))|(exact zM)|(exact zN)|(exact jAq)|(exact jAh)|(exact jAk)|(exact q_eql rfl rfl)|(exact jAl)|(exact jAg)|(exact jAj)|(apply q_fld_fptF;(iterate 3 exact rfl))
    |(exact jA)))|(apply W.ed;(exact jAm))|(apply W.ln;(exact jAe))|(apply yA)|(apply yB)|(refine jAc ?_)|(refine jAs ?_)|(apply yE)|(refine jBa ?_)|(apply yG)|(apply yH)|(apply yL)
    |(refine W.cond _ rfl (fun hb => ?_) (fun hb => ?_) <;> ((try simp only [hb,zK]) <;> (try simp only [zL,zI] at hb) <;> (try (exfalso;omega))))))
   all_goals first
    |(exfalso;omega)|(refine ⟨i + 1,by omega,by omega,?_⟩;(try dsimp only);rw [hs];exact ⟨[],rfl,rfl,rfl,iV_eq (by omega),rfl,rfl,rfl,rfl,rfl,trivial⟩)
  ·rw [if_neg hc, Int.add_zero] at hs
   (repeat' (first
    |(apply W.qd;(first
    |(exact zM)|(exact zN)|(exact jAq)|(exact jAh)|(exact jAk)|(exact q_eql rfl rfl)|(exact jAl)|(exact jAj)
    |(exact jA)))|(apply W.ed;(exact jAm))|(apply W.ln;(exact jAe))|(apply yA)|(apply yB)|(refine jAc ?_)|(apply yE)|(apply yG)|(apply yH)|(apply yL)
    |(refine W.cond _ rfl (fun hb => ?_) (fun hb => ?_) <;> ((try simp only [hb,zK]) <;> (try simp only [zL,zI] at hb) <;> (try (exfalso;omega))))))
   all_goals first
    |(exfalso;omega)|(refine ⟨i + 1,by omega,by omega,?_⟩;(try dsimp only);rw [hs];exact ⟨[],rfl,rfl,rfl,iV_eq (by omega),rfl,rfl,rfl,rfl,rfl,trivial⟩)
 ·obtain rfl : i = ts.length := by omega
  (repeat' (first
   |(apply W.qd;(first
   |(exact zM)|(exact zN)
   |(exact jAk)))|(apply yA)|(apply yB)|(refine jAc ?_)|(apply yE)|(apply yI)|(apply yJ)|(apply yK)|(apply yM)
   |(refine W.cond _ rfl (fun hb => ?_) (fun hb => ?_) <;> ((try simp only [hb,zK]) <;> (try simp only [zL,zI] at hb) <;> (try (exfalso;omega))))))
  all_goals exact Ends.i rfl rfl
def val31 (d r n s l i : Int) (cs : List Cd) (vs : List Sv) (ts : List Tn) (us : List Ue) (rows : List SRw) : Bool := (validR d r n s l i rows && validB cs vs) && tenB vs.length ts us
structure In31 (cs : List Cd) (vs : List Sv) (ts : List Tn) (us : List Ue) (rows : List SRw) : Prop where
 L : LibIn cs vs
 t : ts.length ≤ 9223372036854775807
 u : us.length ≤ 9223372036854775807
 rl : rows.length ≤ 64
 ru : ∀ a (h : a < rows.length),rows[a].2.2.length ≤ 9223372036854775807
theorem valid_vl {cs : List Cd} {vs : List Sv} (h : validB cs vs = true) : cs.length ≤ 8 ∧ vs.length ≤ 8 := by
 unfold validB at h
 simp only [Bool.and_eq_true,decide_eq_true_eq] at h
 exact h.1
theorem A_claimed {d r n s l i : Int} {cs : List Cd} {vs : List Sv} {ts : List Tn} {us : List Ue} {rows : List SRw} (hI : In31 cs vs ts us rows) (hv : val31 d r n s l i cs vs ts us rows = true) : ACalls Tryz.prog 57 [cfgA d r n s l i,lib cs vs,tns ts,ues us,rws rows] [] (.tup [.osl 0 0 0 vs.length,iV 0]) [.row 0 1 3 ((blkL vs.length ts us).map iD)] := by
 refine acalls_of_bodyO Tryz.func57 rfl (zU rfl) ?_
 have f1 := A_valid24 (d := d) (r := r) (n := n) (s := s) (l := l) (i := i) (rows := rows) (by have := hI.rl;omega) hI.ru
 have f2 := A_valid30 hI.L
 have f3 := A_avalid (cs := cs) hI.L.vl hI.t hI.u
 unfold val31 at hv
 simp only [Bool.and_eq_true] at hv
 obtain ⟨⟨hv1,hv2⟩,hv3⟩ := hv
 have hvl := (valid_vl hv2).2
 have hmv : (vs.map svD).length = vs.length := List.length_map _
 rw [hv1] at f1
 rw [hv2] at f2
 rw [hv3] at f3
 have fb := fun k : Nat => A_blocks (k := (k : Int)) hv3 hI.u
 (repeat' (first
  |(apply yFb;exact rfl;exact rfl)
  |(apply W.qd;(first
  |(exact zW (f1))|(exact zW (f2))|(exact zW (f3))|(exact zM)|(exact zN)|(exact jAq)|(exact jAh)|(exact jAo)|(exact q_not rfl)|(exact jAu)|(exact q_len_osl rfl rfl rfl)
  |(apply (yDb (u := .d _));exact rfl;exact rfl)))
  |(apply W.ed;(first
  |((apply (e_makeG (f := iD) 0);(iterate 10 exact rfl);omega))
  |(exact jAa)))|(apply yA)|(apply yB)|(apply (W.regionS 5);exact rfl;kernel_rfl)|(apply yE)|(apply yG)|(apply yH)
  |(refine jAx ?_)))
 refine AWP.loopW (α := Nat) (fun k => k ≤ vs.length) (fun k => ⟨[(36,iV k),(35,iV vs.length),(12,.osl 0 0 0 vs.length),(2,tns ts),(3,ues us)],[.row 0 1 3 ((blkK vs.length ts us k).map iD)]⟩) (fun k => vs.length - k) 0 (Nat.zero_le _) ?wkA fun k hk => ?_
 case wkA =>
  rw [blkK_zero,← hmv]
  exact ⟨[2],rfl,rfl,rfl,rfl,rfl,rfl,rfl,rfl,trivial⟩
 have hkl0 := blkK_len vs.length ts us k
 by_cases hkl : k < vs.length
 ·have hs := Lib.hid (blkK_step (ts := ts) (us := us) hkl)
  have fk := fb k
  generalize blkK vs.length ts us k = A at *
  generalize blkN ts us (k : Int) = b at *
  (repeat' (first
   |(apply W.qd;(first
   |(exact zW (fk))|(exact zM)|(exact zN)|(exact jAk)|(exact jAl)
   |(exact jAf)))|(apply W.ln;(apply l_st_rpt;(iterate 7 exact rfl);exact fun _ => rfl;(first | omega | (focus (simp only [List.length_map];omega)) | (focus (simp;omega)))))|(apply yA)|(apply yB)|(refine jAc ?_)|(apply yE)|(apply yG)|(apply yH)|(apply yL)
   |(refine W.cond _ rfl (fun hb => ?_) (fun hb => ?_) <;> ((try simp only [hb,zK]) <;> (try simp only [zL,zI] at hb) <;> (try (exfalso;omega))))))
  all_goals first
   |(exfalso;omega)|(refine ⟨k + 1,by omega,by omega,?_⟩;rw [← hs.out];exact ⟨[0],rfl,rfl,rfl,iV_eq (by omega),rfl,rfl,rfl,rfl,trivial⟩)
 ·have e : k = vs.length := by omega
  subst e
  rw [blkK_all] at *
  (repeat' (first
   |(apply W.qd;(first
   |(exact zM)|(exact zN)
   |(exact jAk)))|(apply yA)|(apply yB)|(refine jAc ?_)|(apply yE)|(apply yI)|(apply yJ)|(apply yK)|(apply yM)
   |(refine W.cond _ rfl (fun hb => ?_) (fun hb => ?_) <;> ((try simp only [hb,zK]) <;> (try simp only [zL,zI] at hb) <;> (try (exfalso;omega))))))
  exact ⟨.inl rfl,[0],[.osl 0 0 0 vs.length,iV 0],rfl,rfl,⟨rfl,rfl,trivial⟩,AVle.of_eq rfl,rfl⟩
theorem A_claimedB {d r n s l i : Int} {cs : List Cd} {vs : List Sv} {ts : List Tn} {us : List Ue} {rows : List SRw} (hI : In31 cs vs ts us rows) (hv : val31 d r n s l i cs vs ts us rows = false) : ACalls Tryz.prog 57 [cfgA d r n s l i,lib cs vs,tns ts,ues us,rws rows] [] (.tup [.d (.v (.slice none 0 0)),iV 1]) [] := by
 refine acalls_of_body Tryz.func57 rfl (zU rfl) ?_
 have f1 := A_valid24 (d := d) (r := r) (n := n) (s := s) (l := l) (i := i) (rows := rows) (by have := hI.rl;omega) hI.ru
 have f2 := A_valid30 hI.L
 have f3 := A_avalid (cs := cs) hI.L.vl hI.t hI.u
 unfold val31 at hv
 generalize validR d r n s l i rows = b1 at *
 generalize validB cs vs = b2 at *
 generalize tenB vs.length ts us = b3 at *
 cases b1 with
 | false =>
   (repeat' (first
    |(apply W.qd;(first
    |(exact zW (f1))|(exact zM)|(exact zN)|(exact jAo)|(exact q_not rfl)
    |(apply (yEb (u := .d _));exact rfl;exact rfl)))|(apply W.ed;(exact jAa))|(refine W.gOff _ _ rfl rfl (by intro h;cases h) ?_)|(apply yA)|(apply yB)|(refine jAc ?_)|(apply yE)|(apply yJ)|(apply yP)
    |(refine jAv ?_)))
   all_goals exact Ends.two rfl rfl rfl
 | true =>
   cases b2 with
   | false =>
     (repeat' (first
      |(apply yFb;exact rfl;exact rfl)
      |(apply W.qd;(first
      |(exact zW (f1))|(exact zW (f2))|(exact zM)|(exact zN)|(exact jAo)|(exact q_not rfl)|(apply (yEb (u := .d _));exact rfl;exact rfl)
      |(apply (yDb (u := .d _));exact rfl;exact rfl)))|(apply W.ed;(exact jAa))|(refine W.gOff _ _ rfl rfl (by intro h;cases h) ?_)|(apply yA)|(apply yB)|(refine jAc ?_)|(apply yE)|(apply yJ)|(apply yP)
      |(refine jAv ?_)))
     all_goals exact Ends.two rfl rfl rfl
   | true =>
     obtain rfl : b3 = false := by simpa using hv
     (repeat' (first
      |(apply yFb;exact rfl;exact rfl)
      |(apply W.qd;(first
      |(exact zW (f1))|(exact zW (f2))|(exact zW (f3))|(exact zM)|(exact zN)|(exact jAo)|(exact q_not rfl)
      |(apply (yDb (u := .d _));exact rfl;exact rfl)))|(apply W.ed;(exact jAa))|(apply yA)|(apply yB)|(refine jAc ?_)|(apply yE)|(apply yJ)|(apply yP)
      |(refine jAv ?_)))
     all_goals exact Ends.two rfl rfl rfl
end
section
theorem list8I {α : Type} {l : List α} (h : l.length = 8) : ∃ a0 a1 a2 a3 a4 a5 a6 a7,l = [a0,a1,a2,a3,a4,a5,a6,a7] := by
 match l,h with
 | [a0,a1,a2,a3,a4,a5,a6,a7],_ => exact ⟨_,_,_,_,_,_,_,_,rfl⟩
theorem jobs_pre {vs : List Sv} {b : Nat → Int} {k : Nat} : ∀ {n : Nat}, k ≤ n → ∃ t, jobsN vs b n = jobsN vs b k ++ t
 | 0,h => ⟨[],by rw [show k = 0 by omega];simp⟩
 | n + 1,h => by
   by_cases e : k = n + 1
   ·subst e;exact ⟨[],by simp⟩
   ·obtain ⟨t, ht⟩ := jobs_pre (vs := vs) (b := b) (k := k) (n := n) (by omega)
    exact ⟨t ++ (codesV (vs.getD n sv0)).map fun c => (c,b n),by rw [jobsN,ht,List.append_assoc]⟩
def BdF (F : Cd → Int → Int × Int) : Prop := ∀ c x,0 ≤ (F c x).1 ∧ (F c x).1 ≤ 2199023255554
theorem codN_bd (d r n s l i : Int) : BdF (codN d r n s l i) := fun c x => by
 have hg := grpI_nn (d := d) (r := r) (n := n) (s := s) (l := l) (i := i) (w := c.2.2.1 + (c.2.2.2.1.length : Int))
 unfold codN
 split
 ·decide
 ·split
  ·decide
  ·split
   ·decide
   ·rename_i h1 h2 h3
    have h4 : 0 ≤ x ∧ x ≤ 1099511627776 := by
     refine ⟨Classical.byContradiction fun h => h1 (.inr (.inr (.inl (by omega)))),Classical.byContradiction fun h => h1 (.inr (.inr (.inr (by omega))))⟩
    have h5 := limN_le (D := c.2.2.1) h4.1 h4.2
    have h6 := limN_nn c.2.2.1 x
    have h7 := upI_nn (a := limN c.2.2.1 x) (c := grpI d r n s l i (c.2.2.1 + (c.2.2.2.1.length : Int))) (by omega) h6
    have h8 := upI_le (a := limN c.2.2.1 x) (b := grpI d r n s l i (c.2.2.1 + (c.2.2.2.1.length : Int))) h6 (by omega)
    dsimp only
    omega
theorem run_bd {F : Cd → Int → Int × Int} {cs : List Cd} (hF : BdF F) : ∀ (l : List (Int × Int)) (a : List Int × Int), (∀ c, 0 ≤ a.1.getD c 0 ∧ a.1.getD c 0 ≤ 2199023255554) → ∀ c, 0 ≤ (l.foldl (stepJ F cs) a).1.getD c 0 ∧ (l.foldl (stepJ F cs) a).1.getD c 0 ≤ 2199023255554
 | [],a,h => h
 | j :: l,a,h => by
   rw [List.foldl_cons]
   refine run_bd hF l _ fun c => ?_
   unfold stepJ
   split
   ·exact h c
   ·dsimp only
    rw [getD_setI]
    split
    ·exact hF _ _
    ·exact h c
theorem runJ_bd {F : Cd → Int → Int × Int} {cs : List Cd} (hF : BdF F) (l : List (Int × Int)) (c : Nat) : 0 ≤ (runJ F cs l).1.getD c 0 ∧ (runJ F cs l).1.getD c 0 ≤ 2199023255554 := run_bd hF l _ (fun c => by
 rw [List.getD_eq_getElem?_getD,List.getElem?_replicate]
 split <;> simp) c
theorem runJ_l8 {F : Cd → Int → Int × Int} {cs : List Cd} (l : List (Int × Int)) : (runJ F cs l).1.length = 8 := runJ_len l _
theorem sumH_bd {L : List Int} {held : Nat → Int} (hL : ∀ c, 0 ≤ L.getD c 0 ∧ L.getD c 0 ≤ 2199023255554) (hh : ∀ c, 0 ≤ held c ∧ held c ≤ 1000000) : ∀ n, 0 ≤ sumH L held n ∧ sumH L held n ≤ (n : Int) * 2199023255554
 | 0 => by unfold sumH;omega
 | n + 1 => by
   have h1 := sumH_bd hL hh n
   have h2 := hL n
   have h3 := hh n
   unfold sumH mxI
   split <;> omega
theorem cls_codes {cs : List Cd} {vs : List Sv} (hV : validB cs vs = true) {k : Nat} (hk : k < vs.length) : (∃ m : Nat,vs[k].2.1 = (m : Int) ∧ m < cs.length) ∧ (vs[k].2.2.1 = -1 ∨ ∃ m : Nat,vs[k].2.2.1 = (m : Int) ∧ m < cs.length) := by
 have h := (valid_iff.1 hV).v k hk
 refine ⟨?_,?_⟩
 ·have := keeps_has h.kp
  exact ⟨vs[k].2.1.toNat,by omega,by omega⟩
 ·rcases h.kn with h1 | h1
  ·exact .inl h1
  ·have := keeps_has h1
   exact .inr ⟨vs[k].2.2.1.toNat,by omega,by omega⟩
theorem runJ_step {F : Cd → Int → Int × Int} {cs : List Cd} {l : List (Int × Int)} {m : Nat} {x : Int} (h : (runJ F cs l).2 = 0) (hm : m < cs.length) : runJ F cs (l ++ [((m : Int),x)]) = ((runJ F cs l).1.set m (F cs[m] x).1,(F cs[m] x).2) := by
 rw [runJ_app]
 unfold stepJ
 rw [if_neg (by simp [h])]
 dsimp only
 rw [Int.toNat_natCast,getDc hm]
abbrev iL (l : List Int) : List AV := [iV (l.getD 0 0),iV (l.getD 1 0),iV (l.getD 2 0),iV (l.getD 3 0),iV (l.getD 4 0),iV (l.getD 5 0),iV (l.getD 6 0),iV (l.getD 7 0)]
theorem iL_set {l : List Int} {m : Nat} {x : Int} (h : l.length = 8) (hm : m < 8) : (iL l).set (0 + m * 1) (iV x) = iL (l.set m x) := by
 obtain ⟨a0,a1,a2,a3,a4,a5,a6,a7,rfl⟩ := list8I h
 match m,hm with
 | 0,_ => rfl
 | 1,_ => rfl
 | 2,_ => rfl
 | 3,_ => rfl
 | 4,_ => rfl
 | 5,_ => rfl
 | 6,_ => rfl
 | 7,_ => rfl
theorem iL_get {l : List Int} {j : Nat} (hj : j < 8) : (iL l)[j]? = some (iV (l.getD j 0)) := by
 match j,hj with
 | 0,_ => rfl
 | 1,_ => rfl
 | 2,_ => rfl
 | 3,_ => rfl
 | 4,_ => rfl
 | 5,_ => rfl
 | 6,_ => rfl
 | 7,_ => rfl
def selN {α : Type} (j : Nat) (a b c : α) : α := match j with | 0 => a | 1 => b | _ => c
attribute [local irreducible] Quiet Eff OpOk AWPG ACont ABlock ACalls AGoto
theorem A_needs {d r n s l i : Int} {cs : List Cd} {vs : List Sv} {bl : List Int} (hL : LibIn cs vs) (hV : validB cs vs = true) (hb : bl.length = vs.length) :
 ACalls Tryz.prog 110 [cfgA d r n s l i,lib cs vs,ints bl] [] (.tup [.agg (iL (runJ (codN d r n s l i) cs (jobsN vs (fun k => bl.getD k 0) vs.length)).1),iV (runJ (codN d r n s l i) cs (jobsN vs (fun k => bl.getD k 0) vs.length)).2]) [] := by
 have hcode := fun (m : Nat) (hm : m < cs.length) (x : Int) => A_acode (d := d) (r := r) (n := n) (s := s) (l := l) (i := i) (x := x) (hL.cn _ (List.getElem_mem hm)) (hL.cp _ (List.getElem_mem hm))
 generalize codN d r n s l i = F at *
 have hbk : ∀ k (hk : k < vs.length),bl.getD k 0 = bl[k]'(by omega) := fun k hk => by rw [List.getD_eq_getElem?_getD,List.getElem?_eq_getElem (by omega)];rfl
 have hcc := fun k (hk : k < vs.length) => cls_codes hV hk
 obtain ⟨hc8,hv8⟩ := valid_vl hV
 have hmv : (vs.map svD).length = vs.length := List.length_map _
 have hmc : (cs.map cdD).length = cs.length := List.length_map _
 have hmb : (bl.map iD).length = bl.length := List.length_map _
 have hjs : ∀ k (hk : k < vs.length),jobsN vs (fun k => bl.getD k 0) (k + 1) = jobsN vs (fun k => bl.getD k 0) k ++ (codesV vs[k]).map fun c => (c,bl[k]'(by omega)) := fun k hk => by
  rw [jobsN,getDv hk,hbk k hk]
 have hpre := fun k (hk : k ≤ vs.length) => jobs_pre (vs := vs) (b := fun k => bl.getD k 0) (k := k) hk
 generalize hJ : jobsN vs (fun k => bl.getD k 0) = J at *
 have hJ0 : J 0 = [] := by rw [← hJ];rfl
 clear hJ hbk
 refine acalls_of_body Tryz.func110 rfl (zU rfl) ?_
 (repeat' (first
  |(apply W.qd;(first
  |(exact zM)|(exact zN)|(exact jAq)|(exact jAh)
  |(exact jAu)))
  |(apply W.ed;(first
  |(exact jAa)
  |(exact jAm)))|(apply yA)|(apply yB)|(apply (W.regionS 2);exact rfl;kernel_rfl)|(apply yE)|(apply yG)|(apply AWP.label)
  |(apply AWP.scope)))
 refine AWP.loopW (α := Nat) (fun k => k ≤ vs.length ∧ (runJ F cs (J k)).2 = 0) (fun k => ⟨[(15,iV k),(14,iV vs.length),(13,svs vs),(6,.opt 2 0),(2,ints bl),(3,.opt 0 0),(4,.opt 1 0),(7,iV 0)],[.box [iV d,iV r,iV n,iV s,iV l,iV i],.box [cds cs,svs vs],.box (iL (runJ F cs (J k)).1)]⟩) (fun k => vs.length - k) 0 ⟨Nat.zero_le _,by rw [hJ0];rfl⟩ ?wkA fun k hk => ?_
 case wkA =>
  rw [hJ0]
  exact ⟨[0,1,2],rfl,rfl,rfl,rfl,iV_eq (by rw [hmv]),rfl,rfl,rfl,rfl,rfl,rfl,trivial⟩
 obtain ⟨hk1,hk2⟩ := hk
 by_cases hkl : k < vs.length
 ·obtain ⟨⟨m0, hm0, hm0l⟩, hn⟩ := hcc k hkl
  have hjk := hjs k hkl
  have hp1 := hpre (k + 1) hkl
  clear hcc hjs
  obtain ⟨X,hX⟩ : ∃ X,bl[k]'(by omega) = X := ⟨_,rfl⟩
  have hc0 := hcode m0 hm0l X
  have hrun := runJ_step (x := X) hk2 hm0l
  have h8 := runJ_l8 (F := F) (cs := cs) (J k)
  have hbx : ∀ y,(bl[k]'(by omega) = y) → X = y := fun y h => hX.symm.trans h
  rw [hX] at hjk
  rcases hn with hn | ⟨m1,hm1,hm1l⟩
  ·-- the class has one code
   have hcv : codesV vs[k] = [(m0 : Int)] := by unfold codesV;rw [hm0,if_neg (by omega),if_pos hn]
   rw [hcv] at hjk
   have hjk : J (k + 1) = J k ++ [((m0 : Int),X)] := hjk
   rw [← hjk] at hrun
   generalize (runJ F cs (J k)).1 = L at *
   have hset := iL_set (x := (F cs[m0] X).1) h8 (show m0 < 8 by omega)
   clear hcode
   (repeat' (first
    |(apply W.qd;(first
    |(exact zM)|(exact zN)|(exact jAq)|(exact jAh)|(exact jAk)|(exact jAu)|(exact jAj)|(exact jAp)
    |(exact jA)))|(apply W.ed;(exact jAm))|(apply W.ln;(exact jAe))|(apply yA)|(apply yB)|(apply (W.regionS 5);exact rfl;kernel_rfl)|(apply yE)|(apply yG)|(apply yH)
    |(refine W.cond _ rfl (fun hb => ?_) (fun hb => ?_) <;> ((try simp only [hb,zK]) <;> (try simp only [zL,zI] at hb) <;> (try (exfalso;omega))))))
   refine AWP.loopW (α := Nat) (fun j => j ≤ 1 ∧ (j = 1 → (F cs[m0] X).2 = 0)) (fun j => ⟨[(26,iV j),(25,iV 2),(24,.d (.sl 1 [[.v (.int .i64 (m0 : Int))],[.v (.int .i64 (-1))]])),(8,iV k),(15,iV k),(14,iV vs.length),(13,svs vs),(6,.opt 2 0),(2,ints bl),(3,.opt 0 0),(4,.opt 1 0),(7,iV 0)],[.box [iV d,iV r,iV n,iV s,iV l,iV i],.box [cds cs,svs vs],.box (iL (selN j L (L.set m0 (F cs[m0] X).1) [])),.box ((svD vs[k]).map .d)]⟩) (fun j => 2 - j) 0 ⟨by omega,fun h => by omega⟩ ?wkB fun j hj => ?_
   case wkB =>
    rw [← hm0,← hn]
    exact ⟨[0,1,2,3],rfl,rfl,rfl,by (repeat (first | exact trivial | refine ⟨rfl,?_⟩))⟩
   by_cases hj0 : j = 0
   ·subst hj0
    show AWPG _ _ _ _ _ _ ⟨_,[_,_,.box (iL L),_]⟩
    by_cases he : (F cs[m0] X).2 = 0
    ·generalize F cs[m0] X = fx at *
     obtain ⟨x,y⟩ := fx
     obtain rfl : y = 0 := he
     rw [← hX] at hc0
     (repeat' (first
      |(apply W.qd;(first
      |(exact zW (hc0))
      |((apply (q_ix_ar (k := 1));(iterate 5 exact rfl);omega))|(exact zM)|(exact zN)|(exact jAq)|(exact jAh)|(exact jAo)|(exact jAk)|(exact q_eql rfl rfl)|(exact q_neq rfl rfl)|(exact jAl)|(exact yAb rfl rfl)|(exact jAg)|(exact jAj)|(apply q_ld_fpt;exact rfl;exact rfl;(first | assumption | exact rfl);exact rfl)
      |(exact jA)))|(apply W.en;((apply e_stS;(iterate 4 exact rfl);exact congrArg (fun l => [_,_,Ent.box l,_]) hset;(iterate 3 exact rfl);(show _ < 8;omega))))|(apply yA)|(apply yB)|(refine jAc ?_)|(refine jAs ?_)|(apply yE)|(refine jBa ?_)|(apply yG)|(apply yH)|(apply yL)|(refine jAv ?_)
      |(refine jAx ?_)))
     all_goals first
      |(exfalso;omega)
      |exact ⟨1,⟨by omega,fun _ => rfl⟩,by omega,⟨[0,1,2,3],rfl,rfl,rfl,by (repeat (first | exact trivial | refine ⟨rfl,?_⟩))⟩⟩
    ·obtain ⟨t, ht⟩ := hp1
     have hR : runJ F cs (J vs.length) = (L.set m0 (F cs[m0] X).1,(F cs[m0] X).2) := by
      rw [ht,runJ_err (by rw [hrun];exact he),hrun]
     rw [hR]
     generalize F cs[m0] X = fx at *
     obtain ⟨x,y⟩ := fx
     have he : y ≠ 0 := he
     rw [← hX] at hc0
     (repeat' (first
      |(apply W.qd;(first
      |(exact zW (hc0))
      |((apply (q_ix_ar (k := 1));(iterate 5 exact rfl);omega))|(exact zM)|(exact zN)|(exact jAq)|(exact jAh)|(exact jAo)|(exact jAk)|(exact q_eql rfl rfl)|(exact q_neq rfl rfl)|(exact yAb rfl rfl)|(exact jAg)|(exact jAj)|(apply q_ld_fpt;exact rfl;exact rfl;(first | assumption | exact rfl);exact rfl)
      |(exact jA)))|(apply W.ln;(exact jAe))|(apply W.en;((apply e_stS;(iterate 4 exact rfl);exact congrArg (fun l => [_,_,Ent.box l,_]) hset;(iterate 3 exact rfl);(show _ < 8;omega))))|(apply yA)|(apply yB)|(refine jAc ?_)|(refine jAs ?_)|(apply yE)|(refine jBa ?_)|(apply yG)|(apply yH)|(apply yJ)|(apply AGoto_ret)|(apply yP)|(apply yN)|(refine jAv ?_)|(refine jAx ?_)
      |(refine W.cond _ rfl (fun hb => ?_) (fun hb => ?_) <;> ((try simp only [hb,zK]) <;> (try simp only [zL,zI] at hb) <;> (try (exfalso;omega))))))
     all_goals first
      |(exfalso;omega)
      |exact Ends.cell2 rfl rfl rfl rfl rfl
   ·obtain rfl : j = 1 := by omega
    show AWPG _ _ _ _ _ _ ⟨_,[_,_,.box (iL (L.set m0 (F cs[m0] X).1)),_]⟩
    have hy := hj.2 rfl
    have hnx : (runJ F cs (J (k + 1))).2 = 0 := by rw [hrun];exact hy
    have hL8 : (runJ F cs (J (k + 1))).1 = L.set m0 (F cs[m0] X).1 := by rw [hrun]
    generalize L.set m0 (F cs[m0] X).1 = L1 at *
    (repeat' (first
     |(apply W.qd;(first
     |(exact zM)|(exact zN)|(exact jAk)|(exact q_eql rfl rfl)|(exact jAl)|(apply q_ld_fpt;exact rfl;exact rfl;(first | assumption | exact rfl);exact rfl)
     |(exact jA)))|(apply yA)|(apply yB)|(refine jAc ?_)|(apply yE)|(apply yG)|(apply yH)|(apply yI)|(apply yK)|(apply yM)|(apply yO;exact rfl)
     |(refine jAv ?_)))
    all_goals first
     |(exfalso;omega)|(refine ⟨k + 1,⟨by omega,hnx⟩,by omega,?_⟩;(try dsimp only);rw [hL8];exact ⟨[0,1,2],rfl,rfl,rfl,iV_eq (by omega),rfl,rfl,rfl,rfl,rfl,rfl,rfl,trivial⟩)
  ·-- the class has two codes
   have hcv : codesV vs[k] = [(m0 : Int),(m1 : Int)] := by unfold codesV;rw [hm0,if_neg (by omega),if_neg (by omega),hm1]
   rw [hcv] at hjk
   have hjk : J (k + 1) = (J k ++ [((m0 : Int),X)]) ++ [((m1 : Int),X)] := by rw [hjk,List.append_assoc];rfl
   have hc1 := hcode m1 hm1l X
   by_cases he : (F cs[m0] X).2 = 0
   case neg =>
    obtain ⟨t,ht⟩ := hp1
    have hR : runJ F cs (J vs.length) = ((runJ F cs (J k)).1.set m0 (F cs[m0] X).1,(F cs[m0] X).2) := by
     rw [ht,hjk,List.append_assoc,runJ_err (by rw [hrun];exact he),hrun]
    rw [hR]
    generalize (runJ F cs (J k)).1 = L at *
    have hset := iL_set (x := (F cs[m0] X).1) h8 (show m0 < 8 by omega)
    clear hcode hjk hrun ht
    (repeat' (first
     |(apply W.qd;(first
     |(exact zM)|(exact zN)|(exact jAq)|(exact jAh)|(exact jAk)|(exact jAu)|(exact jAj)|(exact jAp)
     |(exact jA)))|(apply W.ed;(exact jAm))|(apply W.ln;(exact jAe))|(apply yA)|(apply yB)|(apply (W.regionS 5);exact rfl;kernel_rfl)|(apply yE)|(apply yG)|(apply yH)
     |(refine W.cond _ rfl (fun hb => ?_) (fun hb => ?_) <;> ((try simp only [hb,zK]) <;> (try simp only [zL,zI] at hb) <;> (try (exfalso;omega))))))
    refine AWP.loopW (α := Nat) (fun j => j ≤ 0) (fun j => ⟨[(26,iV j),(25,iV 2),(24,.d (.sl 1 [[.v (.int .i64 (m0 : Int))],[.v (.int .i64 (m1 : Int))]])),(8,iV k),(15,iV k),(14,iV vs.length),(13,svs vs),(6,.opt 2 0),(2,ints bl),(3,.opt 0 0),(4,.opt 1 0),(7,iV 0)],[.box [iV d,iV r,iV n,iV s,iV l,iV i],.box [cds cs,svs vs],.box (iL L),.box ((svD vs[k]).map .d)]⟩) (fun j => 2 - j) 0 (Nat.le_refl _) ?wkC fun j hj => ?_
    case wkC =>
     rw [← hm0,← hm1]
     exact ⟨[0,1,2,3],rfl,rfl,rfl,by (repeat (first | exact trivial | refine ⟨rfl,?_⟩))⟩
    obtain rfl : j = 0 := by omega
    generalize F cs[m0] X = fx at *
    obtain ⟨x,y⟩ := fx
    have he : y ≠ 0 := he
    rw [← hX] at hc0
    (repeat' (first
     |(apply W.qd;(first
     |(exact zW (hc0))
     |((apply (q_ix_ar (k := 1));(iterate 5 exact rfl);omega))|(exact zM)|(exact zN)|(exact jAq)|(exact jAh)|(exact jAo)|(exact jAk)|(exact q_eql rfl rfl)|(exact q_neq rfl rfl)|(exact yAb rfl rfl)|(exact jAg)|(exact jAj)|(apply q_ld_fpt;exact rfl;exact rfl;(first | assumption | exact rfl);exact rfl)
     |(exact jA)))|(apply W.ln;(exact jAe))|(apply W.en;((apply e_stS;(iterate 4 exact rfl);exact congrArg (fun l => [_,_,Ent.box l,_]) hset;(iterate 3 exact rfl);(show _ < 8;omega))))|(apply yA)|(apply yB)|(refine jAc ?_)|(refine jAs ?_)|(apply yE)|(refine jBa ?_)|(apply yG)|(apply yH)|(apply yJ)|(apply AGoto_ret)|(apply yP)|(apply yN)|(refine jAv ?_)|(refine jAx ?_)
     |(refine W.cond _ rfl (fun hb => ?_) (fun hb => ?_) <;> ((try simp only [hb,zK]) <;> (try simp only [zL,zI] at hb) <;> (try (exfalso;omega))))))
    all_goals first
     |(exfalso;omega)
     |exact Ends.cell2 rfl rfl rfl rfl rfl
   have hrun1 := runJ_step (l := J k ++ [((m0 : Int),X)]) (x := X) (by rw [hrun];exact he) hm1l
   rw [← hjk,hrun] at hrun1
   generalize (runJ F cs (J k)).1 = L at *
   have hset := iL_set (x := (F cs[m0] X).1) h8 (show m0 < 8 by omega)
   have hset1 := iL_set (x := (F cs[m1] X).1) (l := L.set m0 (F cs[m0] X).1) (by rw [List.length_set];exact h8) (show m1 < 8 by omega)
   clear hcode hjk
   (repeat' (first
    |(apply W.qd;(first
    |(exact zM)|(exact zN)|(exact jAq)|(exact jAh)|(exact jAk)|(exact jAu)|(exact jAj)|(exact jAp)
    |(exact jA)))|(apply W.ed;(exact jAm))|(apply W.ln;(exact jAe))|(apply yA)|(apply yB)|(apply (W.regionS 5);exact rfl;kernel_rfl)|(apply yE)|(apply yG)|(apply yH)
    |(refine W.cond _ rfl (fun hb => ?_) (fun hb => ?_) <;> ((try simp only [hb,zK]) <;> (try simp only [zL,zI] at hb) <;> (try (exfalso;omega))))))
   refine AWP.loopW (α := Nat) (fun j => j ≤ 2 ∧ (j = 2 → (F cs[m1] X).2 = 0)) (fun j => ⟨[(26,iV j),(25,iV 2),(24,.d (.sl 1 [[.v (.int .i64 (m0 : Int))],[.v (.int .i64 (m1 : Int))]])),(8,iV k),(15,iV k),(14,iV vs.length),(13,svs vs),(6,.opt 2 0),(2,ints bl),(3,.opt 0 0),(4,.opt 1 0),(7,iV 0)],[.box [iV d,iV r,iV n,iV s,iV l,iV i],.box [cds cs,svs vs],.box (iL (selN j L (L.set m0 (F cs[m0] X).1) ((L.set m0 (F cs[m0] X).1).set m1 (F cs[m1] X).1))),.box ((svD vs[k]).map .d)]⟩) (fun j => 2 - j) 0 ⟨by omega,fun h => by omega⟩ ?wkB fun j hj => ?_
   case wkB =>
    rw [← hm0,← hm1]
    exact ⟨[0,1,2,3],rfl,rfl,rfl,by (repeat (first | exact trivial | refine ⟨rfl,?_⟩))⟩
   by_cases hj0 : j = 0
   ·subst hj0
    show AWPG _ _ _ _ _ _ ⟨_,[_,_,.box (iL L),_]⟩
    generalize F cs[m0] X = fx at *
    obtain ⟨x,y⟩ := fx
    obtain rfl : y = 0 := he
    rw [← hX] at hc0
    (repeat' (first
     |(apply W.qd;(first
     |(exact zW (hc0))
     |((apply (q_ix_ar (k := 1));(iterate 5 exact rfl);omega))|(exact zM)|(exact zN)|(exact jAq)|(exact jAh)|(exact jAo)|(exact jAk)|(exact q_eql rfl rfl)|(exact q_neq rfl rfl)|(exact jAl)|(exact yAb rfl rfl)|(exact jAg)|(exact jAj)|(apply q_ld_fpt;exact rfl;exact rfl;(first | assumption | exact rfl);exact rfl)
     |(exact jA)))|(apply W.en;((apply e_stS;(iterate 4 exact rfl);exact congrArg (fun l => [_,_,Ent.box l,_]) hset;(iterate 3 exact rfl);(show _ < 8;omega))))|(apply yA)|(apply yB)|(refine jAc ?_)|(refine jAs ?_)|(apply yE)|(refine jBa ?_)|(apply yG)|(apply yH)|(apply yL)|(refine jAv ?_)
     |(refine jAx ?_)))
    all_goals first
     |(exfalso;omega)
     |exact ⟨1,⟨by omega,fun h => by omega⟩,by omega,⟨[0,1,2,3],rfl,rfl,rfl,by (repeat (first | exact trivial | refine ⟨rfl,?_⟩))⟩⟩
   ·by_cases hj1 : j = 1
    ·subst hj1
     show AWPG _ _ _ _ _ _ ⟨_,[_,_,.box (iL (L.set m0 (F cs[m0] X).1)),_]⟩
     by_cases he1 : (F cs[m1] X).2 = 0
     ·generalize L.set m0 (F cs[m0] X).1 = L1 at *
      generalize F cs[m1] X = fx at *
      obtain ⟨x,y⟩ := fx
      obtain rfl : y = 0 := he1
      rw [← hX] at hc1
      (repeat' (first
       |(apply W.qd;(first
       |(exact zW (hc1))
       |((apply (q_ix_ar (k := 1));(iterate 5 exact rfl);omega))|(exact zM)|(exact zN)|(exact jAq)|(exact jAh)|(exact jAo)|(exact jAk)|(exact q_eql rfl rfl)|(exact q_neq rfl rfl)|(exact jAl)|(exact yAb rfl rfl)|(exact jAg)|(exact jAj)|(apply q_ld_fpt;exact rfl;exact rfl;(first | assumption | exact rfl);exact rfl)
       |(exact jA)))|(apply W.en;((apply e_stS;(iterate 4 exact rfl);exact congrArg (fun l => [_,_,Ent.box l,_]) hset1;(iterate 3 exact rfl);(show _ < 8;omega))))|(apply yA)|(apply yB)|(refine jAc ?_)|(refine jAs ?_)|(apply yE)|(refine jBa ?_)|(apply yG)|(apply yH)|(apply yL)|(refine jAv ?_)
       |(refine jAx ?_)))
      all_goals first
       |(exfalso;omega)
       |exact ⟨2,⟨by omega,fun _ => rfl⟩,by omega,⟨[0,1,2,3],rfl,rfl,rfl,by (repeat (first | exact trivial | refine ⟨rfl,?_⟩))⟩⟩
     ·obtain ⟨t, ht⟩ := hp1
      have hR : runJ F cs (J vs.length) = ((L.set m0 (F cs[m0] X).1).set m1 (F cs[m1] X).1,(F cs[m1] X).2) := by
       rw [ht,runJ_err (by rw [hrun1];exact he1),hrun1]
      rw [hR]
      generalize L.set m0 (F cs[m0] X).1 = L1 at *
      generalize F cs[m1] X = fx at *
      obtain ⟨x,y⟩ := fx
      have he1 : y ≠ 0 := he1
      rw [← hX] at hc1
      (repeat' (first
       |(apply W.qd;(first
       |(exact zW (hc1))
       |((apply (q_ix_ar (k := 1));(iterate 5 exact rfl);omega))|(exact zM)|(exact zN)|(exact jAq)|(exact jAh)|(exact jAo)|(exact jAk)|(exact q_eql rfl rfl)|(exact q_neq rfl rfl)|(exact yAb rfl rfl)|(exact jAg)|(exact jAj)|(apply q_ld_fpt;exact rfl;exact rfl;(first | assumption | exact rfl);exact rfl)
       |(exact jA)))|(apply W.ln;(exact jAe))|(apply W.en;((apply e_stS;(iterate 4 exact rfl);exact congrArg (fun l => [_,_,Ent.box l,_]) hset1;(iterate 3 exact rfl);(show _ < 8;omega))))|(apply yA)|(apply yB)|(refine jAc ?_)|(refine jAs ?_)|(apply yE)|(refine jBa ?_)|(apply yG)|(apply yH)|(apply yJ)|(apply AGoto_ret)|(apply yP)|(apply yN)|(refine jAv ?_)|(refine jAx ?_)
       |(refine W.cond _ rfl (fun hb => ?_) (fun hb => ?_) <;> ((try simp only [hb,zK]) <;> (try simp only [zL,zI] at hb) <;> (try (exfalso;omega))))))
      all_goals first
       |(exfalso;omega)
       |exact Ends.cell2 rfl rfl rfl rfl rfl
    ·obtain rfl : j = 2 := by omega
     show AWPG _ _ _ _ _ _ ⟨_,[_,_,.box (iL ((L.set m0 (F cs[m0] X).1).set m1 (F cs[m1] X).1)),_]⟩
     have hy := hj.2 rfl
     have hnx : (runJ F cs (J (k + 1))).2 = 0 := by rw [hrun1];exact hy
     have hL8 : (runJ F cs (J (k + 1))).1 = (L.set m0 (F cs[m0] X).1).set m1 (F cs[m1] X).1 := by rw [hrun1]
     generalize (L.set m0 (F cs[m0] X).1).set m1 (F cs[m1] X).1 = L2 at *
     (repeat' (first
      |(apply W.qd;(first
      |(exact zM)|(exact jAk)
      |(exact jAl)))|(apply yA)|(apply yB)|(refine jAc ?_)|(apply yE)|(apply yI)|(apply yK)|(apply yL)|(apply yM)
      |(refine jAx ?_)))
     all_goals first
      |(exfalso;omega)|(refine ⟨k + 1,⟨by omega,hnx⟩,by omega,?_⟩;(try dsimp only);rw [hL8];exact ⟨[0,1,2],rfl,rfl,rfl,iV_eq (by omega),rfl,rfl,rfl,rfl,rfl,rfl,rfl,trivial⟩)
 ·obtain rfl : k = vs.length := by omega
  rw [hk2]
  generalize (runJ F cs (J vs.length)).1 = L at *
  (repeat' (first
   |(apply W.qd;(first
   |(exact zN)|(exact jAo)
   |(exact jAk)))|(apply W.ln;(exact jAe))|(apply yA)|(apply yB)|(refine jAc ?_)|(apply yE)|(apply yI)|(apply yJ)|(apply yK)|(apply AGoto_ret)|(apply yM)
   |(refine W.cond _ rfl (fun hb => ?_) (fun hb => ?_) <;> ((try simp only [hb,zK]) <;> (try simp only [zL,zI] at hb) <;> (try (exfalso;omega))))))
  all_goals first | (exfalso;omega) | exact Ends.cell2 rfl rfl rfl rfl rfl
def heldF (rows : List SRw) (c : Nat) : Int := (heldN rows (c : Int) : Nat)
theorem heldF_bd {rows : List SRw} (hl : rows.length ≤ 64) (c : Nat) : 0 ≤ heldF rows c ∧ heldF rows c ≤ 1000000 := by
 have := heldT_le rows (c : Int) rows.length
 unfold heldF heldN
 omega
theorem A_total {d r n s l i : Int} {cs : List Cd} {vs : List Sv} {bl : List Int} {rows : List SRw} (hL : LibIn cs vs) (hV : validB cs vs = true) (hb : bl.length = vs.length) (hr : rows.length ≤ 64) :
 ACalls Tryz.prog 60 [cfgA d r n s l i,lib cs vs,ints bl,rws rows] [] (.tup [iV (totN (codN d r n s l i) cs vs (heldF rows) (fun k => bl.getD k 0)).1,iV (totN (codN d r n s l i) cs vs (heldF rows) (fun k => bl.getD k 0)).2]) [] := by
 have hnd := A_needs (d := d) (r := r) (n := n) (s := s) (l := l) (i := i) hL hV hb
 have hbd := runJ_bd (cs := cs) (codN_bd d r n s l i) (jobsN vs (fun k => bl.getD k 0) vs.length)
 have h8 := runJ_l8 (F := codN d r n s l i) (cs := cs) (jobsN vs (fun k => bl.getD k 0) vs.length)
 have hhe := fun c : Int => A_held (rows := rows) (c := c) (by omega)
 have hhb := heldF_bd hr
 unfold totN
 generalize runJ (codN d r n s l i) cs (jobsN vs (fun k => bl.getD k 0) vs.length) = R at *
 obtain ⟨L,e⟩ := R
 dsimp only at *
 refine acalls_of_body Tryz.func60 rfl (zU rfl) ?_
 by_cases he : e = 0
 case neg =>
  rw [if_pos he]
  (repeat' (first
   |(apply W.qd;(first
   |(exact zW (hnd))|(exact zM)|(exact zN)|(exact jAo)|(exact q_neq rfl rfl)
   |(exact yAb rfl rfl)))
   |(apply W.ed;(first
   |(exact jAa)
   |(exact jAm)))|(apply W.ln;(exact jAe))|(apply yA)|(apply yB)|(refine jAc ?_)|(apply yE)|(apply yJ)|(apply yP)
   |(refine W.cond _ rfl (fun hb => ?_) (fun hb => ?_) <;> ((try simp only [hb,zK]) <;> (try simp only [zL,zI] at hb) <;> (try (exfalso;omega))))))
  all_goals first | (exfalso;omega) | exact Ends.two rfl rfl rfl
 rw [if_neg (by simp [he])]
 subst he
 have hsb := sumH_bd hbd hhb
 have hst : ∀ j,sumH L (heldF rows) (j + 1) = sumH L (heldF rows) j + mxI (L.getD j 0) (heldF rows j) := fun j => rfl
 have hget : ∀ j,j < 8 → (iL L)[j]? = some (iV (L.getD j 0)) := fun j hj => iL_get hj
 have hmb : ∀ j,0 ≤ mxI (L.getD j 0) (heldF rows j) ∧ mxI (L.getD j 0) (heldF rows j) ≤ 2199023255554 := fun j => by
  have h1 := hbd j
  have h2 := hhb j
  unfold mxI
  split <;> omega
 generalize hS : sumH L (heldF rows) = S at *
 have hS0 : S 0 = 0 := by rw [← hS];rfl
 clear h8 hS
 (repeat' (first
  |(apply W.qd;(first
  |(exact zW (hnd))|(exact zM)|(exact zN)|(exact jAo)|(exact q_neq rfl rfl)
  |(exact yAb rfl rfl)))
  |(apply W.ed;(first
  |(exact jAa)
  |(exact jAm)))|(apply W.ln;(exact jAe))|(apply yA)|(apply yB)|(apply (W.regionS 6);exact rfl;kernel_rfl)|(apply yE)|(apply yG)|(apply yH)
  |(refine jAx ?_)))
 all_goals try (exfalso;omega)
 refine AWP.loopW (α := Nat) (fun j => j ≤ 8) (fun j => ⟨[(26,iV j),(25,.agg (iL L)),(12,iV (S j)),(3,rws rows)],[]⟩) (fun j => 8 - j) 0 (Nat.zero_le _) ?wkA fun j hj => ?_
 case wkA =>
  rw [hS0]
  exact ⟨[],rfl,rfl,rfl,by (repeat (first | exact trivial | refine ⟨rfl,?_⟩))⟩
 by_cases hjl : j < 8
 ·have hg := hget j hjl
  have hs := hst j
  have hm := hmb j
  have hsj := hsb j
  have hh := hhe (j : Int)
  have hh : ACalls Tryz.prog 111 [rws rows,iV (j : Int)] [] (iV (heldF rows j)) [] := hh
  generalize L.getD j 0 = x at *
  generalize heldF rows j = y at *
  clear hget hst hmb hsb hhe hhb hbd
  (repeat' (first
   |(apply W.qd;(first
   |(exact zW (hh))
   |((apply q_maxM;exact rfl;exact rfl))
   |((apply q_ix_ag;(iterate 5 exact rfl);exact hg;omega))|(exact zM)|(exact zN)|(exact jAk)
   |(exact jAl)))|(apply yA)|(apply yB)|(refine jAc ?_)|(apply yE)|(apply yG)|(apply yH)|(apply yL)
   |(refine W.cond _ rfl (fun hb => ?_) (fun hb => ?_) <;> ((try simp only [hb,zK]) <;> (try simp only [zL,zI] at hb) <;> (try (exfalso;omega))))))
  all_goals first
   |(exfalso;omega)|(refine ⟨j + 1,by omega,by omega,?_⟩;(try dsimp only);rw [hs];exact ⟨[],rfl,rfl,rfl,iV_eq (by omega),rfl,rfl,rfl,trivial⟩)
 ·obtain rfl : j = 8 := by omega
  (repeat' (first
   |(apply W.qd;(first
   |(exact zM)|(exact zN)
   |(exact jAk)))|(apply yA)|(apply yB)|(refine jAc ?_)|(apply yE)|(apply yI)|(apply yJ)|(apply yK)|(apply yM)
   |(refine jAx ?_)))
  all_goals first | (exfalso;omega) | exact Ends.two rfl rfl rfl
def rowN31 (d r n s l i : Int) (cs : List Cd) (vs : List Sv) (ts : List Tn) (us : List Ue) (rows : List SRw) : Int × Int := if val31 d r n s l i cs vs ts us rows = true then totN (codN d r n s l i) cs vs (heldF rows) (blkF ts us) else (0,1)
def admN (d r n s l i : Int) (cs : List Cd) (vs : List Sv) (ts : List Tn) (us : List Ue) (rows : List SRw) : Int := if (rowN31 d r n s l i cs vs ts us rows).2 = 0 ∧ n ≤ (rowN31 d r n s l i cs vs ts us rows).1 then refI else (rowN31 d r n s l i cs vs ts us rows).2
theorem A_rows {d r n s l i : Int} {cs : List Cd} {vs : List Sv} {ts : List Tn} {us : List Ue} {rows : List SRw} (hI : In31 cs vs ts us rows) : ACalls Tryz.prog 20 [cfgA d r n s l i,lib cs vs,tns ts,ues us,rws rows] [] (.tup [iV (rowN31 d r n s l i cs vs ts us rows).1,iV (rowN31 d r n s l i cs vs ts us rows).2]) [] := by
 refine acalls_of_body Tryz.func20 rfl (zU rfl) ?_
 unfold rowN31
 cases hv : val31 d r n s l i cs vs ts us rows with
 | false =>
   have hc := A_claimedB hI hv
   rw [if_neg (by simp)]
   (repeat' (first
    |(apply W.qd;(first
    |(exact zW (hc))|(exact zM)|(exact zN)|(exact jAo)|(exact q_neq rfl rfl)
    |(exact yAb rfl rfl)))|(apply W.ed;(exact jAa))|(apply yA)|(apply yB)|(refine jAc ?_)|(apply yE)|(apply yJ)|(apply yP)
    |(refine jAv ?_)))
   all_goals first | (exfalso;omega) | exact Ends.two rfl rfl rfl
 | true =>
   have hc := A_claimed hI hv
   have hV : validB cs vs = true := by unfold val31 at hv;simp only [Bool.and_eq_true] at hv;exact hv.1.2
   have hbl : (blkL vs.length ts us).length = vs.length := by unfold blkL;simp
   have ht := A_total (d := d) (r := r) (n := n) (s := s) (l := l) (i := i) (rows := rows) hI.L hV hbl hI.rl
   rw [tot_congr (b' := blkF ts us) (fun k hk => blkL_get hk)] at ht
   rw [if_pos rfl]
   generalize totN (codN d r n s l i) cs vs (heldF rows) (blkF ts us) = T at *
   obtain ⟨t1,t2⟩ := T
   generalize blkL vs.length ts us = B at *
   have hBl : vs.length = (B.map iD).length := by rw [List.length_map];exact hbl.symm
   have hfz : ∀ own own' : List Ent,own[2]? = some (.row 0 1 3 (B.map iD)) → same [2] own own' → AV.frzL own' [] [cfgA d r n s l i,lib cs vs,.osl 2 0 0 vs.length,rws rows] = [cfgA d r n s l i,lib cs vs,ints B,rws rows] := fun own own' h1 h2 =>
    congrArg (fun z => [cfgA d r n s l i,lib cs vs,z,rws rows]) (frz_rowJ ((h2 2 (by simp)).trans h1) rfl hBl)
   (repeat' (first
    |(apply W.qd;(first
    |((apply (q_callF (js := [2]) ht);exact rfl;exact fun own' hh => hfz _ own' rfl hh;exact rfl;kernel_rfl))|(exact zM)|(exact zN)|(exact jAo)|(exact q_neq rfl rfl)
    |(exact yAb rfl rfl)))
    |(apply W.ed;(first
    |(apply (e_callJ (js := []) (hc));(iterate 5 exact rfl);kernel_rfl;kernel_rfl)
    |(exact jAa)))|(apply yA)|(apply yB)|(refine jAc ?_)|(apply yE)|(apply yH)|(apply yJ)
    |(refine jAx ?_)))
   all_goals first | (exfalso;omega) | exact Ends.two rfl rfl rfl
theorem A_admit {d r n s l i : Int} {cs : List Cd} {vs : List Sv} {ts : List Tn} {us : List Ue} {rows : List SRw} (hI : In31 cs vs ts us rows) : ACalls Tryz.prog 19 [cfgA d r n s l i,lib cs vs,tns ts,ues us,rws rows] [] (iV (admN d r n s l i cs vs ts us rows)) [] := by
 refine acalls_of_body Tryz.func19 rfl (zU rfl) ?_
 have hr := A_rows (d := d) (r := r) (n := n) (s := s) (l := l) (i := i) hI
 unfold admN
 generalize rowN31 d r n s l i cs vs ts us rows = T at *
 obtain ⟨t1,t2⟩ := T
 dsimp only at *
 (repeat' (first
  |(apply yFb;exact rfl;exact rfl)
  |(apply W.qd;(first
  |(exact zW (hr))|(exact zM)|(exact zN)|(exact jAq)|(exact jAh)|(exact jAo)|(exact q_geq rfl rfl)|(exact q_eql rfl rfl)|(exact yAb rfl rfl)|(apply (yEb (u := .d _));exact rfl;exact rfl)
  |(apply (yDb (u := .d _));exact rfl;exact rfl)))|(apply W.ed;(exact jAa))|(refine W.gOff _ _ rfl rfl (by intro h;cases h) ?_)|(apply yA)|(apply yB)|(refine jAc ?_)|(apply yE)|(apply yH)|(apply yJ)|(apply yP)|(refine jAx ?_)|(refine W.gT _ _ rfl rfl (fun hb => ?_) (fun hb => ?_) <;> ((try simp only [hb,zK]) <;> (try simp only [zL,zI] at hb) <;> (try (exfalso;omega))))
  |(refine W.cond _ rfl (fun hb => ?_) (fun hb => ?_) <;> ((try simp only [hb,zK]) <;> (try simp only [zL,zI] at hb) <;> (try (exfalso;omega))))))
 all_goals first
  |(exfalso;omega)|(refine Ends.i rfl ?_;first | (rw [if_pos (by omega)];done) | (rw [if_neg (by omega)];done))
end
section
def srchF (q : Nat → Bool) : Nat → Nat → Nat → Nat → Nat × Nat
 | 0,i,_,y => (i,y)
 | f + 1,i,j,y => if i < j then (if q ((i + j) >>> 1) = true then srchF q f i ((i + j) >>> 1) ((i + j) >>> 1 + 1) else srchF q f ((i + j) >>> 1 + 1) j ((i + j) >>> 1 + 1)) else (i,y)
def srchG (q : Nat → Bool) (i j y : Nat) : Nat × Nat := srchF q (j - i) i j y
theorem half_eq (i j : Nat) : (i + j) >>> 1 = (i + j) / 2 := Nat.shiftRight_eq_div_pow _ 1
theorem srchF_more {q : Nat → Bool} : ∀ (f i j y : Nat), j - i ≤ f → srchF q f i j y = srchF q (f + 1) i j y
 | 0,i,j,y,h => by rw [srchF,srchF,if_neg (by omega)]
 | f + 1,i,j,y,h => by
   have hh := half_eq i j
   rw [srchF,srchF]
   by_cases h1 : i < j
   ·rw [if_pos h1, if_pos h1]
    split
    ·exact srchF_more f _ _ _ (by omega)
    ·exact srchF_more f _ _ _ (by omega)
   ·rw [if_neg h1,if_neg h1]
theorem srchF_enough {q : Nat → Bool} {i j y : Nat} : ∀ d, srchF q (j - i + d) i j y = srchG q i j y
 | 0 => rfl
 | d + 1 => by rw [← srchF_enough d,← Nat.add_assoc];exact (srchF_more _ _ _ _ (by omega)).symm
theorem srchG_step {q : Nat → Bool} {i j y : Nat} (h : i < j) : srchG q i j y = if q ((i + j) >>> 1) = true then srchG q i ((i + j) >>> 1) ((i + j) >>> 1 + 1) else srchG q ((i + j) >>> 1 + 1) j ((i + j) >>> 1 + 1) := by
 have hh := half_eq i j
 obtain ⟨f,hf⟩ : ∃ f,j - i = f + 1 := ⟨j - i - 1,by omega⟩
 have e1 : srchG q i j y = srchF q (f + 1) i j y := by unfold srchG;rw [hf]
 rw [e1,srchF,if_pos h]
 split
 ·have := srchF_enough (q := q) (i := i) (j := (i + j) >>> 1) (y := (i + j) >>> 1 + 1) (f - ((i + j) >>> 1 - i))
  rw [← this];congr 1;omega
 ·have := srchF_enough (q := q) (i := (i + j) >>> 1 + 1) (j := j) (y := (i + j) >>> 1 + 1) (f - (j - ((i + j) >>> 1 + 1)))
  rw [← this];congr 1;omega
theorem srchG_end {q : Nat → Bool} {i j y : Nat} (h : ¬ i < j) : srchG q i j y = (i,y) := by
 unfold srchG
 rw [show j - i = 0 by omega];rfl
theorem srch_spec {q : Nat → Bool} {n : Nat} (hq : ∀ a b, a ≤ b → q a = true → q b = true) : ∀ (k i j y : Nat), j - i ≤ k → i ≤ j → j ≤ n → (∀ m, m < i → q m = false) → (j = n ∨ q j = true) → (srchG q i j y).1 ≤ n ∧ (∀ m, m < (srchG q i j y).1 → q m = false) ∧ ((srchG q i j y).1 = n ∨ q (srchG q i j y).1 = true)
 | k,i,j,y,hk,hij,hjn,h1,h2 => by
   by_cases h : i < j
   ·have hh := half_eq i j
    rw [srchG_step h]
    obtain ⟨k,rfl⟩ : ∃ k',k = k' + 1 := ⟨k - 1,by omega⟩
    split
    ·rename_i hq1
     exact srch_spec hq k _ _ _ (by omega) (by omega) (by omega) h1 (.inr hq1)
    ·rename_i hq1
     exact srch_spec hq k _ _ _ (by omega) (by omega) hjn (fun m hm => by
      cases hqm : q m with
      | false => rfl
      | true => exact absurd (hq m _ (by omega) hqm) hq1) h2
   ·rw [srchG_end h]
    have : i = j := by omega
    subst this
    exact ⟨hjn,h1,h2⟩
def roomI (d r n s l i : Int) (cs : List Cd) (vs : List Sv) (ts : List Tn) (us : List Ue) (rows : List SRw) (k : Int) : Int := if admN d r n s l i cs vs ts us rows = 0 ∧ 0 ≤ k ∧ k < (vs.length : Int) then (roomT (codN d r n s l i) cs vs (heldF rows) n (blkF ts us) k.toNat : Nat) else -1
theorem adm_val {d r n s l i : Int} {cs : List Cd} {vs : List Sv} {ts : List Tn} {us : List Ue} {rows : List SRw} (h : admN d r n s l i cs vs ts us rows = 0) : val31 d r n s l i cs vs ts us rows = true ∧ fitT (codN d r n s l i) cs vs (heldF rows) n (blkF ts us) = true := by
 unfold admN rowN31 at h
 cases hv : val31 d r n s l i cs vs ts us rows with
 | false => rw [hv,if_neg (by simp)] at h;simp at h
 | true =>
   rw [hv,if_pos rfl] at h
   refine ⟨rfl,?_⟩
   unfold fitT
   rw [decide_eq_true_eq]
   split at h
   ·exact absurd h (by decide)
   ·rename_i h1
    exact ⟨h,by omega⟩
theorem blkF_nn {nv : Nat} {ts : List Tn} {us : List Ue} (h : tenB nv ts us = true) (k : Nat) : 0 ≤ blkF ts us k := (blkN_bd h).1
theorem val_ten {d r n s l i : Int} {cs : List Cd} {vs : List Sv} {ts : List Tn} {us : List Ue} {rows : List SRw} (h : val31 d r n s l i cs vs ts us rows = true) : validB cs vs = true ∧ tenB vs.length ts us = true := by
 unfold val31 at h
 simp only [Bool.and_eq_true] at h
 exact ⟨h.1.2,h.2⟩
section
variable {P : Program} {m : Nat} {env : List (Nat × AV)} {own : List Ent} {dst : Option Tmp} {ty : TypeId} {pos : String} {af : Array Edge} {gd : Option (Nat × Bool)}
theorem q_shrE {t t' : TypeId} {x y : Operand} {k' : IntKind} {xn v : Nat} (hx : lookO env x = .d (.v (.int .u64 (xn : Int)))) (hy : lookO env y = .d (.v (.int k' 1))) (h : xn >>> 1 = v) :
 Quiet P m ⟨dst,.binOp .shr t x y t',ty,pos,af,gd⟩ env own [] (.d (.v (.int .u64 (v : Int)))) := by
 subst h;exact q_shrN (n := 1) hx hy rfl rfl (by decide)
end
attribute [local irreducible] Quiet Eff OpOk AWPG ACont ABlock ACalls AGoto
theorem A_sortSearch {O : Nat → List Ent} {g : FuncId} {caps : List AV} (q : Nat → Bool) {n : Nat} (hn : n ≤ 2000000) (hgf : isFn Tryz.prog g = true) (hg : ∀ y h,h < n → ACalls Tryz.prog g (iV (h : Nat) :: caps) (O y) (bV (q h)) (O (h + 1))) : ACalls Tryz.prog 58 [iV n,.fn g caps] (O 0) (iV (srchG q 0 n 0).1) (O (srchG q 0 n 0).2) := by
 refine acalls_of_bodyS Tryz.func58 rfl (zU rfl) ?_
 (repeat' (first
  |(apply W.qd;(first
  |(exact zM)
  |(exact zN)))|(apply yA)|(apply yB)|(apply (W.regionS 2);exact rfl;kernel_rfl)|(apply yE)
  |(apply yG)))
 refine AWP.loopE (α := Nat × Nat × Nat) (fun x => x.1 ≤ x.2.1 ∧ x.2.1 ≤ n ∧ srchG q x.1 x.2.1 x.2.2 = srchG q 0 n 0) (fun x => ⟨[(5,iV x.1),(6,iV x.2.1),(1,.fn g caps)],O x.2.2⟩) (fun x => x.2.1 - x.1) (0,n,0) ⟨Nat.zero_le _,Nat.le_refl _,rfl⟩ ⟨rfl,by (repeat (first | exact trivial | refine ⟨rfl,?_⟩))⟩ fun x hx => ?_
 obtain ⟨i,j,y⟩ := x
 dsimp only at hx ⊢
 obtain ⟨h1,h2,h3⟩ := hx
 by_cases hij : i < j
 ·have hh := half_eq i j
  rw [srchG_step hij] at h3
  have hgh := hg y ((i + j) >>> 1) (by omega)
  generalize hH : (i + j) >>> 1 = H at *
  cases hqv : q H with
  | true =>
    rw [hqv] at hgh
    rw [hqv,if_pos rfl] at h3
    (repeat' (first
     |(apply W.qd;(first
     |((apply (q_convU (v := i + j));(iterate 3 exact rfl);omega;omega))
     |((apply (q_shrE (v := H));exact rfl;exact rfl;exact hH))|(exact zM)|(exact zN)|(exact jAk)|(exact q_not rfl)|(exact jAl)
     |(apply q_convI;(iterate 3 exact rfl);omega)))|(apply W.ed;((apply (e_callA hgh);exact rfl;exact rfl;exact hgf)))|(apply yA)|(apply yB)|(refine jAc ?_)|(apply yE)|(apply yG)|(apply yH)|(apply yL)|(refine jAx ?_)
     |(refine W.cond _ rfl (fun hb => ?_) (fun hb => ?_) <;> ((try simp only [hb,zK]) <;> (try simp only [zL,zI] at hb) <;> (try (exfalso;omega))))))
    all_goals first
     |(exfalso;omega)
     |exact ⟨(i,H,H + 1),⟨by dsimp only;omega,by dsimp only;omega,h3⟩,by dsimp only;omega,⟨rfl,by (repeat (first | exact trivial | refine ⟨rfl,?_⟩))⟩⟩
  | false =>
    rw [hqv] at hgh
    rw [hqv,if_neg (by simp)] at h3
    (repeat' (first
     |(apply W.qd;(first
     |((apply (q_convU (v := i + j));(iterate 3 exact rfl);omega;omega))
     |((apply (q_shrE (v := H));exact rfl;exact rfl;exact hH))|(exact zM)|(exact zN)|(exact jAk)|(exact q_not rfl)|(exact jAl)
     |(apply q_convI;(iterate 3 exact rfl);omega)))|(apply W.ed;((apply (e_callA hgh);exact rfl;exact rfl;exact hgf)))|(apply yA)|(apply yB)|(refine jAc ?_)|(apply yE)|(apply yG)|(apply yH)|(apply yL)|(refine jAv ?_)
     |(refine W.cond _ rfl (fun hb => ?_) (fun hb => ?_) <;> ((try simp only [hb,zK]) <;> (try simp only [zL,zI] at hb) <;> (try (exfalso;omega))))))
    all_goals first
     |(exfalso;omega)
     |exact ⟨(H + 1,j,H + 1),⟨by dsimp only;omega,by dsimp only;omega,h3⟩,by dsimp only;omega,⟨rfl,by (repeat (first | exact trivial | refine ⟨rfl,?_⟩))⟩⟩
 ·rw [srchG_end hij] at h3
  rw [← h3]
  (repeat' (first
   |(apply W.qd;(first
   |(exact zM)|(exact zN)
   |(exact jAk)))|(apply yA)|(apply yB)|(refine jAc ?_)|(apply yE)|(apply yI)|(apply yJ)|(apply yK)|(apply yM)
   |(refine W.cond _ rfl (fun hb => ?_) (fun hb => ?_) <;> ((try simp only [hb,zK]) <;> (try simp only [zL,zI] at hb) <;> (try (exfalso;omega))))))
  all_goals first | (exfalso;omega) | exact EndsS.i rfl rfl
def blS (bl : List Int) (k : Nat) (b : Int) (y : Nat) : List Int := match y with | 0 => bl | h + 1 => bl.set k (b + (h : Int) + 1)
theorem blS_len (bl : List Int) (k : Nat) (b : Int) (y : Nat) : (blS bl k b y).length = bl.length := by
 cases y with
 | zero => rfl
 | succ h => exact List.length_set
theorem blS_set (bl : List Int) (k : Nat) (b : Int) (y h : Nat) : (blS bl k b y).set k (b + (h : Int) + 1) = blS bl k b (h + 1) := by
 cases y with
 | zero => rfl
 | succ h => exact List.set_set ..
def rmO (d r n s l i : Int) (cs : List Cd) (vs : List Sv) (rows : List SRw) (bl : List Int) (k : Nat) (b : Int) (y : Nat) : List Ent := [.box [iV d,iV r,iV n,iV s,iV l,iV i],.box [cds cs,svs vs],.box [rws rows],.box [iV k],.row 0 1 3 ((blS bl k b y).map iD),.box [.osl 4 0 0 vs.length],.box [iV b]]
def rmQ (d r n s l i : Int) (cs : List Cd) (vs : List Sv) (rows : List SRw) (bl : List Int) (k : Nat) (b : Int) (h : Nat) : Bool := !fitT (codN d r n s l i) cs vs (heldF rows) n (fun j => (blS bl k b (h + 1)).getD j 0)
theorem A_room1 {d r n s l i : Int} {cs : List Cd} {vs : List Sv} {rows : List SRw} {bl : List Int} {k : Nat} {b : Int} {y h : Nat} (hL : LibIn cs vs) (hV : validB cs vs = true) (hb : bl.length = vs.length) (hr : rows.length ≤ 64) (hk : k < vs.length) (hbb : 0 ≤ b ∧ b ≤ 68719476704) (hh : h < 1048576) :
 ACalls Tryz.prog 59 [iV (h : Nat),.opt 6 0,.opt 5 0,.opt 3 0,.opt 0 0,.opt 1 0,.opt 2 0] (rmO d r n s l i cs vs rows bl k b y) (bV (rmQ d r n s l i cs vs rows bl k b h)) (rmO d r n s l i cs vs rows bl k b (h + 1)) := by
 have ht := A_total (d := d) (r := r) (n := n) (s := s) (l := l) (i := i) (bl := blS bl k b (h + 1)) hL hV (by rw [blS_len];exact hb) hr
 have hs := Lib.hid (blS_set bl k b y h)
 have hl1 := blS_len bl k b y
 have hl2 := blS_len bl k b (h + 1)
 unfold rmO rmQ fitT
 generalize totN (codN d r n s l i) cs vs (heldF rows) (fun j => (blS bl k b (h + 1)).getD j 0) = T at *
 obtain ⟨t1,t2⟩ := T
 generalize blS bl k b (h + 1) = B2 at *
 generalize blS bl k b y = B1 at *
 have hv8 := (valid_vl hV).2
 have hBl : vs.length = (B2.map iD).length := by rw [List.length_map];omega
 have hfz : ∀ own own' : List Ent,own[4]? = some (.row 0 1 3 (B2.map iD)) → same [4] own own' → AV.frzL own' [] [cfgA d r n s l i,lib cs vs,.osl 4 0 0 vs.length,rws rows] = [cfgA d r n s l i,lib cs vs,ints B2,rws rows] := fun own own' h1 h2 =>
  congrArg (fun z => [cfgA d r n s l i,lib cs vs,z,rws rows]) (frz_rowJ ((h2 4 (by simp)).trans h1) rfl hBl)
 refine acalls_of_bodyS Tryz.func59 rfl (zU rfl) ?_
 (repeat' (first
  |(apply W.qd;(first
  |(exact zM)|(exact zN)|(exact jAh)|(exact jAl)
  |(exact jAf)))|(apply W.ln;(apply l_st_rpt;(iterate 7 exact rfl);exact fun _ => rfl;(first | omega | (focus (simp only [List.length_map];omega)) | (focus (simp;omega)))))|(apply yA)|(apply yB)|(apply (W.regionS 2);exact rfl;kernel_rfl)
  |(apply yE)))
 rw [hs.out]
 (repeat' (first
  |(apply yFb;exact rfl;exact rfl)
  |(apply W.qd;(first
  |((apply (q_callF (js := [4]) ht);exact rfl;exact fun own' hh => hfz _ own' rfl hh;exact rfl;kernel_rfl))|(exact zM)|(exact zN)|(exact jAq)|(exact jAh)|(exact jAo)|(exact q_geq rfl rfl)|(exact q_neq rfl rfl)|(exact yAb rfl rfl)|(apply (yEb (u := .d _));exact rfl;exact rfl)
  |(apply (yDb (u := .d _));exact rfl;exact rfl)))|(refine W.gOff _ _ rfl rfl (by intro h;cases h) ?_)|(apply yA)|(apply yB)|(refine jAc ?_)|(apply yE)|(apply yJ)
  |(refine W.gF _ _ rfl rfl (fun hb => ?_) (fun hb => ?_) <;> ((try simp only [hb,zK]) <;> (try simp only [zL,zI] at hb) <;> (try (exfalso;omega))))))
 all_goals first
  |(exfalso;omega)|(refine EndsS.b rfl ?_;rw [Bool.eq_iff_iff];simp <;> omega)
theorem A_room {d r n s l i : Int} {cs : List Cd} {vs : List Sv} {ts : List Tn} {us : List Ue} {rows : List SRw} {k : Int} (hI : In31 cs vs ts us rows) : ACalls Tryz.prog 17 [cfgA d r n s l i,lib cs vs,tns ts,ues us,rws rows,iV k] [] (iV (roomI d r n s l i cs vs ts us rows k)) [] := by
 refine acalls_of_body Tryz.func17 rfl (zU rfl) ?_
 have ha := A_admit (d := d) (r := r) (n := n) (s := s) (l := l) (i := i) hI
 unfold roomI
 cases hv : val31 d r n s l i cs vs ts us rows with
 | false =>
   have hc := A_claimedB hI hv
   rw [if_neg (fun h => by have := (adm_val h.1).1;rw [hv] at this;cases this)]
   generalize admN d r n s l i cs vs ts us rows = e at *
   (repeat' (first
    |(apply yFb;exact rfl;exact rfl)
    |(apply W.qd;(first
    |(exact zW (hc))|(exact zM)|(exact zN)|(exact jAh)|(exact jAo)|(exact jAk)|(exact q_geq rfl rfl)|(exact yAb rfl rfl)|(exact q_len_nil rfl rfl)|(apply (yEb (u := .d _));exact rfl;exact rfl)
    |(apply (yDb (u := .d _));exact rfl;exact rfl)))
    |(apply W.ed;(first
    |(exact jAa)
    |(exact jAm)))|(apply W.ln;(exact jAe))|(refine W.gOff _ _ rfl rfl (by intro h;cases h) ?_)|(apply yA)|(apply yB)|(refine jAc ?_)|(apply yE)|(apply yJ)|(apply yP)|(refine jAv ?_)
    |(refine W.gF _ _ rfl rfl (fun hb => ?_) (fun hb => ?_) <;> ((try simp only [hb,zK]) <;> (try simp only [zL,zI] at hb) <;> (try (exfalso;omega))))))
   all_goals first | (exfalso;omega) | exact Ends.i rfl rfl
 | true =>
   have hc := A_claimed hI hv
   obtain ⟨hV,hT⟩ := val_ten hv
   have hv8 := (valid_vl hV).2
   by_cases hk : 0 ≤ k ∧ k < (vs.length : Int)
   case neg =>
    rw [if_neg (fun h => hk h.2)]
    generalize admN d r n s l i cs vs ts us rows = e at *
    generalize blkL vs.length ts us = bl at *
    (repeat' (first
     |(apply yFb;exact rfl;exact rfl)
     |(apply W.qd;(first
     |(exact zM)|(exact zN)|(exact jAh)|(exact jAo)|(exact jAk)|(exact q_geq rfl rfl)|(exact yAb rfl rfl)|(exact q_len_osl rfl rfl rfl)|(apply (yEb (u := .d _));exact rfl;exact rfl)
     |(apply (yDb (u := .d _));exact rfl;exact rfl)))
     |(apply W.ed;(first
     |(apply (e_callJ (js := []) (hc));(iterate 5 exact rfl);kernel_rfl;kernel_rfl)|(exact jAa)
     |(exact jAm)))|(apply W.ln;(exact jAe))|(refine W.gOff _ _ rfl rfl (by intro h;cases h) ?_)|(apply yA)|(apply yB)|(refine jAc ?_)|(apply yE)|(apply yJ)|(apply yP)|(refine jAv ?_)
     |(refine W.gF _ _ rfl rfl (fun hb => ?_) (fun hb => ?_) <;> ((try simp only [hb,zK]) <;> (try simp only [zL,zI] at hb) <;> (try (exfalso;omega))))))
    all_goals first | (exfalso;omega) | exact Ends.i rfl rfl
   by_cases he : admN d r n s l i cs vs ts us rows = 0
   case neg =>
    rw [if_neg (fun h => he h.1)]
    generalize admN d r n s l i cs vs ts us rows = e at *
    generalize blkL vs.length ts us = bl at *
    (repeat' (first
     |(apply yFb;exact rfl;exact rfl)
     |(apply W.qd;(first
     |(exact zW (ha))|(exact zM)|(exact zN)|(exact jAh)|(exact jAo)|(exact jAk)|(exact q_geq rfl rfl)|(exact q_neq rfl rfl)|(exact yAb rfl rfl)|(exact q_len_osl rfl rfl rfl)
     |(apply (yDb (u := .d _));exact rfl;exact rfl)))
     |(apply W.ed;(first
     |(apply (e_callJ (js := []) (hc));(iterate 5 exact rfl);kernel_rfl;kernel_rfl)|(exact jAa)
     |(exact jAm)))|(apply W.ln;(exact jAe))|(apply yA)|(apply yB)|(refine jAc ?_)|(apply yE)|(apply yJ)|(apply yP)|(refine W.gF _ _ rfl rfl (fun hb => ?_) (fun hb => ?_) <;> ((try simp only [hb,zK]) <;> (try simp only [zL,zI] at hb) <;> (try (exfalso;omega))))
     |(refine W.cond _ rfl (fun hb => ?_) (fun hb => ?_) <;> ((try simp only [hb,zK]) <;> (try simp only [zL,zI] at hb) <;> (try (exfalso;omega))))))
    all_goals first | (exfalso;omega) | exact Ends.i rfl rfl
   rw [if_pos ⟨he,hk.1,hk.2⟩]
   obtain ⟨k,rfl⟩ : ∃ q : Nat,k = q := ⟨k.toNat,by omega⟩
   have hkl : k < vs.length := by omega
   rw [he] at ha
   rw [Int.toNat_natCast]
   have hbl : (blkL vs.length ts us).length = vs.length := by unfold blkL;simp
   have hbk : (blkL vs.length ts us)[k]'(by omega) = blkN ts us (k : Int) := by
    have := blkL_get (ts := ts) (us := us) hkl
    rw [List.getD_eq_getElem?_getD,List.getElem?_eq_getElem (by omega)] at this
    exact this
   have hbb := blkN_bd (k := (k : Int)) hT
   have hfit := (adm_val he).2
   have hn0 := blkF_nn hT
   have hmo := codN_mono d r n s l i
   -- the search
   have hqe : ∀ h : Nat,rmQ d r n s l i cs vs rows (blkL vs.length ts us) k (blkN ts us (k : Int)) h = !fitT (codN d r n s l i) cs vs (heldF rows) n (moreB (blkF ts us) k ((h : Int) + 1)) := fun h => by
    unfold rmQ fitT
    rw [tot_congr (b' := moreB (blkF ts us) k ((h : Int) + 1)) (fun j hj => by
     have := blkL_more (ts := ts) (us := us) hkl ((h : Int) + 1) j hj
     rw [← this,← Int.add_assoc];rfl)]
   have hsr := A_sortSearch (O := rmO d r n s l i cs vs rows (blkL vs.length ts us) k (blkN ts us (k : Int))) (g := 59) (caps := [.opt 6 0,.opt 5 0,.opt 3 0,.opt 0 0,.opt 1 0,.opt 2 0]) (rmQ d r n s l i cs vs rows (blkL vs.length ts us) k (blkN ts us (k : Int))) (n := 1048576) (by omega) (by kernel_rfl) (fun y h hh => A_room1 hI.L hV hbl hI.rl hkl hbb hh)
   have hsp := srch_spec (q := rmQ d r n s l i cs vs rows (blkL vs.length ts us) k (blkN ts us (k : Int))) (n := 1048576) (fun a b hab h => by
    rw [hqe] at h ⊢
    cases hf : fitT (codN d r n s l i) cs vs (heldF rows) n (moreB (blkF ts us) k ((b : Int) + 1)) with
    | false => rfl
    | true => rw [fit_more (x := (a : Int) + 1) hmo hn0 (by omega) (by omega) hf] at h;cases h) 1048576 0 1048576 0 (by omega) (by omega) (by omega) (fun m hm => by omega) (.inl rfl)
   obtain ⟨g1,g2,g3⟩ := hsp
   have hroom : roomT (codN d r n s l i) cs vs (heldF rows) n (blkF ts us) k = (srchG (rmQ d r n s l i cs vs rows (blkL vs.length ts us) k (blkN ts us (k : Int))) 0 1048576 0).1 := by
    generalize (srchG (rmQ d r n s l i cs vs rows (blkL vs.length ts us) k (blkN ts us (k : Int))) 0 1048576 0).1 = R at *
    refine room_unique hmo hn0 g1 ?_ fun hR => ?_
    ·match R with
     | 0 => rw [show ((0 : Nat) : Int) = 0 from rfl,moreB_zero];exact hfit
     | R + 1 =>
       have := g2 R (by omega)
       rw [hqe] at this
       simpa using this
    ·rcases g3 with h | h
     ·omega
     ·rw [hqe] at h
      simpa using h
   rw [hroom]
   clear hqe g1 g2 g3 hroom hmo hn0 hfit
   generalize srchG (rmQ d r n s l i cs vs rows (blkL vs.length ts us) k (blkN ts us (k : Int))) 0 1048576 0 = R at *
   obtain ⟨R1,R2⟩ := R
   unfold rmO blS at hsr
   dsimp only at hsr
   rw [← hbk] at hsr
   (repeat' (first
    |(apply yFb;exact rfl;exact rfl)
    |(apply W.qd;(first
    |(exact zW (ha))|(exact zM)|(exact zN)|(exact jAh)|(exact jAo)|(exact jAk)|(exact q_geq rfl rfl)|(exact q_neq rfl rfl)|(exact yAb rfl rfl)|(exact q_len_osl rfl rfl rfl)|(apply q_makeFunc)|(apply (yDb (u := .d _));exact rfl;exact rfl)|(exact jAf)
    |(exact jAr)))
    |(apply W.ed;(first
    |(apply (e_callJ (js := []) (hc));(iterate 5 exact rfl);kernel_rfl;kernel_rfl)
    |((apply (e_callA hsr);exact rfl;exact rfl;kernel_rfl))|(exact jAa)
    |(exact jAm)))|(apply W.ln;(exact jAe))|(apply yA)|(apply yB)|(refine jAc ?_)|(apply yE)|(apply yH)|(apply yJ)|(refine jAx ?_)
    |(refine W.gF _ _ rfl rfl (fun hb => ?_) (fun hb => ?_) <;> ((try simp only [hb,zK]) <;> (try simp only [zL,zI] at hb) <;> (try (exfalso;omega))))))
   all_goals first | (exfalso;omega) | exact Ends.i rfl rfl
end
section
theorem dat_sl_le {B : Nat → Prop} {w : World} {sz : Nat} {L L' : List (List Dat)} (hlen : L'.length = L.length) (h : ∀ (j : Nat) (e e' : List Dat),L[j]? = some e → L'[j]? = some e' → e.length = e'.length ∧ ∀ (q : Nat) (x x' : Dat),e[q]? = some x → e'[q]? = some x' → ∀ u,Dat.sat B w x u → Dat.sat B w x' u) {u : Value} (hs : Dat.sat B w (.sl sz L) u) : Dat.sat B w (.sl sz L') u := by
 rw [Dat.sat] at hs ⊢
 obtain ⟨A,c,h2,h3,h4,h5⟩ := hs
 rw [hlen]
 refine ⟨A,c,h2,h3,h4,fun hp => ?_⟩
 obtain ⟨b,o,h6,h7,h8,h9⟩ := h5 hp
 refine ⟨b,o,h6,h7,h8,?_⟩
 rw [Dat.rowsSat_iff] at h9 ⊢
 intro j e' he'
 have hj : j < L.length := by rw [← hlen];exact (List.getElem?_eq_some_iff.1 he').1
 obtain ⟨k1,k2⟩ := h9 j L[j] (List.getElem?_eq_getElem hj)
 obtain ⟨k3,k4⟩ := h j L[j] e' (List.getElem?_eq_getElem hj) he'
 refine ⟨by omega,?_⟩
 rw [Dat.rowSat_iff] at k2 ⊢
 intro q x' hx'
 have hq : q < L[j].length := by rw [k3];exact (List.getElem?_eq_some_iff.1 hx').1
 obtain ⟨u,g1,g2,g3⟩ := k2 q L[j][q] (List.getElem?_eq_getElem hq)
 exact ⟨u,g1,g2,k4 q _ x' (List.getElem?_eq_getElem hq) hx' u g3⟩
def freeR : SRw := (-1,0,[])
def frD (x : Int) : List Dat := [.v (.int .i64 x),.v (.int .i64 0),.v (.slice none 0 0)]
def empR (d r n s l i : Int) : List SRw := if OkC d r n s l i then List.replicate n.toNat freeR else []
theorem fr_le (n : Nat) : AVle (.d (.sl 3 ((List.replicate n (-1)).map frD))) (rws (List.replicate n freeR)) := fun F own κ w u h => by
 rw [AV.sat] at h ⊢
 refine dat_sl_le (by simp) (fun j e e' h1 h2 => ?_) h
 have e1 : e = frD (-1) := by
  rw [List.getElem?_map,List.getElem?_replicate] at h1
  split at h1
  ·exact (by simpa using h1.symm)
  ·simp at h1
 have e2 : e' = rwD freeR := by
  rw [List.getElem?_map,List.getElem?_replicate] at h2
  split at h2
  ·exact (by simpa using h2.symm)
  ·simp at h2
 subst e1 e2
 refine ⟨rfl,fun q x x' h3 h4 u hu => ?_⟩
 match q with
 | 0 => obtain rfl : Dat.v (.int .i64 (-1)) = x := by simpa [frD] using h3
        obtain rfl : Dat.v (.int .i64 (-1)) = x' := by simpa [rwD,freeR] using h4
        exact hu
 | 1 => obtain rfl : Dat.v (.int .i64 0) = x := by simpa [frD] using h3
        obtain rfl : Dat.v (.int .i64 0) = x' := by simpa [rwD,freeR] using h4
        exact hu
 | 2 => obtain rfl : Dat.v (.slice none 0 0) = x := by simpa [frD] using h3
        obtain rfl : Dat.sl 3 [] = x' := by simpa [rwD,freeR] using h4
        simp only [Dat.sat] at hu ⊢
        subst hu
        exact ⟨none,0,rfl,Nat.le_refl _,Nat.zero_le _,fun h => by simp at h⟩
 | q + 3 => simp [frD] at h3
def rs31 : Cd := ([114,115],8,2,[[1,1],[1,2]],2)
def gold31 : Sv := ([103,111,108,100],0,-1,2,9)
def tG (g : Int) : Tn := ([],g,0,0,0,0)
def two31 : List Tn := [tG 2,tG 1]
def use31 : List Ue := [(0,0),(3,0)]
def emp31 : List SRw := List.replicate 10 freeR
theorem n_rs31 : NameIn rs31.1 := ⟨by unfold isB rs31;decide,by decide⟩
theorem n_gold31 : NameIn gold31.1 := ⟨by unfold isB gold31;decide,by decide⟩
theorem lib31 : LibIn [rs31] [gold31] where
 cn c hc := by rw [List.mem_singleton.1 hc];exact n_rs31
 cp c hc := by rw [List.mem_singleton.1 hc];decide
 vn c hc := by rw [List.mem_singleton.1 hc];exact n_gold31
 cl := by decide
 vl := by decide
theorem in31 {ts : List Tn} {us : List Ue} (ht : ts.length ≤ 2) (hu : us.length ≤ 2) : In31 [rs31] [gold31] ts us emp31 where
 L := lib31
 t := by omega
 u := by omega
 rl := by decide
 ru a h := by
  have : emp31[a] = freeR := List.getElem_replicate _
  rw [this];decide
theorem s1 : codN 6 2 10 1 4 4 rs31 5 = (8,0) := by kernel_rfl
theorem s2 : rowN31 6 2 10 1 4 4 [rs31] [gold31] two31 use31 emp31 = (8,0) := by kernel_rfl
theorem s3 : admN 6 2 10 1 4 4 [rs31] [gold31] [tG 6] use31 emp31 = 0 := by kernel_rfl
theorem s4 : admN 6 2 10 1 4 4 [rs31] [gold31] [tG 7] use31 emp31 = 18 := by kernel_rfl
theorem s5 : admN 6 2 10 1 4 4 [rs31] [gold31] two31 [] emp31 = 1 := by kernel_rfl
theorem s6 : blkN two31 use31 0 = 5 := by kernel_rfl
theorem s7 : limN rs31.2.2.1 5 = 8 := by kernel_rfl
theorem s8 : admN 6 2 10 1 4 4 [rs31] [gold31] [] [] emp31 = 0 := by kernel_rfl
theorem s9 : roomT (codN 6 2 10 1 4 4) [rs31] [gold31] (heldF emp31) 10 (blkF [] []) 0 = 6 :=
 room_unique (codN_mono _ _ _ _ _ _) (fun k => blkF_nn (nv := 1) (by kernel_rfl) k) (by decide) (by kernel_rfl) (fun _ => by kernel_rfl)
theorem s10 : roomI 6 2 10 1 4 4 [rs31] [gold31] [] [] emp31 0 = 6 := by
 unfold roomI
 rw [if_pos ⟨s8,by decide,by decide⟩,show (0 : Int).toNat = 0 from rfl,s9];rfl
theorem s11 : roomI 6 2 10 1 4 4 [rs31] [gold31] [] [] emp31 1 = -1 := by
 unfold roomI
 rw [if_neg (fun h => absurd h.2.2 (by decide))]
theorem s12 : tenB 1 two31 use31 = true := by kernel_rfl
theorem ACalls.leA {P : Program} {f : FuncId} {args args' : List AV} {r : AV} {own own' : List Ent} (h : ACalls P f args own r own') (hle : AVleL args' args) : ACalls P f args' own r own' := h.le fun F κ w vs hs => AVleL.sat hle F own κ w vs hs
attribute [local irreducible] Quiet Eff OpOk AWPG ACont ABlock ACalls AGoto
theorem A_config31 : ACalls Tryz.prog 52 [] [] (cfgA 6 2 10 1 4 4) [] := by
 refine acalls_of_body Tryz.func52 rfl (zU rfl) ?_
 (repeat' (first
  |(apply W.qd;(apply yZ;exact rfl;exact rfl;kernel_rfl))|(apply W.ed;(exact jAm))|(apply W.ln;(exact jAe))|(apply yA)|(apply yB)|(refine jAc ?_)|(apply yE)
  |(apply yJ)))
 exact ⟨.inl rfl,[],[.agg [iV 6,iV 2,iV 10,iV 1,iV 4,iV 4]],rfl,⟨⟨0,[iV 6,iV 2,iV 10,iV 1,iV 4,iV 4],true,rfl,rfl,rfl,rfl⟩,trivial⟩,AVle.of_eq rfl,rfl⟩
theorem A_library31 : ACalls Tryz.prog 53 [] [] (lib [rs31] [gold31]) [] := by
 refine acalls_of_body Tryz.func53 rfl (zU rfl) ?_
 (repeat' (first
  |(apply W.qd;(first
  |(exact jAo)|(apply yZ;exact rfl;exact rfl;kernel_rfl)
  |(exact jAp)))|(apply W.ed;(exact jAm))|(apply W.ln;(exact jAe))|(apply yA)|(apply yB)|(refine jAc ?_)|(apply yE)
  |(apply yJ)))
 exact ⟨.inl rfl,[],[.agg [cds [rs31],svs [gold31]]],rfl,⟨⟨0,[cds [rs31],svs [gold31]],true,rfl,rfl,rfl,rfl⟩,trivial⟩,AVle.of_eq rfl,rfl⟩
theorem A_new24 {d r n s l i : Int} : ACalls Tryz.prog 63 [cfgA d r n s l i] [] (.tup [rws (empR d r n s l i),iV (chk13 d r n s l i)]) [] := by
 refine acalls_of_body Tryz.func63 rfl (zU rfl) ?_
 have hck := A_rdchk d r n s l i
 unfold empR
 by_cases h : OkC d r n s l i
 ·rw [if_pos h]
  rw [chk13_yes h] at hck ⊢
  obtain ⟨N,rfl⟩ : ∃ N : Nat,n = N := ⟨n.toNat,by have := h.2.2.1;omega⟩
  have hN : N ≤ 4096 := by have := h.2.2.1;omega
  rw [Int.toNat_natCast]
  (repeat' (first
   |(apply W.qd;(first
   |(exact zW (hck))|(exact zM)|(exact zN)|(exact jAo)
   |(exact q_neq rfl rfl)))|(apply W.ed;(exact jAa))|(apply yA)|(apply yB)|(apply (W.regionS 5);exact rfl;kernel_rfl)|(apply yE)|(apply yH)
   |(refine jAx ?_)))
  all_goals try (exfalso;omega)
  refine AWP.nilRow 5 3 164 rfl (by omega) ?_
  (repeat' (first
   |(apply W.qd;(exact zN))|(apply yB)|(apply (W.regionS 6);exact rfl;kernel_rfl)|(apply yE)
   |(apply yG)))
  refine AWP.loopW (α := Nat) (fun k => k ≤ N) (fun k => ⟨[(6,iV k),(5,.osl 1 k 0 (List.replicate k (-1 : Int)).length),(1,.opt 0 0)],[.box [iV d,iV r,iV N,iV s,iV l,iV i],.row k 3 164 ((List.replicate k (-1 : Int)).map frD)]⟩) (fun k => N - k) 0 (Nat.zero_le _) ⟨[0,1],rfl,rfl,rfl,by (repeat (first | exact trivial | refine ⟨rfl,?_⟩))⟩ fun k hk => ?_
  by_cases hkl : k < N
  ·have hrp : List.replicate (k + 1) (-1 : Int) = List.replicate k (-1 : Int) ++ [-1] := List.replicate_succ'
   have hln : (List.replicate k (-1 : Int)).length = k := List.length_replicate
   replace hrp := Lib.hid hrp
   generalize List.replicate k (-1 : Int) = A at *
   (repeat' (first
    |(apply W.qd;(first
    |(exact zM)|(exact zN)|(exact jAq)|(exact jAh)|(exact jAk)|(exact jAl)|(apply yZ;exact rfl;exact rfl;kernel_rfl)
    |(exact jAp)))|(apply W.ld;(apply l_app1;(iterate 8 exact rfl);(first | omega | (focus (simp;omega)) | (focus (simp;done)))))|(apply yA)|(apply yB)|(refine jAc ?_)|(apply yE)|(apply yG)|(apply yH)|(apply yL)
    |(refine W.cond _ rfl (fun hb => ?_) (fun hb => ?_) <;> ((try simp only [hb,zK]) <;> (try simp only [zL,zI] at hb) <;> (try (exfalso;omega))))))
   refine ⟨k + 1,by omega,by omega,?_⟩
   rw [hrp.out]
   exact ⟨[0,1],rfl,rfl,rfl,iV_eq (by omega),rfl,rfl,trivial⟩
  ·obtain rfl : k = N := by omega
   have hle := fr_le k
   have hln : (List.replicate k (-1 : Int)).length = k := List.length_replicate
   generalize List.replicate k (-1 : Int) = A at *
   (repeat' (first
    |(apply W.qd;(first
    |(exact zM)|(exact zN)|(exact jAq)|(exact jAh)
    |(exact jAk)))|(apply yA)|(apply yB)|(refine jAc ?_)|(apply yE)|(apply yI)|(apply yJ)|(apply yK)|(apply yM)
    |(refine W.cond _ rfl (fun hb => ?_) (fun hb => ?_) <;> ((try simp only [hb,zK]) <;> (try simp only [zL,zI] at hb) <;> (try (exfalso;omega))))))
   all_goals first
    |(exfalso;omega)
    |exact ⟨.inl rfl,[],[.osl 1 k 0 A.length,iV 0],rfl,⟨rfl,rfl,trivial⟩,AVle.tup2 (fun F own κ w u hu => hle F own κ w u ((AVle.of_eq (frz_rowJ rfl rfl (by simp))) F own κ w u hu)) (AVle.of_eq rfl),rfl⟩
 ·rw [if_neg h]
  rw [chk13_no h] at hck ⊢
  (repeat' (first
   |(apply W.qd;(first
   |(exact zW (hck))|(exact zM)|(exact zN)|(exact jAo)
   |(exact q_neq rfl rfl)))|(apply W.ed;(exact jAa))|(apply yA)|(apply yB)|(refine jAc ?_)|(apply yE)|(apply yJ)|(apply yP)
   |(refine jAv ?_)))
  all_goals first
   |(exfalso;omega)
   |exact ⟨.inl rfl,[],[.d (.v (.slice none 0 0)),iV 1],rfl,⟨rfl,rfl,trivial⟩,AVle.tup2 (fun F own κ w u hu => AVle.nil 3 F own κ w u hu) (AVle.of_eq rfl),rfl⟩
theorem A_empty31 {d r n s l i : Int} : ACalls Tryz.prog 21 [cfgA d r n s l i] [] (rws (empR d r n s l i)) [] := by
 refine acalls_of_body Tryz.func21 rfl (zU rfl) ?_
 have hn := A_new24 (d := d) (r := r) (n := n) (s := s) (l := l) (i := i)
 generalize empR d r n s l i = E at *
 (repeat' (first
  |(apply W.qd;(first
  |(exact zW (hn))|(exact zM)|(exact zN)|(exact jAo)
  |(exact yAb rfl rfl)))|(apply W.ed;(exact jAa))|(apply yA)|(apply yB)|(refine jAc ?_)|(apply yE)
  |(apply yJ)))
 all_goals exact ⟨.inl rfl,[],[rws E],rfl,⟨rfl,trivial⟩,AVle.of_eq rfl,rfl⟩
theorem A_sanity31 : ACalls Tryz.prog 16 [] [] (bV true) [] := by
 refine acalls_of_body Tryz.func16 rfl (zU rfl) ?_
 have f1 := A_config31
 have f2 := A_library31
 have f3 := A_empty31 (d := 6) (r := 2) (n := 10) (s := 1) (l := 4) (i := 4)
 have e3 : empR 6 2 10 1 4 4 = emp31 := by kernel_rfl
 rw [e3] at f3
 have f4 := A_acode (d := 6) (r := 2) (n := 10) (s := 1) (l := 4) (i := 4) (c := rs31) (x := 5) n_rs31 (by decide)
 rw [s1] at f4
 have f5 := A_rows (d := 6) (r := 2) (n := 10) (s := 1) (l := 4) (i := 4) (in31 (ts := two31) (us := use31) (by decide) (by decide))
 rw [s2] at f5
 have f6 := A_admit (d := 6) (r := 2) (n := 10) (s := 1) (l := 4) (i := 4) (in31 (ts := [tG 6]) (us := use31) (by decide) (by decide))
 rw [s3] at f6
 have f7 := A_admit (d := 6) (r := 2) (n := 10) (s := 1) (l := 4) (i := 4) (in31 (ts := [tG 7]) (us := use31) (by decide) (by decide))
 rw [s4] at f7
 have f8 := A_admit (d := 6) (r := 2) (n := 10) (s := 1) (l := 4) (i := 4) (in31 (ts := two31) (us := []) (by decide) (by decide))
 rw [s5] at f8
 have f8 : ACalls Tryz.prog 19 [cfgA 6 2 10 1 4 4,lib [rs31] [gold31],tns two31,.d (.v (.slice none 0 0)),rws emp31] [] (iV 1) [] := f8.leA ⟨AVle.refl _,AVle.refl _,AVle.refl _,AVle.nil 2,AVle.refl _,trivial⟩
 have f9 := A_blocks (k := 0) s12 (by decide)
 rw [s6] at f9
 have f10 := A_limit (c := rs31) (x := 5)
 rw [s7] at f10
 have f11 := A_room (d := 6) (r := 2) (n := 10) (s := 1) (l := 4) (i := 4) (k := 0) (in31 (ts := []) (us := []) (by decide) (by decide))
 rw [s10] at f11
 have f11 : ACalls Tryz.prog 17 [cfgA 6 2 10 1 4 4,lib [rs31] [gold31],.d (.v (.slice none 0 0)),.d (.v (.slice none 0 0)),rws emp31,iV 0] [] (iV 6) [] := f11.leA ⟨AVle.refl _,AVle.refl _,AVle.nil 6,AVle.nil 2,AVle.refl _,AVle.refl _,trivial⟩
 have f12 := A_room (d := 6) (r := 2) (n := 10) (s := 1) (l := 4) (i := 4) (k := 1) (in31 (ts := []) (us := []) (by decide) (by decide))
 rw [s11] at f12
 have f12 : ACalls Tryz.prog 17 [cfgA 6 2 10 1 4 4,lib [rs31] [gold31],.d (.v (.slice none 0 0)),.d (.v (.slice none 0 0)),rws emp31,iV 1] [] (iV (-1)) [] := f12.leA ⟨AVle.refl _,AVle.refl _,AVle.nil 6,AVle.nil 2,AVle.refl _,AVle.refl _,trivial⟩
 generalize emp31 = E at *
 (repeat' (first
  |(apply yFb;exact rfl;exact rfl)
  |(apply W.qd;(first
  |(exact zW (f1))|(exact zW (f2))|(exact zW (f3))|(exact zW (f4))|(exact zW (f5))|(exact zW (f6))|(exact zW (f7))|(exact zW (f8))|(exact zW (f9))|(exact zW (f10))|(exact zW (f11))|(exact zW (f12))|(exact zM)|(exact zN)|(exact jAq)|(exact jAh)|(exact jAo)|(exact q_eql rfl rfl)|(exact yAb rfl rfl)|(exact jAj)|(apply yZ;exact rfl;exact rfl;kernel_rfl)|(exact jAp)|(exact jA)
  |(apply (yEb (u := .d _));exact rfl;exact rfl)))|(apply W.ed;(exact jAm))|(apply W.ln;(exact jAe))|(apply yA)|(apply yB)|(refine jAc ?_)|(refine jAs ?_)|(apply yE)|(refine jBa ?_)
  |(apply yJ)))
 all_goals first | (exfalso;omega) | exact Ends.b rfl rfl
theorem A_few31 {d r n s l i : Int} {rows : List SRw} : ACalls Tryz.prog 15 [cfgA d r n s l i,rws rows] [] (bV (decide (n ≤ 64 ∧ rows.length ≤ 64))) [] := by
 have hm : (rows.map rwD).length = rows.length := List.length_map _
 refine acalls_of_body Tryz.func15 rfl (zU rfl) ?_
 (repeat' (first
  |(apply yFb;exact rfl;exact rfl)
  |(apply W.qd;(first
  |(exact zM)|(exact zN)|(exact jAq)|(exact jAh)|(exact q_leq rfl rfl)|(exact jAu)|(apply (yEb (u := .d _));exact rfl;exact rfl)
  |(apply (yDb (u := .d _));exact rfl;exact rfl)))|(apply W.ed;(exact jAa))|(refine W.gOff _ _ rfl rfl (by intro h;cases h) ?_)|(apply yA)|(apply yB)|(refine jAc ?_)|(apply yE)|(apply yJ)
  |(refine W.gT _ _ rfl rfl (fun hb => ?_) (fun hb => ?_) <;> ((try simp only [hb,zK]) <;> (try simp only [zL,zI] at hb) <;> (try (exfalso;omega))))))
 all_goals (refine Ends.b rfl ?_;rw [Bool.eq_iff_iff];simp <;> omega)
structure In31B (cs : List Cd) (vs : List Sv) (ts : List Tn) (us : List Ue) (rows : List SRw) : Prop where
 L : LibIn cs vs
 t : ts.length ≤ 9223372036854775807
 u : us.length ≤ 9223372036854775807
 ru : ∀ a (h : a < rows.length),rows[a].2.2.length ≤ 9223372036854775807
end
section
section
variable {P : Program} {m : Nat} {env : List (Nat × AV)} {own : List Ent} {dst : Option Tmp} {ty : TypeId} {pos : String} {af : Array Edge} {gd : Option (Nat × Bool)}
theorem e_st_rptG {t : TypeId} {k : Nat} {x y : Operand} {i ver j o sz : Nat} {e : TypeId} {l l' : List (List Dat)} {c : List Dat} {d : Dat} {own' : List Ent} (hx : lookO env x = .rpt i ver j o) (hi : own[i]? = some (.row ver sz e l)) (ht : tyInfo P t = some (false, k)) (hk : k = 1) (hy : cellsD (lookO env y) = some [d]) (h1 : oneA (.d d) = true) (ho' : Nat.blt o sz = true) (hc : l[j]? = some c) (hl : l.set j (c.set o d) = l') (ho : own.set i (.row ver sz e l') = own') :
 Eff P m ⟨dst,.store t x y,ty,pos,af,gd⟩ env own [i] (.d (.v undef)) own' := by
 subst hl ho
 exact e_st_rpt ht hk hx hi hc (Nat.le_of_ble_eq_true ho') hy h1
end
attribute [local irreducible] Quiet Eff OpOk AWPG ACont ABlock ACalls AGoto
end
section
def lesT (t : Tn) (x : Nat) : Tn := (t.1,mxI 0 (t.2.1 - (x : Int) % 5),mxI 0 (t.2.2.1 - (x : Int) / 5),t.2.2.2)
def lesU (u : Ue) (x : Nat) : Ue := (mxI 0 (u.1 - (x : Int) % 7),mxI 0 (u.2 - (x : Int) / 7))
def lesL {α : Type} (f : α → Nat → α) (z : α) (l : List α) (xs : List Nat) (k : Nat) : List α := (List.range l.length).map fun i => if i < k then f (l.getD i z) (xs.getD i 0) else l.getD i z
section
variable {α : Type} {f : α → Nat → α} {z : α} {l : List α} {xs : List Nat}
theorem lesL_len (k : Nat) : (lesL f z l xs k).length = l.length := by simp [lesL]
theorem lesL_get {k i : Nat} (hi : i < l.length) : (lesL f z l xs k)[i]? = some (if i < k then f (l.getD i z) (xs.getD i 0) else l.getD i z) := by
 unfold lesL
 rw [List.getElem?_map,List.getElem?_range hi];rfl
theorem lesL_getD {k i : Nat} (hi : i < l.length) (z' : α) : (lesL f z l xs k).getD i z' = if i < k then f (l.getD i z) (xs.getD i 0) else l.getD i z := by
 rw [List.getD_eq_getElem?_getD,lesL_get hi];rfl
theorem lesL_zero : lesL f z l xs 0 = l := by
 apply List.ext_getElem (lesL_len 0)
 intro i h1 h2
 have := lesL_get (f := f) (z := z) (xs := xs) (k := 0) h2
 rw [List.getElem?_eq_getElem h1,if_neg (by omega),List.getD_eq_getElem?_getD,List.getElem?_eq_getElem h2] at this
 exact Option.some.inj this
theorem lesL_set {k : Nat} (hk : k < l.length) : (lesL f z l xs k).set k (f (l.getD k z) (xs.getD k 0)) = lesL f z l xs (k + 1) := by
 apply List.ext_getElem?
 intro i
 rw [List.getElem?_set,lesL_len]
 by_cases e : k = i
 ·subst e
  rw [if_pos rfl,if_pos hk,lesL_get hk,if_pos (by omega)]
 ·rw [if_neg e]
  by_cases hi : i < l.length
  ·rw [lesL_get hi, lesL_get hi]
   by_cases h2 : i < k
   ·rw [if_pos h2,if_pos (by omega)]
   ·rw [if_neg h2,if_neg (by omega)]
  ·rw [List.getElem?_eq_none (by rw [lesL_len];omega),List.getElem?_eq_none (by rw [lesL_len];omega)]
end
theorem les_in {a : Int} (x y : Int) (h : inT a = true) (hy : 0 ≤ y) : inT (mxI 0 (a - y)) = true ∧ mxI 0 (a - y) ≤ a := by
 unfold inT at h ⊢
 simp only [decide_eq_true_eq] at h ⊢
 unfold mxI
 split <;> omega
theorem mxI_mono {a b c d : Int} (h1 : a ≤ c) (h2 : b ≤ d) : mxI a b ≤ mxI c d := by
 unfold mxI
 split <;> split <;> omega
section
variable {nv k : Nat} {ts : List Tn} {us : List Ue} {xs : List Nat} (h : tenB nv ts us = true)
include h
theorem les_at {i : Nat} (hi : i < ts.length) : tnOk nv ((lesL lesT tn0 ts xs k).getD i tn0) ((lesL lesU ue0 us xs k).getD i ue0) = true ∧ ((lesL lesT tn0 ts xs k).getD i tn0).2.2.2.2.2 = (ts.getD i tn0).2.2.2.2.2 ∧ blkOf ((lesL lesT tn0 ts xs k).getD i tn0) ((lesL lesU ue0 us xs k).getD i ue0) ≤ blkOf (ts.getD i tn0) (us.getD i ue0) := by
 have hu := (ten_len h).2
 have h2 : tnOk nv (ts.getD i tn0) (us.getD i ue0) = true := by
  unfold tenB at h
  simp only [Bool.and_eq_true,List.all_eq_true] at h
  exact h.2 i (List.mem_range.2 hi)
 rw [lesL_getD hi,lesL_getD (by omega)]
 generalize ts.getD i tn0 = t at *
 generalize us.getD i ue0 = u at *
 generalize xs.getD i 0 = x
 by_cases hk : i < k
 ·rw [if_pos hk, if_pos hk]
  unfold tnOk at h2 ⊢
  simp only [Bool.and_eq_true] at h2 ⊢
  obtain ⟨h3,⟨h4,h5⟩,h6,h7⟩ := h2
  obtain ⟨a1,b1⟩ := les_in 0 ((x : Int) % 5) h4 (by omega)
  obtain ⟨a2,b2⟩ := les_in 0 ((x : Int) / 5) h5 (by omega)
  obtain ⟨a3,b3⟩ := les_in 0 ((x : Int) % 7) h6 (by omega)
  obtain ⟨a4,b4⟩ := les_in 0 ((x : Int) / 7) h7 (by omega)
  refine ⟨⟨h3,⟨a1,a2⟩,a3,a4⟩,rfl,?_⟩
  have := mxI_mono b1 b3
  have := mxI_mono b2 b4
  unfold blkOf lesT lesU
  dsimp only
  omega
 ·rw [if_neg hk, if_neg hk]
  exact ⟨h2,rfl,Int.le_refl _⟩
theorem les_ten : tenB nv (lesL lesT tn0 ts xs k) (lesL lesU ue0 us xs k) = true := by
 have hl := ten_len h
 unfold tenB
 rw [lesL_len,lesL_len,decide_eq_true hl,Bool.true_and,List.all_eq_true]
 exact fun i hi => (les_at h (List.mem_range.1 hi)).1
theorem les_blkT (j : Int) : ∀ n, n ≤ ts.length → blkT (lesL lesT tn0 ts xs k) (lesL lesU ue0 us xs k) j n ≤ blkT ts us j n
 | 0,_ => Int.le_refl _
 | n + 1,hn => by
   have h1 := les_blkT j n (by omega)
   obtain ⟨_,h2,h3⟩ := les_at (k := k) (xs := xs) h (show n < ts.length by omega)
   rw [blkT,blkT,h2]
   split <;> omega
theorem les_blk (j : Nat) : blkF (lesL lesT tn0 ts xs k) (lesL lesU ue0 us xs k) j ≤ blkF ts us j := by
 have hl := ten_len h
 unfold blkF blkN
 rw [lesL_len,lesL_len]
 exact les_blkT h j _ (by omega)
end
theorem emp_get {N a : Nat} (h : a < N) : (List.replicate N freeR).getD a rw0 = freeR := by
 rw [List.getD_eq_getElem?_getD,List.getElem?_replicate,if_pos h];rfl
theorem emp_valid {d r n s l i : Int} (h : OkC d r n s l i) : validR d r n s l i (empR d r n s l i) = true := by
 have hn := h.2.2.1
 unfold empR
 rw [if_pos h]
 unfold validR
 rw [chk13_yes h,List.length_replicate,decide_eq_true ⟨rfl,by omega⟩,Bool.true_and,List.all_eq_true]
 intro a ha
 have ha := List.mem_range.1 ha
 unfold okR
 rw [emp_get ha,Bool.and_eq_true]
 refine ⟨by unfold rgtR freeR;rfl,?_⟩
 rw [List.all_eq_true]
 intro b hb
 have hb := List.mem_range.1 hb
 unfold conR
 rw [emp_get ha,emp_get (by omega)]
 simp
theorem emp_held {d r n s l i : Int} (c : Nat) : heldF (empR d r n s l i) c = 0 := by
 have key : ∀ (N j : Nat),j ≤ N → heldT (List.replicate N freeR) (c : Int) j = 0 := fun N j hj => by
  induction j with
  | zero => rfl
  | succ j ih =>
    rw [heldT,ih (by omega),emp_get (by omega),if_neg (by show ¬ ((-1 : Int) = c);omega)]
 unfold heldF heldN empR
 split
 ·rw [key _ _ (by rw [List.length_replicate];exact Nat.le_refl _)];rfl
 ·rfl
theorem held_nn (rows : List SRw) (c : Nat) : 0 ≤ heldF rows c := by unfold heldF;omega
theorem les_adm {d r n s l i : Int} {cs : List Cd} {vs : List Sv} {ts : List Tn} {us : List Ue} {rows : List SRw} {xs : List Nat} (k : Nat) (he : admN d r n s l i cs vs ts us rows = 0) :
 (rowN31 d r n s l i cs vs ts us rows).2 = 0 ∧ (rowN31 d r n s l i cs vs (lesL lesT tn0 ts xs k) (lesL lesU ue0 us xs k) rows).2 = 0 ∧ (rowN31 d r n s l i cs vs (lesL lesT tn0 ts xs k) (lesL lesU ue0 us xs k) rows).1 ≤ (rowN31 d r n s l i cs vs ts us rows).1 ∧ admN d r n s l i cs vs (lesL lesT tn0 ts xs k) (lesL lesU ue0 us xs k) rows = 0 ∧ admN d r n s l i cs vs (lesL lesT tn0 ts xs k) (lesL lesU ue0 us xs k) (empR d r n s l i) = 0 := by
 obtain ⟨hv,hf⟩ := adm_val he
 have hv' := hv
 unfold val31 at hv'
 simp only [Bool.and_eq_true] at hv'
 obtain ⟨⟨v1,v2⟩,v3⟩ := hv'
 have hok : OkC d r n s l i := by
  unfold validR at v1
  simp only [Bool.and_eq_true,decide_eq_true_eq] at v1
  exact Classical.byContradiction fun hn => by
   have := v1.1.1
   rw [chk13_no hn] at this
   exact absurd this (by decide)
 have hv2 : val31 d r n s l i cs vs (lesL lesT tn0 ts xs k) (lesL lesU ue0 us xs k) rows = true := by
  unfold val31;rw [v1,v2,les_ten v3];rfl
 have hv3 : val31 d r n s l i cs vs (lesL lesT tn0 ts xs k) (lesL lesU ue0 us xs k) (empR d r n s l i) = true := by
  unfold val31;rw [emp_valid hok,v2,les_ten v3];rfl
 unfold fitT at hf
 rw [decide_eq_true_eq] at hf
 have h0 := fun j => blkF_nn (les_ten (k := k) (xs := xs) v3) j
 have m1 := tot_mono (cs := cs) (vs := vs) (h := heldF rows) (h' := heldF rows) (codN_mono d r n s l i) h0 (les_blk (k := k) (xs := xs) v3) (fun _ => Int.le_refl _) hf.1
 have m2 := tot_mono (cs := cs) (vs := vs) (h := heldF (empR d r n s l i)) (h' := heldF rows) (codN_mono d r n s l i) h0 (les_blk (k := k) (xs := xs) v3) (fun c => by rw [emp_held];exact held_nn rows c) hf.1
 unfold admN rowN31
 rw [if_pos hv,if_pos hv2,if_pos hv3]
 refine ⟨hf.1,m1.1,m1.2,?_,?_⟩
 ·rw [if_neg (by omega)];exact m1.1
 ·rw [if_neg (by omega)];exact m2.1
end
section
theorem emp_len (d r n s l i : Int) : (empR d r n s l i).length ≤ n.toNat := by
 unfold empR
 split
 ·rw [List.length_replicate];omega
 ·exact Nat.zero_le _
theorem emp_used (d r n s l i : Int) : ∀ a (h : a < (empR d r n s l i).length),(empR d r n s l i)[a].2.2.length ≤ 9223372036854775807 := fun a h => by
 have key : ∀ w ∈ empR d r n s l i,w.2.2.length ≤ 9223372036854775807 := by
  unfold empR
  split
  ·intro w hw
   rw [(List.mem_replicate.1 hw).2]
   exact Nat.zero_le _
  ·intro w hw;cases hw
 exact key _ (List.getElem_mem h)
theorem ten_in {nv : Nat} {ts : List Tn} {us : List Ue} (h : tenB nv ts us = true) {j : Nat} (hj : j < ts.length) (hu : j < us.length) : (0 ≤ ts[j].2.1 ∧ ts[j].2.1 ≤ 2147483647) ∧ (0 ≤ ts[j].2.2.1 ∧ ts[j].2.2.1 ≤ 2147483647) ∧ (0 ≤ us[j].1 ∧ us[j].1 ≤ 2147483647) ∧ 0 ≤ us[j].2 ∧ us[j].2 ≤ 2147483647 := by
 unfold tenB at h
 simp only [Bool.and_eq_true,List.all_eq_true] at h
 have h2 := h.2 j (List.mem_range.2 hj)
 unfold tnOk inT at h2
 simp only [Bool.and_eq_true,decide_eq_true_eq,List.getD_eq_getElem?_getD,List.getElem?_eq_getElem hj,List.getElem?_eq_getElem hu,Option.getD_some] at h2
 exact ⟨h2.2.1.1,h2.2.1.2,h2.2.2.1,h2.2.2.2⟩
attribute [local irreducible] Quiet Eff OpOk AWPG ACont ABlock ACalls AGoto
theorem A_isMonotone {d r n s l i : Int} {cs : List Cd} {vs : List Sv} {ts : List Tn} {us : List Ue} {rows : List SRw} {xs : List Nat} (hI : In31B cs vs ts us rows) (hxs : isB xs) (hxl : xs.length ≤ 9223372036854775807) : ACalls Tryz.prog 6 [cfgA d r n s l i,lib cs vs,tns ts,ues us,rws rows,.d (.sl 1 (xs.map nD))] [] (bV true) [] := by
 refine acalls_of_body Tryz.func6 rfl (zU rfl) ?_
 have hsa := A_sanity31
 have hf := A_few31 (d := d) (r := r) (n := n) (s := s) (l := l) (i := i) (rows := rows)
 have hmt : (ts.map tnD).length = ts.length := List.length_map _
 have hmu : (us.map ueD).length = us.length := List.length_map _
 have hmx : (xs.map nD).length = xs.length := List.length_map _
 by_cases h : n ≤ 64 ∧ rows.length ≤ 64
 case neg =>
  rw [decide_eq_false h] at hf
  (repeat' (first
   |(apply W.qd;(first
   |(exact zW (hsa))|(exact zW (hf))|(exact zM)|(exact zN)|(exact jAo)|(exact q_not rfl)
   |(apply (yEb (u := .d _));exact rfl;exact rfl)))|(apply W.ed;(exact jAa))|(refine W.gOff _ _ rfl rfl (by intro h;cases h) ?_)|(apply yA)|(apply yB)|(refine jAc ?_)|(apply yE)|(apply yJ)|(apply yP)
   |(refine jAv ?_)))
  all_goals exact Ends.b rfl rfl
 rw [decide_eq_true h] at hf
 have hI2 : In31 cs vs ts us rows := ⟨hI.L,hI.t,hI.u,h.2,hI.ru⟩
 have f1 := A_admit (d := d) (r := r) (n := n) (s := s) (l := l) (i := i) hI2
 by_cases h2 : us.length ≤ 40 ∧ ts.length ≤ us.length ∧ admN d r n s l i cs vs ts us rows = 0
 case neg =>
  generalize admN d r n s l i cs vs ts us rows = e at *
  (repeat' (first
   |(apply yFb;exact rfl;exact rfl)
   |(apply W.qd;(first
   |(exact zW (hsa))|(exact zW (hf))|(exact zW (f1))|(exact zM)|(exact zN)|(exact jAo)|(exact jAk)|(exact q_gtr rfl rfl)|(exact q_neq rfl rfl)|(exact q_not rfl)|(exact jAu)|(apply (yEb (u := .d _));exact rfl;exact rfl)
   |(apply (yDb (u := .d _));exact rfl;exact rfl)))|(apply W.ed;(exact jAa))|(refine W.gOff _ _ rfl rfl (by intro h;cases h) ?_)|(apply yA)|(apply yB)|(apply (W.regionS 3);exact rfl;kernel_rfl)|(apply yE)|(apply yJ)|(apply yP)|(refine jAv ?_)|(refine W.gF _ _ rfl rfl (fun hb => ?_) (fun hb => ?_) <;> ((try simp only [hb,zK]) <;> (try simp only [zL,zI] at hb) <;> (try (exfalso;omega))))
   |(refine W.cond _ rfl (fun hb => ?_) (fun hb => ?_) <;> ((try simp only [hb,zK]) <;> (try simp only [zL,zI] at hb) <;> (try (exfalso;omega))))))
  all_goals first | (exfalso;omega) | exact Ends.b rfl rfl
 obtain ⟨h40,htu,hadm⟩ := h2
 rw [hadm] at f1
 have hv31 := (adm_val hadm).1
 unfold val31 at hv31
 rw [Bool.and_eq_true] at hv31
 have hten := hv31.2
 have htl := (ten_len hten).1
 obtain ⟨l1,l2,l3,l4,l5⟩ := les_adm (xs := xs) (min xs.length ts.length) hadm
 have f2 := A_rows (d := d) (r := r) (n := n) (s := s) (l := l) (i := i) hI2
 have hlT := fun k => lesL_len (f := lesT) (z := tn0) (l := ts) (xs := xs) k
 have hlU := fun k => lesL_len (f := lesU) (z := ue0) (l := us) (xs := xs) k
 have hI3 : In31 cs vs (lesL lesT tn0 ts xs (min xs.length ts.length)) (lesL lesU ue0 us xs (min xs.length ts.length)) rows := ⟨hI.L,by rw [hlT];exact hI.t,by rw [hlU];exact hI.u,h.2,hI.ru⟩
 have hI4 : In31 cs vs (lesL lesT tn0 ts xs (min xs.length ts.length)) (lesL lesU ue0 us xs (min xs.length ts.length)) (empR d r n s l i) := ⟨hI.L,by rw [hlT];exact hI.t,by rw [hlU];exact hI.u,by have := emp_len d r n s l i;omega,emp_used d r n s l i⟩
 have g1 := A_rows (d := d) (r := r) (n := n) (s := s) (l := l) (i := i) hI3
 have g2 := A_admit (d := d) (r := r) (n := n) (s := s) (l := l) (i := i) hI3
 have g3 := A_admit (d := d) (r := r) (n := n) (s := s) (l := l) (i := i) hI4
 have hem := A_empty31 (d := d) (r := r) (n := n) (s := s) (l := l) (i := i)
 rw [l4] at g2
 rw [l5] at g3
 generalize rowN31 d r n s l i cs vs ts us rows = p1 at *
 generalize rowN31 d r n s l i cs vs (lesL lesT tn0 ts xs (min xs.length ts.length)) (lesL lesU ue0 us xs (min xs.length ts.length)) rows = p2 at *
 obtain ⟨a1,a2⟩ := p1
 obtain ⟨b1,b2⟩ := p2
 dsimp only at l1 l2 l3 f2 g1
 subst l1 l2
 have hzT := lesL_zero (f := lesT) (z := tn0) (l := ts) (xs := xs)
 have hzU := lesL_zero (f := lesU) (z := ue0) (l := us) (xs := xs)
 have hsT := fun k (hk : k < ts.length) => lesL_set (f := lesT) (z := tn0) (xs := xs) hk
 have hsU := fun k (hk : k < us.length) => lesL_set (f := lesU) (z := ue0) (xs := xs) hk
 have hgT : ∀ k (hk : k < ts.length),(lesL lesT tn0 ts xs k)[k]? = some ts[k] := fun k hk => by
  rw [lesL_get hk,if_neg (by omega),List.getD_eq_getElem?_getD,List.getElem?_eq_getElem hk];rfl
 have hgU : ∀ k (hk : k < us.length),(lesL lesU ue0 us xs k)[k]? = some us[k] := fun k hk => by
  rw [lesL_get hk,if_neg (by omega),List.getD_eq_getElem?_getD,List.getElem?_eq_getElem hk];rfl
 have hin := fun j (hj : j < ts.length) (hu : j < us.length) => ten_in hten hj hu
 clear hv31 hten hadm l4 l5 hI3 hI4
 generalize hTT : lesL lesT tn0 ts xs = TT at *
 generalize hUU : lesL lesU ue0 us xs = UU at *
 clear hTT hUU
 (repeat' (first
  |(apply yFb;exact rfl;exact rfl)|(apply W.ed;(apply e_lit0F;(iterate 5 exact rfl)))|(apply W.ed;(apply e_appE;(iterate 8 exact rfl);(focus (simp;done));(focus (simp;omega))))
  |(apply W.qd;(first
  |(exact zW (hf))|(exact zW (f1))|(exact zM)|(exact zN)|(exact jAo)|(exact jAk)|(exact q_gtr rfl rfl)|(exact q_neq rfl rfl)|(exact q_not rfl)|(exact jAu)
  |(apply (yDb (u := .d _));exact rfl;exact rfl)))|(apply W.ed;(exact jAa))|(apply yA)|(apply yB)|(apply (W.regionS 5);exact rfl;kernel_rfl)|(apply yE)|(apply yH)|(refine jAx ?_)
  |(refine W.gF _ _ rfl rfl (fun hb => ?_) (fun hb => ?_) <;> ((try simp only [hb,zK]) <;> (try simp only [zL,zI] at hb) <;> (try (exfalso;omega))))))
 all_goals try (exfalso;omega)
 (repeat' (first
  |(apply W.qd;(first
  |(exact zM)
  |(exact jAu)))|(apply yB)|(apply (W.regionS 6);exact rfl;kernel_rfl)|(apply yE)
  |(apply yG)))
 refine AWP.loopW (α := Nat) (fun j => j ≤ xs.length) (fun j => ⟨[(54,iV j),(53,iV xs.length),(13,.osl 2 1 0 ts.length),(14,.osl 3 1 0 us.length),(2,tns ts),(3,ues us),(4,rws rows),(5,.d (.sl 1 (xs.map nD))),(6,.opt 0 0),(7,.opt 1 0)],[.box [iV d,iV r,iV n,iV s,iV l,iV i],.box [cds cs,svs vs],.row 1 6 37 ((TT (min j ts.length)).map tnD),.row 1 2 39 ((UU (min j ts.length)).map ueD)]⟩) (fun j => xs.length - j) 0 (Nat.zero_le _) ?wkA fun j hj => ?_
 case wkA =>
  rw [Nat.zero_min,hzT,hzU]
  exact ⟨[0,1,2,3],rfl,rfl,rfl,rfl,iV_eq (by omega),congrArg (AV.osl 2 1 0) (show ts.length = 0 + (ts.map tnD).length by simp),congrArg (AV.osl 3 1 0) (show us.length = 0 + (us.map ueD).length by simp),rfl,rfl,rfl,rfl,rfl,rfl,trivial⟩
 by_cases hjl : j < xs.length
 ·have h256 : xs[j] < 256 := hxs _ (List.getElem_mem hjl)
  clear g1 g2 g3 f1 f2 hem hsa hf
  by_cases hjt : j < ts.length
  ·have hju : j < us.length := by omega
   have m1 : min j ts.length = j := by omega
   have m2 : min (j + 1) ts.length = j + 1 := by omega
   have e1 := hsT j hjt
   have e2 := hsU j hju
   have c1 := hgT j hjt
   have c2 := hgU j hju
   have hbd := hin j hjt hju
   have ex : xs.getD j 0 = xs[j] := by rw [List.getD_eq_getElem?_getD,List.getElem?_eq_getElem hjl];rfl
   have et : ts.getD j tn0 = ts[j] := by rw [List.getD_eq_getElem?_getD,List.getElem?_eq_getElem hjt];rfl
   have eu : us.getD j ue0 = us[j] := by rw [List.getD_eq_getElem?_getD,List.getElem?_eq_getElem hju];rfl
   rw [ex,et] at e1
   rw [ex,eu] at e2
   have hTl : (TT j).length = ts.length := hlT j
   have hUl : (UU j).length = us.length := hlU j
   have k1 : ((TT j).map tnD)[j]? = some (tnD ts[j]) := by rw [List.getElem?_map,c1];rfl
   have k2 : ((UU j).map ueD)[j]? = some (ueD us[j]) := by rw [List.getElem?_map,c2];rfl
   have s2 : ((TT j).map tnD).set j (tnD (lesT ts[j] xs[j])) = (TT (j + 1)).map tnD := by rw [← e1,List.map_set]
   have s4 : ((UU j).map ueD).set j (ueD (lesU us[j] xs[j])) = (UU (j + 1)).map ueD := by rw [← e2,List.map_set]
   have lT : ((TT j).map tnD).length = ts.length := by rw [List.length_map];exact hTl
   have lU : ((UU j).map ueD).length = us.length := by rw [List.length_map];exact hUl
   rw [m1]
   generalize (TT j).map tnD = AT at *
   generalize (UU j).map ueD = AU at *
   obtain ⟨AT1,hAT⟩ : ∃ AT1,AT.set j (tnD (ts[j].1,mxI 0 (ts[j].2.1 - (xs[j] : Int) % 5),ts[j].2.2)) = AT1 := ⟨_,rfl⟩
   obtain ⟨AU1,hAU⟩ : ∃ AU1,AU.set j (ueD (mxI 0 (us[j].1 - (xs[j] : Int) % 7),us[j].2)) = AU1 := ⟨_,rfl⟩
   have k3 : AT1[j]? = some [.v (.string (bytesOf ts[j].1)),.v (.int .i64 (mxI 0 (ts[j].2.1 - (xs[j] : Int) % 5))),.v (.int .i64 ts[j].2.2.1),.v (.int .i64 ts[j].2.2.2.1),.v (.int .i64 ts[j].2.2.2.2.1),.v (.int .i64 ts[j].2.2.2.2.2)] := by rw [← hAT];exact List.getElem?_set_self (by omega)
   have k4 : AU1[j]? = some [.v (.int .i64 (mxI 0 (us[j].1 - (xs[j] : Int) % 7))),.v (.int .i64 us[j].2)] := by rw [← hAU];exact List.getElem?_set_self (by omega)
   have s2 : AT1.set j (tnD (lesT ts[j] xs[j])) = (TT (j + 1)).map tnD := by rw [← s2,← hAT,List.set_set]
   have s4 : AU1.set j (ueD (lesU us[j] xs[j])) = (UU (j + 1)).map ueD := by rw [← s4,← hAU,List.set_set]
   clear e1 e2 c1 c2 hsT hsU hgT hgU hin hlT hlU hzT hzU
   (repeat' (first
    |(apply W.qd;(first
    |((apply q_ld_rpt;(iterate 3 exact rfl);exact k1;exact rfl))
    |((apply q_ld_rpt;(iterate 3 exact rfl);exact k2;exact rfl))
    |((apply q_ld_rpt;(iterate 3 exact rfl);exact k3;exact rfl))
    |((apply q_ld_rpt;(iterate 3 exact rfl);exact k4;exact rfl))
    |((apply q_fld_rptF;(iterate 4 exact rfl)))|(exact zM)|(exact zN)|(exact jAk)|(exact jAl)|(exact q_sub rfl rfl (by omega))|(apply q_quo;exact rfl;exact rfl;omega;omega;omega)|(apply q_rem;exact rfl;exact rfl;omega;omega)|(exact q_len_osl rfl rfl rfl)|(exact jAg)|(exact jA)|(exact q_max rfl rfl)|(apply q_convI;(iterate 3 exact rfl);omega)
    |(exact jAf)))
    |(apply W.en;(first
    |((apply e_st_rptG;(iterate 7 exact rfl);exact k1;exact hAT;exact rfl))
    |((apply e_st_rptG;(iterate 7 exact rfl);exact k3;exact s2;exact rfl))
    |((apply e_st_rptG;(iterate 7 exact rfl);exact k2;exact hAU;exact rfl))
    |((apply e_st_rptG;(iterate 7 exact rfl);exact k4;exact s4;exact rfl))))|(apply yA)|(apply yB)|(refine jAc ?_)|(refine jAs ?_)|(apply yE)|(refine jBa ?_)|(apply yG)|(apply yH)|(apply yL)
    |(refine W.cond _ rfl (fun hb => ?_) (fun hb => ?_) <;> ((try simp only [hb,zK]) <;> (try simp only [zL,zI] at hb) <;> (try (exfalso;omega))))))
   all_goals try (exfalso;omega)
   all_goals first
    |(refine ⟨j + 1,by omega,by omega,?_⟩;(try dsimp only);rw [m2];exact ⟨[0,1,2,3],rfl,rfl,rfl,iV_eq (by omega),rfl,rfl,rfl,rfl,rfl,rfl,rfl,rfl,rfl,trivial⟩)
  ·have m1 : min j ts.length = ts.length := by omega
   have m2 : min (j + 1) ts.length = ts.length := by omega
   clear hsT hsU hgT hgU hin hlT hlU hzT hzU
   rw [m1]
   (repeat' (first
    |(apply W.qd;(first
    |(exact zM)|(exact zN)|(exact jAk)|(exact jAl)
    |(exact q_len_osl rfl rfl rfl)))|(apply yA)|(apply yB)|(refine jAc ?_)|(apply yE)|(apply yG)|(apply yH)|(apply yL)
    |(refine W.cond _ rfl (fun hb => ?_) (fun hb => ?_) <;> ((try simp only [hb,zK]) <;> (try simp only [zL,zI] at hb) <;> (try (exfalso;omega))))))
   all_goals first
    |(exfalso;omega)|(refine ⟨j + 1,by omega,by omega,?_⟩;(try dsimp only);rw [m2];exact ⟨[0,1,2,3],rfl,rfl,rfl,iV_eq (by omega),rfl,rfl,rfl,rfl,rfl,rfl,rfl,rfl,rfl,trivial⟩)
 ·obtain rfl : j = xs.length := by omega
  have qT := hlT (min xs.length ts.length)
  have qU := hlU (min xs.length ts.length)
  clear hsT hsU hgT hgU hin hzT hzU hlT hlU
  have hmT : (((TT (min xs.length ts.length))).map tnD).length = ts.length := by rw [List.length_map];exact qT
  have hmU : (((UU (min xs.length ts.length))).map ueD).length = us.length := by rw [List.length_map];exact qU
  have hz5 : ∀ (own own' : List Ent) (R : AV),own[2]? = some (.row 1 6 37 ((TT (min xs.length ts.length)).map tnD)) → own[3]? = some (.row 1 2 39 ((UU (min xs.length ts.length)).map ueD)) → same [2,3] own own' → AV.frz own' [] R = R → AV.frzL own' [] [cfgA d r n s l i,lib cs vs,.osl 2 1 0 ts.length,.osl 3 1 0 us.length,R] = [cfgA d r n s l i,lib cs vs,tns (TT (min xs.length ts.length)),ues (UU (min xs.length ts.length)),R] := fun own own' R k1 k2 hs hR => by
   show [cfgA d r n s l i,lib cs vs,AV.frz own' [] (.osl 2 1 0 ts.length),AV.frz own' [] (.osl 3 1 0 us.length),AV.frz own' [] R] = _
   rw [frz_rowJ ((hs 2 (by simp)).trans k1) rfl hmT.symm,frz_rowJ ((hs 3 (by simp)).trans k2) rfl hmU.symm,hR]
  (repeat' (first
   |(apply yFb;exact rfl;exact rfl)
   |(apply W.qd;(first
   |(exact zW (hsa))|(exact zW (f2))|(exact zW (hem))
   |((apply (q_callF (js := [2,3]) g1);exact rfl;exact fun own' hh => hz5 _ own' _ rfl rfl hh rfl;exact rfl;kernel_rfl))
   |((apply (q_callF (js := [2,3]) g2);exact rfl;exact fun own' hh => hz5 _ own' _ rfl rfl hh rfl;exact rfl;kernel_rfl))
   |((apply (q_callF (js := [2,3]) g3);exact rfl;exact fun own' hh => hz5 _ own' _ rfl rfl hh rfl;exact rfl;kernel_rfl))|(exact zM)|(exact zN)|(exact jAo)|(exact jAk)|(exact q_leq rfl rfl)|(exact q_eql rfl rfl)|(exact yAb rfl rfl)
   |(apply (yEb (u := .d _));exact rfl;exact rfl)))|(apply yA)|(apply yB)|(refine jAc ?_)|(refine jAs ?_)|(apply yE)|(refine jBa ?_)|(apply yI)|(apply yJ)|(apply yK)|(apply yM)|(refine W.gT _ _ rfl rfl (fun hb => ?_) (fun hb => ?_) <;> ((try simp only [hb,zK]) <;> (try simp only [zL,zI] at hb) <;> (try (exfalso;omega))))
   |(refine W.cond _ rfl (fun hb => ?_) (fun hb => ?_) <;> ((try simp only [hb,zK]) <;> (try simp only [zL,zI] at hb) <;> (try (exfalso;omega))))))
  all_goals first
   |(exfalso;omega)|(refine Ends.b rfl ?_;simp)
end
end Go.Proofs.YtplpgijpmgbaiaaGreatDoor
