import Derived.Test.YtplpgijpmgbaiaaGreatDoorMAdmitSuffices5
/- Joined texts: DgL2 Kern52 Kern53 Kern60 Kern61 Kern62 Sp1 Sp2 Sp4 Sp6 DgL6 Ad1 Ad2 Sp8 Ad3 Ad4 Ad5 Rf30d Ad7 Ad8 Ad10 Ad12 Ad13 Ad14. -/
set_option linter.unusedVariables false
set_option linter.unusedSimpArgs false
namespace Go.Proofs.YtplpgijpmgbaiaaGreatDoor
open Go.RowKit
set_option maxHeartbeats 4000000
set_option maxRecDepth 100000
section
attribute [local irreducible] Quiet Eff OpOk AWPG ACont ABlock ACalls
def OkL (d r n s l i w : Int) : Prop:=OkC d r n s l i ∧ 1 ≤ w ∧ w ≤ 32
instance (d r n s l i w : Int) : Decidable (OkL d r n s l i w):=by unfold OkL;infer_instance
def vldL (d r n s l i w : Int) : Bool:=decide (OkL d r n s l i w)
def grpI (d r n s l i w : Int) : Int:=if OkL d r n s l i w then (d - s) / w else 0
def crdI (d r n s l i w : Int) : Int:=if OkL d r n s l i w then (w + r - 1) / r else 0
theorem A_lvalid (d r n s l i wd : Int) : ACalls Tryz.prog 161 [cfgA d r n s l i,iV wd] [] (bV (vldL d r n s l i wd)) []:=by
 refine acalls_of_body Tryz.func161 rfl (zU rfl) ?_
 (repeat' (first
  |(apply yFb;exact rfl;exact rfl)
  |(apply W.qd;(first
  |(exact zW (A_dchk _ _ _ _ _ _))|(exact zM)|(exact zN)|(exact jAn)|(exact q_leq rfl rfl)|(exact q_geq rfl rfl)|(exact jAu)|(apply (yEb (u:=.d _));exact rfl;exact rfl)
  |(apply (yDb (u:=.d _));exact rfl;exact rfl)))|(apply W.ed;(exact jAa))|(refine W.gOff _ _ rfl rfl (by intro h;cases h) ?_)|(apply yA)|(apply yB)|(refine jAb ?_)|(apply yE)|(apply yJ)
  |(refine W.gT _ _ rfl rfl (fun hb=>?_) (fun hb=>?_)<;>((try simp only [hb,zK])<;>(try simp only [zL,zI] at hb)<;>(try (exfalso;omega))))))
 all_goals refine Ends.b rfl ?_
 all_goals (unfold chk13 at *;unfold vldL OkL;simp_all)
 omega
theorem A_rlvalid (d r n s l i wd : Int) : ACalls Tryz.prog 184 [cfgA d r n s l i,iV wd] [] (bV (vldL d r n s l i wd)) []:=by
 refine acalls_of_body Tryz.func184 rfl (zU rfl) ?_
 (repeat' (first
  |(apply yFb;exact rfl;exact rfl)
  |(apply W.qd;(first
  |(exact zW (A_rdchk _ _ _ _ _ _))|(exact zM)|(exact zN)|(exact jAn)|(exact q_leq rfl rfl)|(exact q_geq rfl rfl)|(exact jAu)|(apply (yEb (u:=.d _));exact rfl;exact rfl)
  |(apply (yDb (u:=.d _));exact rfl;exact rfl)))|(apply W.ed;(exact jAa))|(refine W.gOff _ _ rfl rfl (by intro h;cases h) ?_)|(apply yA)|(apply yB)|(refine jAb ?_)|(apply yE)|(apply yJ)
  |(refine W.gT _ _ rfl rfl (fun hb=>?_) (fun hb=>?_)<;>((try simp only [hb,zK])<;>(try simp only [zL,zI] at hb)<;>(try (exfalso;omega))))))
 all_goals refine Ends.b rfl ?_
 all_goals (unfold chk13 at *;unfold vldL OkL;simp_all)
 omega
theorem OkL.bd {d r n s l i w : Int} (h : OkL d r n s l i w) : (1 ≤ d ∧ d ≤ 64) ∧ (1 ≤ r ∧ r ≤ 8) ∧ (1 ≤ n ∧ n ≤ 4096) ∧ (0 ≤ s ∧ s ≤ d - 1) ∧ 1 ≤ w ∧ w ≤ 32:=by
 obtain ⟨⟨h1,h2,h3,h4,_⟩,h5⟩:=h;exact ⟨h1,h2,h3,h4,h5⟩
theorem A_lgroups (d r n s l i wd : Int) : ACalls Tryz.prog 105 [cfgA d r n s l i,iV wd] [] (iV (grpI d r n s l i wd)) []:=by
 refine acalls_of_body Tryz.func105 rfl (zU rfl) ?_
 by_cases hok : OkL d r n s l i wd
 ·have hv : vldL d r n s l i wd = true := decide_eq_true hok
  have:=A_lvalid d r n s l i wd
  rw [hv] at this
  obtain ⟨h1,h2,h3,h4,h5⟩:=hok.bd
  (repeat' (first
   |(apply W.qd;(first
   |(exact zW (this))|(exact zM)|(exact zN)|(exact jAm)|(exact jAg)|(exact jAn)|(exact jBe)|(exact q_sub rfl rfl (by omega))
   |(apply q_quo;exact rfl;exact rfl;omega;omega;omega)))|(apply W.ed;(exact jAa))|(apply yA)|(apply yB)|(refine jAb ?_)|(apply yE)|(apply yH)|(apply yJ)
   |(refine jAy ?_)))
  all_goals exact Ends.i rfl (if_pos hok).symm
 ·have hv : vldL d r n s l i wd = false := decide_eq_false hok
  have:=A_lvalid d r n s l i wd
  rw [hv] at this
  (repeat' (first
   |(apply W.qd;(first
   |(exact zW (this))|(exact zM)|(exact zN)|(exact jAn)
   |(exact jBe)))|(apply W.ed;(exact jAa))|(apply yA)|(apply yB)|(refine jAb ?_)|(apply yE)|(apply yJ)|(apply yP)
   |(refine jAv ?_)))
  all_goals exact Ends.i rfl (if_neg hok).symm
theorem A_rgroups (d r n s l i wd : Int) : ACalls Tryz.prog 120 [cfgA d r n s l i,iV wd] [] (iV (grpI d r n s l i wd)) []:=by
 refine acalls_of_body Tryz.func120 rfl (zU rfl) ?_
 by_cases hok : OkL d r n s l i wd
 ·have hv : vldL d r n s l i wd = true := decide_eq_true hok
  have:=A_rlvalid d r n s l i wd
  rw [hv] at this
  obtain ⟨h1,h2,h3,h4,h5⟩:=hok.bd
  (repeat' (first
   |(apply W.qd;(first
   |(exact zW (this))|(exact zM)|(exact zN)|(exact jAm)|(exact jAg)|(exact jAn)|(exact jBe)|(exact q_sub rfl rfl (by omega))
   |(apply q_quo;exact rfl;exact rfl;omega;omega;omega)))|(apply W.ed;(exact jAa))|(apply yA)|(apply yB)|(refine jAb ?_)|(apply yE)|(apply yH)|(apply yJ)
   |(refine jAy ?_)))
  all_goals exact Ends.i rfl (if_pos hok).symm
 ·have hv : vldL d r n s l i wd = false := decide_eq_false hok
  have:=A_rlvalid d r n s l i wd
  rw [hv] at this
  (repeat' (first
   |(apply W.qd;(first
   |(exact zW (this))|(exact zM)|(exact zN)|(exact jAn)
   |(exact jBe)))|(apply W.ed;(exact jAa))|(apply yA)|(apply yB)|(refine jAb ?_)|(apply yE)|(apply yJ)|(apply yP)
   |(refine jAv ?_)))
  all_goals exact Ends.i rfl (if_neg hok).symm
end
section
section
variable {P : Program} {m : Nat} {env : List (Nat × AV)} {own : List Ent} {dst : Option Tmp} {ty : TypeId} {pos : String} {af : Array Edge} {gd : Option (Nat × Bool)}
theorem e_stS {t : TypeId} {b : Bool} {x y : Operand} {i o : Nat} {l : List AV} {v : AV} {own' : List Ent} (hx : lookO env x = .opt i o) (hl : own[i]? = some (.box l)) (hy : lookO env y = v) (ht : tyInfo P t = some (b, 1)) (ho : own.set i (.box (l.set o v)) = own') (hc : cellsA v = some [v]) (hok : okPart v = true) (h1 : oneA v = true) (hlt : o < l.length) :
 Eff P m ⟨dst,.store t x y,ty,pos,af,gd⟩ env own [i] (.d (.v undef)) own':=by
 have:=e_st_box (P:=P) (m:=m) (dst:=dst) (ty:=ty) (pos:=pos) (af:=af) (gd:=gd) (cs:=[v]) (b:=b) ht hx hl (by rw [hy];exact hc) (by rw [hy];exact hok) (by simp [h1]) rfl (by omega)
 have e1 : l.take o ++ [v] ++ l.drop (o + [v].length) = l.set o v:=by
  rw [List.set_eq_take_append_cons_drop,if_pos hlt];simp
 rw [e1,ho] at this
 exact this
end
end
section
section
variable {P : Program} {m : Nat} {env : List (Nat × AV)} {own : List Ent} {dst : Option Tmp} {ty : TypeId} {pos : String} {af : Array Edge} {gd : Option (Nat × Bool)}
theorem q_lkup2 {t : TypeId} {x y : Operand} {i : Nat} {l : List (Int × Value)} {a : Int} {z : Value} (hx : lookO env x = .mp i) (hi : own[i]? = some (.mp (mpI l))) (hy : lookO env y = iV a) (ht : mapI P t = some z) :
 Quiet P m ⟨dst,.lookup t x y true,ty,pos,af,gd⟩ env own [i] (.tup [.d (.v (getV l a z)),bV (hasV l a)]) :=
 Quiet.val fun F own' κ ac w hs ho hsame _=>by
  have h1:=hs x (by simp [Op.operands]);rw [hx,AV.sat] at h1
  have h2:=hs y (by simp [Op.operands]);rw [hy] at h2
  have h2:=sat_v.1 h2
  have hl' : own'[i]? = some (.mp (mpI l)):=by rw [hsame i (by simp)];exact hi
  obtain ⟨g,ks,h3,h4,h5⟩:=h1
  obtain ⟨es,clock,h6,h7⟩:=mp_block ho hl' h4
  obtain ⟨k,e,inf,g1,g2,g3,g4⟩:=mapI_spec ht
  have hf:=run_findKey_mp (P:=P) g2 h7 a w
  have hck:=MapKept.run_checkKey (P:=P) (w:=w) (k:=.int .i64 a) g2 rfl es.isEmpty 9999
  refine ⟨.tuple #[getV l a z,.bool (hasV l a)],exec_v ?_,?_⟩
  ·rw [h5, h2]
   unfold getV hasV
   cases hq : getIx l a 0 with
   | none =>
     rw [hq] at hf
     simp [Instr.lookup,run_underlying g1,MapKept.run_getObj_map h6,hck,hf,zeroValue,typeInfo,g3,g4,Result.andThen]
   | some p =>
     rw [hq] at hf
     simp [Instr.lookup,run_underlying g1,MapKept.run_getObj_map h6,hck,hf,Result.andThen]
  ·rw [AV.sat]
   exact ⟨_,rfl,sat_v.2 rfl,sat_v.2 rfl,trivial⟩
theorem q_lkup2V {t : TypeId} {x y : Operand} {i : Nat} {l : List (Int × Value)} {a : Int} {z v : Value} {b : Bool} (hx : lookO env x = .mp i) (hi : own[i]? = some (.mp (mpI l))) (hy : lookO env y = iV a) (ht : mapI P t = some z) (hg : getV l a z = v) (hb : hasV l a = b) :
 Quiet P m ⟨dst,.lookup t x y true,ty,pos,af,gd⟩ env own [i] (.tup [.d (.v v),bV b]):=by
 subst hg hb;exact q_lkup2 hx hi hy ht
theorem q_ix_ar {t e : TypeId} {n k j : Nat} {x y : Operand} {i o : Nat} {b : Bool} {ik : IntKind} {v : Int} (hx : lookO env x = .opt i o) (hy : lookO env y = .d (.v (.int ik v))) (ht : arInfo P t = some (n, e)) (he : tyInfo P e = some (b, k)) (hv : v = (j : Int)) (hj : j < n) :
 Quiet P m ⟨dst,.indexAddr t x y,ty,pos,af,gd⟩ env own [] (.opt i (o + j * k)) :=
 Quiet.val fun F own' κ a w hs _ _ _=>by
  have h1:=hs x (by simp [Op.operands]);rw [hx,AV.sat] at h1
  have h2:=hs y (by simp [Op.operands]);rw [hy,sat_v] at h2
  obtain ⟨g,l,g1,g2,g3⟩:=h1
  obtain ⟨_,inf,h7,h8⟩:=tyInfo_spec he
  subst hv
  refine ⟨.pointer (some ⟨g,o + j * k,none⟩),exec_v ?_,?_⟩
  ·rw [g3, h2]
   simp [Instr.indexAt,asIntOf,run_underlying (arInfo_spec ht),Instr.sureAddr,sizeOf,typeInfo,h7,h8,hj,add_none]
  ·rw [AV.sat]
   exact ⟨g,l,g1,g2,rfl⟩
theorem q_ix_ag {t e : TypeId} {n j : Nat} {x y : Operand} {l : List AV} {r : AV} {ik : IntKind} {i : Int} (hx : lookO env x = .agg l) (hy : lookO env y = .d (.v (.int ik i))) (ht : arInfo P t = some (n, e)) (he : tyInfo P e = some (false, 1)) (hi : i = (j : Int)) (hr : l[j]? = some r) (hj : j < n) :
 Quiet P m ⟨dst,.index t x y,ty,pos,af,gd⟩ env own [] r :=
 Quiet.val fun F own' κ a w hs _ _ _=>by
  have h1:=hs x (by simp [Op.operands]);rw [hx,AV.sat] at h1
  have h2:=hs y (by simp [Op.operands]);rw [hy,sat_v] at h2
  obtain ⟨vs,h3,h4⟩:=h1
  obtain ⟨h6,i',h7,h8⟩:=tyInfo_spec he
  subst hi
  obtain ⟨u,hu,hus⟩:=satL_get h4 j r hr
  have hu' : vs[j]? = some u:=by simpa using hu
  refine ⟨u,exec_v ?_,hus⟩
  rw [h3,h2]
  simp [Instr.index,asIntOf,run_underlying (arInfo_spec ht),hj,part,h6 w,sizeOf,typeInfo,h7,h8,hu']
end
end
section
section
variable {P : Program} {m : Nat} {env : List (Nat × AV)} {own : List Ent} {dst : Option Tmp} {ty : TypeId} {pos : String} {af : Array Edge} {gd : Option (Nat × Bool)}
theorem mq_block {F : Nat → Prop} {κ : List (Option Nat)} {w : World} (ho : OwnSat F own κ w) {i g : Nat} {l : List AV} (hl : own[i]? = some (.mp (.inr l))) (hg : κ[i]? = some (some g)) :
 ∃ es clock,w.heap[g]? = some (.map es clock) ∧ MapSat F own κ w es.toList (.inr l):=by
 obtain ⟨g',hg',h⟩:=ho.ent i _ hl
 rw [getD_some hg] at hg'
 obtain rfl : g = g':=by simpa using hg'
 exact h
theorem q_lkupA {t : TypeId} {x y : Operand} {i j : Nat} {l : List AV} {a : Int} {v : AV} (hx : lookO env x = .mp i) (hi : own[i]? = some (.mp (.inr l))) (hy : lookO env y = iV a) (ha : a = (j : Int)) (hv : l[j]? = some v) (ht : mapI P t = some (.slice none 0 0)) :
 Quiet P m ⟨dst,.lookup t x y false,ty,pos,af,gd⟩ env own [i] v :=
 Quiet.val fun F own' κ ac w hs ho hsame _=>by
  have h1:=hs x (by simp [Op.operands]);rw [hx,AV.sat] at h1
  have h2:=hs y (by simp [Op.operands]);rw [hy] at h2
  have h2:=sat_v.1 h2
  have hl' : own'[i]? = some (.mp (.inr l)):=by rw [hsame i (by simp)];exact hi
  obtain ⟨g,ks,h3,h4,h5⟩:=h1
  obtain ⟨es,clock,h6,mm,h7,h8⟩:=mq_block ho hl' h4
  obtain ⟨k,e,inf,g1,g2,g3,g4⟩:=mapI_spec ht
  have hf:=run_findKey_mp (P:=P) g2 h7 a w
  have hck:=MapKept.run_checkKey (P:=P) (w:=w) (k:=.int .i64 a) g2 rfl es.isEmpty 9999
  subst ha
  refine ⟨getV mm (j : Int) (.slice none 0 0),exec_v ?_,(h8 j v hv).1⟩
  rw [h5,h2]
  unfold getV
  cases hq : getIx mm (j : Int) 0 with
  | none =>
    rw [hq] at hf
    simp [Instr.lookup,run_underlying g1,MapKept.run_getObj_map h6,hck,hf,zeroValue,typeInfo,g3,g4,Result.andThen]
  | some p =>
    rw [hq] at hf
    simp [Instr.lookup,run_underlying g1,MapKept.run_getObj_map h6,hck,hf,Result.andThen]
theorem mapset_core {F : Nat → Prop} {κ κ0 : List (Option Nat)} {own0 : List Ent} {ac : Act} {w : World} {t : TypeId} {x y v : Operand} {i j : Nat} {l : List AV} {z : Value} {va : AV} (hi : own[i]? = some (.mp (.inr l))) (h1v : oneA va = true) (ht : mapI P t = some z) (h1 : AV.sat F own κ w (.mp i) (ac.eval x)) (h2 : ac.eval y = .int .i64 (j : Int)) (h3 : AV.sat F own κ w va (ac.eval v)) (ho : OwnSat F own κ w) (h0 : Tr F m own0 κ0 w own κ w) :
 OutOk P (fun v' w'=>∃ κ',AV.sat F (own.set i (.mp (.inr (l.set j va)))) κ' w' (.d (.v undef)) v' ∧ OwnSat F (own.set i (.mp (.inr (l.set j va)))) κ' w' ∧ Tr F m own0 κ0 w (own.set i (.mp (.inr (l.set j va)))) κ' w') ((execOp ac.eval ⟨dst,.mapUpdate t x y v,ty,pos,af,gd⟩).run P w):=by
 rw [AV.sat] at h1
 have h3o:=one_of_cellsA h1v h3
 obtain ⟨u,hu⟩ : ∃ u,ac.eval v = u:=⟨_,rfl⟩
 rw [hu] at h3 h3o
 obtain ⟨g,ks,_,h4,h5⟩:=h1
 obtain ⟨es,clock,h6,mm,h7,h8⟩:=mq_block ho hi h4
 obtain ⟨k,e,inf,g1,g2,g3,g4⟩:=mapI_spec ht
 have hf:=run_findKey_mp (P:=P) g2 h7 (j : Int) w
 have hck:=MapKept.run_checkKey (P:=P) (w:=w) (k:=.int .i64 (j : Int)) g2 rfl false 9999
 have hlt : g < w.heap.size:=(Array.getElem?_eq_some_iff.1 h6).1
 have ek : κ.set i (some g) = κ:=List.ext_getElem? fun j=>by
  by_cases hj : j = i
  ·subst hj;rw [List.getElem?_set_self (List.getElem?_eq_some_iff.1 h4).1,h4]
  ·rw [List.getElem?_set_ne (Ne.symm hj)]
 have fin : ∀ es' clock', es'.toList.map (fun e => (e.key, e.val)) = mpL (setI mm (j : Int) u) → (execOp ac.eval ⟨dst, .mapUpdate t x y v, ty, pos, af, gd⟩).run P w = .ok .skip (w.putObj g (.map es' clock')) →
  OutOk P (fun v' w'=>∃ κ',AV.sat F (own.set i (.mp (.inr (l.set j va)))) κ' w' (.d (.v undef)) v' ∧ OwnSat F (own.set i (.mp (.inr (l.set j va)))) κ' w' ∧ Tr F m own0 κ0 w (own.set i (.mp (.inr (l.set j va)))) κ' w') ((execOp ac.eval ⟨dst,.mapUpdate t x y v,ty,pos,af,gd⟩).run P w):=fun es' clock' he hrun=>by
  rw [hrun]
  have key := step_upd (m := m) (x' := .mp (.inr (l.set j va))) (og' := some g) (w' := w.putObj g (.map es' clock')) ho hi h4 rfl rfl rfl (by simp) (fun b hb hne => World.putObj_heap_other fun e => hne (by rw [e])) (.inl rfl) (.inr rfl) rfl
   (fun hst=>⟨g,rfl,_,_,World.putObj_heap_same hlt,setI mm (j : Int) u,he,fun j' x' hx'=>by
    rw [getV_setI]
    by_cases e0 : j' = j
    ·subst e0
     rw [if_pos rfl]
     have hjl : j' < l.length:=by
      have:=(List.getElem?_eq_some_iff.1 hx').1
      rwa [List.length_set] at this
     rw [List.getElem?_set_self hjl] at hx'
     obtain rfl:=Option.some.inj hx'
     exact ⟨AV.sat_stab hst ho.kap _ h3,h3o⟩
    ·rw [if_neg (by omega)]
     rw [List.getElem?_set_ne (Ne.symm e0)] at hx'
     exact ⟨AV.sat_stab hst ho.kap _ (h8 j' x' hx').1,(h8 j' x' hx').2⟩⟩)
  rw [ek] at key
  exact ⟨κ,sat_v.2 rfl,key.1,h0.trans key.2⟩
 cases hq : getIx mm (j : Int) 0 with
 | none =>
   rw [hq] at hf
   refine fin (es.push ⟨.int .i64 (j : Int),u,clock⟩) (clock + 1) ?_ (exec_u ?_)
   ·unfold setI
    rw [hq]
    simp [mpL,h7]
   ·rw [h5, h2, hu]
    simp [Instr.mapUpdate,run_underlying g1,MapKept.run_getObj_map h6,hck,hf,MapKept.run_setObj_map _ h6,Result.andThen,World.putObj]
 | some p =>
   rw [hq] at hf
   have hsp:=getIx_spec (i:=p.1) (v:=p.2) hq
   have hsz : es.toList[p.1]?.map (fun e=>(e.key,e.val)) = some (.int .i64 (j : Int),p.2):=by
    rw [← List.getElem?_map,h7,mpL,List.getElem?_map,hsp];rfl
   cases hep : es.toList[p.1]? with
   | none=>rw [hep] at hsz;cases hsz
   | some e0 =>
     rw [hep] at hsz
     simp only [Option.map_some,Option.some.injEq,Prod.mk.injEq] at hsz
     have hek : es[p.1]? = some e0:=by rw [← Array.getElem?_toList];exact hep
     have hst : (Instr.keyThatStays (.int .i64 (j : Int)) (.int .i64 (j : Int))).run P w = .ok (.int .i64 (j : Int)) w:=by simp [Instr.keyThatStays,Instr.sameBits]
     refine fin (es.modify p.1 fun e=>{ e with key:=.int .i64 (j : Int),val:=u }) clock ?_ (exec_u ?_)
     ·unfold setI
      rw [hq]
      apply List.ext_getElem?
      intro q
      have h8:=congrArg (fun l=>l[q]?) h7
      simp only [mpL,List.getElem?_map] at h8
      dsimp only
      rw [mpL,List.getElem?_map,List.getElem?_map,Array.getElem?_toList,Array.getElem?_modify,List.getElem?_set]
      rw [Array.getElem?_toList] at h8
      by_cases hj : p.1 = q
      ·subst hj
       rw [if_pos rfl,if_pos rfl,hek,if_pos (List.getElem?_eq_some_iff.1 hsp).1]
       rfl
      ·rw [if_neg hj, if_neg hj]
       exact h8
     ·rw [h5, h2, hu]
      simp [Instr.mapUpdate,run_underlying g1,MapKept.run_getObj_map h6,hck,hf,MapKept.run_setObj_map _ h6,Result.andThen,World.putObj,hek,hsz.1,hst]
theorem e_mapsetA {t : TypeId} {x y v : Operand} {i j : Nat} {l l' : List AV} {a : Int} {z : Value} {own' : List Ent} (hx : lookO env x = .mp i) (hi : own[i]? = some (.mp (.inr l))) (hy : lookO env y = iV a) (ha : a = (j : Int)) (h1v : oneA (lookO env v) = true) (hl : l.set j (lookO env v) = l') (hs : setF own i (.mp (.inr l')) = some own') (ht : mapI P t = some z) :
 Eff P m ⟨dst,.mapUpdate t x y v,ty,pos,af,gd⟩ env own [i] (.d (.v undef)) own':=by
 rw [setF_spec hs]
 subst hl ha
 exact Eff.mk (fun j hj=>by rw [List.getElem?_set_ne (by simpa using Ne.symm (by simpa using hj))]) fun F κ ac w hs ho hm=>by
  have h1:=hs x (by simp [Op.operands]);rw [hx] at h1
  have h2:=hs y (by simp [Op.operands]);rw [hy] at h2
  have h2:=sat_v.1 h2
  have h3:=hs v (by simp [Op.operands])
  exact mapset_core hi h1v ht h1 h2 h3 ho (Tr.refl ..)
end
section
variable {Γ : Ctx} {P : Program} {n m : Nat} {c : Code} {Q : Exit → St → Prop} {env : List (Nat × AV)} {own own2 : List Ent}
theorem push_rows {F : Nat → Prop} {κ : List (Option Nat)} {w : World} (sz : Nat) (e : TypeId) (hs : 0 < sz) (hm : m ≤ κ.length) (ho : OwnSat F own κ w) : ∀ k, OwnSat F (own ++ List.replicate k (Ent.row 0 sz e [])) (κ ++ List.replicate k none) w ∧ Tr F m own κ w (own ++ List.replicate k (Ent.row 0 sz e [])) (κ ++ List.replicate k none) w
 | 0=>by simpa using ⟨ho,Tr.refl F m own κ w⟩
 | k + 1=>by
   obtain ⟨h1,h2⟩:=push_rows sz e hs hm ho k
   have hm2 : m ≤ (κ ++ List.replicate k (none : Option Nat)).length:=by rw [List.length_append];omega
   obtain ⟨g1,g2⟩:=step_push (m:=m) (x:=.row 0 sz e []) (og:=none) (w':=w) hm2 h1 rfl rfl rfl (Nat.le_refl _) (fun _ _=>rfl) (.inl rfl) (fun hst=>⟨hs,.inl ⟨rfl,rfl⟩⟩)
   rw [List.replicate_succ',List.replicate_succ',← List.append_assoc,← List.append_assoc]
   exact ⟨g1,h2.trans g2⟩
theorem AWP.mqRows (i k sz : Nat) (e : TypeId) (hs : 0 < sz) (hi : own[i]? = some (.mp (.inl []))) (h2 : (own ++ List.replicate k (Ent.row 0 sz e [])).set i (.mp (.inr ((List.range k).map fun j=>.osl (own.length + j) 0 0 0))) = own2) (hc : AWPG Γ P n m c Q ⟨env,own2⟩) : AWPG Γ P n m c Q ⟨env,own⟩:=fun F W κ0 a κ w hH hm hsim=>by
 subst h2
 have hle : m ≤ κ.length:=by rw [← hm];exact hsim.pre
 obtain ⟨g1,g2⟩:=push_rows (m:=m) sz e hs hle hsim.own k
 have hil : i < own.length:=(List.getElem?_eq_some_iff.1 hi).1
 have hi2 : (own ++ List.replicate k (Ent.row 0 sz e []))[i]? = some (.mp (.inl [])):=by rw [List.getElem?_append_left hil];exact hi
 obtain ⟨og,hog⟩:=g1.kap i _ hi2
 obtain ⟨g,hg,es,clock,h5,h6⟩:=g1.ent i _ hi2
 have e0 : (κ ++ List.replicate k none).getD i none = og:=by rw [List.getD_eq_getElem?_getD,hog];rfl
 rw [e0] at hg
 subst hg
 have hnil : es.toList = []:=by
  have h6 : es.toList.map (fun e=>(e.key,e.val)) = []:=h6
  simpa using h6
 have hlen : own.length = κ.length:=hsim.own.len
 have key := step_upd (m := m) (x' := .mp (.inr ((List.range k).map fun j => .osl (own.length + j) 0 0 0))) (og' := some g) (w' := w) g1 hi2 hog rfl rfl rfl (Nat.le_refl _) (fun _ _ _ => rfl) (.inl rfl) (.inr rfl) rfl
  (fun hst=>⟨g,rfl,es,clock,h5,[],by rw [hnil];rfl,fun j x hx=>by
   rw [List.getElem?_map] at hx
   cases hq : (List.range k)[j]? with
   | none=>rw [hq] at hx;cases hx
   | some j' =>
     obtain ⟨hjk,hj'⟩:=List.getElem?_eq_some_iff.1 hq
     rw [List.getElem_range] at hj'
     subst hj'
     have hjk : j < k:=by simpa using hjk
     rw [hq] at hx
     obtain rfl : AV.osl (own.length + j) 0 0 0 = x:=by simpa using hx
     have e1 : ((own ++ List.replicate k (Ent.row 0 sz e [])).set i (.mp (.inr ((List.range k).map fun j=>.osl (own.length + j) 0 0 0))))[own.length + j]? = some (.row 0 sz e []):=by
      rw [List.getElem?_set_ne (by omega),List.getElem?_append_right (by omega),List.getElem?_replicate,if_pos (by omega)]
     refine ⟨?_,rfl⟩
     show AV.sat F _ _ w (.osl (own.length + j) 0 0 0) (.slice none 0 0)
     rw [AV.sat]
     refine ⟨⟨_,e1,Nat.le_refl _,rfl⟩,fun sz2 e2 c2 hcc=>?_⟩
     rw [e1] at hcc
     obtain ⟨rfl,rfl,rfl⟩ : sz = sz2 ∧ e = e2 ∧ [] = c2:=by simpa using hcc
     refine ⟨by simp,none,0,rfl,Nat.le_refl _,by simp [maxLen],fun _=>.inr ⟨?_,rfl,rfl⟩⟩
     rw [List.getElem?_set_ne (by omega),List.getElem?_append_right (by omega),List.getElem?_replicate,if_pos (by omega)]⟩)
 have g3:=g2.trans key.2
 exact hc F W κ0 a _ w hH hm (hsim.step hm g3 hsim.tm rfl (fun u=>g3.keep _ _ (hsim.env u)) key.1)
theorem adopt_step {F : Nat → Prop} {κ : List (Option Nat)} {w : World} {v v2 sz r p q : Nat} {e : TypeId} {c0 cells : List (List Dat)} (ho : OwnSat F own κ w) (hp : own[p]? = some (.row v sz e c0)) (hq : own[q]? = some (.row v2 sz e cells)) (hpq : p ≠ q) :
 ∃ κ',OwnSat F ((own.set p (.row (v + 1) sz e cells)).set q (.row (v2 + 1) sz e [])) κ' w ∧ Tr F m own κ w ((own.set p (.row (v + 1) sz e cells)).set q (.row (v2 + 1) sz e [])) κ' w ∧ ∀ u,AV.sat F own κ w (.osl q v2 0 r) u → AV.sat F ((own.set p (.row (v + 1) sz e cells)).set q (.row (v2 + 1) sz e [])) κ' w (.osl p (v + 1) 0 r) u:=by
 obtain ⟨og,hog⟩:=ho.kap q _ hq
 obtain ⟨op,hop⟩:=ho.kap p _ hp
 have hpl : p < own.length:=(List.getElem?_eq_some_iff.1 hp).1
 have hql : q < own.length:=(List.getElem?_eq_some_iff.1 hq).1
 have hlen : own.length = κ.length:=ho.len
 have e1 : ∀ i,((own.set p (.row (v + 1) sz e cells)).set q (.row (v2 + 1) sz e []))[i]? = if i = q then some (.row (v2 + 1) sz e []) else if i = p then some (.row (v + 1) sz e cells) else own[i]?:=fun i=>by
  by_cases h : i = q
  ·subst h;rw [if_pos rfl,List.getElem?_set_self (by rw [List.length_set];exact hql)]
  ·rw [if_neg h, List.getElem?_set_ne (Ne.symm h)]
   by_cases h' : i = p
   ·subst h';rw [if_pos rfl,List.getElem?_set_self hpl]
   ·rw [if_neg h',List.getElem?_set_ne (Ne.symm h')]
 have e2 : ∀ i,((κ.set p og).set q none)[i]? = if i = q then some none else if i = p then some og else κ[i]?:=fun i=>by
  by_cases h : i = q
  ·subst h;rw [if_pos rfl,List.getElem?_set_self (by rw [List.length_set];omega)]
  ·rw [if_neg h, List.getElem?_set_ne (Ne.symm h)]
   by_cases h' : i = p
   ·subst h';rw [if_pos rfl,List.getElem?_set_self (by omega)]
   ·rw [if_neg h',List.getElem?_set_ne (Ne.symm h')]
 have sub : ∀ b,some b ∈ (κ.set p og).set q none → some b ∈ κ:=fun b hb=>by
  obtain ⟨i,hi⟩:=List.getElem?_of_mem hb
  rw [e2] at hi
  split at hi
  ·cases hi
  ·split at hi
   ·exact List.mem_of_getElem? (hog.trans hi)
   ·exact List.mem_of_getElem? hi
 have hw : Wide (badK F κ) (badK F ((κ.set p og).set q none)) w w:=.of (Nat.le_refl _) (fun _ _ _=>rfl) fun b _ hb hb'=>hb (hb'.imp id (sub b))
 have hst : Stab F own κ w ((own.set p (.row (v + 1) sz e cells)).set q (.row (v2 + 1) sz e [])) ((κ.set p og).set q none) w:=⟨hw,fun i x o hx hox=>by
  by_cases h : i = q
  ·subst h
   rw [hq] at hx
   obtain rfl:=Option.some.inj hx
   exact ⟨.row (v2 + 1) sz e [],none,by rw [e1,if_pos rfl],by rw [e2,if_pos rfl],by unfold Fits;exact Or.inl (Nat.lt_succ_self _)⟩
  ·by_cases h' : i = p
   ·subst h'
    rw [hp] at hx
    obtain rfl:=Option.some.inj hx
    exact ⟨.row (v + 1) sz e cells,og,by rw [e1,if_neg h,if_pos rfl],by rw [e2,if_neg h,if_pos rfl],by unfold Fits;exact Or.inl (Nat.lt_succ_self _)⟩
   ·exact ⟨x,o,by rw [e1,if_neg h,if_neg h'];exact hx,by rw [e2,if_neg h,if_neg h'];exact hox,Fits.same x o fun _ _=>rfl⟩⟩
 have ho' : OwnSat F ((own.set p (.row (v + 1) sz e cells)).set q (.row (v2 + 1) sz e [])) ((κ.set p og).set q none) w := {
  len:=by simp [hlen]
  frame:=ho.frame
  lt:=fun g hg=>ho.lt g (sub g hg)
  inj:=fun i j g hi hj=>by
   rw [e2] at hi hj
   have back : ∀ i,(if i = q then some none else if i = p then some og else κ[i]?) = some (some g) → ∃ i',κ[i']? = some (some g) ∧ (i' = i ∧ i ≠ q ∧ i ≠ p ∨ i' = q ∧ i = p):=fun i hi=>by
    split at hi
    ·cases hi
    ·rename_i h1
     split at hi
     ·rename_i h2;exact ⟨q,hog.trans hi,.inr ⟨rfl,h2⟩⟩
     ·rename_i h2;exact ⟨i,hi,.inl ⟨rfl,h1,h2⟩⟩
   obtain ⟨i',a1,a2⟩:=back i hi
   obtain ⟨j',b1,b2⟩:=back j hj
   have:=ho.inj i' j' g a1 b1
   omega
  ent:=fun i x hx=>by
   rw [e1] at hx
   have e3 : ((κ.set p og).set q none).getD i none = if i = q then none else if i = p then og else κ.getD i none:=by
    rw [List.getD_eq_getElem?_getD,e2]
    split
    ·rfl
    ·split
     ·rfl
     ·rw [List.getD_eq_getElem?_getD]
   rw [e3]
   have hqs:=ho.ent q _ hq
   have e4 : κ.getD q none = og:=by rw [List.getD_eq_getElem?_getD,hog];rfl
   rw [e4] at hqs
   split at hx
   ·rename_i h
    obtain rfl:=Option.some.inj hx
    rw [if_pos h]
    exact ⟨hqs.1,.inl ⟨rfl,rfl⟩⟩
   ·rename_i h
    rw [if_neg h]
    split at hx
    ·rename_i h'
     obtain rfl:=Option.some.inj hx
     rw [if_pos h']
     refine ⟨hqs.1,hqs.2.imp id ?_⟩
     rintro ⟨g,hg,cur,k1,k2,k3⟩
     exact ⟨g,hg,cur,k1,k2,Dat.rowsSat_wide hw rfl cells k3⟩
    ·rename_i h'
     rw [if_neg h']
     exact EntSat.stab hst ho.kap (fun _ _=>rfl) (ho.ent i x hx)
  glb:=fun pr hpr=>⟨(ho.glb pr hpr).1,fun hk=>(ho.glb pr hpr).2.1 (sub _ hk),(ho.glb pr hpr).2.2⟩ }
 have hT : Tr F m own κ w ((own.set p (.row (v + 1) sz e cells)).set q (.row (v2 + 1) sz e [])) ((κ.set p og).set q none) w:=⟨rfl,rfl,rfl,Nat.le_refl _,fun _ _ _=>rfl,fun b hb=>.inl (sub b hb),fun h=>by simpa using h,fun x u hx=>AV.sat_stab hst ho.kap x hx⟩
 refine ⟨_,ho',hT,fun u h3=>?_⟩
 rw [AV.sat] at h3
 rw [AV.sat]
 obtain ⟨⟨y,hy,hv,h1c⟩,h4⟩:=h3
 refine ⟨⟨_,by rw [e1,if_neg hpq,if_pos rfl],Nat.le_refl _,h1c⟩,fun sz2 e2' c2 hcc=>?_⟩
 rw [e1,if_neg hpq,if_pos rfl] at hcc
 obtain ⟨rfl,rfl,rfl⟩ : sz = sz2 ∧ e = e2' ∧ cells = c2:=by simpa using hcc
 obtain ⟨k1,A,cc,k2,k3,k4,k5⟩:=h4 sz e cells hq
 refine ⟨k1,A,cc,k2,k3,k4,fun hh=>?_⟩
 rcases k5 hh with ⟨g,b1,b2,b3⟩ | ⟨b1,b2⟩
 ·exact .inl ⟨g,by rw [e2,if_neg hpq,if_pos rfl];exact hog.symm.trans b1,b2,b3⟩
 ·exact .inr ⟨by rw [e2,if_neg hpq,if_pos rfl];exact hog.symm.trans b1,b2⟩
end
section
variable {P : Program} {m : Nat} {env : List (Nat × AV)} {own : List Ent} {dst : Option Tmp} {ty : TypeId} {pos : String} {af : Array Edge} {gd : Option (Nat × Bool)}
theorem e_mapsetM {t : TypeId} {x y v : Operand} {i j : Nat} {l l' : List AV} {a : Int} {z : Value} {own2 own' : List Ent} {vp v2 sz r p q : Nat} {e : TypeId} {c0 cells : List (List Dat)} (hx : lookO env x = .mp i) (hi : own[i]? = some (.mp (.inr l))) (hy : lookO env y = iV a) (ha : a = (j : Int)) (hv : lookO env v = .osl q v2 0 r) (hp : own[p]? = some (.row vp sz e c0)) (hq : own[q]? = some (.row v2 sz e cells)) (hpq : p ≠ q) (hip : i ≠ p) (hiq : i ≠ q)
 (h2 : setF own p (.row (vp + 1) sz e cells) = some own2) (h3 : l.set j (.osl p (vp + 1) 0 r) = l') (ho' : (own2.set q (.row (v2 + 1) sz e [])).set i (.mp (.inr l')) = own') (ht : mapI P t = some z) :
 Eff P m ⟨dst,.mapUpdate t x y v,ty,pos,af,gd⟩ env own [i,p,q] (.d (.v undef)) own':=by
 obtain rfl:=setF_spec h2
 subst h3 ho' ha
 refine Eff.mk (fun k hk=>?_) fun F κ ac w hs ho hm=>?_
 ·simp only [List.mem_cons, List.not_mem_nil, or_false, not_or] at hk
  rw [List.getElem?_set_ne (Ne.symm hk.1),List.getElem?_set_ne (Ne.symm hk.2.2),List.getElem?_set_ne (Ne.symm hk.2.1)]
 ·have h1 := hs x (by simp [Op.operands]); rw [hx] at h1
  have h2:=hs y (by simp [Op.operands]);rw [hy] at h2
  have h2:=sat_v.1 h2
  have h3:=hs v (by simp [Op.operands]);rw [hv] at h3
  obtain ⟨κ',g1,g2,g3⟩:=adopt_step (m:=m) (r:=r) ho hp hq hpq
  have hi2 : ((own.set p (.row (vp + 1) sz e cells)).set q (.row (v2 + 1) sz e []))[i]? = some (.mp (.inr l)):=by
   rw [List.getElem?_set_ne (Ne.symm hiq),List.getElem?_set_ne (Ne.symm hip)];exact hi
  exact mapset_core hi2 rfl ht (g2.keep _ _ h1) h2 (g3 _ h3) g1 g2
end
end
section
section
variable {P : Program} {m : Nat} {env : List (Nat × AV)} {own : List Ent} {dst : Option Tmp} {ty : TypeId} {pos : String} {af : Array Edge} {gd : Option (Nat × Bool)}
theorem part_get {l2 : List (List Dat)} {o n2 j : Nat} {e : List Dat} (h : ((l2.drop o).take n2)[j]? = some e) : l2[o + j]? = some e:=by
 rw [List.getElem?_take] at h
 split at h
 ·rw [List.getElem?_drop] at h;exact h
 ·cases h
theorem e_appRO {t e e2 : TypeId} {sz by' : Nat} {z : Value} {x y : Operand} {p ver i vi o n n2 q : Nat} {l l2 part : List (List Dat)} {own' : List Ent} (hx : lookO env x = .osl p ver 0 n) (hp : own[p]? = some (.row ver sz e l)) (hy : lookO env y = .osl i vi o n2) (hi : own[i]? = some (.row vi sz e2 l2)) (hpart : (l2.drop o).take n2 = part) (ho' : setF own p (.row (ver + 1) sz e (l ++ part)) = some own') (ht : slInfo P t = some (e, sz, by', z)) (hz : z.cells.size = sz) (hby : Nat.ble by' 1024 = true) (hn : n = l.length) (hq : q = l.length + n2)
 (hb : l.length + n2 ≤ 1000000000) :
 Eff P m ⟨dst,.call ⟨.builtin .append,#[x,y],#[t,t]⟩,ty,pos,af,gd⟩ env own [p] (.osl p (ver + 1) 0 q) own':=by
 rw [setF_spec ho']
 refine Eff.mk (set_same _ p) fun F κ a w hs ho hmk=>?_
 subst hn
 subst hpart
 subst hq
 have hx1:=hs x (by simp [Op.operands,Call.operands]);rw [hx] at hx1
 have hy1:=hs y (by simp [Op.operands,Call.operands]);rw [hy,AV.sat] at hy1
 obtain ⟨h11,A,c,hyv,hc1,hc2,hc3⟩:=hy1.2 sz e2 l2 hi
 obtain ⟨he,inf,hi1,hi2,hib,hzz⟩:=slInfo_spec ht
 have hpl : ((l2.drop o).take n2).length = n2:=by rw [List.length_take,List.length_drop];omega
 rcases Nat.eq_zero_or_pos n2 with h0 | hpos
 ·subst h0
  have hx2:=hx1
  rw [AV.sat] at hx2
  obtain ⟨h3,A',c',h4,h5,h6,h7⟩:=hx2.2 sz e l hp
  have hf : (Builtin.firstCells inf.size 0 (.slice A 0 c)).run P w = .ok #[] w:=by
   cases A with
   | none=>exact run_firstCells_none w inf.size 0 0 c
   | some b=>exact run_firstCells_some w inf.size 0 b 0 c [] (by simp) (fun j v hj=>by simp at hj)
  rw [run_builtin_append (dst:=dst) (pos:=pos) (af:=af) (gd:=gd) (v:=.slice A' l.length c') (w':=w) (by
   rw [h4,hyv]
   cases A'<;>simp [Builtin.append_,run_underlying he,sizeOf,typeInfo,hi1,Builtin.lenOf,h5,hf,storeCells])]
  obtain ⟨og,hog⟩:=ho.kap p _ hp
  have hκ:=setK_same hog
  have hent:=ho.ent p _ hp
  have hgd : κ.getD p none = og:=by simp [List.getD_eq_getElem?_getD,hog]
  rw [hgd] at hent
  have hpl : p < own.length:=(List.getElem?_eq_some_iff.1 hp).1
  rw [List.take_zero,List.append_nil,Nat.add_zero]
  obtain ⟨g1,g2⟩:=step_upd (m:=m) (x':=.row (ver + 1) sz e l) (og':=og) (w':=w) ho hp hog rfl rfl rfl (Nat.le_refl _) (fun _ _ _=>rfl) (.inl rfl) (.inr rfl) (.inl (Nat.lt_succ_self ver)) (fun hst=>by
   rw [hκ]
   unfold EntSat at hent ⊢
   exact hent)
  refine ⟨_,?_,g1,g2⟩
  rw [AV.sat]
  have hself : (own.set p (.row (ver + 1) sz e l))[p]? = some (.row (ver + 1) sz e l):=by rw [List.getElem?_set_self hpl]
  refine ⟨⟨_,hself,Nat.le_refl _,rfl⟩,fun sz2 e2 c2 hc=>?_⟩
  rw [hself] at hc
  obtain ⟨rfl,rfl,rfl⟩ : sz = sz2 ∧ e = e2 ∧ l = c2:=by simpa using hc
  rw [hκ]
  exact ⟨by simp,A',c',rfl,h5,h6,fun _=>h7 (.inr rfl)⟩
 ·obtain ⟨h0, hl1, og, xs, hog, hvo, hxs, hown⟩ := row_owns ho hp rfl hx1
  rcases hc3 (.inl hpos) with ⟨g,g1,rfl,cur,t2,fz,g3,g4⟩ | ⟨_,_,rfl⟩
  ·obtain ⟨og2, hog2⟩ := ho.kap i _ hi
   obtain ⟨_,hent⟩:=ho.ent i _ hi
   have hgd : κ.getD i none = og2:=by simp [List.getD_eq_getElem?_getD,hog2]
   rw [hgd] at hent
   obtain rfl : og2 = some g:=by rw [hog2] at g1;simpa using g1
   rcases hent with ⟨hx0,_⟩ | ⟨g',hg',cur',h6,h7,hb3⟩
   ·cases hx0
   obtain rfl : g = g':=by simpa using hg'
   have hb4 : Dat.rowsSat (badK F κ) w g sz (o * sz) ((l2.drop o).take n2):=by
    rw [Dat.rowsSat_iff] at hb3 ⊢
    intro j e3 hj
    have:=hb3 (o + j) e3 (part_get hj)
    rw [Nat.zero_add,Nat.add_mul] at this
    exact this
   rw [rowsSat_flat] at hb4
   obtain ⟨news,hv1,hv2⟩:=vals_of_row hb4.2
   subst hi2
   have hnl : news.length = n2 * inf.size:=by rw [← hv1.1,flat_len hb4.1,hpl]
   have hby:=Nat.le_of_ble_eq_true hby
   have hbytes : (l.length + n2) * by' ≤ 140737488355328:=by have:=Nat.mul_le_mul hb hby;omega
   obtain ⟨v',w',h2,h3,h4,_,h5⟩:=run_append_own_at (P:=P) w 0 t ty e inf z inf.size by' he hi1 hzz rfl hib hz h0 (a.eval x) l.length xs hown ⟨g,o * inf.size,none⟩ n2 c news hnl (fun j u hu=>by rw [add_none];exact hv2 j u hu) (vals_one hv1) (by unfold maxLen;omega) hbytes (Nat.zero_le _)
   rw [run_builtin_append (dst:=dst) (pos:=pos) (af:=af) (gd:=gd) (v:=v') (w':=w') (by rw [hyv];exact h2)]
   exact append_fin ho (Nat.zero_le _) hp hog h0 rfl hpl.symm hpos hb4.1 hl1 hxs hv1 hvo h3 h4 h5
  ·omega
end
end
section
section
variable {P : Program} {m : Nat} {env : List (Nat × AV)} {own : List Ent} {dst : Option Tmp} {ty : TypeId} {pos : String} {af : Array Edge} {gd : Option (Nat × Bool)}
theorem q_ld_rptp {t : TypeId} {k : Nat} {x : Operand} {i ver j o sz : Nat} {e : TypeId} {l : List (List Dat)} {c : List Dat} {r : List AV} (ht : tyInfo P t = some (true, k)) (hx : lookO env x = .rpt i ver j o) (hi : own[i]? = some (.row ver sz e l)) (hc : l[j]? = some c) (hr : takeF k ((c.map AV.d).drop o) = some r) (ho1 : o < c.length) :
 Quiet P m ⟨dst,.load t x,ty,pos,af,gd⟩ env own [i] (.agg r) :=
 Quiet.val fun F own' κ a w hs ho hsame _=>by
  have h1:=hs x (by simp [Op.operands]);rw [hx,AV.sat] at h1
  have hp' : own'[i]? = some (.row ver sz e l):=by rw [hsame i (by simp)];exact hi
  obtain ⟨h2,b,h3,h4⟩:=h1.2 sz e l hp'
  obtain ⟨h0,h5⟩:=ho.ent i _ hp'
  rw [getD_some h3] at h5
  rcases h5 with ⟨h5,_⟩ | ⟨g',h5,cur,h6',h7',h8'⟩
  ·cases h5
  ·obtain rfl : b = g' := by simpa using h5
   obtain ⟨h6,h7⟩:=Dat.rowsSat_iff.1 h8' j c hc
   have h7:=Dat.rowSat_iff.1 h7
   obtain ⟨hr1,hr2⟩:=takeF_spec hr
   rw [List.length_drop,List.length_map] at hr2
   let us:=(List.range k).map fun i=>((w.cell? ⟨b,0 + j * sz + (o + i),none⟩).getD undef)
   have hus : ∀ (i : Nat) (y : Dat),i < k → c[o + i]? = some y → ∃ u,us[i]? = some u ∧ w.cell? ⟨b,0 + j * sz + (o + i),none⟩ = some u ∧ Dat.sat (badK F κ) w y u:=fun i y hi hy=>by
    obtain ⟨u,h8,h9,h10⟩:=h7 (o + i) y hy
    exact ⟨u,by simp [us,hi] at h8 ⊢;rw [h8];rfl,h8,h10⟩
   have hrun : (Instr.loadAt t (.pointer (some ⟨b,j * sz + o,none⟩))).run P w = .ok (.agg us.toArray) w:=by
    refine run_loadAt_agg ht us (by simp [us]) fun i u hu=>?_
    have hlt : i < k:=by have:=(List.getElem?_eq_some_iff.1 hu).1;simpa [us] using this
    obtain ⟨u',h8,h9,_⟩:=hus i _ hlt (List.getElem?_eq_getElem (by omega))
    rw [hu] at h8;obtain rfl : u = u':=by simpa using h8
    rw [show j * sz + o + i = 0 + j * sz + (o + i) from by omega];exact h9
   refine ⟨.agg us.toArray,exec_v (by rw [h4];exact hrun),?_⟩
   rw [AV.sat]
   refine ⟨_,rfl,satL_of (by simp [us,hr1];omega) fun i y hy=>?_⟩
   rw [hr1,List.getElem?_take] at hy
   split at hy
   ·rename_i hik
    rw [List.getElem?_drop,List.getElem?_map] at hy
    cases he' : c[o + i]? with
    | none=>simp [he'] at hy
    | some d =>
      obtain rfl : AV.d d = y:=by simpa [he'] using hy
      obtain ⟨u,h8,_,h9⟩:=hus i d hik he'
      exact ⟨u,by simpa using h8,by rw [AV.sat];exact h9⟩
   ·cases hy
end
end
section
abbrev Us:=Int × Int × Int
abbrev SRw:=Int × Int × List Us
def usD (u : Us) : List Dat:=[.v (.int .i64 u.1),.v (.int .i64 u.2.1),.v (.int .i64 u.2.2)]
def rwD (r : SRw) : List Dat:=[.v (.int .i64 r.1),.v (.int .i64 r.2.1),.sl 3 (r.2.2.map usD)]
abbrev rws (l : List SRw) : AV:=.d (.sl 3 (l.map rwD))
abbrev rwA (r : SRw) : AV:=.agg ((rwD r).map .d)
def rw0 : SRw:=(0,0,[])
def strTo (rows : List SRw) (c : Int) (n : Nat) : List (Nat × Int):=((List.range n).map fun i=>if (rows.getD i rw0).1 = c then (rows.getD i rw0).2.2.map fun u=>(i,u.1) else []).flatten
def strN (rows : List SRw) (c : Int) : List (Nat × Int):=strTo rows c rows.length
theorem strTo_succ (rows : List SRw) (c : Int) (n : Nat) : strTo rows c (n + 1) = strTo rows c n ++ (if (rows.getD n rw0).1 = c then (rows.getD n rw0).2.2.map fun u=>(n,u.1) else []):=by
 unfold strTo
 rw [List.range_succ,List.map_append,List.flatten_append];simp
theorem getDr {rows : List SRw} {i : Nat} (h : i < rows.length) : rows.getD i rw0 = rows[i]:=by rw [List.getD_eq_getElem?_getD,List.getElem?_eq_getElem h];rfl
theorem strTo_set_lt {rows : List SRw} {c : Int} {i : Nat} {r : SRw} : ∀ n, n ≤ i → strTo (rows.set i r) c n = strTo rows c n
 | 0,_=>rfl
 | n + 1,h=>by
   rw [strTo_succ,strTo_succ,strTo_set_lt n (by omega)]
   have e : (rows.set i r).getD n rw0 = rows.getD n rw0:=by
    rw [List.getD_eq_getElem?_getD,List.getElem?_set_ne (by omega),List.getD_eq_getElem?_getD]
   rw [e]
end
section
attribute [local irreducible] Quiet Eff OpOk AWPG ACont ABlock ACalls AGoto
theorem A_of0 {rows : List SRw} {c : Int} : ACalls Tryz.prog 129 [rws rows,iV c] [] (.fn 195 [.opt 0 0,.opt 1 0]) [.box [rws rows],.box [iV c]]:=by
 refine acalls_of_bodyO Tryz.func129 rfl (zU rfl) ?_
 (repeat' (first
  |(apply W.qd;(first
  |(exact zN)
  |(apply q_makeFunc)))|(apply W.ed;(exact jAa))|(apply yA)|(apply yB)|(refine jAb ?_)|(apply yE)
  |(apply yJ)))
 exact ⟨.inl rfl,[0,1],[.fn 195 [.opt 0 0,.opt 1 0]],rfl,rfl,⟨rfl,trivial⟩,AVle.of_eq rfl,rfl⟩
end
section
def grps (us : List Us) : List Int:=us.map (·.1)
def rgtR (g : Int) (w : SRw) : Bool:=if w.1 = -1 then decide (w.2.1 = 0) && decide (w.2.2.length = 0) else decide (0 ≤ w.1 ∧ w.1 < 8 ∧ 1 ≤ w.2.1 ∧ w.2.1 ≤ 32 ∧ w.2.2.length ≠ 0) && incB g (-1) (grps w.2.2)
def conR (rows : List SRw) (a b : Nat) : Bool:=!(decide ((rows.getD b rw0).1 = (rows.getD a rw0).1) && !decide ((rows.getD b rw0).2.1 = (rows.getD a rw0).2.1))
def okR (d r n s l i : Int) (rows : List SRw) (a : Nat) : Bool:=rgtR (grpI d r n s l i (rows.getD a rw0).2.1) (rows.getD a rw0) && (List.range a).all (conR rows a)
def validR (d r n s l i : Int) (rows : List SRw) : Bool:=decide (chk13 d r n s l i = 0 ∧ (rows.length : Int) = n) && (List.range rows.length).all (okR d r n s l i rows)
theorem grpI_le (d r n s l i w : Int) : grpI d r n s l i w ≤ 64:=by
 unfold grpI
 split
 ·rename_i h
  obtain ⟨h1,h2,h3,h4,h5⟩:=h.bd
  have:=Int.ediv_le_self (a:=d - s) w (by omega)
  omega
 ·omega
attribute [local irreducible] Quiet Eff OpOk AWPG ACont ABlock ACalls AGoto
end
section
abbrev uss (l : List Us) : AV:=.d (.sl 3 (l.map usD))
abbrev usA (u : Us) : AV:=.agg ((usD u).map .d)
attribute [local irreducible] Quiet Eff OpOk AWPG ACont ABlock ACalls AGoto
end
section
attribute [local irreducible] Quiet Eff OpOk AWPG ACont ABlock ACalls
theorem A_lcrowd (d r n s l i wd : Int) : ACalls Tryz.prog 103 [cfgA d r n s l i,iV wd] [] (iV (crdI d r n s l i wd)) []:=by
 refine acalls_of_body Tryz.func103 rfl (zU rfl) ?_
 by_cases hok : OkL d r n s l i wd
 ·have hv : vldL d r n s l i wd = true := decide_eq_true hok
  have:=A_lvalid d r n s l i wd
  rw [hv] at this
  obtain ⟨h1,h2,h3,h4,h5⟩:=hok.bd
  (repeat' (first
   |(apply W.qd;(first
   |(exact zW (this))|(exact zM)|(exact zN)|(exact jAm)|(exact jAg)|(exact jAn)|(exact jBe)|(exact jAi)|(exact q_sub rfl rfl (by omega))
   |(apply q_quo;exact rfl;exact rfl;omega;omega;omega)))|(apply W.ed;(exact jAa))|(apply yA)|(apply yB)|(refine jAb ?_)|(apply yE)|(apply yH)|(apply yJ)
   |(refine jAy ?_)))
  all_goals exact Ends.i rfl (if_pos hok).symm
 ·have hv : vldL d r n s l i wd = false := decide_eq_false hok
  have:=A_lvalid d r n s l i wd
  rw [hv] at this
  (repeat' (first
   |(apply W.qd;(first
   |(exact zW (this))|(exact zM)|(exact zN)|(exact jAn)
   |(exact jBe)))|(apply W.ed;(exact jAa))|(apply yA)|(apply yB)|(refine jAb ?_)|(apply yE)|(apply yJ)|(apply yP)
   |(refine jAv ?_)))
  all_goals exact Ends.i rfl (if_neg hok).symm
end
section
abbrev Tn:=List Nat × Int × Int × Int × Int × Int
abbrev Ue:=Int × Int
def tnD (t : Tn) : List Dat:=[.v (.string (bytesOf t.1)),.v (.int .i64 t.2.1),.v (.int .i64 t.2.2.1),.v (.int .i64 t.2.2.2.1),.v (.int .i64 t.2.2.2.2.1),.v (.int .i64 t.2.2.2.2.2)]
def ueD (u : Ue) : List Dat:=[.v (.int .i64 u.1),.v (.int .i64 u.2)]
abbrev tns (l : List Tn) : AV:=.d (.sl 6 (l.map tnD))
abbrev ues (l : List Ue) : AV:=.d (.sl 2 (l.map ueD))
def tn0 : Tn:=([],0,0,0,0,0)
def ue0 : Ue:=(0,0)
def inT (x : Int) : Bool:=decide (0 ≤ x ∧ x ≤ 2147483647)
def tnOk (nv : Nat) (t : Tn) (u : Ue) : Bool:=decide (0 ≤ t.2.2.2.2.2 ∧ t.2.2.2.2.2 < (nv : Int)) && ((inT t.2.1 && inT t.2.2.1) && (inT u.1 && inT u.2))
def tenB (nv : Nat) (ts : List Tn) (us : List Ue) : Bool:=decide (ts.length ≤ 16 ∧ ts.length ≤ us.length) && (List.range ts.length).all fun i=>tnOk nv (ts.getD i tn0) (us.getD i ue0)
def mxI (a b : Int) : Int:=if b > a then b else a
def blkOf (t : Tn) (u : Ue) : Int:=mxI t.2.1 u.1 + mxI t.2.2.1 u.2
def blkT (ts : List Tn) (us : List Ue) (k : Int) : Nat → Int
 | 0=>0
 | n + 1=>blkT ts us k n + if (ts.getD n tn0).2.2.2.2.2 = k then blkOf (ts.getD n tn0) (us.getD n ue0) else 0
def blkN (ts : List Tn) (us : List Ue) (k : Int) : Int:=blkT ts us k (min ts.length us.length)
def upI (a b : Int) : Int:=(a + b - 1) / b
def limN (D n : Int) : Int:=if n < 1 ∨ 1099511627776 < n ∨ D < 1 then 0 else 2 + upI n D * 2
abbrev refI : Int:=18
def codN (d r n s l i : Int) (c : Cd) (x : Int) : Int × Int :=
 if ¬ OkC d r n s l i ∨ chkD c = false ∨ x < 0 ∨ 1099511627776 < x then (0,1)
 else if x = 0 then (0,0)
 else if grpI d r n s l i (c.2.2.1 + (c.2.2.2.1.length : Int)) = 0 ∨ c.2.2.2.2 < crdI d r n s l i (c.2.2.1 + (c.2.2.2.1.length : Int)) then (0,refI)
 else (upI (limN c.2.2.1 x) (grpI d r n s l i (c.2.2.1 + (c.2.2.2.1.length : Int))),0)
def codesV (v : Sv) : List Int:=if v.2.1 = -1 then [] else if v.2.2.1 = -1 then [v.2.1] else [v.2.1,v.2.2.1]
def jobsN (vs : List Sv) (b : Nat → Int) : Nat → List (Int × Int)
 | 0=>[]
 | k + 1=>jobsN vs b k ++ (codesV (vs.getD k sv0)).map fun c=>(c,b k)
section
variable (F : Cd → Int → Int × Int) (cs : List Cd)
def stepJ (a : List Int × Int) (j : Int × Int) : List Int × Int:=if a.2 ≠ 0 then a else (a.1.set j.1.toNat (F (cs.getD j.1.toNat cd0) j.2).1,(F (cs.getD j.1.toNat cd0) j.2).2)
def runJ (l : List (Int × Int)) : List Int × Int:=l.foldl (stepJ F cs) (List.replicate 8 0,0)
def sumH (need : List Int) (held : Nat → Int) : Nat → Int
 | 0=>0
 | c + 1=>sumH need held c + mxI (need.getD c 0) (held c)
def totN (vs : List Sv) (held : Nat → Int) (b : Nat → Int) : Int × Int :=
 if (runJ F cs (jobsN vs b vs.length)).2 ≠ 0 then (0,(runJ F cs (jobsN vs b vs.length)).2) else (sumH (runJ F cs (jobsN vs b vs.length)).1 held 8,0)
end
def heldT (rows : List SRw) (c : Int) : Nat → Nat
 | 0=>0
 | i + 1=>heldT rows c i + if (rows.getD i rw0).1 = c then 1 else 0
def heldN (rows : List SRw) (c : Int) : Nat:=heldT rows c rows.length
theorem heldT_le (rows : List SRw) (c : Int) : ∀ i, heldT rows c i ≤ i
 | 0=>Nat.le_refl _
 | i + 1=>by
   have:=heldT_le rows c i
   unfold heldT
   split<;>omega
theorem runJ_app {F : Cd → Int → Int × Int} {cs : List Cd} (l : List (Int × Int)) (j : Int × Int) : runJ F cs (l ++ [j]) = stepJ F cs (runJ F cs l) j:=by
 unfold runJ;rw [List.foldl_append];rfl
theorem runJ_len {F : Cd → Int → Int × Int} {cs : List Cd} : ∀ (l : List (Int × Int)) (a : List Int × Int), (l.foldl (stepJ F cs) a).1.length = a.1.length
 | [],_=>rfl
 | j :: l,a=>by
   rw [List.foldl_cons,runJ_len l]
   unfold stepJ
   split<;>simp
theorem runJ_stop {F : Cd → Int → Int × Int} {cs : List Cd} : ∀ (l : List (Int × Int)) (a : List Int × Int), a.2 ≠ 0 → l.foldl (stepJ F cs) a = a
 | [],_,_=>rfl
 | j :: l,a,h=>by
   rw [List.foldl_cons]
   have e : stepJ F cs a j = a:=by unfold stepJ;rw [if_pos h]
   rw [e,runJ_stop l a h]
theorem runJ_err {F : Cd → Int → Int × Int} {cs : List Cd} {l t : List (Int × Int)} (h : (runJ F cs l).2 ≠ 0) : runJ F cs (l ++ t) = runJ F cs l:=by
 unfold runJ;rw [List.foldl_append];exact runJ_stop t _ h
def MonoF (F : Cd → Int → Int × Int) : Prop:=∀ c x y,0 ≤ x → x ≤ y → (F c y).2 = 0 → (F c x).2 = 0 ∧ (F c x).1 ≤ (F c y).1
def LeL (a b : List Int) : Prop:=a.length = b.length ∧ ∀ c,a.getD c 0 ≤ b.getD c 0
theorem LeL.refl (a : List Int) : LeL a a:=⟨rfl,fun _=>Int.le_refl _⟩
theorem getD_setI (l : List Int) (u j : Nat) (x : Int) : (l.set u x).getD j 0 = if j = u ∧ u < l.length then x else l.getD j 0:=by
 rw [List.getD_eq_getElem?_getD,List.getD_eq_getElem?_getD,List.getElem?_set]
 by_cases h : u = j
 ·subst h
  by_cases h2 : u < l.length
  ·simp [h2]
  ·rw [if_pos rfl,if_neg h2,if_neg (by simp [h2]),List.getElem?_eq_none (by omega)]
 ·rw [if_neg h,if_neg (by omega)]
theorem LeL.set {a b : List Int} (h : LeL a b) (u : Nat) {x y : Int} (hxy : x ≤ y) : LeL (a.set u x) (b.set u y):=by
 refine ⟨by rw [List.length_set,List.length_set];exact h.1,fun c=>?_⟩
 rw [getD_setI,getD_setI,h.1]
 split
 ·exact hxy
 ·exact h.2 c
def LeJ : List (Int × Int) → List (Int × Int) → Prop
 | [],[]=>True
 | a :: l,b :: t=>(a.1 = b.1 ∧ 0 ≤ a.2 ∧ a.2 ≤ b.2) ∧ LeJ l t
 | _,_=>False
theorem LeJ.app : ∀ {l t l2 t2 : List (Int × Int)}, LeJ l t → LeJ l2 t2 → LeJ (l ++ l2) (t ++ t2)
 | [],[],_,_,_,h2=>h2
 | a :: l,b :: t,_,_,h,h2=>⟨h.1,LeJ.app h.2 h2⟩
 | [],_ :: _,_,_,h,_=>h.elim
 | _ :: _,[],_,_,h,_=>h.elim
theorem LeJ.map {c : List Int} {x y : Int} (h0 : 0 ≤ x) (h : x ≤ y) : LeJ (c.map fun c=>(c,x)) (c.map fun c=>(c,y)):=by
 induction c with
 | nil=>trivial
 | cons a c ih=>exact ⟨⟨rfl,h0,h⟩,ih⟩
theorem jobs_le {vs : List Sv} {b b' : Nat → Int} (h0 : ∀ k, 0 ≤ b k) (h : ∀ k, b k ≤ b' k) : ∀ n, LeJ (jobsN vs b n) (jobsN vs b' n)
 | 0=>trivial
 | n + 1=>LeJ.app (jobs_le h0 h n) (LeJ.map (h0 n) (h n))
theorem run_mono {F : Cd → Int → Int × Int} {cs : List Cd} (hF : MonoF F) : ∀ (l t : List (Int × Int)) (a b : List Int × Int), LeJ l t → LeL a.1 b.1 → a.2 = 0 → (t.foldl (stepJ F cs) b).2 = 0 → (l.foldl (stepJ F cs) a).2 = 0 ∧ LeL (l.foldl (stepJ F cs) a).1 (t.foldl (stepJ F cs) b).1
 | [],[],a,b,_,h,ha,_=>⟨ha,h⟩
 | x :: l,y :: t,a,b,hj,h,ha,hb=>by
   rw [List.foldl_cons] at hb
   have hb0 : b.2 = 0:=Classical.byContradiction fun hn=>by
    have e : stepJ F cs b y = b:=by unfold stepJ;rw [if_pos hn]
    rw [e,runJ_stop t b hn] at hb
    exact hn hb
   have eb : stepJ F cs b y = (b.1.set y.1.toNat (F (cs.getD y.1.toNat cd0) y.2).1,(F (cs.getD y.1.toNat cd0) y.2).2):=by unfold stepJ;rw [if_neg (by simp [hb0])]
   have ea : stepJ F cs a x = (a.1.set x.1.toNat (F (cs.getD x.1.toNat cd0) x.2).1,(F (cs.getD x.1.toNat cd0) x.2).2):=by unfold stepJ;rw [if_neg (by simp [ha])]
   have hy : (F (cs.getD y.1.toNat cd0) y.2).2 = 0:=Classical.byContradiction fun hn=>by
    rw [eb,runJ_stop t _ hn] at hb
    exact hn hb
   obtain ⟨⟨h1,h2,h3⟩,h4⟩:=hj
   obtain ⟨h5,h6⟩:=hF _ _ _ h2 h3 hy
   rw [List.foldl_cons,List.foldl_cons,ea,eb]
   rw [eb] at hb
   rw [h1]
   exact run_mono hF l t _ _ h4 (h.set _ h6) h5 hb
 | [],_ :: _,_,_,h,_,_,_=>h.elim
 | _ :: _,[],_,_,h,_,_,_=>h.elim
theorem sumH_mono {a b : List Int} {h h' : Nat → Int} (hl : LeL a b) (hh : ∀ c, h c ≤ h' c) : ∀ n, sumH a h n ≤ sumH b h' n
 | 0=>Int.le_refl _
 | n + 1=>by
   have h1:=sumH_mono hl hh n
   have h2:=hl.2 n
   have h3:=hh n
   unfold sumH mxI
   split<;>split<;>omega
theorem tot_mono {F : Cd → Int → Int × Int} {cs : List Cd} {vs : List Sv} {h h' b b' : Nat → Int} (hF : MonoF F) (h0 : ∀ k,0 ≤ b k) (hb : ∀ k,b k ≤ b' k) (hh : ∀ c,h c ≤ h' c) (he : (totN F cs vs h' b').2 = 0) : (totN F cs vs h b).2 = 0 ∧ (totN F cs vs h b).1 ≤ (totN F cs vs h' b').1:=by
 have he2 : (runJ F cs (jobsN vs b' vs.length)).2 = 0:=Classical.byContradiction fun hn=>by
  unfold totN at he
  rw [if_pos hn] at he
  exact hn he
 obtain ⟨h1,h2⟩:=run_mono (cs:=cs) hF _ _ (List.replicate 8 0,0) (List.replicate 8 0,0) (jobs_le (vs:=vs) h0 hb vs.length) (LeL.refl _) rfl he2
 have h1 : (runJ F cs (jobsN vs b vs.length)).2 = 0:=h1
 have h2 : LeL (runJ F cs (jobsN vs b vs.length)).1 (runJ F cs (jobsN vs b' vs.length)).1:=h2
 unfold totN
 rw [if_neg (by simp [h1]),if_neg (by simp [he2])]
 exact ⟨rfl,sumH_mono h2 hh 8⟩
theorem upI_mono {a b c : Int} (hc : 0 < c) (h : a ≤ b) : upI a c ≤ upI b c:=Int.ediv_le_ediv hc (by omega)
theorem upI_nn {a c : Int} (hc : 0 < c) (h : 0 ≤ a) : 0 ≤ upI a c:=Int.ediv_nonneg (by omega) (by omega)
theorem limN_nn (D n : Int) : 0 ≤ limN D n:=by
 unfold limN
 split
 ·exact Int.le_refl _
 ·rename_i h
  have:=upI_nn (a:=n) (c:=D) (by omega) (by omega)
  omega
theorem limN_mono {D x y : Int} (h0 : 0 ≤ x) (h : x ≤ y) (hy : y ≤ 1099511627776) : limN D x ≤ limN D y:=by
 by_cases hx : x < 1 ∨ 1099511627776 < x ∨ D < 1
 ·have e : limN D x = 0 := if_pos hx
  rw [e];exact limN_nn D y
 ·have hm := upI_mono (c := D) (by omega) h
  unfold limN
  rw [if_neg hx,if_neg (by omega)];omega
theorem grpI_nn {d r n s l i w : Int} : 0 ≤ grpI d r n s l i w:=by
 unfold grpI
 split
 ·rename_i h
  have:=h.bd
  exact Int.ediv_nonneg (by omega) (by omega)
 ·exact Int.le_refl _
theorem codN_mono (d r n s l i : Int) : MonoF (codN d r n s l i):=fun c x y h0 h he=>by
 unfold codN at he
 by_cases h1 : ¬ OkC d r n s l i ∨ chkD c = false ∨ y < 0 ∨ 1099511627776 < y
 ·rw [if_pos h1] at he;exact absurd he (by decide)
 rw [if_neg h1] at he
 have h1x : ¬ (¬ OkC d r n s l i ∨ chkD c = false ∨ x < 0 ∨ 1099511627776 < x):=fun hn=>h1 (by
  rcases hn with hn | hn | hn | hn
  ·exact .inl hn
  ·exact .inr (.inl hn)
  ·omega
  ·exact .inr (.inr (.inr (by omega))))
 have hy : y ≤ 1099511627776:=Classical.byContradiction fun hn=>h1 (.inr (.inr (.inr (by omega))))
 have hg:=grpI_nn (d:=d) (r:=r) (n:=n) (s:=s) (l:=l) (i:=i) (w:=c.2.2.1 + (c.2.2.2.1.length : Int))
 unfold codN
 rw [if_neg h1,if_neg h1x]
 by_cases hx0 : x = 0
 ·rw [if_pos hx0]
  refine ⟨rfl,?_⟩
  split
  ·exact Int.le_refl _
  ·split
   ·exact Int.le_refl _
   ·rename_i h3
    exact upI_nn (by omega) (limN_nn _ _)
 ·rw [if_neg hx0]
  rw [if_neg (show ¬ y = 0 by omega)] at he ⊢
  by_cases h2 : grpI d r n s l i (c.2.2.1 + (c.2.2.2.1.length : Int)) = 0 ∨ c.2.2.2.2 < crdI d r n s l i (c.2.2.1 + (c.2.2.2.1.length : Int))
  ·rw [if_pos h2] at he;exact absurd he (by decide)
  ·rw [if_neg h2, if_neg h2]
   exact ⟨rfl,upI_mono (by omega) (limN_mono h0 h hy)⟩
end
section
def moreB (b : Nat → Int) (k : Nat) (m : Int) : Nat → Int:=fun j=>b j + if j = k then m else 0
section
variable (F : Cd → Int → Int × Int) (cs : List Cd) (vs : List Sv) (held : Nat → Int) (n : Int)
def fitT (b : Nat → Int) : Bool:=decide ((totN F cs vs held b).2 = 0 ∧ (totN F cs vs held b).1 < n)
def roomT (b : Nat → Int) (k : Nat) : Nat:=((List.range 1048576).find? fun m : Nat=>!fitT F cs vs held n (moreB b k ((m : Int) + 1))).getD 1048576
end
theorem moreB_zero (b : Nat → Int) (k : Nat) : moreB b k 0 = b:=by
 funext j;unfold moreB;split<;>omega
theorem fit_mono {F : Cd → Int → Int × Int} {cs : List Cd} {vs : List Sv} {h h' b b' : Nat → Int} {n : Int} (hF : MonoF F) (h0 : ∀ k,0 ≤ b k) (hb : ∀ k,b k ≤ b' k) (hh : ∀ c,h c ≤ h' c) (he : fitT F cs vs h' n b' = true) : fitT F cs vs h n b = true:=by
 unfold fitT at he ⊢
 simp only [decide_eq_true_eq] at he ⊢
 have:=tot_mono hF h0 hb hh he.1
 exact ⟨this.1,by omega⟩
theorem fit_more {F : Cd → Int → Int × Int} {cs : List Cd} {vs : List Sv} {h b : Nat → Int} {n x y : Int} {k : Nat} (hF : MonoF F) (h0 : ∀ k,0 ≤ b k) (hx : 0 ≤ x) (hxy : x ≤ y) (he : fitT F cs vs h n (moreB b k y) = true) : fitT F cs vs h n (moreB b k x) = true :=
 fit_mono hF (fun j=>by have:=h0 j;unfold moreB;split<;>omega) (fun j=>by unfold moreB;split<;>omega) (fun _=>Int.le_refl _) he
theorem find_first {p : Nat → Bool} {n : Nat} : (((List.range n).find? p).getD n ≤ n) ∧ (∀ m,m < ((List.range n).find? p).getD n → p m = false) ∧ (((List.range n).find? p).getD n < n → p (((List.range n).find? p).getD n) = true):=by
 cases h : (List.range n).find? p with
 | none =>
   refine ⟨Nat.le_refl _,fun m hm=>?_,fun hn=>absurd hn (Nat.lt_irrefl n)⟩
   have:=List.find?_eq_none.1 h m (List.mem_range.2 hm)
   simpa using this
 | some x =>
   have h1:=List.find?_some h
   have h2:=List.mem_range.1 (List.mem_of_find?_eq_some h)
   refine ⟨by simp;omega,fun m hm=>?_,fun _=>h1⟩
   obtain ⟨_,pa,bs,h3,h4⟩:=List.find?_eq_some_iff_append.1 h
   have h5 : pa.length = x:=by
    have e1:=congrArg (fun l=>l[pa.length]?) h3
    simp only [List.getElem?_append_right (Nat.le_refl _),Nat.sub_self,List.getElem?_cons_zero] at e1
    rw [List.getElem?_eq_some_iff] at e1
    obtain ⟨_,e2⟩:=e1
    rw [List.getElem_range] at e2
    exact e2
   have e3 : pa[m]? = some m:=by
    have hm : m < pa.length:=by rw [h5];exact hm
    have e1:=congrArg (fun l=>l[m]?) h3
    simp only [List.getElem?_append_left hm] at e1
    rw [← e1,List.getElem?_range (by omega)]
   have:=h4 m (List.mem_of_getElem? e3)
   simpa using this
theorem room_spec {F : Cd → Int → Int × Int} {cs : List Cd} {vs : List Sv} {h b : Nat → Int} {n : Int} {k : Nat} (h1 : fitT F cs vs h n b = true) : roomT F cs vs h n b k ≤ 1048576 ∧ fitT F cs vs h n (moreB b k (roomT F cs vs h n b k : Nat)) = true ∧ (roomT F cs vs h n b k < 1048576 → fitT F cs vs h n (moreB b k ((roomT F cs vs h n b k : Nat) + 1)) = false):=by
 unfold roomT
 obtain ⟨g1,g2,g3⟩:=find_first (p:=fun m : Nat=>!fitT F cs vs h n (moreB b k ((m : Int) + 1))) (n:=1048576)
 generalize ((List.range 1048576).find? fun m : Nat=>!fitT F cs vs h n (moreB b k ((m : Int) + 1))).getD 1048576 = R at *
 refine ⟨g1,?_,fun hR=>by simpa using g3 hR⟩
 match R with
 | 0=>rw [show ((0 : Nat) : Int) = 0 from rfl,moreB_zero];exact h1
 | R + 1 =>
   have:=g2 R (by omega)
   simpa using this
theorem room_unique {F : Cd → Int → Int × Int} {cs : List Cd} {vs : List Sv} {h b : Nat → Int} {n : Int} {k m : Nat} (hF : MonoF F) (h0 : ∀ k,0 ≤ b k) (hm : m ≤ 1048576) (h1 : fitT F cs vs h n (moreB b k m) = true) (h2 : m < 1048576 → fitT F cs vs h n (moreB b k ((m : Int) + 1)) = false) : roomT F cs vs h n b k = m:=by
 have hb : fitT F cs vs h n b = true:=by
  have:=fit_more (x:=0) hF h0 (Int.le_refl _) (by omega) h1
  rwa [moreB_zero] at this
 obtain ⟨g1,g2,g3⟩:=room_spec (k:=k) hb
 generalize roomT F cs vs h n b k = R at *
 rcases Nat.lt_trichotomy R m with hlt | he | hgt
 ·have := fit_more (x := (R : Int) + 1) hF h0 (by omega) (by omega) h1
  rw [g3 (by omega)] at this;cases this
 ·exact he
 ·have := fit_more (x := (m : Int) + 1) hF h0 (by omega) (by omega) g2
  rw [h2 (by omega)] at this;cases this
theorem blkT_nn {ts : List Tn} {us : List Ue} {k : Int} {nv : Nat} (h : tenB nv ts us = true) : ∀ n, n ≤ ts.length → 0 ≤ blkT ts us k n ∧ blkT ts us k n ≤ (n : Int) * 4294967294
 | 0,_=>by unfold blkT;omega
 | n + 1,hn=>by
   have h1:=blkT_nn (k:=k) h n (by omega)
   have h2 : tnOk nv (ts.getD n tn0) (us.getD n ue0) = true:=by
    unfold tenB at h
    simp only [Bool.and_eq_true,List.all_eq_true] at h
    exact h.2 n (List.mem_range.2 (by omega))
   unfold tnOk inT at h2
   simp only [Bool.and_eq_true,decide_eq_true_eq] at h2
   unfold blkT blkOf mxI
   split<;>(try split)<;>(try split)<;>omega
theorem ten_len {nv : Nat} {ts : List Tn} {us : List Ue} (h : tenB nv ts us = true) : ts.length ≤ 16 ∧ ts.length ≤ us.length:=by
 unfold tenB at h
 simp only [Bool.and_eq_true,decide_eq_true_eq] at h
 exact h.1
theorem blkN_bd {ts : List Tn} {us : List Ue} {k : Int} {nv : Nat} (h : tenB nv ts us = true) : 0 ≤ blkN ts us k ∧ blkN ts us k ≤ 68719476704:=by
 have h2:=ten_len h
 have h1:=blkT_nn (k:=k) h (min ts.length us.length) (by omega)
 unfold blkN
 omega
def blkL (nv : Nat) (ts : List Tn) (us : List Ue) : List Int:=(List.range nv).map fun k : Nat=>blkN ts us (k : Int)
def blkF (ts : List Tn) (us : List Ue) (k : Nat) : Int:=blkN ts us k
theorem blkL_get {nv k : Nat} {ts : List Tn} {us : List Ue} (h : k < nv) : (blkL nv ts us).getD k 0 = blkF ts us k:=by
 unfold blkL blkF
 rw [List.getD_eq_getElem?_getD,List.getElem?_map,List.getElem?_range h];rfl
theorem jobs_congr {vs : List Sv} {b b' : Nat → Int} : ∀ n, (∀ k, k < n → b k = b' k) → jobsN vs b n = jobsN vs b' n
 | 0,_=>rfl
 | n + 1,h=>by
   unfold jobsN
   rw [jobs_congr n fun k hk=>h k (by omega),h n (by omega)]
theorem tot_congr {F : Cd → Int → Int × Int} {cs : List Cd} {vs : List Sv} {held b b' : Nat → Int} (h : ∀ k,k < vs.length → b k = b' k) : totN F cs vs held b = totN F cs vs held b':=by
 unfold totN
 rw [jobs_congr vs.length h]
theorem blkL_more {nv k : Nat} {ts : List Tn} {us : List Ue} (h : k < nv) (m : Int) : ∀ j,j < nv → ((blkL nv ts us).set k (blkN ts us k + m)).getD j 0 = moreB (blkF ts us) k m j:=fun j hj=>by
 have hl : (blkL nv ts us).length = nv:=by unfold blkL;simp
 rw [getD_setI,hl]
 unfold moreB
 by_cases e : j = k
 ·subst e;rw [if_pos ⟨rfl,h⟩,if_pos rfl];rfl
 ·rw [if_neg (fun h=>e h.1),if_neg e,blkL_get hj];omega
end
section
def wdM (rows : List SRw) : Nat → List (Int × Value)
 | 0=>[]
 | i + 1=>setI (wdM rows i) (rows.getD i rw0).1 (.int .i64 (rows.getD i rw0).2.1)
theorem hasV_setI (l : List (Int × Value)) (a : Int) (u : Value) (c : Int) : hasV (setI l a u) c = (decide (c = a) || hasV l c):=by
 have key : ∀ (l : List (Int × Value)) (c : Int),hasV l c = true ↔ ∃ v,(c,v) ∈ l:=fun l c=>by
  unfold hasV
  induction l with
  | nil=>simp [getIx]
  | cons p l ih =>
    obtain ⟨b,w⟩:=p
    rw [getIx]
    by_cases e : c = b
    ·subst e;simp
    ·rw [if_neg e, getIx_off]
     cases hq : getIx l c 0 with
     | none =>
       rw [hq] at ih
       simp only [Option.map_none,Option.isSome_none,Bool.false_eq_true,false_iff] at ih ⊢
       rintro ⟨v,hv⟩
       rcases List.mem_cons.1 hv with h | h
       ·injection h with h1 h2;exact e h1
       ·exact ih ⟨v,h⟩
     | some q =>
       rw [hq] at ih
       obtain ⟨v,hv⟩:=ih.1 rfl
       simp only [Option.map_some,Option.isSome_some,true_iff]
       exact ⟨v,List.mem_cons_of_mem _ hv⟩
 rw [Bool.eq_iff_iff,Bool.or_eq_true,decide_eq_true_eq,key,key]
 unfold setI
 cases hq : getIx l a 0 with
 | none =>
   dsimp only
   constructor
   ·rintro ⟨v, hv⟩
    rcases List.mem_append.1 hv with h | h
    ·exact .inr ⟨v,h⟩
    ·simp at h;exact .inl h.1
   ·rintro (h | ⟨v, h⟩)
    ·exact ⟨u,by simp [h]⟩
    ·exact ⟨v,List.mem_append_left _ h⟩
 | some p =>
   obtain ⟨i,w⟩:=p
   dsimp only
   have hl:=getIx_spec hq
   obtain ⟨hi,hl2⟩:=List.getElem?_eq_some_iff.1 hl
   constructor
   ·rintro ⟨v, hv⟩
    rcases List.mem_or_eq_of_mem_set hv with h | h
    ·exact .inr ⟨v,h⟩
    ·injection h with h1 _;exact .inl h1
   ·rintro (h | ⟨v, h⟩)
    ·subst h;exact ⟨u,List.mem_set hi _⟩
    ·by_cases e : c = a
     ·subst e;exact ⟨u,List.mem_set hi _⟩
     ·obtain ⟨j, hj, hjv⟩ := List.getElem_of_mem h
      refine ⟨v,?_⟩
      have hne : i ≠ j:=fun e2=>by
       subst e2
       rw [hl2] at hjv
       injection hjv with h1 _;exact e h1.symm
      rw [← hjv,← List.getElem_set_ne hne (a:=(a,u)) (by rw [List.length_set];exact hj)]
      exact List.getElem_mem _
theorem wdM_spec {rows : List SRw} : ∀ i, i ≤ rows.length → (∀ a, a < i → (List.range a).all (conR rows a) = true) → ∀ c, (hasV (wdM rows i) c = true ↔ ∃ b, b < i ∧ (rows.getD b rw0).1 = c) ∧ ∀ b, b < i → (rows.getD b rw0).1 = c → getV (wdM rows i) c (.int .i64 0) = .int .i64 (rows.getD b rw0).2.1
 | 0,_,_,c=>⟨⟨fun h=>by simp [wdM,hasV,getIx] at h,fun ⟨b,hb,_⟩=>by omega⟩,fun b hb=>by omega⟩
 | i + 1,hi,hok,c=>by
   obtain ⟨h1,h2⟩:=wdM_spec i (by omega) (fun a ha=>hok a (by omega)) c
   unfold wdM
   rw [hasV_setI,getV_setI,Bool.or_eq_true,decide_eq_true_eq,h1]
   refine ⟨⟨?_,?_⟩,fun b hb hbc=>?_⟩
   ·rintro (h | ⟨b, hb, hc⟩)
    ·exact ⟨i,by omega,h.symm⟩
    ·exact ⟨b,by omega,hc⟩
   ·rintro ⟨b, hb, hc⟩
    by_cases e : b = i
    ·subst e;exact .inl hc.symm
    ·exact .inr ⟨b,by omega,hc⟩
   ·split
    ·rename_i e
     by_cases e2 : b = i
     ·subst e2;rfl
     ·have h3 := hok i (by omega)
      rw [List.all_eq_true] at h3
      have h4:=h3 b (List.mem_range.2 (by omega))
      unfold conR at h4
      rw [decide_eq_true (by rw [hbc,e]),Bool.true_and,Bool.not_not,decide_eq_true_eq] at h4
      rw [h4]
    ·rename_i e
     by_cases e2 : b = i
     ·subst e2;exact absurd hbc.symm e
     ·exact h2 b (by omega) hbc
theorem wdM_test {rows : List SRw} {i : Nat} (hi : i < rows.length) (hok : ∀ a, a < i → (List.range a).all (conR rows a) = true) :
 ∃ x : Int,getV (wdM rows i) rows[i].1 (.int .i64 0) = .int .i64 x ∧ (hasV (wdM rows i) rows[i].1 && !decide (x = rows[i].2.1)) = !((List.range i).all (conR rows i)):=by
 have h0:=wdM_spec i (by omega) hok rows[i].1
 cases hh : hasV (wdM rows i) rows[i].1 with
 | false =>
   have hg : getV (wdM rows i) rows[i].1 (.int .i64 0) = .int .i64 0:=by
    unfold getV hasV at *
    cases hq : getIx (wdM rows i) rows[i].1 0 with
    | none=>rfl
    | some p=>rw [hq] at hh;simp at hh
   refine ⟨0,hg,?_⟩
   have h1 : (List.range i).all (conR rows i) = true:=by
    rw [List.all_eq_true]
    intro b hb
    unfold conR
    rw [getDr hi,decide_eq_false (fun e=>by
     have:=h0.1.2 ⟨b,List.mem_range.1 hb,e⟩
     rw [hh] at this;cases this)]
    rfl
   rw [h1];rfl
 | true =>
   obtain ⟨b,hb,hc⟩:=h0.1.1 hh
   refine ⟨_,h0.2 b hb hc,?_⟩
   rw [Bool.true_and]
   congr 1
   rw [Bool.eq_iff_iff,decide_eq_true_eq,List.all_eq_true]
   constructor
   ·intro h q hq
    unfold conR
    rw [getDr hi]
    by_cases e : (rows.getD q rw0).1 = rows[i].1
    ·have h3 := h0.2 q (List.mem_range.1 hq) e
     rw [h0.2 b hb hc] at h3
     injection h3 with _ h4
     rw [decide_eq_true e,decide_eq_true (by rw [← h4,h])];rfl
    ·rw [decide_eq_false e];rfl
   ·intro h
    have h3:=h b (List.mem_range.2 hb)
    unfold conR at h3
    rw [getDr hi,decide_eq_true hc,Bool.true_and,Bool.not_not,decide_eq_true_eq] at h3
    exact h3
attribute [local irreducible] Quiet Eff OpOk AWPG ACont ABlock ACalls AGoto
theorem A_ofIter1 {rows : List SRw} {c : Int} {L : Ent} {e0 : Nat → Ent} (hl : rows.length ≤ 1000000)
 (hcl : ∀ (i : Nat) (Y : List Ent),selOwn (e0 i :: .box [rws rows] :: .box [iV c] :: L :: Y) [0,1,2,3] = [e0 i,.box [rws rows],.box [iV c],L])
 (hs : ∀ i (hi : i < rows.length),rows[i].1 ≠ c → e0 (i + 1) = e0 i)
 (hY : ∀ i (hi : i < rows.length),rows[i].1 = c → YAt Tryz.prog 3 [e0 i,.box [rws rows],.box [iV c],L,.box ((rwD rows[i]).map .d)] [iV i,rwA rows[i]] true [e0 (i + 1),.box [rws rows],.box [iV c],L,.box ((rwD rows[i]).map .d)]) :
 ACalls Tryz.prog 195 [.yl 3,.opt 1 0,.opt 2 0] [e0 0,.box [rws rows],.box [iV c],L] (.tup []) [e0 rows.length,.box [rws rows],.box [iV c],L]:=by
 refine acalls_of_bodyS Tryz.func195 rfl (zU rfl) ?_
 have hm : (rows.map rwD).length = rows.length:=List.length_map _
 (repeat' (first
  |(apply W.qd;(first
  |(exact zM)|(exact jAg)
  |(exact jAt)))|(apply yA)|(apply yB)|(apply (W.regionS 1);exact rfl;kernel_rfl)|(apply yE)
  |(apply yG)))
 refine AWP.loopW (α:=Nat) (fun i=>i ≤ rows.length) (fun i=>⟨[(8,iV i),(7,iV rows.length),(6,rws rows),(0,.yl 3),(1,.opt 1 0),(2,.opt 2 0)],[e0 i,.box [rws rows],.box [iV c],L]⟩) (fun i=>rows.length - i) 0 (Nat.zero_le _) ?wkA fun i hi=>?_
 case wkA =>
  refine ⟨[0,1,2,3],rfl,rfl,?_,rfl,iV_eq (by rw [hm]),rfl,rfl,rfl,rfl,trivial⟩
  exact (hcl 0 []).symm
 by_cases hil : i < rows.length
 ·by_cases hc : rows[i].1 = c
  ·have hy := hY i hil hc
   (repeat' (first
    |(apply yFb;exact rfl;exact rfl)
    |(apply W.qd;(first
    |(exact zM)|(exact zN)|(exact jAm)|(exact jAg)|(exact jAn)|(exact jAj)|(exact jAu)|(exact jBe)|(exact jAi)|(exact jAk)|(exact jA)
    |(apply (yEb (u:=.d _));exact rfl;exact rfl)))
    |(apply W.ed;(first
    |((exact e_yield hy rfl rfl))
    |(exact jAp)))|(apply W.ln;(exact jAh))|(apply yA)|(apply yB)|(refine jAb ?_)|(apply yE)|(apply yG)|(apply yH)|(apply yL)|(refine jAy ?_)|(refine W.gT _ _ rfl rfl (fun hb=>?_) (fun hb=>?_)<;>((try simp only [hb,zK])<;>(try simp only [zL,zI] at hb)<;>(try (exfalso;omega))))
    |(refine W.cond _ rfl (fun hb=>?_) (fun hb=>?_)<;>((try simp only [hb,zK])<;>(try simp only [zL,zI] at hb)<;>(try (exfalso;omega))))))
   all_goals first
    |(exfalso;omega)|(refine ⟨i + 1,by omega,by omega,[0,1,2,3],rfl,rfl,?_,iV_eq (by omega),rfl,rfl,rfl,rfl,rfl,trivial⟩;exact (hcl (i + 1) [_]).symm)
  ·have hs1 := hs i hil hc
   (repeat' (first
    |(apply W.qd;(first
    |(exact zM)|(exact zN)|(exact jAm)|(exact jAg)|(exact jAj)|(exact jAu)|(exact jAi)|(exact jAk)|(exact jA)
    |(apply (yDb (u:=.d _));exact rfl;exact rfl)))|(apply W.ed;(exact jAp))|(apply W.ln;(exact jAh))|(refine W.gOff _ _ rfl rfl (by intro h;cases h) ?_)|(apply yA)|(apply yB)|(refine jAb ?_)|(apply yE)|(apply yG)|(apply yH)|(apply yL)|(refine jAy ?_)|(refine W.gT _ _ rfl rfl (fun hb=>?_) (fun hb=>?_)<;>((try simp only [hb,zK])<;>(try simp only [zL,zI] at hb)<;>(try (exfalso;omega))))
    |(refine W.cond _ rfl (fun hb=>?_) (fun hb=>?_)<;>((try simp only [hb,zK])<;>(try simp only [zL,zI] at hb)<;>(try (exfalso;omega))))))
   all_goals first
    |(exfalso;omega)|(refine ⟨i + 1,by omega,by omega,[0,1,2,3],rfl,rfl,?_,iV_eq (by omega),rfl,rfl,rfl,rfl,rfl,trivial⟩;dsimp only;rw [hs1];exact (hcl i [_]).symm)
 ·obtain rfl : i = rows.length := by omega
  (repeat' (first
   |(apply W.qd;(exact jAj))|(apply yA)|(apply yB)|(refine jAb ?_)|(apply yE)|(apply yI)|(apply yK)|(apply yM)
   |(refine W.cond _ rfl (fun hb=>?_) (fun hb=>?_)<;>((try simp only [hb,zK])<;>(try simp only [zL,zI] at hb)<;>(try (exfalso;omega))))))
  exact ⟨.inr rfl,[],trivial,AVle.of_eq rfl,rfl⟩
theorem A_held {rows : List SRw} {c : Int} (hl : rows.length ≤ 1000000) : ACalls Tryz.prog 111 [rws rows,iV c] [] (iV (heldN rows c : Nat)) []:=by
 refine acalls_of_body Tryz.func111 rfl (zU rfl) ?_
 have hof:=A_of0 (rows:=rows) (c:=c)
 have hle:=heldT_le rows c
 (repeat' (first
  |(apply W.qd;(first
  |(exact zM)
  |(exact zN)))
  |(apply W.ed;(first
  |(apply (e_callJ (js:=[]) (hof));(iterate 5 exact rfl);kernel_rfl;kernel_rfl)
  |(exact jAp)))|(apply W.ln;(exact jAh))|(apply yA)|(apply yB)|(refine jAb ?_)|(apply yE)
  |(apply yG)))
 refine AWP.wk ⟨[(8,.fn 195 [.opt 1 0,.opt 2 0]),(5,.opt 0 0)],[.box [iV (heldT rows c 0 : Nat)],.box [rws rows],.box [iV c]]⟩ ⟨[0,1,2],rfl,rfl,rfl,by (repeat (first | exact trivial | refine ⟨rfl,?_⟩))⟩ ?_
 refine AWP.range (s2:=⟨[(5,.opt 0 0)],[.box [iV (heldT rows c rows.length : Nat)]]⟩) rfl (by kernel_rfl) (A_ofIter1 (e0:=fun i=>.box [iV (heldT rows c i : Nat)]) hl (fun p Y=>rfl) (fun i hi hc=>?_) (fun i hi hc=>?_)) rfl (by decide) ⟨[0],rfl,rfl,rfl,by (repeat (first | exact trivial | refine ⟨rfl,?_⟩))⟩ ?_
 ·try dsimp only
  rw [show heldT rows c (i + 1) = heldT rows c i by rw [heldT,getDr hi,if_neg hc,Nat.add_zero]]
 ·try dsimp only
  have hs : ((heldT rows c (i + 1) : Nat) : Int) = (heldT rows c i : Int) + 1:=by rw [heldT,getDr hi,if_pos hc];rfl
  have hle2:=hle i
  rw [hs]
  generalize heldT rows c i = h at *
  refine YAt.ok (own1:=[.box [iV ((h : Int) + 1)],.box [rws rows],.box [iV c],.lp .busy none #[9,10] _ _ _,.box ((rwD rows[i]).map .d)]) (s2:=⟨[(5,.opt 0 0)],_⟩) rfl rfl rfl rfl (fun g=>?_) rfl (fun g=>?_) rfl rfl
  ·refine AWP.toW ?_
   (repeat' (first
    |(apply yH)))
   exact ⟨rfl,⟨[0,1,2,3,4],rfl,rfl,rfl,by (repeat (first | exact trivial | refine ⟨rfl,?_⟩))⟩⟩
  ·refine AWP.toO ?_
   (repeat' (first
    |(apply W.qd;(first
    |(exact jAg)
    |(exact jAi)))|(apply W.ln;(exact jAh))|(refine jAb ?_)|(apply yE)|(apply yG)
    |(apply yL)))
   exact ⟨rfl,⟨[0,1,2,3,4],rfl,rfl,rfl,by (repeat (first | exact trivial | refine ⟨rfl,?_⟩))⟩⟩
 dsimp only
 (repeat' (first
  |(apply W.qd;(first
  |(exact zN)
  |(exact jAg)))|(apply yA)|(apply yB)|(refine jAb ?_)|(apply yE)|(apply yJ)
  |(apply yL)))
 exact Ends.i rfl rfl
theorem A_validRow {d r n s l i : Int} {w : SRw} (hw : w.2.2.length ≤ 9223372036854775807) : ACalls Tryz.prog 167 [cfgA d r n s l i,rwA w] [] (bV (rgtR (grpI d r n s l i w.2.1) w)) []:=by
 obtain ⟨c,wd,us⟩:=w
 dsimp only at hw ⊢
 have hg:=A_lgroups d r n s l i wd
 generalize grpI d r n s l i wd = g at *
 have hmu : (us.map usD).length = us.length:=List.length_map _
 refine acalls_of_body Tryz.func167 rfl (zU rfl) ?_
 unfold rgtR
 dsimp only
 by_cases h1 : c = -1
 ·rw [if_pos h1]
  (repeat' (first
   |(apply yFb;exact rfl;exact rfl)
   |(apply W.qd;(first
   |(exact zM)|(exact zN)|(exact jAm)|(exact jAg)|(exact jAu)|(exact jAt)|(apply (yEb (u:=.d _));exact rfl;exact rfl)
   |(apply (yDb (u:=.d _));exact rfl;exact rfl)))|(apply W.ed;(exact jAa))|(refine W.gOff _ _ rfl rfl (by intro h;cases h) ?_)|(apply yA)|(apply yB)|(refine jAb ?_)|(apply yE)|(apply yJ)|(apply yP)|(refine W.gT _ _ rfl rfl (fun hb=>?_) (fun hb=>?_)<;>((try simp only [hb,zK])<;>(try simp only [zL,zI] at hb)<;>(try (exfalso;omega))))
   |(refine W.cond _ rfl (fun hb=>?_) (fun hb=>?_)<;>((try simp only [hb,zK])<;>(try simp only [zL,zI] at hb)<;>(try (exfalso;omega))))))
  all_goals first | (exfalso;omega) | (refine Ends.b rfl ?_;rw [Bool.eq_iff_iff];simp<;>omega)
 rw [if_neg h1]
 by_cases h2 : 0 ≤ c ∧ c < 8 ∧ 1 ≤ wd ∧ wd ≤ 32 ∧ us.length ≠ 0
 case neg =>
  rw [decide_eq_false h2,Bool.false_and]
  (repeat' (first
   |(apply yFb;exact rfl;exact rfl)
   |(apply W.qd;(first
   |(exact zM)|(exact zN)|(exact jAm)|(exact jAg)|(exact jAj)|(exact jBf)|(exact q_geq rfl rfl)|(exact jAu)|(exact jAt)|(apply (yEb (u:=.d _));exact rfl;exact rfl)
   |(apply (yDb (u:=.d _));exact rfl;exact rfl)))|(apply W.ed;(exact jAa))|(refine W.gOff _ _ rfl rfl (by intro h;cases h) ?_)|(apply yA)|(apply yB)|(apply (W.regionS 5);exact rfl;kernel_rfl)|(apply yE)|(apply yH)|(apply yJ)|(apply yP)|(refine jAv ?_)|(refine W.gF _ _ rfl rfl (fun hb=>?_) (fun hb=>?_)<;>((try simp only [hb,zK])<;>(try simp only [zL,zI] at hb)<;>(try (exfalso;omega))))
   |(refine W.cond _ rfl (fun hb=>?_) (fun hb=>?_)<;>((try simp only [hb,zK])<;>(try simp only [zL,zI] at hb)<;>(try (exfalso;omega))))))
  all_goals first | (exfalso;omega) | exact Ends.b rfl rfl
 rw [decide_eq_true h2,Bool.true_and]
 (repeat' (first
  |(apply yFb;exact rfl;exact rfl)
  |(apply W.qd;(first
  |(exact zW (hg))|(exact zM)|(exact zN)|(exact jAm)|(exact jAg)|(exact jAn)|(exact jAj)|(exact jBf)|(exact q_geq rfl rfl)|(exact jAu)|(exact jAt)
  |(apply (yDb (u:=.d _));exact rfl;exact rfl)))|(apply W.ed;(exact jAa))|(apply yA)|(apply yB)|(apply (W.regionS 7);exact rfl;kernel_rfl)|(apply yE)|(apply yG)|(apply yH)|(refine W.gF _ _ rfl rfl (fun hb=>?_) (fun hb=>?_)<;>((try simp only [hb,zK])<;>(try simp only [zL,zI] at hb)<;>(try (exfalso;omega))))
  |(refine W.cond _ rfl (fun hb=>?_) (fun hb=>?_)<;>((try simp only [hb,zK])<;>(try simp only [zL,zI] at hb)<;>(try (exfalso;omega))))))
 all_goals try (exfalso;omega)
 have hml : (grps us).length = us.length:=List.length_map _
 have hge : ∀ k (h : k < us.length),(grps us)[k]'(by rw [hml];exact h) = us[k].1:=fun k h=>List.getElem_map _
 have hcnd:=incB_drop g (grps us) (-1)
 have hcnd : incB g (-1) (grps us) = true ↔ ∀ k,(h : k < us.length) → lastI (grps us) k < us[k].1 ∧ us[k].1 < g:=by
  rw [hcnd]
  constructor
  ·intro h3 k h4
   have:=h3 k (by rw [hml];exact h4)
   rw [hge k h4] at this;exact this
  ·intro h3 k h4
   rw [hge k (by rw [← hml];exact h4)];exact h3 k (by rw [← hml];exact h4)
 have hl0 : lastI (grps us) 0 = -1:=rfl
 have hls : ∀ k (h : k < us.length),lastI (grps us) (k + 1) = us[k].1:=fun k h=>by
  unfold lastI
  rw [if_neg (by omega),Nat.add_sub_cancel,List.getD_eq_getElem?_getD,List.getElem?_eq_getElem (by rw [hml];exact h),Option.getD_some,hge k h]
 generalize lastI (grps us) = la at *
 generalize incB g (-1) (grps us) = R at *
 clear hml hge h1
 refine AWP.loopW (α:=Nat) (fun k=>k ≤ us.length ∧ ∀ j,(h : j < us.length) → j < k → la j < us[j].1 ∧ us[j].1 < g) (fun k=>⟨[(52,iV k),(51,iV us.length),(50,.d (.sl 3 (us.map usD))),(5,iV (la k)),(6,iV g)],[]⟩) (fun k=>us.length - k) 0 ⟨Nat.zero_le _,fun j h hj=>by omega⟩ ?wkA fun k hk=>?_
 case wkA =>
  dsimp only
  rw [hl0]
  exact ⟨[],rfl,rfl,rfl,rfl,iV_eq (by rw [hmu]),rfl,rfl,rfl,trivial⟩
 by_cases hkl : k < us.length
 ·have hnx : (la k < us[k].1 ∧ us[k].1 < g) → ∀ j,(h : j < us.length) → j < k + 1 → la j < us[j].1 ∧ us[j].1 < g:=fun hg j h hj=>by
   by_cases e : j = k
   ·subst e;exact hg
   ·exact hk.2 j h (by omega)
  have hbd : ¬ (la k < us[k].1 ∧ us[k].1 < g) → R = false:=fun hg=>by
   cases hq : R with
   | false=>rfl
   | true=>exact absurd (hcnd.1 hq k hkl) hg
  have hlk:=hls k hkl
  clear hcnd hls hl0 hk
  (repeat' (first
   |(apply yFb;exact rfl;exact rfl)
   |(apply W.qd;(first
   |(exact zM)|(exact zN)|(exact jAm)|(exact jAg)|(exact jAj)|(exact q_leq rfl rfl)|(exact q_geq rfl rfl)|(exact jAi)|(exact jAk)|(exact jA)|(apply (yEb (u:=.d _));exact rfl;exact rfl)
   |(apply (yDb (u:=.d _));exact rfl;exact rfl)))|(apply W.ed;(exact jAp))|(apply W.ln;(exact jAh))|(refine W.gOff _ _ rfl rfl (by intro h;cases h) ?_)|(apply yA)|(apply yB)|(refine jAb ?_)|(apply yE)|(apply yG)|(apply yH)|(apply yJ)|(apply yP)|(apply yL)|(apply yN)|(refine jAv ?_)|(refine W.gF _ _ rfl rfl (fun hb=>?_) (fun hb=>?_)<;>((try simp only [hb,zK])<;>(try simp only [zL,zI] at hb)<;>(try (exfalso;omega))))
   |(refine W.cond _ rfl (fun hb=>?_) (fun hb=>?_)<;>((try simp only [hb,zK])<;>(try simp only [zL,zI] at hb)<;>(try (exfalso;omega))))))
  all_goals first
   |exact Ends.b rfl (hbd (by omega)).symm|(refine ⟨k + 1,⟨by omega,hnx (by omega)⟩,by omega,?_⟩;(try dsimp only);rw [hlk];exact ⟨[],rfl,rfl,rfl,iV_eq (by omega),rfl,rfl,rfl,rfl,trivial⟩)
   |(exfalso;omega)
 ·have ht : R = true := hcnd.2 fun j h => hk.2 j h (by omega)
  rw [ht]
  clear hcnd hls hl0 hk
  (repeat' (first
   |(apply W.qd;(first
   |(exact zN)
   |(exact jAj)))|(apply yA)|(apply yB)|(refine jAb ?_)|(apply yE)|(apply yI)|(apply yJ)|(apply yK)|(apply yM)
   |(refine W.cond _ rfl (fun hb=>?_) (fun hb=>?_)<;>((try simp only [hb,zK])<;>(try simp only [zL,zI] at hb)<;>(try (exfalso;omega))))))
  all_goals exact Ends.b rfl rfl
theorem A_valid24 {d r n s l i : Int} {rows : List SRw} (hl : rows.length ≤ 1000000) (hu : ∀ a (h : a < rows.length),rows[a].2.2.length ≤ 9223372036854775807) : ACalls Tryz.prog 107 [cfgA d r n s l i,rws rows] [] (bV (validR d r n s l i rows)) []:=by
 have hck:=A_dchk d r n s l i
 have hm : (rows.map rwD).length = rows.length:=List.length_map _
 refine acalls_of_body Tryz.func107 rfl (zU rfl) ?_
 unfold validR
 by_cases h1 : chk13 d r n s l i = 0 ∧ (rows.length : Int) = n
 case neg =>
  rw [decide_eq_false h1,Bool.false_and]
  generalize chk13 d r n s l i = e at *
  (repeat' (first
   |(apply yFb;exact rfl;exact rfl)
   |(apply W.qd;(first
   |(exact zW (hck))|(exact zM)|(exact zN)|(exact jAm)|(exact jAg)|(exact jAn)|(exact jBb)|(exact jAt)|(apply (yEb (u:=.d _));exact rfl;exact rfl)
   |(apply (yDb (u:=.d _));exact rfl;exact rfl)))|(apply W.ed;(exact jAa))|(refine W.gOff _ _ rfl rfl (by intro h;cases h) ?_)|(apply yA)|(apply yB)|(apply (W.regionS 3);exact rfl;kernel_rfl)|(apply yE)|(apply yJ)|(apply yP)|(refine jAv ?_)|(refine W.gF _ _ rfl rfl (fun hb=>?_) (fun hb=>?_)<;>((try simp only [hb,zK])<;>(try simp only [zL,zI] at hb)<;>(try (exfalso;omega))))
   |(refine W.cond _ rfl (fun hb=>?_) (fun hb=>?_)<;>((try simp only [hb,zK])<;>(try simp only [zL,zI] at hb)<;>(try (exfalso;omega))))))
  all_goals first | (exfalso;omega) | exact Ends.b rfl rfl
 rw [decide_eq_true h1,Bool.true_and]
 rw [h1.1] at hck
 have hn:=h1.2
 clear h1
 have hR:=fun a (h : a < rows.length)=>A_validRow (d:=d) (r:=r) (n:=n) (s:=s) (l:=l) (i:=i) (w:=rows[a]) (hu a h)
 have hok : ∀ a (h : a < rows.length),okR d r n s l i rows a = (rgtR (grpI d r n s l i rows[a].2.1) rows[a] && (List.range a).all (conR rows a)):=fun a h=>by
  unfold okR;rw [getDr h]
 (repeat' (first
  |(apply yFb;exact rfl;exact rfl)
  |(apply W.qd;(first
  |(exact zW (hck))|(exact zM)|(exact zN)|(exact jAm)|(exact jAg)|(exact jAn)|(exact jBb)|(exact jAt)
  |(apply (yDb (u:=.d _));exact rfl;exact rfl)))
  |(apply W.ed;(first
  |(apply e_mkmap;exact rfl;exact rfl)
  |(exact jAa)))|(apply yA)|(apply yB)|(apply (W.regionS 5);exact rfl;kernel_rfl)|(apply yE)|(apply yG)|(apply yH)
  |(refine W.cond _ rfl (fun hb=>?_) (fun hb=>?_)<;>((try simp only [hb,zK])<;>(try simp only [zL,zI] at hb)<;>(try (exfalso;omega))))))
 all_goals try (exfalso;omega)
 refine AWP.loopW (α:=Nat) (fun a=>a ≤ rows.length ∧ ∀ j,j < a → okR d r n s l i rows j = true) (fun a=>⟨[(23,iV a),(22,iV rows.length),(21,rws rows),(5,.mp 1),(2,.opt 0 0)],[.box [iV d,iV r,iV n,iV s,iV l,iV i],.mp (mpI (wdM rows a))]⟩) (fun a=>rows.length - a) 0 ⟨Nat.zero_le _,fun j hj=>by omega⟩ ?wkV fun a ha=>?_
 case wkV=>exact ⟨[0,1],rfl,rfl,rfl,rfl,iV_eq (by rw [hm]),rfl,rfl,rfl,trivial⟩
 by_cases hal : a < rows.length
 ·have hbad : okR d r n s l i rows a = false → (List.range rows.length).all (okR d r n s l i rows) = false:=fun h=>by
   rw [List.all_eq_false]
   exact ⟨a,List.mem_range.2 hal,by rw [h];decide⟩
  have hnx : okR d r n s l i rows a = true → ∀ j,j < a + 1 → okR d r n s l i rows j = true:=fun h j hj=>by
   by_cases e : j = a
   ·subst e;exact h
   ·exact ha.2 j (by omega)
  have hra:=hR a hal
  have hqa:=hok a hal
  obtain ⟨x,hx,ht⟩:=wdM_test hal (fun b hb=>by
   have:=ha.2 b hb
   rw [hok b (by omega),Bool.and_eq_true] at this
   exact this.2)
  have hws : wdM rows (a + 1) = setI (wdM rows a) rows[a].1 (.int .i64 rows[a].2.1):=by rw [wdM,getDr hal]
  generalize okR d r n s l i rows = Q at *
  generalize (List.range rows.length).all Q = R at *
  generalize rgtR (grpI d r n s l i rows[a].2.1) rows[a] = ra at *
  generalize (List.range a).all (conR rows a) = ca at *
  generalize wdM rows a = M at *
  obtain ⟨hv,hhv⟩ : ∃ hv,hasV M rows[a].1 = hv:=⟨_,rfl⟩
  rw [hhv] at ht
  clear ha hok hR hu
  cases ra with
  | false =>
    rw [hbad (by rw [hqa];rfl)]
    (repeat' (first
     |(apply W.qd;(first
     |(exact zW (hra))
     |((apply q_lkup2V;(iterate 4 exact rfl);exact hx;exact hhv))|(exact zM)|(exact zN)|(exact jAm)|(exact jAg)|(exact jAn)|(exact jAj)|(exact jBe)|(exact yAb rfl rfl)|(exact jAk)|(exact jA)
     |(apply (yEb (u:=.d _));exact rfl;exact rfl)))|(apply W.ed;(exact jAp))|(apply W.ln;(exact jAh))|(refine W.gOff _ _ rfl rfl (by intro h;cases h) ?_)|(apply yA)|(apply yB)|(refine jAb ?_)|(apply yE)|(apply yG)|(apply yH)|(apply yJ)|(apply yP)|(apply yN)|(refine jAv ?_)
     |(refine W.cond _ rfl (fun hb=>?_) (fun hb=>?_)<;>((try simp only [hb,zK])<;>(try simp only [zL,zI] at hb)<;>(try (exfalso;omega))))))
    all_goals first | (exfalso;omega) | exact Ends.b rfl rfl
  | true =>
    rw [Bool.true_and] at hqa
    cases hv with
    | false =>
      obtain rfl : ca = true:=by cases ca<;>simp_all
      have hn2:=hnx hqa
      clear hnx hbad ht hqa
      (repeat' (first
       |(apply yFb;exact rfl;exact rfl)
       |(apply W.qd;(first
       |(exact zW (hra))
       |((apply q_lkup2V;(iterate 4 exact rfl);exact hx;exact hhv))|(exact zM)|(exact zN)|(exact jAm)|(exact jAg)|(exact jAn)|(exact jAj)|(exact jBe)|(exact jAi)|(exact yAb rfl rfl)|(exact jAk)|(exact jA)
       |(apply (yDb (u:=.d _));exact rfl;exact rfl)))|(apply W.ed;(exact jAp))|(apply W.ln;(exact jAh))|(apply W.en;(apply e_mapset;(iterate 6 exact rfl)))|(refine W.gOff _ _ rfl rfl (by intro h;cases h) ?_)|(apply yA)|(apply yB)|(refine jAb ?_)|(apply yE)|(apply yG)|(apply yH)|(apply yL)|(refine jAy ?_)
       |(refine W.cond _ rfl (fun hb=>?_) (fun hb=>?_)<;>((try simp only [hb,zK])<;>(try simp only [zL,zI] at hb)<;>(try (exfalso;omega))))))
      all_goals first
       |(exfalso;omega)|(refine ⟨a + 1,⟨by omega,hn2⟩,by omega,?_⟩;(try dsimp only);rw [hws];exact ⟨[0,1],rfl,rfl,rfl,iV_eq (by omega),rfl,rfl,rfl,rfl,trivial⟩)
    | true =>
      by_cases e : x = rows[a].2.1
      ·obtain rfl : ca = true := by cases ca <;> simp_all
       have hn2:=hnx hqa
       clear hnx hbad ht hqa
       (repeat' (first
        |(apply yFb;exact rfl;exact rfl)
        |(apply W.qd;(first
        |(exact zW (hra))
        |((apply q_lkup2V;(iterate 4 exact rfl);exact hx;exact hhv))|(exact zM)|(exact zN)|(exact jAm)|(exact jAg)|(exact jAn)|(exact jAj)|(exact jBb)|(exact jBe)|(exact jAi)|(exact yAb rfl rfl)|(exact jAk)|(exact jA)|(apply (yEb (u:=.d _));exact rfl;exact rfl)
        |(apply (yDb (u:=.d _));exact rfl;exact rfl)))|(apply W.ed;(exact jAp))|(apply W.ln;(exact jAh))|(apply W.en;(apply e_mapset;(iterate 6 exact rfl)))|(apply yA)|(apply yB)|(refine jAb ?_)|(apply yE)|(apply yG)|(apply yH)|(apply yL)
        |(refine W.cond _ rfl (fun hb=>?_) (fun hb=>?_)<;>((try simp only [hb,zK])<;>(try simp only [zL,zI] at hb)<;>(try (exfalso;omega))))))
       all_goals first
        |(exfalso;omega)|(refine ⟨a + 1,⟨by omega,hn2⟩,by omega,?_⟩;(try dsimp only);rw [hws];exact ⟨[0,1],rfl,rfl,rfl,iV_eq (by omega),rfl,rfl,rfl,rfl,trivial⟩)
      ·obtain rfl : ca = false := by cases ca <;> simp_all
       rw [hbad hqa]
       clear hnx hbad ht hqa
       (repeat' (first
        |(apply yFb;exact rfl;exact rfl)
        |(apply W.qd;(first
        |(exact zW (hra))
        |((apply q_lkup2V;(iterate 4 exact rfl);exact hx;exact hhv))|(exact zM)|(exact zN)|(exact jAm)|(exact jAg)|(exact jAn)|(exact jAj)|(exact jBb)|(exact jBe)|(exact yAb rfl rfl)|(exact jAk)|(exact jA)|(apply (yEb (u:=.d _));exact rfl;exact rfl)
        |(apply (yDb (u:=.d _));exact rfl;exact rfl)))|(apply W.ed;(exact jAp))|(apply W.ln;(exact jAh))|(apply yA)|(apply yB)|(refine jAb ?_)|(apply yE)|(apply yG)|(apply yH)|(apply yJ)|(apply yP)|(apply yN)
        |(refine W.cond _ rfl (fun hb=>?_) (fun hb=>?_)<;>((try simp only [hb,zK])<;>(try simp only [zL,zI] at hb)<;>(try (exfalso;omega))))))
       all_goals first | (exfalso;omega) | exact Ends.b rfl rfl
 ·have hall : (List.range rows.length).all (okR d r n s l i rows) = true:=by
   rw [List.all_eq_true]
   intro j hj
   exact ha.2 j (by have:=List.mem_range.1 hj;omega)
  rw [hall]
  clear ha hok hR hu
  (repeat' (first
   |(apply W.qd;(first
   |(exact zN)
   |(exact jAj)))|(apply yA)|(apply yB)|(refine jAb ?_)|(apply yE)|(apply yI)|(apply yJ)|(apply yK)|(apply yM)
   |(refine W.cond _ rfl (fun hb=>?_) (fun hb=>?_)<;>((try simp only [hb,zK])<;>(try simp only [zL,zI] at hb)<;>(try (exfalso;omega))))))
  all_goals exact Ends.b rfl rfl
end
section
theorem up_eq {a b : Int} (ha : 0 ≤ a) (hb : 0 < b) : a / b + (if 1 < a % b then 1 else a % b) = upI a b:=by
 unfold upI
 have h1:=Int.emod_add_mul_ediv a b
 have h2:=Int.emod_nonneg a (show b ≠ 0 by omega)
 have h3:=Int.emod_lt_of_pos a hb
 have e : a + b - 1 = (a % b + b - 1) + b * (a / b):=by omega
 rw [e,Int.add_mul_ediv_left _ _ (by omega)]
 by_cases h : a % b = 0
 ·have e3 : (0 + b - 1) / b = 0 := Int.ediv_eq_zero_of_lt (by omega) (by omega)
  rw [h,if_neg (by decide),e3];omega
 ·have e2 : a % b + b - 1 = (a % b - 1) + b * 1 := by omega
  have e3 : (a % b - 1) / b = 0:=Int.ediv_eq_zero_of_lt (by omega) (by omega)
  rw [e2,Int.add_mul_ediv_left _ _ (by omega),e3]
  split<;>omega
theorem upI_le {a b : Int} (ha : 0 ≤ a) (hb : 0 < b) : upI a b ≤ a:=by
 unfold upI
 by_cases h : a = 0
 ·subst h
  have e3 : (0 + b - 1) / b = 0:=Int.ediv_eq_zero_of_lt (by omega) (by omega)
  rw [e3];omega
 ·have h1 : a + b - 1 < (a + 1) * b:=by
   rw [Int.add_mul,Int.one_mul]
   have h2 : a * 1 ≤ a * b:=Int.mul_le_mul_of_nonneg_left (by omega) ha
   omega
  have:=Int.ediv_lt_of_lt_mul hb h1
  omega
theorem limN_le {D n : Int} (h : 0 ≤ n) (hn : n ≤ 1099511627776) : limN D n ≤ 2199023255554:=by
 unfold limN
 split
 ·omega
 ·rename_i h1
  have:=upI_le (a:=n) (b:=D) (by omega) (by omega)
  omega
theorem crd_one (d r n s l i : Int) : crdI d r n s l i 1 = if OkC d r n s l i then 1 else 0:=by
 unfold crdI
 by_cases h : OkC d r n s l i
 ·have h2 : OkL d r n s l i 1 := ⟨h, by omega, by omega⟩
  have h3:=h2.bd
  rw [if_pos h,if_pos h2,show (1 : Int) + r - 1 = r by omega,Int.ediv_self (by omega)]
 ·rw [if_neg h,if_neg fun h2=>h h2.1]
attribute [local irreducible] Quiet Eff OpOk AWPG ACont ABlock ACalls AGoto
theorem A_up {a b : Int} (ha : 0 ≤ a) (hb : 0 < b) (h : a < 4611686018427387904) : ACalls Tryz.prog 106 [iV a,iV b] [] (iV (upI a b)) []:=by
 refine acalls_of_body Tryz.func106 rfl (zU rfl) ?_
 have h1:=Int.ediv_le_self b ha
 have h2:=Int.ediv_nonneg ha (show 0 ≤ b by omega)
 have h3:=Int.emod_nonneg a (show b ≠ 0 by omega)
 have he:=up_eq ha hb
 generalize upI a b = u at *
 (repeat' (first
  |(apply W.qd;(first
  |((apply q_quo;exact rfl;exact rfl;omega;omega;omega))
  |((apply q_rem;exact rfl;exact rfl;omega;omega))|(exact zM)|(exact zN)|(exact jAi)
  |(exact q_min rfl rfl)))|(apply yA)|(apply yB)|(refine jAb ?_)|(refine jAr ?_)|(apply yE)|(refine jAx ?_)
  |(apply yJ)))
 all_goals exact Ends.i rfl he
theorem A_rup {a b : Int} (ha : 0 ≤ a) (hb : 0 < b) (h : a < 4611686018427387904) : ACalls Tryz.prog 67 [iV a,iV b] [] (iV (upI a b)) []:=by
 refine acalls_of_body Tryz.func67 rfl (zU rfl) ?_
 have h1:=Int.ediv_le_self b ha
 have h2:=Int.ediv_nonneg ha (show 0 ≤ b by omega)
 have h3:=Int.emod_nonneg a (show b ≠ 0 by omega)
 have he:=up_eq ha hb
 generalize upI a b = u at *
 (repeat' (first
  |(apply W.qd;(first
  |(exact zM)|(exact zN)|(exact jAu)|(exact jAi)|(apply q_quo;exact rfl;exact rfl;omega;omega;omega)
  |(apply q_rem;exact rfl;exact rfl;omega;omega)))|(apply yA)|(apply yB)|(refine jAb ?_)|(apply yE)|(apply yH)|(apply yJ)|(apply yP)
  |(refine W.cond _ rfl (fun hb=>?_) (fun hb=>?_)<;>((try simp only [hb,zK])<;>(try simp only [zL,zI] at hb)<;>(try (exfalso;omega))))))
 all_goals (refine Ends.i rfl ?_;rw [← he];split<;>omega)
theorem A_limit {c : Cd} {x : Int} : ACalls Tryz.prog 56 [cdA1 c,iV x] [] (iV (limN c.2.2.1 x)) []:=by
 obtain ⟨nm,M,D,par,dom⟩:=c
 dsimp only
 refine acalls_of_body Tryz.func56 rfl (zU rfl) ?_
 by_cases hx : x < 1 ∨ 1099511627776 < x ∨ D < 1
 ·have e : limN D x = 0 := if_pos hx
  rw [e]
  (repeat' (first
   |(apply yFb;exact rfl;exact rfl)
   |(apply W.qd;(first
   |(exact zM)|(exact zN)|(exact jAm)|(exact jAg)|(exact jAj)|(exact jBf)|(apply (yEb (u:=.d _));exact rfl;exact rfl)
   |(apply (yDb (u:=.d _));exact rfl;exact rfl)))|(apply W.ed;(exact jAa))|(refine W.gOff _ _ rfl rfl (by intro h;cases h) ?_)|(apply yA)|(apply yB)|(apply (W.regionS 3);exact rfl;kernel_rfl)|(apply yE)|(apply yJ)|(apply yP)|(refine jAv ?_)|(refine W.gF _ _ rfl rfl (fun hb=>?_) (fun hb=>?_)<;>((try simp only [hb,zK])<;>(try simp only [zL,zI] at hb)<;>(try (exfalso;omega))))
   |(refine W.cond _ rfl (fun hb=>?_) (fun hb=>?_)<;>((try simp only [hb,zK])<;>(try simp only [zL,zI] at hb)<;>(try (exfalso;omega))))))
  all_goals first | (exfalso;omega) | exact Ends.i rfl rfl
 ·have e : limN D x = 2 + upI x D * 2 := if_neg hx
  rw [e]
  have hu:=A_up (a:=x) (b:=D) (by omega) (by omega) (by omega)
  have h1:=upI_le (a:=x) (b:=D) (by omega) (by omega)
  have h2:=upI_nn (a:=x) (c:=D) (by omega) (by omega)
  generalize upI x D = u at *
  (repeat' (first
   |(apply yFb;exact rfl;exact rfl)
   |(apply W.qd;(first
   |(exact zW (hu))|(exact zM)|(exact zN)|(exact jAm)|(exact jAg)|(exact jAj)|(exact jBf)|(exact jAi)|(apply q_mul;exact rfl;exact rfl;(first | omega | assumption))
   |(apply (yDb (u:=.d _));exact rfl;exact rfl)))|(apply W.ed;(exact jAa))|(apply yA)|(apply yB)|(refine jAb ?_)|(apply yE)|(apply yH)|(apply yJ)|(refine W.gF _ _ rfl rfl (fun hb=>?_) (fun hb=>?_)<;>((try simp only [hb,zK])<;>(try simp only [zL,zI] at hb)<;>(try (exfalso;omega))))
   |(refine W.cond _ rfl (fun hb=>?_) (fun hb=>?_)<;>((try simp only [hb,zK])<;>(try simp only [zL,zI] at hb)<;>(try (exfalso;omega))))))
  all_goals first | (exfalso;omega) | exact Ends.i rfl rfl
theorem A_rlimit {c : Cd} {x : Int} : ACalls Tryz.prog 26 [cdA1 c,iV x] [] (iV (limN c.2.2.1 x)) []:=by
 obtain ⟨nm,M,D,par,dom⟩:=c
 dsimp only
 refine acalls_of_body Tryz.func26 rfl (zU rfl) ?_
 by_cases hx : x < 1 ∨ 1099511627776 < x ∨ D < 1
 ·have e : limN D x = 0 := if_pos hx
  rw [e]
  (repeat' (first
   |(apply yFb;exact rfl;exact rfl)
   |(apply W.qd;(first
   |(exact zM)|(exact zN)|(exact jAm)|(exact jAg)|(exact jAj)|(exact jBf)|(apply (yEb (u:=.d _));exact rfl;exact rfl)
   |(apply (yDb (u:=.d _));exact rfl;exact rfl)))|(apply W.ed;(exact jAa))|(refine W.gOff _ _ rfl rfl (by intro h;cases h) ?_)|(apply yA)|(apply yB)|(apply (W.regionS 3);exact rfl;kernel_rfl)|(apply yE)|(apply yJ)|(apply yP)|(refine jAv ?_)|(refine W.gF _ _ rfl rfl (fun hb=>?_) (fun hb=>?_)<;>((try simp only [hb,zK])<;>(try simp only [zL,zI] at hb)<;>(try (exfalso;omega))))
   |(refine W.cond _ rfl (fun hb=>?_) (fun hb=>?_)<;>((try simp only [hb,zK])<;>(try simp only [zL,zI] at hb)<;>(try (exfalso;omega))))))
  all_goals first | (exfalso;omega) | exact Ends.i rfl rfl
 ·have e : limN D x = 2 + upI x D * 2 := if_neg hx
  rw [e]
  have hu:=A_rup (a:=x) (b:=D) (by omega) (by omega) (by omega)
  have h1:=upI_le (a:=x) (b:=D) (by omega) (by omega)
  have h2:=upI_nn (a:=x) (c:=D) (by omega) (by omega)
  generalize upI x D = u at *
  (repeat' (first
   |(apply yFb;exact rfl;exact rfl)
   |(apply W.qd;(first
   |(exact zW (hu))|(exact zM)|(exact zN)|(exact jAm)|(exact jAg)|(exact jAj)|(exact jBf)|(exact jAi)|(apply q_mul;exact rfl;exact rfl;(first | omega | assumption))
   |(apply (yDb (u:=.d _));exact rfl;exact rfl)))|(apply W.ed;(exact jAa))|(apply yA)|(apply yB)|(refine jAb ?_)|(apply yE)|(apply yH)|(apply yJ)|(refine W.gF _ _ rfl rfl (fun hb=>?_) (fun hb=>?_)<;>((try simp only [hb,zK])<;>(try simp only [zL,zI] at hb)<;>(try (exfalso;omega))))
   |(refine W.cond _ rfl (fun hb=>?_) (fun hb=>?_)<;>((try simp only [hb,zK])<;>(try simp only [zL,zI] at hb)<;>(try (exfalso;omega))))))
  all_goals first | (exfalso;omega) | exact Ends.i rfl (by omega)
theorem A_acode {d r n s l i : Int} {c : Cd} {x : Int} (hn : NameIn c.1) (hp : c.2.2.2.1.length ≤ 9223372036854775807) : ACalls Tryz.prog 54 [cfgA d r n s l i,cdA1 c,iV x] [] (.tup [iV (codN d r n s l i c x).1,iV (codN d r n s l i c x).2]) []:=by
 have hcr:=A_lcrowd d r n s l i 1
 rw [crd_one] at hcr
 obtain ⟨e,hce0,he0⟩:=A_lcheckG (nm:=c.1) (M:=c.2.1) (D:=c.2.2.1) (par:=c.2.2.2.1) (dom:=c.2.2.2.2) hn.b hn.l hp
 have he : e = 0 ↔ chkD c = true:=he0
 have hce : ACalls Tryz.prog 104 [cdA1 c] [] (iV e) []:=hce0
 clear hce0 he0
 have hli:=A_limit (c:=c) (x:=x)
 have hgr:=A_lgroups d r n s l i (c.2.2.1 + (c.2.2.2.1.length : Int))
 have hcw:=A_lcrowd d r n s l i (c.2.2.1 + (c.2.2.2.1.length : Int))
 have hgn:=grpI_nn (d:=d) (r:=r) (n:=n) (s:=s) (l:=l) (i:=i) (w:=c.2.2.1 + (c.2.2.2.1.length : Int))
 have hmp : (c.2.2.2.1.map rD).length = c.2.2.2.1.length:=List.length_map _
 have hck : chkD c = true → (1 ≤ c.2.2.1 ∧ c.2.2.1 ≤ 31) ∧ c.2.2.2.1.length ≤ 31:=fun h=>⟨by
  unfold chkD chkC at h
  simp only [Bool.and_eq_true,decide_eq_true_eq] at h
  exact ⟨h.1.1.2.1.1.1.2,h.1.1.2.1.1.2⟩,(chk_rows h).1⟩
 have hcod : codN d r n s l i c x = if ¬ OkC d r n s l i ∨ chkD c = false ∨ x < 0 ∨ 1099511627776 < x then (0,1) else if x = 0 then (0,0) else if grpI d r n s l i (c.2.2.1 + (c.2.2.2.1.length : Int)) = 0 ∨ c.2.2.2.2 < crdI d r n s l i (c.2.2.1 + (c.2.2.2.1.length : Int)) then (0,refI) else (upI (limN c.2.2.1 x) (grpI d r n s l i (c.2.2.1 + (c.2.2.2.1.length : Int))),0):=rfl
 have hlm:=limN_le (D:=c.2.2.1) (n:=x)
 have hln:=limN_nn c.2.2.1 x
 generalize codN d r n s l i c x = R at *
 generalize chkD c = ck at *
 generalize hw : c.2.2.1 + (c.2.2.2.1.length : Int) = w at *
 obtain ⟨nm,M,D,par,dom⟩:=c
 dsimp only at *
 generalize grpI d r n s l i w = g at *
 generalize crdI d r n s l i w = cw at *
 generalize limN D x = lm at *
 have hli : ACalls Tryz.prog 56 [cdF nm M D par dom,iV x] [] (iV lm) []:=hli
 show ACalls Tryz.prog 54 [cfgA d r n s l i,cdF nm M D par dom,iV x] [] (.tup [iV R.1,iV R.2]) []
 refine acalls_of_body Tryz.func54 rfl (zU rfl) ?_
 by_cases h1 : OkC d r n s l i
 case neg =>
  rw [if_pos (.inl h1)] at hcod
  rw [if_neg h1] at hcr
  rw [hcod]
  (repeat' (first
   |(apply W.qd;(first
   |(exact zW (hcr))|(exact zM)|(exact zN)|(exact jAn)|(exact jAu)
   |(apply (yEb (u:=.d _));exact rfl;exact rfl)))|(apply W.ed;(exact jAa))|(refine W.gOff _ _ rfl rfl (by intro h;cases h) ?_)|(apply yA)|(apply yB)|(refine jAb ?_)|(apply yE)|(apply yJ)|(apply yP)
   |(refine jAv ?_)))
  all_goals first | (exfalso;omega) | exact Ends.two rfl rfl rfl
 rw [if_pos h1] at hcr
 cases hk : ck with
 | false =>
   have he0 : e ≠ 0:=fun h=>by have:=he.1 h;rw [hk] at this;cases this
   rw [if_pos (.inr (.inl hk))] at hcod
   rw [hcod]
   clear he hck
   (repeat' (first
    |(apply yFb;exact rfl;exact rfl)
    |(apply W.qd;(first
    |(exact zW (hcr))|(exact zW (hce))|(exact zM)|(exact zN)|(exact jAn)|(exact jAu)|(exact jBb)|(apply (yEb (u:=.d _));exact rfl;exact rfl)
    |(apply (yDb (u:=.d _));exact rfl;exact rfl)))|(apply W.ed;(exact jAa))|(refine W.gOff _ _ rfl rfl (by intro h;cases h) ?_)|(apply yA)|(apply yB)|(refine jAb ?_)|(apply yE)|(apply yJ)|(apply yP)|(refine jAv ?_)
    |(refine W.gF _ _ rfl rfl (fun hb=>?_) (fun hb=>?_)<;>((try simp only [hb,zK])<;>(try simp only [zL,zI] at hb)<;>(try (exfalso;omega))))))
   all_goals first | (exfalso;omega) | exact Ends.two rfl rfl rfl
 | true =>
   obtain rfl : e = 0:=he.2 hk
   obtain ⟨⟨h2,h3⟩,h4⟩:=hck hk
   clear he hck
   by_cases h5 : x < 0 ∨ 1099511627776 < x
   ·rw [if_pos (.inr (.inr h5))] at hcod
    rw [hcod]
    (repeat' (first
     |(apply yFb;exact rfl;exact rfl)
     |(apply W.qd;(first
     |(exact zW (hcr))|(exact zW (hce))|(exact zM)|(exact zN)|(exact jAn)|(exact jAj)|(exact jBf)|(exact jAu)|(exact jBb)|(apply (yEb (u:=.d _));exact rfl;exact rfl)
     |(apply (yDb (u:=.d _));exact rfl;exact rfl)))|(apply W.ed;(exact jAa))|(refine W.gOff _ _ rfl rfl (by intro h;cases h) ?_)|(apply yA)|(apply yB)|(refine jAb ?_)|(apply yE)|(apply yJ)|(apply yP)|(refine jAv ?_)|(refine W.gF _ _ rfl rfl (fun hb=>?_) (fun hb=>?_)<;>((try simp only [hb,zK])<;>(try simp only [zL,zI] at hb)<;>(try (exfalso;omega))))
     |(refine W.cond _ rfl (fun hb=>?_) (fun hb=>?_)<;>((try simp only [hb,zK])<;>(try simp only [zL,zI] at hb)<;>(try (exfalso;omega))))))
    all_goals first | (exfalso;omega) | exact Ends.two rfl rfl rfl
   rw [if_neg (fun h=>by
    rcases h with h | h | h
    ·exact h h1
    ·rw [hk] at h;cases h
    ·exact h5 h)] at hcod
   by_cases h6 : x = 0
   ·rw [if_pos h6] at hcod
    rw [hcod]
    (repeat' (first
     |(apply yFb;exact rfl;exact rfl)
     |(apply W.qd;(first
     |(exact zW (hcr))|(exact zW (hce))|(exact zM)|(exact zN)|(exact jAn)|(exact jAj)|(exact jBf)|(exact jAu)|(exact jBb)
     |(apply (yDb (u:=.d _));exact rfl;exact rfl)))|(apply W.ed;(exact jAa))|(apply yA)|(apply yB)|(refine jAb ?_)|(apply yE)|(apply yH)|(apply yJ)|(apply yP)|(refine W.gF _ _ rfl rfl (fun hb=>?_) (fun hb=>?_)<;>((try simp only [hb,zK])<;>(try simp only [zL,zI] at hb)<;>(try (exfalso;omega))))
     |(refine W.cond _ rfl (fun hb=>?_) (fun hb=>?_)<;>((try simp only [hb,zK])<;>(try simp only [zL,zI] at hb)<;>(try (exfalso;omega))))))
    all_goals first | (exfalso;omega) | exact Ends.two rfl rfl rfl
   rw [if_neg h6] at hcod
   have hw2 : D + ((par.map rD).length : Int) = w:=by rw [hmp];exact hw
   rw [← hw2] at hgr hcw
   by_cases h7 : g = 0 ∨ dom < cw
   ·rw [if_pos h7] at hcod
    rw [hcod]
    (repeat' (first
     |(apply yFb;exact rfl;exact rfl)
     |(apply W.qd;(first
     |(exact zW (hcr))|(exact zW (hce))|(exact zW (hgr))|(exact zW (hcw))|(exact zM)|(exact zN)|(exact jAm)|(exact jAg)|(exact jAn)|(exact jAj)|(exact jBf)|(exact jAu)|(exact jBb)|(exact jAi)|(exact jAt)|(apply (yEb (u:=.d _));exact rfl;exact rfl)
     |(apply (yDb (u:=.d _));exact rfl;exact rfl)))|(apply W.ed;(exact jAa))|(refine W.gOff _ _ rfl rfl (by intro h;cases h) ?_)|(apply yA)|(apply yB)|(refine jAb ?_)|(refine jAr ?_)|(apply yE)|(refine jAx ?_)|(apply yH)|(apply yJ)|(apply yP)|(refine jAv ?_)|(refine W.gF _ _ rfl rfl (fun hb=>?_) (fun hb=>?_)<;>((try simp only [hb,zK])<;>(try simp only [zL,zI] at hb)<;>(try (exfalso;omega))))
     |(refine W.cond _ rfl (fun hb=>?_) (fun hb=>?_)<;>((try simp only [hb,zK])<;>(try simp only [zL,zI] at hb)<;>(try (exfalso;omega))))))
    all_goals first | (exfalso;omega) | exact Ends.two rfl rfl rfl
   rw [if_neg h7] at hcod
   rw [hcod]
   have hlm:=hlm (by omega) (by omega)
   have hu:=A_up (a:=lm) (b:=g) (by omega) (by omega) (by omega)
   (repeat' (first
    |(apply yFb;exact rfl;exact rfl)
    |(apply W.qd;(first
    |(exact zW (hcr))|(exact zW (hce))|(exact zW (hgr))|(exact zW (hcw))|(exact zW (hli))|(exact zW (hu))|(exact zM)|(exact zN)|(exact jAm)|(exact jAg)|(exact jAn)|(exact jAj)|(exact jBf)|(exact jAu)|(exact jBb)|(exact jAi)|(exact jAt)
    |(apply (yDb (u:=.d _));exact rfl;exact rfl)))|(apply W.ed;(exact jAa))|(apply yA)|(apply yB)|(refine jAb ?_)|(refine jAr ?_)|(apply yE)|(refine jAx ?_)|(apply yH)|(apply yJ)|(refine W.gF _ _ rfl rfl (fun hb=>?_) (fun hb=>?_)<;>((try simp only [hb,zK])<;>(try simp only [zL,zI] at hb)<;>(try (exfalso;omega))))
    |(refine W.cond _ rfl (fun hb=>?_) (fun hb=>?_)<;>((try simp only [hb,zK])<;>(try simp only [zL,zI] at hb)<;>(try (exfalso;omega))))))
   all_goals first | (exfalso;omega) | exact Ends.two rfl rfl rfl
end
section
section
variable {P : Program} {m : Nat} {env : List (Nat × AV)} {own : List Ent} {dst : Option Tmp} {ty : TypeId} {pos : String} {af : Array Edge} {gd : Option (Nat × Bool)}
theorem q_maxM {x y : Operand} {ts : Array TypeId} {a b : Int} (hx : lookO env x = iV a) (hy : lookO env y = iV b) :
 Quiet P m ⟨dst,.call ⟨.builtin .max,#[x,y],ts⟩,ty,pos,af,gd⟩ env own [] (iV (mxI a b)):=q_max hx hy
theorem q_minV {x y : Operand} {ts : Array TypeId} {a b v : Int} (hx : lookO env x = iV a) (hy : lookO env y = iV b) (h : (if b < a then b else a) = v) :
 Quiet P m ⟨dst,.call ⟨.builtin .min,#[x,y],ts⟩,ty,pos,af,gd⟩ env own [] (iV v):=by
 subst h;exact q_min hx hy
end
theorem getDt {ts : List Tn} {i : Nat} (h : i < ts.length) : ts.getD i tn0 = ts[i]:=by rw [List.getD_eq_getElem?_getD,List.getElem?_eq_getElem h];rfl
theorem getDu {us : List Ue} {i : Nat} (h : i < us.length) : us.getD i ue0 = us[i]:=by rw [List.getD_eq_getElem?_getD,List.getElem?_eq_getElem h];rfl
theorem mxI_bd {a b : Int} (ha : inT a = true) (hb : inT b = true) : 0 ≤ mxI a b ∧ mxI a b ≤ 2147483647:=by
 unfold inT at ha hb
 simp only [decide_eq_true_eq] at ha hb
 unfold mxI
 split<;>omega
theorem ten_at {nv : Nat} {ts : List Tn} {us : List Ue} (h : tenB nv ts us = true) {i : Nat} (hi : i < ts.length) (hu : i < us.length) : (inT ts[i].2.1 = true ∧ inT ts[i].2.2.1 = true) ∧ (inT us[i].1 = true ∧ inT us[i].2 = true):=by
 unfold tenB at h
 simp only [Bool.and_eq_true,List.all_eq_true] at h
 have:=h.2 i (List.mem_range.2 hi)
 rw [getDt hi,getDu hu] at this
 unfold tnOk at this
 simp only [Bool.and_eq_true] at this
 exact this.2
def blkK (nv : Nat) (ts : List Tn) (us : List Ue) (k : Nat) : List Int:=(List.range nv).map fun j : Nat=>if j < k then blkN ts us (j : Int) else 0
theorem blkK_len (nv : Nat) (ts : List Tn) (us : List Ue) (k : Nat) : (blkK nv ts us k).length = nv:=by unfold blkK;simp
theorem blkK_zero (nv : Nat) (ts : List Tn) (us : List Ue) : blkK nv ts us 0 = List.replicate nv 0:=by
 apply List.ext_getElem (by rw [blkK_len];simp)
 intro i h1 h2
 unfold blkK
 simp
theorem blkK_all (nv : Nat) (ts : List Tn) (us : List Ue) : blkK nv ts us nv = blkL nv ts us:=by
 unfold blkK blkL
 apply List.map_congr_left
 intro j hj
 rw [if_pos (List.mem_range.1 hj)]
theorem blkK_get (nv : Nat) (ts : List Tn) (us : List Ue) (k i : Nat) (h : i < (blkK nv ts us k).length) : (blkK nv ts us k)[i] = if i < k then blkN ts us (i : Int) else 0:=by
 simp [blkK]
theorem blkK_step {nv k : Nat} {ts : List Tn} {us : List Ue} (h : k < nv) : (blkK nv ts us k).set k (blkN ts us k) = blkK nv ts us (k + 1):=by
 apply List.ext_getElem (by rw [List.length_set,blkK_len,blkK_len])
 intro i h1 h2
 rw [List.getElem_set,blkK_get]
 by_cases e : k = i
 ·subst e;rw [if_pos rfl,blkK_get,if_pos (by omega)]
 ·rw [if_neg e, blkK_get]
  by_cases h3 : i < k
  ·rw [if_pos h3,if_pos (by omega)]
  ·rw [if_neg h3,if_neg (by omega)]
attribute [local irreducible] Quiet Eff OpOk AWPG ACont ABlock ACalls AGoto
theorem A_wrong (x : Int) : ACalls Tryz.prog 173 [iV x] [] (bV (!inT x)) []:=by
 refine acalls_of_body Tryz.func173 rfl (zU rfl) ?_
 unfold inT
 (repeat' (first
  |(apply yFb;exact rfl;exact rfl)
  |(apply W.qd;(first
  |(exact zM)|(exact zN)|(exact jAj)|(exact jBf)|(apply (yEb (u:=.d _));exact rfl;exact rfl)
  |(apply (yDb (u:=.d _));exact rfl;exact rfl)))|(refine W.gOff _ _ rfl rfl (by intro h;cases h) ?_)|(apply yA)|(apply yB)|(refine jAb ?_)|(apply yE)|(apply yJ)
  |(refine W.gF _ _ rfl rfl (fun hb=>?_) (fun hb=>?_)<;>((try simp only [hb,zK])<;>(try simp only [zL,zI] at hb)<;>(try (exfalso;omega))))))
 all_goals refine Ends.b rfl ?_
 all_goals first | (rw [Bool.eq_iff_iff];simp<;>omega) | (simp;omega)
theorem A_avalid {cs : List Cd} {vs : List Sv} {ts : List Tn} {us : List Ue} (hvl : vs.length ≤ 9223372036854775807) (htl : ts.length ≤ 9223372036854775807) (hul : us.length ≤ 9223372036854775807) : ACalls Tryz.prog 109 [lib cs vs,tns ts,ues us] [] (bV (tenB vs.length ts us)) []:=by
 refine acalls_of_body Tryz.func109 rfl (zU rfl) ?_
 have hmt : (ts.map tnD).length = ts.length:=List.length_map _
 have hmu : (us.map ueD).length = us.length:=List.length_map _
 have hmv : (vs.map svD).length = vs.length:=List.length_map _
 unfold tenB
 by_cases h1 : ts.length ≤ 16 ∧ ts.length ≤ us.length
 case neg =>
  rw [decide_eq_false h1,Bool.false_and]
  (repeat' (first
   |(apply yFb;exact rfl;exact rfl)
   |(apply W.qd;(first
   |(exact zM)|(exact zN)|(exact jAj)|(exact jBf)|(exact jAt)|(apply (yEb (u:=.d _));exact rfl;exact rfl)
   |(apply (yDb (u:=.d _));exact rfl;exact rfl)))|(apply W.ed;(exact jAa))|(refine W.gOff _ _ rfl rfl (by intro h;cases h) ?_)|(apply yA)|(apply yB)|(apply (W.regionS 5);exact rfl;kernel_rfl)|(apply yE)|(apply yJ)|(apply yP)|(refine jAv ?_)|(refine W.gF _ _ rfl rfl (fun hb=>?_) (fun hb=>?_)<;>((try simp only [hb,zK])<;>(try simp only [zL,zI] at hb)<;>(try (exfalso;omega))))
   |(refine W.cond _ rfl (fun hb=>?_) (fun hb=>?_)<;>((try simp only [hb,zK])<;>(try simp only [zL,zI] at hb)<;>(try (exfalso;omega))))))
  all_goals first | (exfalso;omega) | exact Ends.b rfl rfl
 rw [decide_eq_true h1,Bool.true_and]
 obtain ⟨h1,h2⟩:=h1
 have hq : ∀ i (hi : i < ts.length),(fun i=>tnOk vs.length (ts.getD i tn0) (us.getD i ue0)) i = tnOk vs.length ts[i] (us[i]'(by omega)):=fun i hi=>by
  show tnOk _ _ _ = _
  rw [getDt hi,getDu (by omega)]
 generalize (fun i=>tnOk vs.length (ts.getD i tn0) (us.getD i ue0)) = Q at *
 (repeat' (first
  |(apply yFb;exact rfl;exact rfl)
  |(apply W.qd;(first
  |(exact zM)|(exact zN)|(exact jAj)|(exact jBf)|(exact jAt)
  |(apply (yDb (u:=.d _));exact rfl;exact rfl)))|(apply W.ed;(exact jAa))|(apply yA)|(apply yB)|(apply (W.regionS 5);exact rfl;kernel_rfl)|(apply yE)|(apply yG)|(apply yH)|(refine W.gF _ _ rfl rfl (fun hb=>?_) (fun hb=>?_)<;>((try simp only [hb,zK])<;>(try simp only [zL,zI] at hb)<;>(try (exfalso;omega))))
  |(refine W.cond _ rfl (fun hb=>?_) (fun hb=>?_)<;>((try simp only [hb,zK])<;>(try simp only [zL,zI] at hb)<;>(try (exfalso;omega))))))
 all_goals try (exfalso;omega)
 refine AWP.loopW (α:=Nat) (fun i=>i ≤ ts.length ∧ ∀ j,j < i → Q j = true) (fun i=>⟨[(23,iV i),(22,iV ts.length),(21,tns ts),(2,ues us),(7,.fn 173 []),(3,.opt 0 0)],[.box [cds cs,svs vs]]⟩) (fun i=>ts.length - i) 0 ⟨Nat.zero_le _,fun j hj=>by omega⟩ ?wkA fun i hi=>?_
 case wkA=>exact ⟨[0],rfl,rfl,rfl,rfl,iV_eq (by rw [hmt]),rfl,rfl,rfl,rfl,trivial⟩
 by_cases hil : i < ts.length
 ·have hui : i < us.length := by omega
  have hqi:=hq i hil
  have hbad : Q i = false → (List.range ts.length).all Q = false:=fun h=>by
   rw [List.all_eq_false]
   exact ⟨i,List.mem_range.2 hil,by rw [h];decide⟩
  have hnx : Q i = true → ∀ j,j < i + 1 → Q j = true:=fun h j hj=>by
   by_cases e : j = i
   ·subst e;exact h
   ·exact hi.2 j (by omega)
  have hct:=A_contains_int (O:=[]) (g:=173) (caps:=[]) (fun x=>!inT x) [ts[i].2.1,ts[i].2.2.1,us[i].1,us[i].2] (by simp) (by kernel_rfl) (fun x _=>A_wrong x)
  have hany : [ts[i].2.1,ts[i].2.2.1,us[i].1,us[i].2].any (fun x=>!inT x) = !((inT ts[i].2.1 && inT ts[i].2.2.1) && (inT us[i].1 && inT us[i].2)):=by
   simp only [List.any_cons,List.any_nil]
   cases inT ts[i].2.1<;>cases inT ts[i].2.2.1<;>cases inT us[i].1<;>cases inT us[i].2<;>rfl
  rw [hany] at hct
  unfold tnOk at hqi
  generalize ((inT ts[i].2.1 && inT ts[i].2.2.1) && (inT us[i].1 && inT us[i].2)) = B at *
  clear hi hq hany
  generalize (List.range ts.length).all Q = R at *
  by_cases hc : 0 ≤ ts[i].2.2.2.2.2 ∧ ts[i].2.2.2.2.2 < (vs.length : Int)
  ·rw [decide_eq_true hc, Bool.true_and] at hqi
   cases B with
   | true =>
     have hn2:=hnx hqi
     clear hnx hbad
     (repeat' (first
      |(apply yFb;exact rfl;exact rfl)
      |(apply W.qd;(first
      |(exact zW (hct))|(exact zM)|(exact zN)|(exact jAm)|(exact jAg)|(exact jAj)|(exact q_geq rfl rfl)|(exact jAi)|(exact jAt)|(exact jAc)|(exact jAk)|(exact jB)|(exact jAl)|(exact jA)
      |(apply (yDb (u:=.d _));exact rfl;exact rfl)))|(apply W.ed;(exact jAp))|(apply W.ln;(exact jAh))|(apply yA)|(apply yB)|(refine jAb ?_)|(refine jAr ?_)|(apply yE)|(refine jAx ?_)|(apply yG)|(apply yH)|(apply yL)|(refine jAy ?_)|(refine W.gF _ _ rfl rfl (fun hb=>?_) (fun hb=>?_)<;>((try simp only [hb,zK])<;>(try simp only [zL,zI] at hb)<;>(try (exfalso;omega))))
      |(refine W.cond _ rfl (fun hb=>?_) (fun hb=>?_)<;>((try simp only [hb,zK])<;>(try simp only [zL,zI] at hb)<;>(try (exfalso;omega))))))
     all_goals first
      |(exfalso;omega)
      |exact ⟨i + 1,⟨by omega,hn2⟩,by omega,[0],rfl,rfl,rfl,iV_eq (by omega),rfl,rfl,rfl,rfl,rfl,trivial⟩
   | false =>
     rw [hbad hqi]
     clear hnx hbad
     (repeat' (first
      |(apply yFb;exact rfl;exact rfl)
      |(apply W.qd;(first
      |(exact zW (hct))|(exact zM)|(exact zN)|(exact jAm)|(exact jAg)|(exact jAj)|(exact q_geq rfl rfl)|(exact jAt)|(exact jAc)|(exact jAk)|(exact jB)|(exact jAl)|(exact jA)
      |(apply (yDb (u:=.d _));exact rfl;exact rfl)))|(apply W.ed;(exact jAp))|(apply W.ln;(exact jAh))|(apply yA)|(apply yB)|(refine jAb ?_)|(refine jAr ?_)|(apply yE)|(refine jAx ?_)|(apply yG)|(apply yH)|(apply yJ)|(apply yP)|(apply yN)|(refine jAv ?_)|(refine W.gF _ _ rfl rfl (fun hb=>?_) (fun hb=>?_)<;>((try simp only [hb,zK])<;>(try simp only [zL,zI] at hb)<;>(try (exfalso;omega))))
      |(refine W.cond _ rfl (fun hb=>?_) (fun hb=>?_)<;>((try simp only [hb,zK])<;>(try simp only [zL,zI] at hb)<;>(try (exfalso;omega))))))
     all_goals first | (exfalso;omega) | exact Ends.b rfl rfl
  ·rw [decide_eq_false hc, Bool.false_and] at hqi
   rw [hbad hqi]
   clear hnx hbad
   (repeat' (first
    |(apply yFb;exact rfl;exact rfl)
    |(apply W.qd;(first
    |(exact zM)|(exact zN)|(exact jAm)|(exact jAg)|(exact jAj)|(exact q_geq rfl rfl)|(exact jAt)|(exact jAc)|(exact jAk)|(exact jB)|(exact jAl)|(exact jA)|(apply (yEb (u:=.d _));exact rfl;exact rfl)
    |(apply (yDb (u:=.d _));exact rfl;exact rfl)))|(apply W.ed;(exact jAp))|(apply W.ln;(exact jAh))|(refine W.gOff _ _ rfl rfl (by intro h;cases h) ?_)|(apply yA)|(apply yB)|(refine jAb ?_)|(refine jAr ?_)|(apply yE)|(refine jAx ?_)|(apply yG)|(apply yH)|(apply yJ)|(apply yP)|(apply yN)|(refine jAv ?_)|(refine W.gF _ _ rfl rfl (fun hb=>?_) (fun hb=>?_)<;>((try simp only [hb,zK])<;>(try simp only [zL,zI] at hb)<;>(try (exfalso;omega))))
    |(refine W.cond _ rfl (fun hb=>?_) (fun hb=>?_)<;>((try simp only [hb,zK])<;>(try simp only [zL,zI] at hb)<;>(try (exfalso;omega))))))
   all_goals first | (exfalso;omega) | exact Ends.b rfl rfl
 ·have hall : (List.range ts.length).all Q = true:=by
   rw [List.all_eq_true]
   intro j hj
   exact hi.2 j (by have:=List.mem_range.1 hj;omega)
  rw [hall]
  clear hi hq
  (repeat' (first
   |(apply W.qd;(first
   |(exact zN)
   |(exact jAj)))|(apply yA)|(apply yB)|(refine jAb ?_)|(apply yE)|(apply yI)|(apply yJ)|(apply yK)|(apply yM)
   |(refine W.cond _ rfl (fun hb=>?_) (fun hb=>?_)<;>((try simp only [hb,zK])<;>(try simp only [zL,zI] at hb)<;>(try (exfalso;omega))))))
  all_goals exact Ends.b rfl rfl
theorem A_blocks {nv : Nat} {ts : List Tn} {us : List Ue} {k : Int} (h : tenB nv ts us = true) (hul : us.length ≤ 9223372036854775807) : ACalls Tryz.prog 55 [tns ts,ues us,iV k] [] (iV (blkN ts us k)) []:=by
 refine acalls_of_body Tryz.func55 rfl (zU rfl) ?_
 have hmt : (ts.map tnD).length = ts.length:=List.length_map _
 have hmu : (us.map ueD).length = us.length:=List.length_map _
 obtain ⟨h1,h2⟩:=ten_len h
 have hbd:=blkT_nn (k:=k) h
 have hmin : (if ((us.map ueD).length : Int) < ((ts.map tnD).length : Int) then ((us.map ueD).length : Int) else ((ts.map tnD).length : Int)) = ((ts.length : Nat) : Int):=by rw [hmt,hmu,if_neg (by omega)]
 have hN : blkN ts us k = blkT ts us k ts.length:=by unfold blkN;rw [show min ts.length us.length = ts.length by omega]
 have hst : ∀ i (hi : i < ts.length),blkT ts us k (i + 1) = blkT ts us k i + if ts[i].2.2.2.2.2 = k then mxI ts[i].2.1 (us[i]'(by omega)).1 + mxI ts[i].2.2.1 (us[i]'(by omega)).2 else 0:=fun i hi=>by rw [blkT,getDt hi,getDu (by omega)];rfl
 rw [hN]
 generalize blkT ts us k = T at *
 (repeat' (first
  |(apply W.qd;(first
  |((apply q_minV;exact rfl;exact rfl;exact hmin))|(exact zM)|(exact zN)|(exact jAt)
  |(apply q_slc_map;exact rfl;exact rfl;(first | exact ⟨_,_,rfl,rfl⟩ | exact ⟨_,_,rfl,natI_spec rfl⟩ | exact ⟨_,_,rfl,(Int.toNat_of_nonneg (by omega)).symm⟩ | exact rfl);(first | exact ⟨_,_,rfl,rfl⟩ | exact ⟨_,_,rfl,natI_spec rfl⟩ | exact ⟨_,_,rfl,(Int.toNat_of_nonneg (by omega)).symm⟩ | exact rfl);(first | omega | (focus (simp only [List.length_map];omega)) | (focus (simp;done)) | (focus (simp;omega)));(first | omega | (focus (simp only [List.length_map];omega)) | (focus (simp;done)) | (focus (simp;omega)));exact Or.inl rfl)))|(apply yA)|(apply yB)|(apply (W.regionS 3);exact rfl;kernel_rfl)|(apply yE)
  |(apply yG)))
 refine AWP.loopW (α:=Nat) (fun i=>i ≤ ts.length) (fun i=>⟨[(18,iV i),(17,iV ts.length),(16,tns ts),(1,ues us),(2,iV k),(7,iV (T i))],[]⟩) (fun i=>ts.length - i) 0 (Nat.zero_le _) ?wkA fun i hi=>?_
 case wkA =>
  have hT0 : T 0 = 0:=by have:=hbd 0 (Nat.zero_le _);omega
  refine ⟨[],rfl,rfl,rfl,rfl,iV_eq (by simp),?_,rfl,rfl,iV_eq hT0,trivial⟩
  show _ = AV.d (.sl 6 (((ts.drop 0).take (ts.length - 0)).map tnD))
  rw [List.drop_zero,Nat.sub_zero,List.take_length]
 by_cases hil : i < ts.length
 ·have hui : i < us.length := by omega
  obtain ⟨⟨i1,i2⟩,i3,i4⟩:=ten_at h hil hui
  have m1:=mxI_bd i1 i3
  have m2:=mxI_bd i2 i4
  have hb1:=hbd i hi
  have hs:=hst i hil
  clear hst hbd
  by_cases hc : ts[i].2.2.2.2.2 = k
  ·rw [if_pos hc] at hs
   (repeat' (first
    |(apply W.qd;(first
    |((apply q_maxM;exact rfl;exact rfl))|(exact zM)|(exact zN)|(exact jAm)|(exact jAg)|(exact jAj)|(exact jAu)|(exact jAi)|(exact jAc)|(exact jAk)|(exact jB)
    |(exact jA)))|(apply W.ed;(exact jAp))|(apply W.ln;(exact jAh))|(apply yA)|(apply yB)|(refine jAb ?_)|(refine jAr ?_)|(apply yE)|(refine jAx ?_)|(apply yG)|(apply yH)|(apply yL)
    |(refine W.cond _ rfl (fun hb=>?_) (fun hb=>?_)<;>((try simp only [hb,zK])<;>(try simp only [zL,zI] at hb)<;>(try (exfalso;omega))))))
   all_goals first
    |(exfalso;omega)|(refine ⟨i + 1,by omega,by omega,?_⟩;(try dsimp only);rw [hs];exact ⟨[],rfl,rfl,rfl,iV_eq (by omega),rfl,rfl,rfl,rfl,rfl,trivial⟩)
  ·rw [if_neg hc, Int.add_zero] at hs
   (repeat' (first
    |(apply W.qd;(first
    |(exact zM)|(exact zN)|(exact jAm)|(exact jAg)|(exact jAj)|(exact jAu)|(exact jAi)|(exact jAk)
    |(exact jA)))|(apply W.ed;(exact jAp))|(apply W.ln;(exact jAh))|(apply yA)|(apply yB)|(refine jAb ?_)|(apply yE)|(apply yG)|(apply yH)|(apply yL)
    |(refine W.cond _ rfl (fun hb=>?_) (fun hb=>?_)<;>((try simp only [hb,zK])<;>(try simp only [zL,zI] at hb)<;>(try (exfalso;omega))))))
   all_goals first
    |(exfalso;omega)|(refine ⟨i + 1,by omega,by omega,?_⟩;(try dsimp only);rw [hs];exact ⟨[],rfl,rfl,rfl,iV_eq (by omega),rfl,rfl,rfl,rfl,rfl,trivial⟩)
 ·obtain rfl : i = ts.length := by omega
  (repeat' (first
   |(apply W.qd;(first
   |(exact zM)|(exact zN)
   |(exact jAj)))|(apply yA)|(apply yB)|(refine jAb ?_)|(apply yE)|(apply yI)|(apply yJ)|(apply yK)|(apply yM)
   |(refine W.cond _ rfl (fun hb=>?_) (fun hb=>?_)<;>((try simp only [hb,zK])<;>(try simp only [zL,zI] at hb)<;>(try (exfalso;omega))))))
  all_goals exact Ends.i rfl rfl
theorem A_rblocks {nv : Nat} {ts : List Tn} {us : List Ue} {k : Int} (h : tenB nv ts us = true) (hul : us.length ≤ 9223372036854775807) : ACalls Tryz.prog 23 [tns ts,ues us,iV k] [] (iV (blkN ts us k)) []:=by
 refine acalls_of_body Tryz.func23 rfl (zU rfl) ?_
 have hmt : (ts.map tnD).length = ts.length:=List.length_map _
 have hmu : (us.map ueD).length = us.length:=List.length_map _
 obtain ⟨h1,h2⟩:=ten_len h
 have hbd:=blkT_nn (k:=k) h
 have hN : blkN ts us k = blkT ts us k ts.length:=by unfold blkN;rw [show min ts.length us.length = ts.length by omega]
 have hst : ∀ i (hi : i < ts.length),blkT ts us k (i + 1) = blkT ts us k i + if ts[i].2.2.2.2.2 = k then mxI ts[i].2.1 (us[i]'(by omega)).1 + mxI ts[i].2.2.1 (us[i]'(by omega)).2 else 0:=fun i hi=>by rw [blkT,getDt hi,getDu (by omega)];rfl
 rw [hN]
 generalize blkT ts us k = T at *
 (repeat' (first
  |(apply W.qd;(exact zN))|(apply yA)|(apply yB)|(apply (W.regionS 3);exact rfl;kernel_rfl)|(apply yE)
  |(apply yG)))
 refine AWP.loopW (α:=Nat) (fun i=>i ≤ ts.length) (fun i=>⟨[(8,iV i),(7,iV (T i)),(0,tns ts),(1,ues us),(2,iV k)],[]⟩) (fun i=>ts.length - i) 0 (Nat.zero_le _) ?wkA fun i hi=>?_
 case wkA =>
  have hT0 : T 0 = 0:=by have:=hbd 0 (Nat.zero_le _);omega
  exact ⟨[],rfl,rfl,rfl,rfl,iV_eq hT0,rfl,rfl,rfl,trivial⟩
 by_cases hil : i < ts.length
 ·have hui : i < us.length := by omega
  obtain ⟨⟨i1,i2⟩,i3,i4⟩:=ten_at h hil hui
  have m1:=mxI_bd i1 i3
  have m2:=mxI_bd i2 i4
  have hb1:=hbd i hi
  have hs:=hst i hil
  clear hst hbd
  by_cases hc : ts[i].2.2.2.2.2 = k
  ·rw [if_pos hc] at hs
   (repeat' (first
    |(apply yFb;exact rfl;exact rfl)
    |(apply W.qd;(first
    |((apply q_maxM;exact rfl;exact rfl))|(exact zM)|(exact zN)|(exact jAj)|(exact jAu)|(exact jAi)|(exact jAt)|(exact jAc)|(exact jB)|(exact jA)
    |(apply (yEb (u:=.d _));exact rfl;exact rfl)))|(apply yA)|(apply yB)|(refine jAb ?_)|(refine jAr ?_)|(apply yE)|(refine jAx ?_)|(apply yG)|(apply yH)|(apply yL)|(refine W.gT _ _ rfl rfl (fun hb=>?_) (fun hb=>?_)<;>((try simp only [hb,zK])<;>(try simp only [zL,zI] at hb)<;>(try (exfalso;omega))))
    |(refine W.cond _ rfl (fun hb=>?_) (fun hb=>?_)<;>((try simp only [hb,zK])<;>(try simp only [zL,zI] at hb)<;>(try (exfalso;omega))))))
   all_goals first
    |(exfalso;omega)|(refine ⟨i + 1,by omega,by omega,?_⟩;(try dsimp only);rw [hs];exact ⟨[],rfl,rfl,rfl,iV_eq (by omega),iV_eq (by omega),rfl,rfl,rfl,trivial⟩)
  ·rw [if_neg hc, Int.add_zero] at hs
   (repeat' (first
    |(apply yFb;exact rfl;exact rfl)
    |(apply W.qd;(first
    |(exact zM)|(exact zN)|(exact jAj)|(exact jAu)|(exact jAi)|(exact jAt)|(exact jAc)|(exact jB)|(exact jA)
    |(apply (yEb (u:=.d _));exact rfl;exact rfl)))|(apply yA)|(apply yB)|(refine jAb ?_)|(apply yE)|(apply yG)|(apply yH)|(apply yL)|(refine W.gT _ _ rfl rfl (fun hb=>?_) (fun hb=>?_)<;>((try simp only [hb,zK])<;>(try simp only [zL,zI] at hb)<;>(try (exfalso;omega))))
    |(refine W.cond _ rfl (fun hb=>?_) (fun hb=>?_)<;>((try simp only [hb,zK])<;>(try simp only [zL,zI] at hb)<;>(try (exfalso;omega))))))
   all_goals first
    |(exfalso;omega)|(refine ⟨i + 1,by omega,by omega,?_⟩;(try dsimp only);rw [hs];exact ⟨[],rfl,rfl,rfl,iV_eq (by omega),rfl,rfl,rfl,rfl,trivial⟩)
 ·obtain rfl : i = ts.length := by omega
  (repeat' (first
   |(apply W.qd;(first
   |(exact zM)|(exact zN)|(exact jAj)|(exact jAt)
   |(apply (yDb (u:=.d _));exact rfl;exact rfl)))|(refine W.gOff _ _ rfl rfl (by intro h;cases h) ?_)|(apply yA)|(apply yB)|(refine jAb ?_)|(apply yE)|(apply yI)|(apply yJ)|(apply yK)|(apply yM)|(refine jAy ?_)
   |(refine W.gT _ _ rfl rfl (fun hb=>?_) (fun hb=>?_)<;>((try simp only [hb,zK])<;>(try simp only [zL,zI] at hb)<;>(try (exfalso;omega))))))
  all_goals first | (exfalso;omega) | exact Ends.i rfl rfl
def val31 (d r n s l i : Int) (cs : List Cd) (vs : List Sv) (ts : List Tn) (us : List Ue) (rows : List SRw) : Bool:=(validR d r n s l i rows && validB cs vs) && tenB vs.length ts us
structure In31 (cs : List Cd) (vs : List Sv) (ts : List Tn) (us : List Ue) (rows : List SRw) : Prop where
 L : LibIn cs vs
 t : ts.length ≤ 9223372036854775807
 u : us.length ≤ 9223372036854775807
 rl : rows.length ≤ 64
 ru : ∀ a (h : a < rows.length),rows[a].2.2.length ≤ 9223372036854775807
theorem valid_vl {cs : List Cd} {vs : List Sv} (h : validB cs vs = true) : cs.length ≤ 8 ∧ vs.length ≤ 8:=by
 unfold validB at h
 simp only [Bool.and_eq_true,decide_eq_true_eq] at h
 exact h.1
theorem A_claimed {d r n s l i : Int} {cs : List Cd} {vs : List Sv} {ts : List Tn} {us : List Ue} {rows : List SRw} (hI : In31 cs vs ts us rows) (hv : val31 d r n s l i cs vs ts us rows = true) : ACalls Tryz.prog 57 [cfgA d r n s l i,lib cs vs,tns ts,ues us,rws rows] [] (.tup [.osl 0 0 0 vs.length,iV 0]) [.row 0 1 3 ((blkL vs.length ts us).map iD)]:=by
 refine acalls_of_bodyO Tryz.func57 rfl (zU rfl) ?_
 have f1:=A_valid24 (d:=d) (r:=r) (n:=n) (s:=s) (l:=l) (i:=i) (rows:=rows) (by have:=hI.rl;omega) hI.ru
 have f2:=A_valid30 hI.L
 have f3:=A_avalid (cs:=cs) hI.L.vl hI.t hI.u
 unfold val31 at hv
 simp only [Bool.and_eq_true] at hv
 obtain ⟨⟨hv1,hv2⟩,hv3⟩:=hv
 have hvl:=(valid_vl hv2).2
 have hmv : (vs.map svD).length = vs.length:=List.length_map _
 rw [hv1] at f1
 rw [hv2] at f2
 rw [hv3] at f3
 have fb:=fun k : Nat=>A_blocks (k:=(k : Int)) hv3 hI.u
 (repeat' (first
  |(apply yFb;exact rfl;exact rfl)
  |(apply W.qd;(first
  |(exact zW (f1))|(exact zW (f2))|(exact zW (f3))|(exact zM)|(exact zN)|(exact jAm)|(exact jAg)|(exact jAn)|(exact jBe)|(exact jAt)|(exact q_len_osl rfl rfl rfl)
  |(apply (yDb (u:=.d _));exact rfl;exact rfl)))
  |(apply W.ed;(first
  |((apply (e_makeG (f:=iD) 0);(iterate 10 exact rfl);omega))
  |(exact jAa)))|(apply yA)|(apply yB)|(apply (W.regionS 5);exact rfl;kernel_rfl)|(apply yE)|(apply yG)|(apply yH)
  |(refine jAy ?_)))
 refine AWP.loopW (α:=Nat) (fun k=>k ≤ vs.length) (fun k=>⟨[(36,iV k),(35,iV vs.length),(12,.osl 0 0 0 vs.length),(2,tns ts),(3,ues us)],[.row 0 1 3 ((blkK vs.length ts us k).map iD)]⟩) (fun k=>vs.length - k) 0 (Nat.zero_le _) ?wkA fun k hk=>?_
 case wkA =>
  rw [blkK_zero,← hmv]
  exact ⟨[2],rfl,rfl,rfl,rfl,rfl,rfl,rfl,rfl,trivial⟩
 have hkl0:=blkK_len vs.length ts us k
 by_cases hkl : k < vs.length
 ·have hs := Lib.hid (blkK_step (ts := ts) (us := us) hkl)
  have fk:=fb k
  generalize blkK vs.length ts us k = A at *
  generalize blkN ts us (k : Int) = b at *
  (repeat' (first
   |(apply W.qd;(first
   |(exact zW (fk))|(exact zM)|(exact zN)|(exact jAj)|(exact jAi)
   |(exact jAf)))|(apply W.ln;(apply l_st_rpt;(iterate 7 exact rfl);exact fun _=>rfl;(first | omega | (focus (simp only [List.length_map];omega)) | (focus (simp;omega)))))|(apply yA)|(apply yB)|(refine jAb ?_)|(apply yE)|(apply yG)|(apply yH)|(apply yL)
   |(refine W.cond _ rfl (fun hb=>?_) (fun hb=>?_)<;>((try simp only [hb,zK])<;>(try simp only [zL,zI] at hb)<;>(try (exfalso;omega))))))
  all_goals first
   |(exfalso;omega)|(refine ⟨k + 1,by omega,by omega,?_⟩;rw [← hs.out];exact ⟨[0],rfl,rfl,rfl,iV_eq (by omega),rfl,rfl,rfl,rfl,trivial⟩)
 ·have e : k = vs.length := by omega
  subst e
  rw [blkK_all] at *
  (repeat' (first
   |(apply W.qd;(first
   |(exact zM)|(exact zN)
   |(exact jAj)))|(apply yA)|(apply yB)|(refine jAb ?_)|(apply yE)|(apply yI)|(apply yJ)|(apply yK)|(apply yM)
   |(refine W.cond _ rfl (fun hb=>?_) (fun hb=>?_)<;>((try simp only [hb,zK])<;>(try simp only [zL,zI] at hb)<;>(try (exfalso;omega))))))
  exact ⟨.inl rfl,[0],[.osl 0 0 0 vs.length,iV 0],rfl,rfl,⟨rfl,rfl,trivial⟩,AVle.of_eq rfl,rfl⟩
theorem A_claimedB {d r n s l i : Int} {cs : List Cd} {vs : List Sv} {ts : List Tn} {us : List Ue} {rows : List SRw} (hI : In31 cs vs ts us rows) (hv : val31 d r n s l i cs vs ts us rows = false) : ACalls Tryz.prog 57 [cfgA d r n s l i,lib cs vs,tns ts,ues us,rws rows] [] (.tup [.d (.v (.slice none 0 0)),iV 1]) []:=by
 refine acalls_of_body Tryz.func57 rfl (zU rfl) ?_
 have f1:=A_valid24 (d:=d) (r:=r) (n:=n) (s:=s) (l:=l) (i:=i) (rows:=rows) (by have:=hI.rl;omega) hI.ru
 have f2:=A_valid30 hI.L
 have f3:=A_avalid (cs:=cs) hI.L.vl hI.t hI.u
 unfold val31 at hv
 generalize validR d r n s l i rows = b1 at *
 generalize validB cs vs = b2 at *
 generalize tenB vs.length ts us = b3 at *
 cases b1 with
 | false =>
   (repeat' (first
    |(apply W.qd;(first
    |(exact zW (f1))|(exact zM)|(exact zN)|(exact jAn)|(exact jBe)
    |(apply (yEb (u:=.d _));exact rfl;exact rfl)))|(apply W.ed;(exact jAa))|(refine W.gOff _ _ rfl rfl (by intro h;cases h) ?_)|(apply yA)|(apply yB)|(refine jAb ?_)|(apply yE)|(apply yJ)|(apply yP)
    |(refine jAv ?_)))
   all_goals exact Ends.two rfl rfl rfl
 | true =>
   cases b2 with
   | false =>
     (repeat' (first
      |(apply yFb;exact rfl;exact rfl)
      |(apply W.qd;(first
      |(exact zW (f1))|(exact zW (f2))|(exact zM)|(exact zN)|(exact jAn)|(exact jBe)|(apply (yEb (u:=.d _));exact rfl;exact rfl)
      |(apply (yDb (u:=.d _));exact rfl;exact rfl)))|(apply W.ed;(exact jAa))|(refine W.gOff _ _ rfl rfl (by intro h;cases h) ?_)|(apply yA)|(apply yB)|(refine jAb ?_)|(apply yE)|(apply yJ)|(apply yP)
      |(refine jAv ?_)))
     all_goals exact Ends.two rfl rfl rfl
   | true =>
     obtain rfl : b3 = false:=by simpa using hv
     (repeat' (first
      |(apply yFb;exact rfl;exact rfl)
      |(apply W.qd;(first
      |(exact zW (f1))|(exact zW (f2))|(exact zW (f3))|(exact zM)|(exact zN)|(exact jAn)|(exact jBe)
      |(apply (yDb (u:=.d _));exact rfl;exact rfl)))|(apply W.ed;(exact jAa))|(apply yA)|(apply yB)|(refine jAb ?_)|(apply yE)|(apply yJ)|(apply yP)
      |(refine jAv ?_)))
     all_goals exact Ends.two rfl rfl rfl
end
section
theorem list8I {α : Type} {l : List α} (h : l.length = 8) : ∃ a0 a1 a2 a3 a4 a5 a6 a7,l = [a0,a1,a2,a3,a4,a5,a6,a7]:=by
 match l,h with
 | [a0,a1,a2,a3,a4,a5,a6,a7],_=>exact ⟨_,_,_,_,_,_,_,_,rfl⟩
theorem jobs_pre {vs : List Sv} {b : Nat → Int} {k : Nat} : ∀ {n : Nat}, k ≤ n → ∃ t, jobsN vs b n = jobsN vs b k ++ t
 | 0,h=>⟨[],by rw [show k = 0 by omega];simp⟩
 | n + 1,h=>by
   by_cases e : k = n + 1
   ·subst e;exact ⟨[],by simp⟩
   ·obtain ⟨t, ht⟩ := jobs_pre (vs := vs) (b := b) (k := k) (n := n) (by omega)
    exact ⟨t ++ (codesV (vs.getD n sv0)).map fun c=>(c,b n),by rw [jobsN,ht,List.append_assoc]⟩
def BdF (F : Cd → Int → Int × Int) : Prop:=∀ c x,0 ≤ (F c x).1 ∧ (F c x).1 ≤ 2199023255554
theorem codN_bd (d r n s l i : Int) : BdF (codN d r n s l i):=fun c x=>by
 have hg:=grpI_nn (d:=d) (r:=r) (n:=n) (s:=s) (l:=l) (i:=i) (w:=c.2.2.1 + (c.2.2.2.1.length : Int))
 unfold codN
 split
 ·decide
 ·split
  ·decide
  ·split
   ·decide
   ·rename_i h1 h2 h3
    have h4 : 0 ≤ x ∧ x ≤ 1099511627776:=by
     refine ⟨Classical.byContradiction fun h=>h1 (.inr (.inr (.inl (by omega)))),Classical.byContradiction fun h=>h1 (.inr (.inr (.inr (by omega))))⟩
    have h5:=limN_le (D:=c.2.2.1) h4.1 h4.2
    have h6:=limN_nn c.2.2.1 x
    have h7:=upI_nn (a:=limN c.2.2.1 x) (c:=grpI d r n s l i (c.2.2.1 + (c.2.2.2.1.length : Int))) (by omega) h6
    have h8:=upI_le (a:=limN c.2.2.1 x) (b:=grpI d r n s l i (c.2.2.1 + (c.2.2.2.1.length : Int))) h6 (by omega)
    dsimp only
    omega
theorem run_bd {F : Cd → Int → Int × Int} {cs : List Cd} (hF : BdF F) : ∀ (l : List (Int × Int)) (a : List Int × Int), (∀ c, 0 ≤ a.1.getD c 0 ∧ a.1.getD c 0 ≤ 2199023255554) → ∀ c, 0 ≤ (l.foldl (stepJ F cs) a).1.getD c 0 ∧ (l.foldl (stepJ F cs) a).1.getD c 0 ≤ 2199023255554
 | [],a,h=>h
 | j :: l,a,h=>by
   rw [List.foldl_cons]
   refine run_bd hF l _ fun c=>?_
   unfold stepJ
   split
   ·exact h c
   ·dsimp only
    rw [getD_setI]
    split
    ·exact hF _ _
    ·exact h c
theorem runJ_bd {F : Cd → Int → Int × Int} {cs : List Cd} (hF : BdF F) (l : List (Int × Int)) (c : Nat) : 0 ≤ (runJ F cs l).1.getD c 0 ∧ (runJ F cs l).1.getD c 0 ≤ 2199023255554:=run_bd hF l _ (fun c=>by
 rw [List.getD_eq_getElem?_getD,List.getElem?_replicate]
 split<;>simp) c
theorem runJ_l8 {F : Cd → Int → Int × Int} {cs : List Cd} (l : List (Int × Int)) : (runJ F cs l).1.length = 8:=runJ_len l _
theorem sumH_bd {L : List Int} {held : Nat → Int} (hL : ∀ c, 0 ≤ L.getD c 0 ∧ L.getD c 0 ≤ 2199023255554) (hh : ∀ c, 0 ≤ held c ∧ held c ≤ 1000000) : ∀ n, 0 ≤ sumH L held n ∧ sumH L held n ≤ (n : Int) * 2199023255554
 | 0=>by unfold sumH;omega
 | n + 1=>by
   have h1:=sumH_bd hL hh n
   have h2:=hL n
   have h3:=hh n
   unfold sumH mxI
   split<;>omega
theorem cls_codes {cs : List Cd} {vs : List Sv} (hV : validB cs vs = true) {k : Nat} (hk : k < vs.length) : (∃ m : Nat,vs[k].2.1 = (m : Int) ∧ m < cs.length) ∧ (vs[k].2.2.1 = -1 ∨ ∃ m : Nat,vs[k].2.2.1 = (m : Int) ∧ m < cs.length):=by
 have h:=(valid_iff.1 hV).v k hk
 refine ⟨?_,?_⟩
 ·have := keeps_has h.kp
  exact ⟨vs[k].2.1.toNat,by omega,by omega⟩
 ·rcases h.kn with h1 | h1
  ·exact .inl h1
  ·have := keeps_has h1
   exact .inr ⟨vs[k].2.2.1.toNat,by omega,by omega⟩
theorem runJ_step {F : Cd → Int → Int × Int} {cs : List Cd} {l : List (Int × Int)} {m : Nat} {x : Int} (h : (runJ F cs l).2 = 0) (hm : m < cs.length) : runJ F cs (l ++ [((m : Int),x)]) = ((runJ F cs l).1.set m (F cs[m] x).1,(F cs[m] x).2):=by
 rw [runJ_app]
 unfold stepJ
 rw [if_neg (by simp [h])]
 dsimp only
 rw [Int.toNat_natCast,getDc hm]
abbrev iL (l : List Int) : List AV:=[iV (l.getD 0 0),iV (l.getD 1 0),iV (l.getD 2 0),iV (l.getD 3 0),iV (l.getD 4 0),iV (l.getD 5 0),iV (l.getD 6 0),iV (l.getD 7 0)]
theorem iL_set {l : List Int} {m : Nat} {x : Int} (h : l.length = 8) (hm : m < 8) : (iL l).set (0 + m * 1) (iV x) = iL (l.set m x):=by
 obtain ⟨a0,a1,a2,a3,a4,a5,a6,a7,rfl⟩:=list8I h
 match m,hm with
 | 0,_=>rfl
 | 1,_=>rfl
 | 2,_=>rfl
 | 3,_=>rfl
 | 4,_=>rfl
 | 5,_=>rfl
 | 6,_=>rfl
 | 7,_=>rfl
theorem iL_get {l : List Int} {j : Nat} (hj : j < 8) : (iL l)[j]? = some (iV (l.getD j 0)):=by
 match j,hj with
 | 0,_=>rfl
 | 1,_=>rfl
 | 2,_=>rfl
 | 3,_=>rfl
 | 4,_=>rfl
 | 5,_=>rfl
 | 6,_=>rfl
 | 7,_=>rfl
def selN {α : Type} (j : Nat) (a b c : α) : α:=match j with | 0=>a | 1=>b | _=>c
attribute [local irreducible] Quiet Eff OpOk AWPG ACont ABlock ACalls AGoto
theorem A_needs {d r n s l i : Int} {cs : List Cd} {vs : List Sv} {bl : List Int} (hL : LibIn cs vs) (hV : validB cs vs = true) (hb : bl.length = vs.length) :
 ACalls Tryz.prog 110 [cfgA d r n s l i,lib cs vs,ints bl] [] (.tup [.agg (iL (runJ (codN d r n s l i) cs (jobsN vs (fun k=>bl.getD k 0) vs.length)).1),iV (runJ (codN d r n s l i) cs (jobsN vs (fun k=>bl.getD k 0) vs.length)).2]) []:=by
 have hcode:=fun (m : Nat) (hm : m < cs.length) (x : Int)=>A_acode (d:=d) (r:=r) (n:=n) (s:=s) (l:=l) (i:=i) (x:=x) (hL.cn _ (List.getElem_mem hm)) (hL.cp _ (List.getElem_mem hm))
 generalize codN d r n s l i = F at *
 have hbk : ∀ k (hk : k < vs.length),bl.getD k 0 = bl[k]'(by omega):=fun k hk=>by rw [List.getD_eq_getElem?_getD,List.getElem?_eq_getElem (by omega)];rfl
 have hcc:=fun k (hk : k < vs.length)=>cls_codes hV hk
 obtain ⟨hc8,hv8⟩:=valid_vl hV
 have hmv : (vs.map svD).length = vs.length:=List.length_map _
 have hmc : (cs.map cdD).length = cs.length:=List.length_map _
 have hmb : (bl.map iD).length = bl.length:=List.length_map _
 have hjs : ∀ k (hk : k < vs.length),jobsN vs (fun k=>bl.getD k 0) (k + 1) = jobsN vs (fun k=>bl.getD k 0) k ++ (codesV vs[k]).map fun c=>(c,bl[k]'(by omega)):=fun k hk=>by
  rw [jobsN,getDv hk,hbk k hk]
 have hpre:=fun k (hk : k ≤ vs.length)=>jobs_pre (vs:=vs) (b:=fun k=>bl.getD k 0) (k:=k) hk
 generalize hJ : jobsN vs (fun k=>bl.getD k 0) = J at *
 have hJ0 : J 0 = []:=by rw [← hJ];rfl
 clear hJ hbk
 refine acalls_of_body Tryz.func110 rfl (zU rfl) ?_
 (repeat' (first
  |(apply W.qd;(first
  |(exact zM)|(exact zN)|(exact jAm)|(exact jAg)
  |(exact jAt)))
  |(apply W.ed;(first
  |(exact jAa)
  |(exact jAp)))|(apply yA)|(apply yB)|(apply (W.regionS 2);exact rfl;kernel_rfl)|(apply yE)|(apply yG)|(apply AWP.label)
  |(apply AWP.scope)))
 refine AWP.loopW (α:=Nat) (fun k=>k ≤ vs.length ∧ (runJ F cs (J k)).2 = 0) (fun k=>⟨[(15,iV k),(14,iV vs.length),(13,svs vs),(6,.opt 2 0),(2,ints bl),(3,.opt 0 0),(4,.opt 1 0),(7,iV 0)],[.box [iV d,iV r,iV n,iV s,iV l,iV i],.box [cds cs,svs vs],.box (iL (runJ F cs (J k)).1)]⟩) (fun k=>vs.length - k) 0 ⟨Nat.zero_le _,by rw [hJ0];rfl⟩ ?wkA fun k hk=>?_
 case wkA =>
  rw [hJ0]
  exact ⟨[0,1,2],rfl,rfl,rfl,rfl,iV_eq (by rw [hmv]),rfl,rfl,rfl,rfl,rfl,rfl,trivial⟩
 obtain ⟨hk1,hk2⟩:=hk
 by_cases hkl : k < vs.length
 ·obtain ⟨⟨m0, hm0, hm0l⟩, hn⟩ := hcc k hkl
  have hjk:=hjs k hkl
  have hp1:=hpre (k + 1) hkl
  clear hcc hjs
  obtain ⟨X,hX⟩ : ∃ X,bl[k]'(by omega) = X:=⟨_,rfl⟩
  have hc0:=hcode m0 hm0l X
  have hrun:=runJ_step (x:=X) hk2 hm0l
  have h8:=runJ_l8 (F:=F) (cs:=cs) (J k)
  have hbx : ∀ y,(bl[k]'(by omega) = y) → X = y:=fun y h=>hX.symm.trans h
  rw [hX] at hjk
  rcases hn with hn | ⟨m1,hm1,hm1l⟩
  ·-- the class has one code
   have hcv : codesV vs[k] = [(m0 : Int)]:=by unfold codesV;rw [hm0,if_neg (by omega),if_pos hn]
   rw [hcv] at hjk
   have hjk : J (k + 1) = J k ++ [((m0 : Int),X)]:=hjk
   rw [← hjk] at hrun
   generalize (runJ F cs (J k)).1 = L at *
   have hset:=iL_set (x:=(F cs[m0] X).1) h8 (show m0 < 8 by omega)
   clear hcode
   (repeat' (first
    |(apply W.qd;(first
    |(exact zM)|(exact zN)|(exact jAm)|(exact jAg)|(exact jAj)|(exact jAt)|(exact jAk)|(exact jAl)
    |(exact jA)))|(apply W.ed;(exact jAp))|(apply W.ln;(exact jAh))|(apply yA)|(apply yB)|(apply (W.regionS 5);exact rfl;kernel_rfl)|(apply yE)|(apply yG)|(apply yH)
    |(refine W.cond _ rfl (fun hb=>?_) (fun hb=>?_)<;>((try simp only [hb,zK])<;>(try simp only [zL,zI] at hb)<;>(try (exfalso;omega))))))
   refine AWP.loopW (α:=Nat) (fun j=>j ≤ 1 ∧ (j = 1 → (F cs[m0] X).2 = 0)) (fun j=>⟨[(26,iV j),(25,iV 2),(24,.d (.sl 1 [[.v (.int .i64 (m0 : Int))],[.v (.int .i64 (-1))]])),(8,iV k),(15,iV k),(14,iV vs.length),(13,svs vs),(6,.opt 2 0),(2,ints bl),(3,.opt 0 0),(4,.opt 1 0),(7,iV 0)],[.box [iV d,iV r,iV n,iV s,iV l,iV i],.box [cds cs,svs vs],.box (iL (selN j L (L.set m0 (F cs[m0] X).1) [])),.box ((svD vs[k]).map .d)]⟩) (fun j=>2 - j) 0 ⟨by omega,fun h=>by omega⟩ ?wkB fun j hj=>?_
   case wkB =>
    rw [← hm0,← hn]
    exact ⟨[0,1,2,3],rfl,rfl,rfl,by (repeat (first | exact trivial | refine ⟨rfl,?_⟩))⟩
   by_cases hj0 : j = 0
   ·subst hj0
    show AWPG _ _ _ _ _ _ ⟨_,[_,_,.box (iL L),_]⟩
    by_cases he : (F cs[m0] X).2 = 0
    ·generalize F cs[m0] X = fx at *
     obtain ⟨x,y⟩:=fx
     obtain rfl : y = 0:=he
     rw [← hX] at hc0
     (repeat' (first
      |(apply W.qd;(first
      |(exact zW (hc0))
      |((apply (q_ix_ar (k:=1));(iterate 5 exact rfl);omega))|(exact zM)|(exact zN)|(exact jAm)|(exact jAg)|(exact jAn)|(exact jAj)|(exact jAu)|(exact jBb)|(exact jAi)|(exact yAb rfl rfl)|(exact jAc)|(exact jAk)|(apply q_ld_fpt;exact rfl;exact rfl;(first | assumption | exact rfl);exact rfl)
      |(exact jA)))|(apply W.en;((apply e_stS;(iterate 4 exact rfl);exact congrArg (fun l=>[_,_,Ent.box l,_]) hset;(iterate 3 exact rfl);(show _ < 8;omega))))|(apply yA)|(apply yB)|(refine jAb ?_)|(refine jAr ?_)|(apply yE)|(refine jAx ?_)|(apply yG)|(apply yH)|(apply yL)|(refine jAv ?_)
      |(refine jAy ?_)))
     all_goals first
      |(exfalso;omega)
      |exact ⟨1,⟨by omega,fun _=>rfl⟩,by omega,⟨[0,1,2,3],rfl,rfl,rfl,by (repeat (first | exact trivial | refine ⟨rfl,?_⟩))⟩⟩
    ·obtain ⟨t, ht⟩ := hp1
     have hR : runJ F cs (J vs.length) = (L.set m0 (F cs[m0] X).1,(F cs[m0] X).2):=by
      rw [ht,runJ_err (by rw [hrun];exact he),hrun]
     rw [hR]
     generalize F cs[m0] X = fx at *
     obtain ⟨x,y⟩:=fx
     have he : y ≠ 0:=he
     rw [← hX] at hc0
     (repeat' (first
      |(apply W.qd;(first
      |(exact zW (hc0))
      |((apply (q_ix_ar (k:=1));(iterate 5 exact rfl);omega))|(exact zM)|(exact zN)|(exact jAm)|(exact jAg)|(exact jAn)|(exact jAj)|(exact jAu)|(exact jBb)|(exact yAb rfl rfl)|(exact jAc)|(exact jAk)|(apply q_ld_fpt;exact rfl;exact rfl;(first | assumption | exact rfl);exact rfl)
      |(exact jA)))|(apply W.ln;(exact jAh))|(apply W.en;((apply e_stS;(iterate 4 exact rfl);exact congrArg (fun l=>[_,_,Ent.box l,_]) hset;(iterate 3 exact rfl);(show _ < 8;omega))))|(apply yA)|(apply yB)|(refine jAb ?_)|(refine jAr ?_)|(apply yE)|(refine jAx ?_)|(apply yG)|(apply yH)|(apply yJ)|(apply AGoto_ret)|(apply yP)|(apply yN)|(refine jAv ?_)|(refine jAy ?_)
      |(refine W.cond _ rfl (fun hb=>?_) (fun hb=>?_)<;>((try simp only [hb,zK])<;>(try simp only [zL,zI] at hb)<;>(try (exfalso;omega))))))
     all_goals first
      |(exfalso;omega)
      |exact Ends.cell2 rfl rfl rfl rfl rfl
   ·obtain rfl : j = 1 := by omega
    show AWPG _ _ _ _ _ _ ⟨_,[_,_,.box (iL (L.set m0 (F cs[m0] X).1)),_]⟩
    have hy:=hj.2 rfl
    have hnx : (runJ F cs (J (k + 1))).2 = 0:=by rw [hrun];exact hy
    have hL8 : (runJ F cs (J (k + 1))).1 = L.set m0 (F cs[m0] X).1:=by rw [hrun]
    generalize L.set m0 (F cs[m0] X).1 = L1 at *
    (repeat' (first
     |(apply W.qd;(first
     |(exact zM)|(exact zN)|(exact jAj)|(exact jAu)|(exact jAi)|(apply q_ld_fpt;exact rfl;exact rfl;(first | assumption | exact rfl);exact rfl)
     |(exact jA)))|(apply yA)|(apply yB)|(refine jAb ?_)|(apply yE)|(apply yG)|(apply yH)|(apply yI)|(apply yK)|(apply yM)|(apply yO;exact rfl)
     |(refine jAv ?_)))
    all_goals first
     |(exfalso;omega)|(refine ⟨k + 1,⟨by omega,hnx⟩,by omega,?_⟩;(try dsimp only);rw [hL8];exact ⟨[0,1,2],rfl,rfl,rfl,iV_eq (by omega),rfl,rfl,rfl,rfl,rfl,rfl,rfl,trivial⟩)
  ·-- the class has two codes
   have hcv : codesV vs[k] = [(m0 : Int),(m1 : Int)]:=by unfold codesV;rw [hm0,if_neg (by omega),if_neg (by omega),hm1]
   rw [hcv] at hjk
   have hjk : J (k + 1) = (J k ++ [((m0 : Int),X)]) ++ [((m1 : Int),X)]:=by rw [hjk,List.append_assoc];rfl
   have hc1:=hcode m1 hm1l X
   by_cases he : (F cs[m0] X).2 = 0
   case neg =>
    obtain ⟨t,ht⟩:=hp1
    have hR : runJ F cs (J vs.length) = ((runJ F cs (J k)).1.set m0 (F cs[m0] X).1,(F cs[m0] X).2):=by
     rw [ht,hjk,List.append_assoc,runJ_err (by rw [hrun];exact he),hrun]
    rw [hR]
    generalize (runJ F cs (J k)).1 = L at *
    have hset:=iL_set (x:=(F cs[m0] X).1) h8 (show m0 < 8 by omega)
    clear hcode hjk hrun ht
    (repeat' (first
     |(apply W.qd;(first
     |(exact zM)|(exact zN)|(exact jAm)|(exact jAg)|(exact jAj)|(exact jAt)|(exact jAk)|(exact jAl)
     |(exact jA)))|(apply W.ed;(exact jAp))|(apply W.ln;(exact jAh))|(apply yA)|(apply yB)|(apply (W.regionS 5);exact rfl;kernel_rfl)|(apply yE)|(apply yG)|(apply yH)
     |(refine W.cond _ rfl (fun hb=>?_) (fun hb=>?_)<;>((try simp only [hb,zK])<;>(try simp only [zL,zI] at hb)<;>(try (exfalso;omega))))))
    refine AWP.loopW (α:=Nat) (fun j=>j ≤ 0) (fun j=>⟨[(26,iV j),(25,iV 2),(24,.d (.sl 1 [[.v (.int .i64 (m0 : Int))],[.v (.int .i64 (m1 : Int))]])),(8,iV k),(15,iV k),(14,iV vs.length),(13,svs vs),(6,.opt 2 0),(2,ints bl),(3,.opt 0 0),(4,.opt 1 0),(7,iV 0)],[.box [iV d,iV r,iV n,iV s,iV l,iV i],.box [cds cs,svs vs],.box (iL L),.box ((svD vs[k]).map .d)]⟩) (fun j=>2 - j) 0 (Nat.le_refl _) ?wkC fun j hj=>?_
    case wkC =>
     rw [← hm0,← hm1]
     exact ⟨[0,1,2,3],rfl,rfl,rfl,by (repeat (first | exact trivial | refine ⟨rfl,?_⟩))⟩
    obtain rfl : j = 0:=by omega
    generalize F cs[m0] X = fx at *
    obtain ⟨x,y⟩:=fx
    have he : y ≠ 0:=he
    rw [← hX] at hc0
    (repeat' (first
     |(apply W.qd;(first
     |(exact zW (hc0))
     |((apply (q_ix_ar (k:=1));(iterate 5 exact rfl);omega))|(exact zM)|(exact zN)|(exact jAm)|(exact jAg)|(exact jAn)|(exact jAj)|(exact jAu)|(exact jBb)|(exact yAb rfl rfl)|(exact jAc)|(exact jAk)|(apply q_ld_fpt;exact rfl;exact rfl;(first | assumption | exact rfl);exact rfl)
     |(exact jA)))|(apply W.ln;(exact jAh))|(apply W.en;((apply e_stS;(iterate 4 exact rfl);exact congrArg (fun l=>[_,_,Ent.box l,_]) hset;(iterate 3 exact rfl);(show _ < 8;omega))))|(apply yA)|(apply yB)|(refine jAb ?_)|(refine jAr ?_)|(apply yE)|(refine jAx ?_)|(apply yG)|(apply yH)|(apply yJ)|(apply AGoto_ret)|(apply yP)|(apply yN)|(refine jAv ?_)|(refine jAy ?_)
     |(refine W.cond _ rfl (fun hb=>?_) (fun hb=>?_)<;>((try simp only [hb,zK])<;>(try simp only [zL,zI] at hb)<;>(try (exfalso;omega))))))
    all_goals first
     |(exfalso;omega)
     |exact Ends.cell2 rfl rfl rfl rfl rfl
   have hrun1:=runJ_step (l:=J k ++ [((m0 : Int),X)]) (x:=X) (by rw [hrun];exact he) hm1l
   rw [← hjk,hrun] at hrun1
   generalize (runJ F cs (J k)).1 = L at *
   have hset:=iL_set (x:=(F cs[m0] X).1) h8 (show m0 < 8 by omega)
   have hset1:=iL_set (x:=(F cs[m1] X).1) (l:=L.set m0 (F cs[m0] X).1) (by rw [List.length_set];exact h8) (show m1 < 8 by omega)
   clear hcode hjk
   (repeat' (first
    |(apply W.qd;(first
    |(exact zM)|(exact zN)|(exact jAm)|(exact jAg)|(exact jAj)|(exact jAt)|(exact jAk)|(exact jAl)
    |(exact jA)))|(apply W.ed;(exact jAp))|(apply W.ln;(exact jAh))|(apply yA)|(apply yB)|(apply (W.regionS 5);exact rfl;kernel_rfl)|(apply yE)|(apply yG)|(apply yH)
    |(refine W.cond _ rfl (fun hb=>?_) (fun hb=>?_)<;>((try simp only [hb,zK])<;>(try simp only [zL,zI] at hb)<;>(try (exfalso;omega))))))
   refine AWP.loopW (α:=Nat) (fun j=>j ≤ 2 ∧ (j = 2 → (F cs[m1] X).2 = 0)) (fun j=>⟨[(26,iV j),(25,iV 2),(24,.d (.sl 1 [[.v (.int .i64 (m0 : Int))],[.v (.int .i64 (m1 : Int))]])),(8,iV k),(15,iV k),(14,iV vs.length),(13,svs vs),(6,.opt 2 0),(2,ints bl),(3,.opt 0 0),(4,.opt 1 0),(7,iV 0)],[.box [iV d,iV r,iV n,iV s,iV l,iV i],.box [cds cs,svs vs],.box (iL (selN j L (L.set m0 (F cs[m0] X).1) ((L.set m0 (F cs[m0] X).1).set m1 (F cs[m1] X).1))),.box ((svD vs[k]).map .d)]⟩) (fun j=>2 - j) 0 ⟨by omega,fun h=>by omega⟩ ?wkB fun j hj=>?_
   case wkB =>
    rw [← hm0,← hm1]
    exact ⟨[0,1,2,3],rfl,rfl,rfl,by (repeat (first | exact trivial | refine ⟨rfl,?_⟩))⟩
   by_cases hj0 : j = 0
   ·subst hj0
    show AWPG _ _ _ _ _ _ ⟨_,[_,_,.box (iL L),_]⟩
    generalize F cs[m0] X = fx at *
    obtain ⟨x,y⟩:=fx
    obtain rfl : y = 0:=he
    rw [← hX] at hc0
    (repeat' (first
     |(apply W.qd;(first
     |(exact zW (hc0))
     |((apply (q_ix_ar (k:=1));(iterate 5 exact rfl);omega))|(exact zM)|(exact zN)|(exact jAm)|(exact jAg)|(exact jAn)|(exact jAj)|(exact jAu)|(exact jBb)|(exact jAi)|(exact yAb rfl rfl)|(exact jAc)|(exact jAk)|(apply q_ld_fpt;exact rfl;exact rfl;(first | assumption | exact rfl);exact rfl)
     |(exact jA)))|(apply W.en;((apply e_stS;(iterate 4 exact rfl);exact congrArg (fun l=>[_,_,Ent.box l,_]) hset;(iterate 3 exact rfl);(show _ < 8;omega))))|(apply yA)|(apply yB)|(refine jAb ?_)|(refine jAr ?_)|(apply yE)|(refine jAx ?_)|(apply yG)|(apply yH)|(apply yL)|(refine jAv ?_)
     |(refine jAy ?_)))
    all_goals first
     |(exfalso;omega)
     |exact ⟨1,⟨by omega,fun h=>by omega⟩,by omega,⟨[0,1,2,3],rfl,rfl,rfl,by (repeat (first | exact trivial | refine ⟨rfl,?_⟩))⟩⟩
   ·by_cases hj1 : j = 1
    ·subst hj1
     show AWPG _ _ _ _ _ _ ⟨_,[_,_,.box (iL (L.set m0 (F cs[m0] X).1)),_]⟩
     by_cases he1 : (F cs[m1] X).2 = 0
     ·generalize L.set m0 (F cs[m0] X).1 = L1 at *
      generalize F cs[m1] X = fx at *
      obtain ⟨x,y⟩:=fx
      obtain rfl : y = 0:=he1
      rw [← hX] at hc1
      (repeat' (first
       |(apply W.qd;(first
       |(exact zW (hc1))
       |((apply (q_ix_ar (k:=1));(iterate 5 exact rfl);omega))|(exact zM)|(exact zN)|(exact jAm)|(exact jAg)|(exact jAn)|(exact jAj)|(exact jAu)|(exact jBb)|(exact jAi)|(exact yAb rfl rfl)|(exact jAc)|(exact jAk)|(apply q_ld_fpt;exact rfl;exact rfl;(first | assumption | exact rfl);exact rfl)
       |(exact jA)))|(apply W.en;((apply e_stS;(iterate 4 exact rfl);exact congrArg (fun l=>[_,_,Ent.box l,_]) hset1;(iterate 3 exact rfl);(show _ < 8;omega))))|(apply yA)|(apply yB)|(refine jAb ?_)|(refine jAr ?_)|(apply yE)|(refine jAx ?_)|(apply yG)|(apply yH)|(apply yL)|(refine jAv ?_)
       |(refine jAy ?_)))
      all_goals first
       |(exfalso;omega)
       |exact ⟨2,⟨by omega,fun _=>rfl⟩,by omega,⟨[0,1,2,3],rfl,rfl,rfl,by (repeat (first | exact trivial | refine ⟨rfl,?_⟩))⟩⟩
     ·obtain ⟨t, ht⟩ := hp1
      have hR : runJ F cs (J vs.length) = ((L.set m0 (F cs[m0] X).1).set m1 (F cs[m1] X).1,(F cs[m1] X).2):=by
       rw [ht,runJ_err (by rw [hrun1];exact he1),hrun1]
      rw [hR]
      generalize L.set m0 (F cs[m0] X).1 = L1 at *
      generalize F cs[m1] X = fx at *
      obtain ⟨x,y⟩:=fx
      have he1 : y ≠ 0:=he1
      rw [← hX] at hc1
      (repeat' (first
       |(apply W.qd;(first
       |(exact zW (hc1))
       |((apply (q_ix_ar (k:=1));(iterate 5 exact rfl);omega))|(exact zM)|(exact zN)|(exact jAm)|(exact jAg)|(exact jAn)|(exact jAj)|(exact jAu)|(exact jBb)|(exact yAb rfl rfl)|(exact jAc)|(exact jAk)|(apply q_ld_fpt;exact rfl;exact rfl;(first | assumption | exact rfl);exact rfl)
       |(exact jA)))|(apply W.ln;(exact jAh))|(apply W.en;((apply e_stS;(iterate 4 exact rfl);exact congrArg (fun l=>[_,_,Ent.box l,_]) hset1;(iterate 3 exact rfl);(show _ < 8;omega))))|(apply yA)|(apply yB)|(refine jAb ?_)|(refine jAr ?_)|(apply yE)|(refine jAx ?_)|(apply yG)|(apply yH)|(apply yJ)|(apply AGoto_ret)|(apply yP)|(apply yN)|(refine jAv ?_)|(refine jAy ?_)
       |(refine W.cond _ rfl (fun hb=>?_) (fun hb=>?_)<;>((try simp only [hb,zK])<;>(try simp only [zL,zI] at hb)<;>(try (exfalso;omega))))))
      all_goals first
       |(exfalso;omega)
       |exact Ends.cell2 rfl rfl rfl rfl rfl
    ·obtain rfl : j = 2 := by omega
     show AWPG _ _ _ _ _ _ ⟨_,[_,_,.box (iL ((L.set m0 (F cs[m0] X).1).set m1 (F cs[m1] X).1)),_]⟩
     have hy:=hj.2 rfl
     have hnx : (runJ F cs (J (k + 1))).2 = 0:=by rw [hrun1];exact hy
     have hL8 : (runJ F cs (J (k + 1))).1 = (L.set m0 (F cs[m0] X).1).set m1 (F cs[m1] X).1:=by rw [hrun1]
     generalize (L.set m0 (F cs[m0] X).1).set m1 (F cs[m1] X).1 = L2 at *
     (repeat' (first
      |(apply W.qd;(first
      |(exact zM)|(exact jAj)
      |(exact jAi)))|(apply yA)|(apply yB)|(refine jAb ?_)|(apply yE)|(apply yI)|(apply yK)|(apply yL)|(apply yM)
      |(refine jAy ?_)))
     all_goals first
      |(exfalso;omega)|(refine ⟨k + 1,⟨by omega,hnx⟩,by omega,?_⟩;(try dsimp only);rw [hL8];exact ⟨[0,1,2],rfl,rfl,rfl,iV_eq (by omega),rfl,rfl,rfl,rfl,rfl,rfl,rfl,trivial⟩)
 ·obtain rfl : k = vs.length := by omega
  rw [hk2]
  generalize (runJ F cs (J vs.length)).1 = L at *
  (repeat' (first
   |(apply W.qd;(first
   |(exact zN)|(exact jAn)
   |(exact jAj)))|(apply W.ln;(exact jAh))|(apply yA)|(apply yB)|(refine jAb ?_)|(apply yE)|(apply yI)|(apply yJ)|(apply yK)|(apply AGoto_ret)|(apply yM)
   |(refine W.cond _ rfl (fun hb=>?_) (fun hb=>?_)<;>((try simp only [hb,zK])<;>(try simp only [zL,zI] at hb)<;>(try (exfalso;omega))))))
  all_goals first | (exfalso;omega) | exact Ends.cell2 rfl rfl rfl rfl rfl
def heldF (rows : List SRw) (c : Nat) : Int:=(heldN rows (c : Int) : Nat)
theorem heldF_bd {rows : List SRw} (hl : rows.length ≤ 64) (c : Nat) : 0 ≤ heldF rows c ∧ heldF rows c ≤ 1000000:=by
 have:=heldT_le rows (c : Int) rows.length
 unfold heldF heldN
 omega
theorem A_total {d r n s l i : Int} {cs : List Cd} {vs : List Sv} {bl : List Int} {rows : List SRw} (hL : LibIn cs vs) (hV : validB cs vs = true) (hb : bl.length = vs.length) (hr : rows.length ≤ 64) :
 ACalls Tryz.prog 60 [cfgA d r n s l i,lib cs vs,ints bl,rws rows] [] (.tup [iV (totN (codN d r n s l i) cs vs (heldF rows) (fun k=>bl.getD k 0)).1,iV (totN (codN d r n s l i) cs vs (heldF rows) (fun k=>bl.getD k 0)).2]) []:=by
 have hnd:=A_needs (d:=d) (r:=r) (n:=n) (s:=s) (l:=l) (i:=i) hL hV hb
 have hbd:=runJ_bd (cs:=cs) (codN_bd d r n s l i) (jobsN vs (fun k=>bl.getD k 0) vs.length)
 have h8:=runJ_l8 (F:=codN d r n s l i) (cs:=cs) (jobsN vs (fun k=>bl.getD k 0) vs.length)
 have hhe:=fun c : Int=>A_held (rows:=rows) (c:=c) (by omega)
 have hhb:=heldF_bd hr
 unfold totN
 generalize runJ (codN d r n s l i) cs (jobsN vs (fun k=>bl.getD k 0) vs.length) = R at *
 obtain ⟨L,e⟩:=R
 dsimp only at *
 refine acalls_of_body Tryz.func60 rfl (zU rfl) ?_
 by_cases he : e = 0
 case neg =>
  rw [if_pos he]
  (repeat' (first
   |(apply W.qd;(first
   |(exact zW (hnd))|(exact zM)|(exact zN)|(exact jAn)|(exact jBb)
   |(exact yAb rfl rfl)))
   |(apply W.ed;(first
   |(exact jAa)
   |(exact jAp)))|(apply W.ln;(exact jAh))|(apply yA)|(apply yB)|(refine jAb ?_)|(apply yE)|(apply yJ)|(apply yP)
   |(refine W.cond _ rfl (fun hb=>?_) (fun hb=>?_)<;>((try simp only [hb,zK])<;>(try simp only [zL,zI] at hb)<;>(try (exfalso;omega))))))
  all_goals first | (exfalso;omega) | exact Ends.two rfl rfl rfl
 rw [if_neg (by simp [he])]
 subst he
 have hsb:=sumH_bd hbd hhb
 have hst : ∀ j,sumH L (heldF rows) (j + 1) = sumH L (heldF rows) j + mxI (L.getD j 0) (heldF rows j):=fun j=>rfl
 have hget : ∀ j,j < 8 → (iL L)[j]? = some (iV (L.getD j 0)):=fun j hj=>iL_get hj
 have hmb : ∀ j,0 ≤ mxI (L.getD j 0) (heldF rows j) ∧ mxI (L.getD j 0) (heldF rows j) ≤ 2199023255554:=fun j=>by
  have h1:=hbd j
  have h2:=hhb j
  unfold mxI
  split<;>omega
 generalize hS : sumH L (heldF rows) = S at *
 have hS0 : S 0 = 0:=by rw [← hS];rfl
 clear h8 hS
 (repeat' (first
  |(apply W.qd;(first
  |(exact zW (hnd))|(exact zM)|(exact zN)|(exact jAn)|(exact jBb)
  |(exact yAb rfl rfl)))
  |(apply W.ed;(first
  |(exact jAa)
  |(exact jAp)))|(apply W.ln;(exact jAh))|(apply yA)|(apply yB)|(apply (W.regionS 6);exact rfl;kernel_rfl)|(apply yE)|(apply yG)|(apply yH)
  |(refine jAy ?_)))
 all_goals try (exfalso;omega)
 refine AWP.loopW (α:=Nat) (fun j=>j ≤ 8) (fun j=>⟨[(26,iV j),(25,.agg (iL L)),(12,iV (S j)),(3,rws rows)],[]⟩) (fun j=>8 - j) 0 (Nat.zero_le _) ?wkA fun j hj=>?_
 case wkA =>
  rw [hS0]
  exact ⟨[],rfl,rfl,rfl,by (repeat (first | exact trivial | refine ⟨rfl,?_⟩))⟩
 by_cases hjl : j < 8
 ·have hg := hget j hjl
  have hs:=hst j
  have hm:=hmb j
  have hsj:=hsb j
  have hh:=hhe (j : Int)
  have hh : ACalls Tryz.prog 111 [rws rows,iV (j : Int)] [] (iV (heldF rows j)) []:=hh
  generalize L.getD j 0 = x at *
  generalize heldF rows j = y at *
  clear hget hst hmb hsb hhe hhb hbd
  (repeat' (first
   |(apply W.qd;(first
   |(exact zW (hh))
   |((apply q_maxM;exact rfl;exact rfl))
   |((apply q_ix_ag;(iterate 5 exact rfl);exact hg;omega))|(exact zM)|(exact zN)|(exact jAj)
   |(exact jAi)))|(apply yA)|(apply yB)|(refine jAb ?_)|(apply yE)|(apply yG)|(apply yH)|(apply yL)
   |(refine W.cond _ rfl (fun hb=>?_) (fun hb=>?_)<;>((try simp only [hb,zK])<;>(try simp only [zL,zI] at hb)<;>(try (exfalso;omega))))))
  all_goals first
   |(exfalso;omega)|(refine ⟨j + 1,by omega,by omega,?_⟩;(try dsimp only);rw [hs];exact ⟨[],rfl,rfl,rfl,iV_eq (by omega),rfl,rfl,rfl,trivial⟩)
 ·obtain rfl : j = 8 := by omega
  (repeat' (first
   |(apply W.qd;(first
   |(exact zM)|(exact zN)
   |(exact jAj)))|(apply yA)|(apply yB)|(refine jAb ?_)|(apply yE)|(apply yI)|(apply yJ)|(apply yK)|(apply yM)
   |(refine jAy ?_)))
  all_goals first | (exfalso;omega) | exact Ends.two rfl rfl rfl
def rowN31 (d r n s l i : Int) (cs : List Cd) (vs : List Sv) (ts : List Tn) (us : List Ue) (rows : List SRw) : Int × Int:=if val31 d r n s l i cs vs ts us rows = true then totN (codN d r n s l i) cs vs (heldF rows) (blkF ts us) else (0,1)
def admN (d r n s l i : Int) (cs : List Cd) (vs : List Sv) (ts : List Tn) (us : List Ue) (rows : List SRw) : Int:=if (rowN31 d r n s l i cs vs ts us rows).2 = 0 ∧ n ≤ (rowN31 d r n s l i cs vs ts us rows).1 then refI else (rowN31 d r n s l i cs vs ts us rows).2
theorem A_rows {d r n s l i : Int} {cs : List Cd} {vs : List Sv} {ts : List Tn} {us : List Ue} {rows : List SRw} (hI : In31 cs vs ts us rows) : ACalls Tryz.prog 20 [cfgA d r n s l i,lib cs vs,tns ts,ues us,rws rows] [] (.tup [iV (rowN31 d r n s l i cs vs ts us rows).1,iV (rowN31 d r n s l i cs vs ts us rows).2]) []:=by
 refine acalls_of_body Tryz.func20 rfl (zU rfl) ?_
 unfold rowN31
 cases hv : val31 d r n s l i cs vs ts us rows with
 | false =>
   have hc:=A_claimedB hI hv
   rw [if_neg (by simp)]
   (repeat' (first
    |(apply W.qd;(first
    |(exact zW (hc))|(exact zM)|(exact zN)|(exact jAn)|(exact jBb)
    |(exact yAb rfl rfl)))|(apply W.ed;(exact jAa))|(apply yA)|(apply yB)|(refine jAb ?_)|(apply yE)|(apply yJ)|(apply yP)
    |(refine jAv ?_)))
   all_goals first | (exfalso;omega) | exact Ends.two rfl rfl rfl
 | true =>
   have hc:=A_claimed hI hv
   have hV : validB cs vs = true:=by unfold val31 at hv;simp only [Bool.and_eq_true] at hv;exact hv.1.2
   have hbl : (blkL vs.length ts us).length = vs.length:=by unfold blkL;simp
   have ht:=A_total (d:=d) (r:=r) (n:=n) (s:=s) (l:=l) (i:=i) (rows:=rows) hI.L hV hbl hI.rl
   rw [tot_congr (b':=blkF ts us) (fun k hk=>blkL_get hk)] at ht
   rw [if_pos rfl]
   generalize totN (codN d r n s l i) cs vs (heldF rows) (blkF ts us) = T at *
   obtain ⟨t1,t2⟩:=T
   generalize blkL vs.length ts us = B at *
   have hBl : vs.length = (B.map iD).length:=by rw [List.length_map];exact hbl.symm
   have hfz : ∀ own own' : List Ent,own[2]? = some (.row 0 1 3 (B.map iD)) → same [2] own own' → AV.frzL own' [] [cfgA d r n s l i,lib cs vs,.osl 2 0 0 vs.length,rws rows] = [cfgA d r n s l i,lib cs vs,ints B,rws rows]:=fun own own' h1 h2 =>
    congrArg (fun z=>[cfgA d r n s l i,lib cs vs,z,rws rows]) (frz_rowJ ((h2 2 (by simp)).trans h1) rfl hBl)
   (repeat' (first
    |(apply W.qd;(first
    |((apply (q_callF (js:=[2]) ht);exact rfl;exact fun own' hh=>hfz _ own' rfl hh;exact rfl;kernel_rfl))|(exact zM)|(exact zN)|(exact jAn)|(exact jBb)
    |(exact yAb rfl rfl)))
    |(apply W.ed;(first
    |(apply (e_callJ (js:=[]) (hc));(iterate 5 exact rfl);kernel_rfl;kernel_rfl)
    |(exact jAa)))|(apply yA)|(apply yB)|(refine jAb ?_)|(apply yE)|(apply yH)|(apply yJ)
    |(refine jAy ?_)))
   all_goals first | (exfalso;omega) | exact Ends.two rfl rfl rfl
theorem A_admit {d r n s l i : Int} {cs : List Cd} {vs : List Sv} {ts : List Tn} {us : List Ue} {rows : List SRw} (hI : In31 cs vs ts us rows) : ACalls Tryz.prog 19 [cfgA d r n s l i,lib cs vs,tns ts,ues us,rws rows] [] (iV (admN d r n s l i cs vs ts us rows)) []:=by
 refine acalls_of_body Tryz.func19 rfl (zU rfl) ?_
 have hr:=A_rows (d:=d) (r:=r) (n:=n) (s:=s) (l:=l) (i:=i) hI
 unfold admN
 generalize rowN31 d r n s l i cs vs ts us rows = T at *
 obtain ⟨t1,t2⟩:=T
 dsimp only at *
 (repeat' (first
  |(apply yFb;exact rfl;exact rfl)
  |(apply W.qd;(first
  |(exact zW (hr))|(exact zM)|(exact zN)|(exact jAm)|(exact jAg)|(exact jAn)|(exact q_geq rfl rfl)|(exact jAu)|(exact yAb rfl rfl)|(apply (yEb (u:=.d _));exact rfl;exact rfl)
  |(apply (yDb (u:=.d _));exact rfl;exact rfl)))|(apply W.ed;(exact jAa))|(refine W.gOff _ _ rfl rfl (by intro h;cases h) ?_)|(apply yA)|(apply yB)|(refine jAb ?_)|(apply yE)|(apply yH)|(apply yJ)|(apply yP)|(refine jAy ?_)|(refine W.gT _ _ rfl rfl (fun hb=>?_) (fun hb=>?_)<;>((try simp only [hb,zK])<;>(try simp only [zL,zI] at hb)<;>(try (exfalso;omega))))
  |(refine W.cond _ rfl (fun hb=>?_) (fun hb=>?_)<;>((try simp only [hb,zK])<;>(try simp only [zL,zI] at hb)<;>(try (exfalso;omega))))))
 all_goals first
  |(exfalso;omega)|(refine Ends.i rfl ?_;first | (rw [if_pos (by omega)];done) | (rw [if_neg (by omega)];done))
end
section
attribute [local irreducible] Quiet Eff OpOk AWPG ACont ABlock ACalls AGoto
theorem A_rvalid30G {cs : List Cd} {vs : List Sv} (h : LibIn cs vs) : ACalls Tryz.prog 64 [lib cs vs] [] (bV (validB cs vs)) []:=by
 refine acalls_of_body Tryz.func64 rfl (zU rfl) ?_
 have hmc : (cs.map cdD).length = cs.length:=List.length_map _
 have hmv : (vs.map svD).length = vs.length:=List.length_map _
 have hcl:=h.cl
 have hvl:=h.vl
 by_cases hg : cs.length ≤ 8 ∧ vs.length ≤ 8
 case neg =>
  have e : validB cs vs = false:=by
   unfold validB
   rw [Bool.and_eq_false_iff]
   left
   rw [Bool.and_eq_false_iff,decide_eq_false_iff_not,decide_eq_false_iff_not]
   omega
  rw [e]
  (repeat' (first
   |(apply yFb;exact rfl;exact rfl)
   |(apply W.qd;(first
   |(exact zM)|(exact zN)|(exact jAm)|(exact jAg)|(exact jBf)|(exact jAt)|(apply (yEb (u:=.d _));exact rfl;exact rfl)
   |(apply (yDb (u:=.d _));exact rfl;exact rfl)))|(apply W.ed;(exact jAa))|(refine W.gOff _ _ rfl rfl (by intro h;cases h) ?_)|(apply yA)|(apply yB)|(apply (W.regionS 3);exact rfl;kernel_rfl)|(apply yE)|(apply yJ)|(apply yP)|(refine jAv ?_)|(refine W.gF _ _ rfl rfl (fun hb=>?_) (fun hb=>?_)<;>((try simp only [hb,zK])<;>(try simp only [zL,zI] at hb)<;>(try (exfalso;omega))))
   |(refine W.cond _ rfl (fun hb=>?_) (fun hb=>?_)<;>((try simp only [hb,zK])<;>(try simp only [zL,zI] at hb)<;>(try (exfalso;omega))))))
  all_goals first | exact Ends.b rfl rfl | (exfalso;omega)
 obtain ⟨hg1,hg2⟩:=hg
 have hV : validB cs vs = ((List.range cs.length).all (okC cs) && (List.range vs.length).all (okV cs vs)):=by
  unfold validB
  rw [decide_eq_true hg1,decide_eq_true hg2];rfl
 have hbC : ∀ i,i < cs.length → okC cs i = false → validB cs vs = false:=fun i hi h1=>by rw [hV,range_bad hi h1];rfl
 have hbV : ∀ i,i < vs.length → okV cs vs i = false → validB cs vs = false:=fun i hi h1=>by rw [hV,range_bad hi h1,Bool.and_false]
 have hgV : (∀ i,i < cs.length → okC cs i = true) → (∀ i,i < vs.length → okV cs vs i = true) → validB cs vs = true:=fun h1 h2=>by rw [hV,all_range.2 h1,all_range.2 h2];rfl
 clear hV
 generalize validB cs vs = V at *
 (repeat' (first
  |(apply yFb;exact rfl;exact rfl)
  |(apply W.qd;(first
  |(exact zM)|(exact zN)|(exact jAm)|(exact jAg)|(exact jBf)|(exact jAt)
  |(apply (yDb (u:=.d _));exact rfl;exact rfl)))|(apply W.ed;(exact jAa))|(apply yA)|(apply yB)|(apply (W.regionS 4);exact rfl;kernel_rfl)|(apply yE)|(apply yG)|(apply yH)|(refine W.gF _ _ rfl rfl (fun hb=>?_) (fun hb=>?_)<;>((try simp only [hb,zK])<;>(try simp only [zL,zI] at hb)<;>(try (exfalso;omega))))
  |(refine W.cond _ rfl (fun hb=>?_) (fun hb=>?_)<;>((try simp only [hb,zK])<;>(try simp only [zL,zI] at hb)<;>(try (exfalso;omega))))))
 all_goals try (exfalso;omega)
 refine AWP.loopW (α:=Nat) (fun k=>k ≤ cs.length ∧ ∀ j,j < k → okC cs j = true) (fun k=>⟨[(3,iV k),(1,.opt 0 0)],[.box [cds cs,svs vs]]⟩) (fun k=>cs.length - k) 0 ⟨Nat.zero_le _,fun j hj=>by omega⟩ ⟨[0],rfl,rfl,rfl,by (repeat (first | exact trivial | refine ⟨rfl,?_⟩))⟩ fun k hk=>?_
 by_cases hkl : k < cs.length
 ·have hmem := List.getElem_mem hkl
  have hn:=h.cn _ hmem
  have hf:=A_rfindC (cs:=cs) (vs:=vs) (nm:=cs[k].1) hcl (fun c hc=>(h.cn c hc).b) hn.b
  have hnn : 0 ≤ fcI cs cs[k].1:=idxA_nn hmem (decide_eq_true rfl)
  rw [find_nn hnn] at hf
  obtain ⟨e,hc,he⟩:=A_check7G (M:=cs[k].2.1) (D:=cs[k].2.2.1) (par:=cs[k].2.2.2.1) (dom:=cs[k].2.2.2.2) hn.b hn.l (h.cp _ hmem)
  have hok : okC cs k = (decide (fcI cs cs[k].1 = (k : Int)) && chkD cs[k]):=by unfold okC;rw [getDc hkl]
  have he2 : e = 0 ↔ chkD cs[k] = true:=he
  replace hok:=Lib.hid hok
  have hbk:=hbC k hkl
  have hnx : okC cs k = true → ∀ j,j < k + 1 → okC cs j = true:=fun h1 j hj=>by
   by_cases e : j = k
   ·subst e;exact h1
   ·exact hk.2 j (by omega)
  clear hk hbC hbV hgV he
  generalize fcI cs cs[k].1 = fi at *
  generalize chkD cs[k] = ck at *
  (repeat' (first
   |(apply yFb;exact rfl;exact rfl)
   |(apply W.qd;(first
   |(exact zW (hf))|(exact zW (hc))|(exact zM)|(exact zN)|(exact jAm)|(exact jAg)|(exact jAn)|(exact jAj)|(exact jBb)|(exact jAi)|(exact yAb rfl rfl)|(exact jAt)|(exact jAc)|(exact jAk)|(exact jB)|(exact jA)|(apply (yEb (u:=.d _));exact rfl;exact rfl)
   |(apply (yDb (u:=.d _));exact rfl;exact rfl)))|(refine W.gOff _ _ rfl rfl (by intro h;cases h) ?_)|(apply yA)|(apply yB)|(refine jAb ?_)|(refine jAr ?_)|(apply yE)|(refine jAx ?_)|(apply yG)|(apply yH)|(apply yJ)|(apply yP)|(apply yL)|(apply yN)|(refine jAv ?_)|(refine W.gF _ _ rfl rfl (fun hb=>?_) (fun hb=>?_)<;>((try simp only [hb,zK])<;>(try simp only [zL,zI] at hb)<;>(try (exfalso;omega))))
   |(refine W.cond _ rfl (fun hb=>?_) (fun hb=>?_)<;>((try simp only [hb,zK])<;>(try simp only [zL,zI] at hb)<;>(try (exfalso;omega))))))
  all_goals first
   |(refine Ends.b rfl (hbk ?_).symm;rw [hok.out,Bool.and_eq_false_iff,decide_eq_false_iff_not];first | (left;omega) | (right;rw [Bool.eq_false_iff];intro h9;have:=he2.2 h9;omega))|(refine ⟨k + 1,⟨by omega,hnx ?_⟩,by omega,[0],rfl,rfl,rfl,iV_eq (by omega),rfl,trivial⟩;rw [hok.out,Bool.and_eq_true,decide_eq_true_eq];exact ⟨by omega,he2.1 (by omega)⟩)
 ·have hC : ∀ i, i < cs.length → okC cs i = true := fun i hi => hk.2 i (by omega)
  have hF : ∀ c ∈ cs,FInD c:=fun c hc=>by
   obtain ⟨q,hq,rfl⟩:=List.getElem_of_mem hc
   have h9:=hC q hq
   unfold okC at h9
   rw [getDc hq,Bool.and_eq_true] at h9
   exact fin_chk h9.2 (h.cn _ hc)
  have hgV:=hgV hC
  clear hk hbC hC
  (repeat' (first
   |(apply W.qd;(first
   |(exact zM)|(exact zN)|(exact jAm)|(exact jAg)|(exact jAj)
   |(exact jAt)))|(apply yA)|(apply yB)|(apply (W.regionS 11);exact rfl;kernel_rfl)|(apply yE)|(apply yG)|(apply yI)|(apply yK)|(apply yM)
   |(refine W.cond _ rfl (fun hb=>?_) (fun hb=>?_)<;>((try simp only [hb,zK])<;>(try simp only [zL,zI] at hb)<;>(try (exfalso;omega))))))
  all_goals try (exfalso;omega)
  refine AWP.loopW (α:=Nat) (fun k=>k ≤ vs.length ∧ ∀ j,j < k → okV cs vs j = true) (fun k=>⟨[(7,iV k),(1,.opt 0 0)],[.box [cds cs,svs vs]]⟩) (fun k=>vs.length - k) 0 ⟨Nat.zero_le _,fun j hj=>by omega⟩ ⟨[0],rfl,rfl,rfl,by (repeat (first | exact trivial | refine ⟨rfl,?_⟩))⟩ fun k hk=>?_
  by_cases hkv : k < vs.length
  ·have hmem := List.getElem_mem hkv
   have hn:=h.vn _ hmem
   have hf:=A_rfindV (cs:=cs) (vs:=vs) (nm:=vs[k].1) hvl (fun c hc=>(h.vn c hc).b) hn.b
   have hnn : 0 ≤ fvI vs vs[k].1:=idxA_nn hmem (decide_eq_true rfl)
   rw [find_nn hnn] at hf
   have hr:=A_rright (cs:=cs) (vs:=vs) hF hn
   have hu1:=A_ruser (cs:=cs) (vs:=vs) (q:=vs[k].2.1) hvl
   have hu2:=A_ruser (cs:=cs) (vs:=vs) (q:=vs[k].2.2.1) hvl
   have hok:=okV_right (cs:=cs) hkv
   replace hok:=Lib.hid hok
   have hbk:=hbV k hkv
   have hnx : okV cs vs k = true → ∀ j,j < k + 1 → okV cs vs j = true:=fun h1 j hj=>by
    by_cases e : j = k
    ·subst e;exact h1
    ·exact hk.2 j (by omega)
   clear hk hbV hgV
   generalize fvI vs vs[k].1 = fi at *
   generalize userI vs vs[k].2.1 = u1 at *
   generalize userI vs vs[k].2.2.1 = u2 at *
   generalize rightB cs vs[k] = b1 at *
   (repeat' (first
    |(apply yFb;exact rfl;exact rfl)
    |(apply W.qd;(first
    |(exact zW (hf))|(exact zW (hr))|(exact zW (hu1))|(exact zW (hu2))|(exact zM)|(exact zN)|(exact jAm)|(exact jAg)|(exact jAn)|(exact jAj)|(exact jBb)|(exact jBe)|(exact jAi)|(exact yAb rfl rfl)|(exact jAt)|(exact jAc)|(exact jAk)|(exact jB)|(exact jA)|(apply (yEb (u:=.d _));exact rfl;exact rfl)
    |(apply (yDb (u:=.d _));exact rfl;exact rfl)))|(refine W.gOff _ _ rfl rfl (by intro h;cases h) ?_)|(apply yA)|(apply yB)|(refine jAb ?_)|(refine jAr ?_)|(apply yE)|(refine jAx ?_)|(apply yG)|(apply yH)|(apply yJ)|(apply yP)|(apply yL)|(apply yN)|(refine jAv ?_)|(refine jAy ?_)|(refine W.gT _ _ rfl rfl (fun hb=>?_) (fun hb=>?_)<;>((try simp only [hb,zK])<;>(try simp only [zL,zI] at hb)<;>(try (exfalso;omega))))|(refine W.gF _ _ rfl rfl (fun hb=>?_) (fun hb=>?_)<;>((try simp only [hb,zK])<;>(try simp only [zL,zI] at hb)<;>(try (exfalso;omega))))
    |(refine W.cond _ rfl (fun hb=>?_) (fun hb=>?_)<;>((try simp only [hb,zK])<;>(try simp only [zL,zI] at hb)<;>(try (exfalso;omega))))))
   all_goals first
    |(refine Ends.b rfl (hbk ?_).symm;rw [hok.out];simp [*]<;>omega)|(refine ⟨k + 1,⟨by omega,hnx ?_⟩,by omega,[0],rfl,rfl,rfl,iV_eq (by omega),rfl,trivial⟩;rw [hok.out];simp [*]<;>omega)
  ·have e : V = true := hgV fun i hi => hk.2 i (by omega)
   subst e
   clear hk hbV hgV
   (repeat' (first
    |(apply W.qd;(first
    |(exact zM)|(exact zN)|(exact jAm)|(exact jAg)|(exact jAj)
    |(exact jAt)))|(apply yA)|(apply yB)|(refine jAb ?_)|(apply yE)|(apply yI)|(apply yJ)|(apply yK)|(apply yM)
    |(refine W.cond _ rfl (fun hb=>?_) (fun hb=>?_)<;>((try simp only [hb,zK])<;>(try simp only [zL,zI] at hb)<;>(try (exfalso;omega))))))
   all_goals exact Ends.b rfl rfl
end
section
def srchF (q : Nat → Bool) : Nat → Nat → Nat → Nat → Nat × Nat
 | 0,i,_,y=>(i,y)
 | f + 1,i,j,y=>if i < j then (if q ((i + j) >>> 1) = true then srchF q f i ((i + j) >>> 1) ((i + j) >>> 1 + 1) else srchF q f ((i + j) >>> 1 + 1) j ((i + j) >>> 1 + 1)) else (i,y)
def srchG (q : Nat → Bool) (i j y : Nat) : Nat × Nat:=srchF q (j - i) i j y
theorem half_eq (i j : Nat) : (i + j) >>> 1 = (i + j) / 2:=Nat.shiftRight_eq_div_pow _ 1
theorem srchF_more {q : Nat → Bool} : ∀ (f i j y : Nat), j - i ≤ f → srchF q f i j y = srchF q (f + 1) i j y
 | 0,i,j,y,h=>by rw [srchF,srchF,if_neg (by omega)]
 | f + 1,i,j,y,h=>by
   have hh:=half_eq i j
   rw [srchF,srchF]
   by_cases h1 : i < j
   ·rw [if_pos h1, if_pos h1]
    split
    ·exact srchF_more f _ _ _ (by omega)
    ·exact srchF_more f _ _ _ (by omega)
   ·rw [if_neg h1,if_neg h1]
theorem srchF_enough {q : Nat → Bool} {i j y : Nat} : ∀ d, srchF q (j - i + d) i j y = srchG q i j y
 | 0=>rfl
 | d + 1=>by rw [← srchF_enough d,← Nat.add_assoc];exact (srchF_more _ _ _ _ (by omega)).symm
theorem srchG_step {q : Nat → Bool} {i j y : Nat} (h : i < j) : srchG q i j y = if q ((i + j) >>> 1) = true then srchG q i ((i + j) >>> 1) ((i + j) >>> 1 + 1) else srchG q ((i + j) >>> 1 + 1) j ((i + j) >>> 1 + 1):=by
 have hh:=half_eq i j
 obtain ⟨f,hf⟩ : ∃ f,j - i = f + 1:=⟨j - i - 1,by omega⟩
 have e1 : srchG q i j y = srchF q (f + 1) i j y:=by unfold srchG;rw [hf]
 rw [e1,srchF,if_pos h]
 split
 ·have := srchF_enough (q := q) (i := i) (j := (i + j) >>> 1) (y := (i + j) >>> 1 + 1) (f - ((i + j) >>> 1 - i))
  rw [← this];congr 1;omega
 ·have := srchF_enough (q := q) (i := (i + j) >>> 1 + 1) (j := j) (y := (i + j) >>> 1 + 1) (f - (j - ((i + j) >>> 1 + 1)))
  rw [← this];congr 1;omega
theorem srchG_end {q : Nat → Bool} {i j y : Nat} (h : ¬ i < j) : srchG q i j y = (i,y):=by
 unfold srchG
 rw [show j - i = 0 by omega];rfl
theorem srch_spec {q : Nat → Bool} {n : Nat} (hq : ∀ a b, a ≤ b → q a = true → q b = true) : ∀ (k i j y : Nat), j - i ≤ k → i ≤ j → j ≤ n → (∀ m, m < i → q m = false) → (j = n ∨ q j = true) → (srchG q i j y).1 ≤ n ∧ (∀ m, m < (srchG q i j y).1 → q m = false) ∧ ((srchG q i j y).1 = n ∨ q (srchG q i j y).1 = true)
 | k,i,j,y,hk,hij,hjn,h1,h2=>by
   by_cases h : i < j
   ·have hh := half_eq i j
    rw [srchG_step h]
    obtain ⟨k,rfl⟩ : ∃ k',k = k' + 1:=⟨k - 1,by omega⟩
    split
    ·rename_i hq1
     exact srch_spec hq k _ _ _ (by omega) (by omega) (by omega) h1 (.inr hq1)
    ·rename_i hq1
     exact srch_spec hq k _ _ _ (by omega) (by omega) hjn (fun m hm=>by
      cases hqm : q m with
      | false=>rfl
      | true=>exact absurd (hq m _ (by omega) hqm) hq1) h2
   ·rw [srchG_end h]
    have : i = j:=by omega
    subst this
    exact ⟨hjn,h1,h2⟩
def roomI (d r n s l i : Int) (cs : List Cd) (vs : List Sv) (ts : List Tn) (us : List Ue) (rows : List SRw) (k : Int) : Int:=if admN d r n s l i cs vs ts us rows = 0 ∧ 0 ≤ k ∧ k < (vs.length : Int) then (roomT (codN d r n s l i) cs vs (heldF rows) n (blkF ts us) k.toNat : Nat) else -1
theorem adm_val {d r n s l i : Int} {cs : List Cd} {vs : List Sv} {ts : List Tn} {us : List Ue} {rows : List SRw} (h : admN d r n s l i cs vs ts us rows = 0) : val31 d r n s l i cs vs ts us rows = true ∧ fitT (codN d r n s l i) cs vs (heldF rows) n (blkF ts us) = true:=by
 unfold admN rowN31 at h
 cases hv : val31 d r n s l i cs vs ts us rows with
 | false=>rw [hv,if_neg (by simp)] at h;simp at h
 | true =>
   rw [hv,if_pos rfl] at h
   refine ⟨rfl,?_⟩
   unfold fitT
   rw [decide_eq_true_eq]
   split at h
   ·exact absurd h (by decide)
   ·rename_i h1
    exact ⟨h,by omega⟩
theorem blkF_nn {nv : Nat} {ts : List Tn} {us : List Ue} (h : tenB nv ts us = true) (k : Nat) : 0 ≤ blkF ts us k:=(blkN_bd h).1
theorem val_ten {d r n s l i : Int} {cs : List Cd} {vs : List Sv} {ts : List Tn} {us : List Ue} {rows : List SRw} (h : val31 d r n s l i cs vs ts us rows = true) : validB cs vs = true ∧ tenB vs.length ts us = true:=by
 unfold val31 at h
 simp only [Bool.and_eq_true] at h
 exact ⟨h.1.2,h.2⟩
section
variable {P : Program} {m : Nat} {env : List (Nat × AV)} {own : List Ent} {dst : Option Tmp} {ty : TypeId} {pos : String} {af : Array Edge} {gd : Option (Nat × Bool)}
theorem q_shrE {t t' : TypeId} {x y : Operand} {k' : IntKind} {xn v : Nat} (hx : lookO env x = .d (.v (.int .u64 (xn : Int)))) (hy : lookO env y = .d (.v (.int k' 1))) (h : xn >>> 1 = v) :
 Quiet P m ⟨dst,.binOp .shr t x y t',ty,pos,af,gd⟩ env own [] (.d (.v (.int .u64 (v : Int)))):=by
 subst h;exact q_shrN (n:=1) hx hy rfl rfl (by decide)
end
attribute [local irreducible] Quiet Eff OpOk AWPG ACont ABlock ACalls AGoto
theorem A_sortSearch {O : Nat → List Ent} {g : FuncId} {caps : List AV} (q : Nat → Bool) {n : Nat} (hn : n ≤ 2000000) (hgf : isFn Tryz.prog g = true) (hg : ∀ y h,h < n → ACalls Tryz.prog g (iV (h : Nat) :: caps) (O y) (bV (q h)) (O (h + 1))) : ACalls Tryz.prog 58 [iV n,.fn g caps] (O 0) (iV (srchG q 0 n 0).1) (O (srchG q 0 n 0).2):=by
 refine acalls_of_bodyS Tryz.func58 rfl (zU rfl) ?_
 (repeat' (first
  |(apply W.qd;(first
  |(exact zM)
  |(exact zN)))|(apply yA)|(apply yB)|(apply (W.regionS 2);exact rfl;kernel_rfl)|(apply yE)
  |(apply yG)))
 refine AWP.loopE (α:=Nat × Nat × Nat) (fun x=>x.1 ≤ x.2.1 ∧ x.2.1 ≤ n ∧ srchG q x.1 x.2.1 x.2.2 = srchG q 0 n 0) (fun x=>⟨[(5,iV x.1),(6,iV x.2.1),(1,.fn g caps)],O x.2.2⟩) (fun x=>x.2.1 - x.1) (0,n,0) ⟨Nat.zero_le _,Nat.le_refl _,rfl⟩ ⟨rfl,by (repeat (first | exact trivial | refine ⟨rfl,?_⟩))⟩ fun x hx=>?_
 obtain ⟨i,j,y⟩:=x
 dsimp only at hx ⊢
 obtain ⟨h1,h2,h3⟩:=hx
 by_cases hij : i < j
 ·have hh := half_eq i j
  rw [srchG_step hij] at h3
  have hgh:=hg y ((i + j) >>> 1) (by omega)
  generalize hH : (i + j) >>> 1 = H at *
  cases hqv : q H with
  | true =>
    rw [hqv] at hgh
    rw [hqv,if_pos rfl] at h3
    (repeat' (first
     |(apply W.qd;(first
     |((apply (q_convU (v:=i + j));(iterate 3 exact rfl);omega;omega))
     |((apply (q_shrE (v:=H));exact rfl;exact rfl;exact hH))|(exact zM)|(exact zN)|(exact jAj)|(exact jBe)|(exact jAi)
     |(apply q_convI;(iterate 3 exact rfl);omega)))|(apply W.ed;((apply (e_callA hgh);exact rfl;exact rfl;exact hgf)))|(apply yA)|(apply yB)|(refine jAb ?_)|(apply yE)|(apply yG)|(apply yH)|(apply yL)|(refine jAy ?_)
     |(refine W.cond _ rfl (fun hb=>?_) (fun hb=>?_)<;>((try simp only [hb,zK])<;>(try simp only [zL,zI] at hb)<;>(try (exfalso;omega))))))
    all_goals first
     |(exfalso;omega)
     |exact ⟨(i,H,H + 1),⟨by dsimp only;omega,by dsimp only;omega,h3⟩,by dsimp only;omega,⟨rfl,by (repeat (first | exact trivial | refine ⟨rfl,?_⟩))⟩⟩
  | false =>
    rw [hqv] at hgh
    rw [hqv,if_neg (by simp)] at h3
    (repeat' (first
     |(apply W.qd;(first
     |((apply (q_convU (v:=i + j));(iterate 3 exact rfl);omega;omega))
     |((apply (q_shrE (v:=H));exact rfl;exact rfl;exact hH))|(exact zM)|(exact zN)|(exact jAj)|(exact jBe)|(exact jAi)
     |(apply q_convI;(iterate 3 exact rfl);omega)))|(apply W.ed;((apply (e_callA hgh);exact rfl;exact rfl;exact hgf)))|(apply yA)|(apply yB)|(refine jAb ?_)|(apply yE)|(apply yG)|(apply yH)|(apply yL)|(refine jAv ?_)
     |(refine W.cond _ rfl (fun hb=>?_) (fun hb=>?_)<;>((try simp only [hb,zK])<;>(try simp only [zL,zI] at hb)<;>(try (exfalso;omega))))))
    all_goals first
     |(exfalso;omega)
     |exact ⟨(H + 1,j,H + 1),⟨by dsimp only;omega,by dsimp only;omega,h3⟩,by dsimp only;omega,⟨rfl,by (repeat (first | exact trivial | refine ⟨rfl,?_⟩))⟩⟩
 ·rw [srchG_end hij] at h3
  rw [← h3]
  (repeat' (first
   |(apply W.qd;(first
   |(exact zM)|(exact zN)
   |(exact jAj)))|(apply yA)|(apply yB)|(refine jAb ?_)|(apply yE)|(apply yI)|(apply yJ)|(apply yK)|(apply yM)
   |(refine W.cond _ rfl (fun hb=>?_) (fun hb=>?_)<;>((try simp only [hb,zK])<;>(try simp only [zL,zI] at hb)<;>(try (exfalso;omega))))))
  all_goals first | (exfalso;omega) | exact EndsS.i rfl rfl
def blS (bl : List Int) (k : Nat) (b : Int) (y : Nat) : List Int:=match y with | 0=>bl | h + 1=>bl.set k (b + (h : Int) + 1)
theorem blS_len (bl : List Int) (k : Nat) (b : Int) (y : Nat) : (blS bl k b y).length = bl.length:=by
 cases y with
 | zero=>rfl
 | succ h=>exact List.length_set
theorem blS_set (bl : List Int) (k : Nat) (b : Int) (y h : Nat) : (blS bl k b y).set k (b + (h : Int) + 1) = blS bl k b (h + 1):=by
 cases y with
 | zero=>rfl
 | succ h=>exact List.set_set ..
def rmO (d r n s l i : Int) (cs : List Cd) (vs : List Sv) (rows : List SRw) (bl : List Int) (k : Nat) (b : Int) (y : Nat) : List Ent:=[.box [iV d,iV r,iV n,iV s,iV l,iV i],.box [cds cs,svs vs],.box [rws rows],.box [iV k],.row 0 1 3 ((blS bl k b y).map iD),.box [.osl 4 0 0 vs.length],.box [iV b]]
def rmQ (d r n s l i : Int) (cs : List Cd) (vs : List Sv) (rows : List SRw) (bl : List Int) (k : Nat) (b : Int) (h : Nat) : Bool:=!fitT (codN d r n s l i) cs vs (heldF rows) n (fun j=>(blS bl k b (h + 1)).getD j 0)
theorem A_room1 {d r n s l i : Int} {cs : List Cd} {vs : List Sv} {rows : List SRw} {bl : List Int} {k : Nat} {b : Int} {y h : Nat} (hL : LibIn cs vs) (hV : validB cs vs = true) (hb : bl.length = vs.length) (hr : rows.length ≤ 64) (hk : k < vs.length) (hbb : 0 ≤ b ∧ b ≤ 68719476704) (hh : h < 1048576) :
 ACalls Tryz.prog 59 [iV (h : Nat),.opt 6 0,.opt 5 0,.opt 3 0,.opt 0 0,.opt 1 0,.opt 2 0] (rmO d r n s l i cs vs rows bl k b y) (bV (rmQ d r n s l i cs vs rows bl k b h)) (rmO d r n s l i cs vs rows bl k b (h + 1)):=by
 have ht:=A_total (d:=d) (r:=r) (n:=n) (s:=s) (l:=l) (i:=i) (bl:=blS bl k b (h + 1)) hL hV (by rw [blS_len];exact hb) hr
 have hs:=Lib.hid (blS_set bl k b y h)
 have hl1:=blS_len bl k b y
 have hl2:=blS_len bl k b (h + 1)
 unfold rmO rmQ fitT
 generalize totN (codN d r n s l i) cs vs (heldF rows) (fun j=>(blS bl k b (h + 1)).getD j 0) = T at *
 obtain ⟨t1,t2⟩:=T
 generalize blS bl k b (h + 1) = B2 at *
 generalize blS bl k b y = B1 at *
 have hv8:=(valid_vl hV).2
 have hBl : vs.length = (B2.map iD).length:=by rw [List.length_map];omega
 have hfz : ∀ own own' : List Ent,own[4]? = some (.row 0 1 3 (B2.map iD)) → same [4] own own' → AV.frzL own' [] [cfgA d r n s l i,lib cs vs,.osl 4 0 0 vs.length,rws rows] = [cfgA d r n s l i,lib cs vs,ints B2,rws rows]:=fun own own' h1 h2 =>
  congrArg (fun z=>[cfgA d r n s l i,lib cs vs,z,rws rows]) (frz_rowJ ((h2 4 (by simp)).trans h1) rfl hBl)
 refine acalls_of_bodyS Tryz.func59 rfl (zU rfl) ?_
 (repeat' (first
  |(apply W.qd;(first
  |(exact zM)|(exact zN)|(exact jAg)|(exact jAi)
  |(exact jAf)))|(apply W.ln;(apply l_st_rpt;(iterate 7 exact rfl);exact fun _=>rfl;(first | omega | (focus (simp only [List.length_map];omega)) | (focus (simp;omega)))))|(apply yA)|(apply yB)|(apply (W.regionS 2);exact rfl;kernel_rfl)
  |(apply yE)))
 rw [hs.out]
 (repeat' (first
  |(apply yFb;exact rfl;exact rfl)
  |(apply W.qd;(first
  |((apply (q_callF (js:=[4]) ht);exact rfl;exact fun own' hh=>hfz _ own' rfl hh;exact rfl;kernel_rfl))|(exact zM)|(exact zN)|(exact jAm)|(exact jAg)|(exact jAn)|(exact q_geq rfl rfl)|(exact jBb)|(exact yAb rfl rfl)|(apply (yEb (u:=.d _));exact rfl;exact rfl)
  |(apply (yDb (u:=.d _));exact rfl;exact rfl)))|(refine W.gOff _ _ rfl rfl (by intro h;cases h) ?_)|(apply yA)|(apply yB)|(refine jAb ?_)|(apply yE)|(apply yJ)
  |(refine W.gF _ _ rfl rfl (fun hb=>?_) (fun hb=>?_)<;>((try simp only [hb,zK])<;>(try simp only [zL,zI] at hb)<;>(try (exfalso;omega))))))
 all_goals first
  |(exfalso;omega)|(refine EndsS.b rfl ?_;rw [Bool.eq_iff_iff];simp<;>omega)
theorem A_room {d r n s l i : Int} {cs : List Cd} {vs : List Sv} {ts : List Tn} {us : List Ue} {rows : List SRw} {k : Int} (hI : In31 cs vs ts us rows) : ACalls Tryz.prog 17 [cfgA d r n s l i,lib cs vs,tns ts,ues us,rws rows,iV k] [] (iV (roomI d r n s l i cs vs ts us rows k)) []:=by
 refine acalls_of_body Tryz.func17 rfl (zU rfl) ?_
 have ha:=A_admit (d:=d) (r:=r) (n:=n) (s:=s) (l:=l) (i:=i) hI
 unfold roomI
 cases hv : val31 d r n s l i cs vs ts us rows with
 | false =>
   have hc:=A_claimedB hI hv
   rw [if_neg (fun h=>by have:=(adm_val h.1).1;rw [hv] at this;cases this)]
   generalize admN d r n s l i cs vs ts us rows = e at *
   (repeat' (first
    |(apply yFb;exact rfl;exact rfl)
    |(apply W.qd;(first
    |(exact zW (hc))|(exact zM)|(exact zN)|(exact jAg)|(exact jAn)|(exact jAj)|(exact q_geq rfl rfl)|(exact yAb rfl rfl)|(exact q_len_nil rfl rfl)|(apply (yEb (u:=.d _));exact rfl;exact rfl)
    |(apply (yDb (u:=.d _));exact rfl;exact rfl)))
    |(apply W.ed;(first
    |(exact jAa)
    |(exact jAp)))|(apply W.ln;(exact jAh))|(refine W.gOff _ _ rfl rfl (by intro h;cases h) ?_)|(apply yA)|(apply yB)|(refine jAb ?_)|(apply yE)|(apply yJ)|(apply yP)|(refine jAv ?_)
    |(refine W.gF _ _ rfl rfl (fun hb=>?_) (fun hb=>?_)<;>((try simp only [hb,zK])<;>(try simp only [zL,zI] at hb)<;>(try (exfalso;omega))))))
   all_goals first | (exfalso;omega) | exact Ends.i rfl rfl
 | true =>
   have hc:=A_claimed hI hv
   obtain ⟨hV,hT⟩:=val_ten hv
   have hv8:=(valid_vl hV).2
   by_cases hk : 0 ≤ k ∧ k < (vs.length : Int)
   case neg =>
    rw [if_neg (fun h=>hk h.2)]
    generalize admN d r n s l i cs vs ts us rows = e at *
    generalize blkL vs.length ts us = bl at *
    (repeat' (first
     |(apply yFb;exact rfl;exact rfl)
     |(apply W.qd;(first
     |(exact zM)|(exact zN)|(exact jAg)|(exact jAn)|(exact jAj)|(exact q_geq rfl rfl)|(exact yAb rfl rfl)|(exact q_len_osl rfl rfl rfl)|(apply (yEb (u:=.d _));exact rfl;exact rfl)
     |(apply (yDb (u:=.d _));exact rfl;exact rfl)))
     |(apply W.ed;(first
     |(apply (e_callJ (js:=[]) (hc));(iterate 5 exact rfl);kernel_rfl;kernel_rfl)|(exact jAa)
     |(exact jAp)))|(apply W.ln;(exact jAh))|(refine W.gOff _ _ rfl rfl (by intro h;cases h) ?_)|(apply yA)|(apply yB)|(refine jAb ?_)|(apply yE)|(apply yJ)|(apply yP)|(refine jAv ?_)
     |(refine W.gF _ _ rfl rfl (fun hb=>?_) (fun hb=>?_)<;>((try simp only [hb,zK])<;>(try simp only [zL,zI] at hb)<;>(try (exfalso;omega))))))
    all_goals first | (exfalso;omega) | exact Ends.i rfl rfl
   by_cases he : admN d r n s l i cs vs ts us rows = 0
   case neg =>
    rw [if_neg (fun h=>he h.1)]
    generalize admN d r n s l i cs vs ts us rows = e at *
    generalize blkL vs.length ts us = bl at *
    (repeat' (first
     |(apply yFb;exact rfl;exact rfl)
     |(apply W.qd;(first
     |(exact zW (ha))|(exact zM)|(exact zN)|(exact jAg)|(exact jAn)|(exact jAj)|(exact q_geq rfl rfl)|(exact jBb)|(exact yAb rfl rfl)|(exact q_len_osl rfl rfl rfl)
     |(apply (yDb (u:=.d _));exact rfl;exact rfl)))
     |(apply W.ed;(first
     |(apply (e_callJ (js:=[]) (hc));(iterate 5 exact rfl);kernel_rfl;kernel_rfl)|(exact jAa)
     |(exact jAp)))|(apply W.ln;(exact jAh))|(apply yA)|(apply yB)|(refine jAb ?_)|(apply yE)|(apply yJ)|(apply yP)|(refine W.gF _ _ rfl rfl (fun hb=>?_) (fun hb=>?_)<;>((try simp only [hb,zK])<;>(try simp only [zL,zI] at hb)<;>(try (exfalso;omega))))
     |(refine W.cond _ rfl (fun hb=>?_) (fun hb=>?_)<;>((try simp only [hb,zK])<;>(try simp only [zL,zI] at hb)<;>(try (exfalso;omega))))))
    all_goals first | (exfalso;omega) | exact Ends.i rfl rfl
   rw [if_pos ⟨he,hk.1,hk.2⟩]
   obtain ⟨k,rfl⟩ : ∃ q : Nat,k = q:=⟨k.toNat,by omega⟩
   have hkl : k < vs.length:=by omega
   rw [he] at ha
   rw [Int.toNat_natCast]
   have hbl : (blkL vs.length ts us).length = vs.length:=by unfold blkL;simp
   have hbk : (blkL vs.length ts us)[k]'(by omega) = blkN ts us (k : Int):=by
    have:=blkL_get (ts:=ts) (us:=us) hkl
    rw [List.getD_eq_getElem?_getD,List.getElem?_eq_getElem (by omega)] at this
    exact this
   have hbb:=blkN_bd (k:=(k : Int)) hT
   have hfit:=(adm_val he).2
   have hn0:=blkF_nn hT
   have hmo:=codN_mono d r n s l i
   -- the search
   have hqe : ∀ h : Nat,rmQ d r n s l i cs vs rows (blkL vs.length ts us) k (blkN ts us (k : Int)) h = !fitT (codN d r n s l i) cs vs (heldF rows) n (moreB (blkF ts us) k ((h : Int) + 1)):=fun h=>by
    unfold rmQ fitT
    rw [tot_congr (b':=moreB (blkF ts us) k ((h : Int) + 1)) (fun j hj=>by
     have:=blkL_more (ts:=ts) (us:=us) hkl ((h : Int) + 1) j hj
     rw [← this,← Int.add_assoc];rfl)]
   have hsr:=A_sortSearch (O:=rmO d r n s l i cs vs rows (blkL vs.length ts us) k (blkN ts us (k : Int))) (g:=59) (caps:=[.opt 6 0,.opt 5 0,.opt 3 0,.opt 0 0,.opt 1 0,.opt 2 0]) (rmQ d r n s l i cs vs rows (blkL vs.length ts us) k (blkN ts us (k : Int))) (n:=1048576) (by omega) (by kernel_rfl) (fun y h hh=>A_room1 hI.L hV hbl hI.rl hkl hbb hh)
   have hsp:=srch_spec (q:=rmQ d r n s l i cs vs rows (blkL vs.length ts us) k (blkN ts us (k : Int))) (n:=1048576) (fun a b hab h=>by
    rw [hqe] at h ⊢
    cases hf : fitT (codN d r n s l i) cs vs (heldF rows) n (moreB (blkF ts us) k ((b : Int) + 1)) with
    | false=>rfl
    | true=>rw [fit_more (x:=(a : Int) + 1) hmo hn0 (by omega) (by omega) hf] at h;cases h) 1048576 0 1048576 0 (by omega) (by omega) (by omega) (fun m hm=>by omega) (.inl rfl)
   obtain ⟨g1,g2,g3⟩:=hsp
   have hroom : roomT (codN d r n s l i) cs vs (heldF rows) n (blkF ts us) k = (srchG (rmQ d r n s l i cs vs rows (blkL vs.length ts us) k (blkN ts us (k : Int))) 0 1048576 0).1:=by
    generalize (srchG (rmQ d r n s l i cs vs rows (blkL vs.length ts us) k (blkN ts us (k : Int))) 0 1048576 0).1 = R at *
    refine room_unique hmo hn0 g1 ?_ fun hR=>?_
    ·match R with
     | 0=>rw [show ((0 : Nat) : Int) = 0 from rfl,moreB_zero];exact hfit
     | R + 1 =>
       have:=g2 R (by omega)
       rw [hqe] at this
       simpa using this
    ·rcases g3 with h | h
     ·omega
     ·rw [hqe] at h
      simpa using h
   rw [hroom]
   clear hqe g1 g2 g3 hroom hmo hn0 hfit
   generalize srchG (rmQ d r n s l i cs vs rows (blkL vs.length ts us) k (blkN ts us (k : Int))) 0 1048576 0 = R at *
   obtain ⟨R1,R2⟩:=R
   unfold rmO blS at hsr
   dsimp only at hsr
   rw [← hbk] at hsr
   (repeat' (first
    |(apply yFb;exact rfl;exact rfl)
    |(apply W.qd;(first
    |(exact zW (ha))|(exact zM)|(exact zN)|(exact jAg)|(exact jAn)|(exact jAj)|(exact q_geq rfl rfl)|(exact jBb)|(exact yAb rfl rfl)|(exact q_len_osl rfl rfl rfl)|(apply q_makeFunc)|(apply (yDb (u:=.d _));exact rfl;exact rfl)|(exact jAf)
    |(exact jAz)))
    |(apply W.ed;(first
    |(apply (e_callJ (js:=[]) (hc));(iterate 5 exact rfl);kernel_rfl;kernel_rfl)
    |((apply (e_callA hsr);exact rfl;exact rfl;kernel_rfl))|(exact jAa)
    |(exact jAp)))|(apply W.ln;(exact jAh))|(apply yA)|(apply yB)|(refine jAb ?_)|(apply yE)|(apply yH)|(apply yJ)|(refine jAy ?_)
    |(refine W.gF _ _ rfl rfl (fun hb=>?_) (fun hb=>?_)<;>((try simp only [hb,zK])<;>(try simp only [zL,zI] at hb)<;>(try (exfalso;omega))))))
   all_goals first | (exfalso;omega) | exact Ends.i rfl rfl
end
section
theorem dat_sl_le {B : Nat → Prop} {w : World} {sz : Nat} {L L' : List (List Dat)} (hlen : L'.length = L.length) (h : ∀ (j : Nat) (e e' : List Dat),L[j]? = some e → L'[j]? = some e' → e.length = e'.length ∧ ∀ (q : Nat) (x x' : Dat),e[q]? = some x → e'[q]? = some x' → ∀ u,Dat.sat B w x u → Dat.sat B w x' u) {u : Value} (hs : Dat.sat B w (.sl sz L) u) : Dat.sat B w (.sl sz L') u:=by
 rw [Dat.sat] at hs ⊢
 obtain ⟨A,c,h2,h3,h4,h5⟩:=hs
 rw [hlen]
 refine ⟨A,c,h2,h3,h4,fun hp=>?_⟩
 obtain ⟨b,o,h6,h7,h8,h9⟩:=h5 hp
 refine ⟨b,o,h6,h7,h8,?_⟩
 rw [Dat.rowsSat_iff] at h9 ⊢
 intro j e' he'
 have hj : j < L.length:=by rw [← hlen];exact (List.getElem?_eq_some_iff.1 he').1
 obtain ⟨k1,k2⟩:=h9 j L[j] (List.getElem?_eq_getElem hj)
 obtain ⟨k3,k4⟩:=h j L[j] e' (List.getElem?_eq_getElem hj) he'
 refine ⟨by omega,?_⟩
 rw [Dat.rowSat_iff] at k2 ⊢
 intro q x' hx'
 have hq : q < L[j].length:=by rw [k3];exact (List.getElem?_eq_some_iff.1 hx').1
 obtain ⟨u,g1,g2,g3⟩:=k2 q L[j][q] (List.getElem?_eq_getElem hq)
 exact ⟨u,g1,g2,k4 q _ x' (List.getElem?_eq_getElem hq) hx' u g3⟩
def freeR : SRw:=(-1,0,[])
def frD (x : Int) : List Dat:=[.v (.int .i64 x),.v (.int .i64 0),.v (.slice none 0 0)]
def empR (d r n s l i : Int) : List SRw:=if OkC d r n s l i then List.replicate n.toNat freeR else []
theorem fr_le (n : Nat) : AVle (.d (.sl 3 ((List.replicate n (-1)).map frD))) (rws (List.replicate n freeR)):=fun F own κ w u h=>by
 rw [AV.sat] at h ⊢
 refine dat_sl_le (by simp) (fun j e e' h1 h2=>?_) h
 have e1 : e = frD (-1):=by
  rw [List.getElem?_map,List.getElem?_replicate] at h1
  split at h1
  ·exact (by simpa using h1.symm)
  ·simp at h1
 have e2 : e' = rwD freeR:=by
  rw [List.getElem?_map,List.getElem?_replicate] at h2
  split at h2
  ·exact (by simpa using h2.symm)
  ·simp at h2
 subst e1 e2
 refine ⟨rfl,fun q x x' h3 h4 u hu=>?_⟩
 match q with
 | 0 => obtain rfl : Dat.v (.int .i64 (-1)) = x := by simpa [frD] using h3
        obtain rfl : Dat.v (.int .i64 (-1)) = x':=by simpa [rwD,freeR] using h4
        exact hu
 | 1 => obtain rfl : Dat.v (.int .i64 0) = x := by simpa [frD] using h3
        obtain rfl : Dat.v (.int .i64 0) = x':=by simpa [rwD,freeR] using h4
        exact hu
 | 2 => obtain rfl : Dat.v (.slice none 0 0) = x := by simpa [frD] using h3
        obtain rfl : Dat.sl 3 [] = x':=by simpa [rwD,freeR] using h4
        simp only [Dat.sat] at hu ⊢
        subst hu
        exact ⟨none,0,rfl,Nat.le_refl _,Nat.zero_le _,fun h=>by simp at h⟩
 | q + 3=>simp [frD] at h3
def rs31 : Cd:=([114,115],8,2,[[1,1],[1,2]],2)
def gold31 : Sv:=([103,111,108,100],0,-1,2,9)
def tG (g : Int) : Tn:=([],g,0,0,0,0)
def two31 : List Tn:=[tG 2,tG 1]
def use31 : List Ue:=[(0,0),(3,0)]
def emp31 : List SRw:=List.replicate 10 freeR
theorem n_rs31 : NameIn rs31.1:=⟨by unfold isB rs31;decide,by decide⟩
theorem n_gold31 : NameIn gold31.1:=⟨by unfold isB gold31;decide,by decide⟩
theorem lib31 : LibIn [rs31] [gold31] where
 cn c hc:=by rw [List.mem_singleton.1 hc];exact n_rs31
 cp c hc:=by rw [List.mem_singleton.1 hc];decide
 vn c hc:=by rw [List.mem_singleton.1 hc];exact n_gold31
 cl:=by decide
 vl:=by decide
theorem in31 {ts : List Tn} {us : List Ue} (ht : ts.length ≤ 2) (hu : us.length ≤ 2) : In31 [rs31] [gold31] ts us emp31 where
 L:=lib31
 t:=by omega
 u:=by omega
 rl:=by decide
 ru a h:=by
  have : emp31[a] = freeR:=List.getElem_replicate _
  rw [this];decide
theorem s1 : codN 6 2 10 1 4 4 rs31 5 = (8,0):=by kernel_rfl
theorem s2 : rowN31 6 2 10 1 4 4 [rs31] [gold31] two31 use31 emp31 = (8,0):=by kernel_rfl
theorem s3 : admN 6 2 10 1 4 4 [rs31] [gold31] [tG 6] use31 emp31 = 0:=by kernel_rfl
theorem s4 : admN 6 2 10 1 4 4 [rs31] [gold31] [tG 7] use31 emp31 = 18:=by kernel_rfl
theorem s5 : admN 6 2 10 1 4 4 [rs31] [gold31] two31 [] emp31 = 1:=by kernel_rfl
theorem s6 : blkN two31 use31 0 = 5:=by kernel_rfl
theorem s7 : limN rs31.2.2.1 5 = 8:=by kernel_rfl
theorem s8 : admN 6 2 10 1 4 4 [rs31] [gold31] [] [] emp31 = 0:=by kernel_rfl
theorem s9 : roomT (codN 6 2 10 1 4 4) [rs31] [gold31] (heldF emp31) 10 (blkF [] []) 0 = 6 :=
 room_unique (codN_mono _ _ _ _ _ _) (fun k=>blkF_nn (nv:=1) (by kernel_rfl) k) (by decide) (by kernel_rfl) (fun _=>by kernel_rfl)
theorem s10 : roomI 6 2 10 1 4 4 [rs31] [gold31] [] [] emp31 0 = 6:=by
 unfold roomI
 rw [if_pos ⟨s8,by decide,by decide⟩,show (0 : Int).toNat = 0 from rfl,s9];rfl
theorem s11 : roomI 6 2 10 1 4 4 [rs31] [gold31] [] [] emp31 1 = -1:=by
 unfold roomI
 rw [if_neg (fun h=>absurd h.2.2 (by decide))]
theorem s12 : tenB 1 two31 use31 = true:=by kernel_rfl
theorem ACalls.leA {P : Program} {f : FuncId} {args args' : List AV} {r : AV} {own own' : List Ent} (h : ACalls P f args own r own') (hle : AVleL args' args) : ACalls P f args' own r own':=h.le fun F κ w vs hs=>AVleL.sat hle F own κ w vs hs
attribute [local irreducible] Quiet Eff OpOk AWPG ACont ABlock ACalls AGoto
theorem A_config31 : ACalls Tryz.prog 52 [] [] (cfgA 6 2 10 1 4 4) []:=by
 refine acalls_of_body Tryz.func52 rfl (zU rfl) ?_
 (repeat' (first
  |(apply W.qd;(apply yZ;exact rfl;exact rfl;kernel_rfl))|(apply W.ed;(exact jAp))|(apply W.ln;(exact jAh))|(apply yA)|(apply yB)|(refine jAb ?_)|(apply yE)
  |(apply yJ)))
 exact ⟨.inl rfl,[],[.agg [iV 6,iV 2,iV 10,iV 1,iV 4,iV 4]],rfl,⟨⟨0,[iV 6,iV 2,iV 10,iV 1,iV 4,iV 4],true,rfl,rfl,rfl,rfl⟩,trivial⟩,AVle.of_eq rfl,rfl⟩
theorem A_library31 : ACalls Tryz.prog 53 [] [] (lib [rs31] [gold31]) []:=by
 refine acalls_of_body Tryz.func53 rfl (zU rfl) ?_
 (repeat' (first
  |(apply W.qd;(first
  |(exact jAn)|(apply yZ;exact rfl;exact rfl;kernel_rfl)
  |(exact jAl)))|(apply W.ed;(exact jAp))|(apply W.ln;(exact jAh))|(apply yA)|(apply yB)|(refine jAb ?_)|(apply yE)
  |(apply yJ)))
 exact ⟨.inl rfl,[],[.agg [cds [rs31],svs [gold31]]],rfl,⟨⟨0,[cds [rs31],svs [gold31]],true,rfl,rfl,rfl,rfl⟩,trivial⟩,AVle.of_eq rfl,rfl⟩
theorem A_new24 {d r n s l i : Int} : ACalls Tryz.prog 63 [cfgA d r n s l i] [] (.tup [rws (empR d r n s l i),iV (chk13 d r n s l i)]) []:=by
 refine acalls_of_body Tryz.func63 rfl (zU rfl) ?_
 have hck:=A_rdchk d r n s l i
 unfold empR
 by_cases h : OkC d r n s l i
 ·rw [if_pos h]
  rw [chk13_yes h] at hck ⊢
  obtain ⟨N,rfl⟩ : ∃ N : Nat,n = N:=⟨n.toNat,by have:=h.2.2.1;omega⟩
  have hN : N ≤ 4096:=by have:=h.2.2.1;omega
  rw [Int.toNat_natCast]
  (repeat' (first
   |(apply W.qd;(first
   |(exact zW (hck))|(exact zM)|(exact zN)|(exact jAn)
   |(exact jBb)))|(apply W.ed;(exact jAa))|(apply yA)|(apply yB)|(apply (W.regionS 5);exact rfl;kernel_rfl)|(apply yE)|(apply yH)
   |(refine jAy ?_)))
  all_goals try (exfalso;omega)
  refine AWP.nilRow 5 3 164 rfl (by omega) ?_
  (repeat' (first
   |(apply W.qd;(exact zN))|(apply yB)|(apply (W.regionS 6);exact rfl;kernel_rfl)|(apply yE)
   |(apply yG)))
  refine AWP.loopW (α:=Nat) (fun k=>k ≤ N) (fun k=>⟨[(6,iV k),(5,.osl 1 k 0 (List.replicate k (-1 : Int)).length),(1,.opt 0 0)],[.box [iV d,iV r,iV N,iV s,iV l,iV i],.row k 3 164 ((List.replicate k (-1 : Int)).map frD)]⟩) (fun k=>N - k) 0 (Nat.zero_le _) ⟨[0,1],rfl,rfl,rfl,by (repeat (first | exact trivial | refine ⟨rfl,?_⟩))⟩ fun k hk=>?_
  by_cases hkl : k < N
  ·have hrp : List.replicate (k + 1) (-1 : Int) = List.replicate k (-1 : Int) ++ [-1] := List.replicate_succ'
   have hln : (List.replicate k (-1 : Int)).length = k:=List.length_replicate
   replace hrp:=Lib.hid hrp
   generalize List.replicate k (-1 : Int) = A at *
   (repeat' (first
    |(apply W.qd;(first
    |(exact zM)|(exact zN)|(exact jAm)|(exact jAg)|(exact jAj)|(exact jAi)|(apply yZ;exact rfl;exact rfl;kernel_rfl)
    |(exact jAl)))|(apply W.ld;(apply l_app1;(iterate 8 exact rfl);(first | omega | (focus (simp;omega)) | (focus (simp;done)))))|(apply yA)|(apply yB)|(refine jAb ?_)|(apply yE)|(apply yG)|(apply yH)|(apply yL)
    |(refine W.cond _ rfl (fun hb=>?_) (fun hb=>?_)<;>((try simp only [hb,zK])<;>(try simp only [zL,zI] at hb)<;>(try (exfalso;omega))))))
   refine ⟨k + 1,by omega,by omega,?_⟩
   rw [hrp.out]
   exact ⟨[0,1],rfl,rfl,rfl,iV_eq (by omega),rfl,rfl,trivial⟩
  ·obtain rfl : k = N := by omega
   have hle:=fr_le k
   have hln : (List.replicate k (-1 : Int)).length = k:=List.length_replicate
   generalize List.replicate k (-1 : Int) = A at *
   (repeat' (first
    |(apply W.qd;(first
    |(exact zM)|(exact zN)|(exact jAm)|(exact jAg)
    |(exact jAj)))|(apply yA)|(apply yB)|(refine jAb ?_)|(apply yE)|(apply yI)|(apply yJ)|(apply yK)|(apply yM)
    |(refine W.cond _ rfl (fun hb=>?_) (fun hb=>?_)<;>((try simp only [hb,zK])<;>(try simp only [zL,zI] at hb)<;>(try (exfalso;omega))))))
   all_goals first
    |(exfalso;omega)
    |exact ⟨.inl rfl,[],[.osl 1 k 0 A.length,iV 0],rfl,⟨rfl,rfl,trivial⟩,AVle.tup2 (fun F own κ w u hu=>hle F own κ w u ((AVle.of_eq (frz_rowJ rfl rfl (by simp))) F own κ w u hu)) (AVle.of_eq rfl),rfl⟩
 ·rw [if_neg h]
  rw [chk13_no h] at hck ⊢
  (repeat' (first
   |(apply W.qd;(first
   |(exact zW (hck))|(exact zM)|(exact zN)|(exact jAn)
   |(exact jBb)))|(apply W.ed;(exact jAa))|(apply yA)|(apply yB)|(refine jAb ?_)|(apply yE)|(apply yJ)|(apply yP)
   |(refine jAv ?_)))
  all_goals first
   |(exfalso;omega)
   |exact ⟨.inl rfl,[],[.d (.v (.slice none 0 0)),iV 1],rfl,⟨rfl,rfl,trivial⟩,AVle.tup2 (fun F own κ w u hu=>AVle.nil 3 F own κ w u hu) (AVle.of_eq rfl),rfl⟩
theorem A_empty31 {d r n s l i : Int} : ACalls Tryz.prog 21 [cfgA d r n s l i] [] (rws (empR d r n s l i)) []:=by
 refine acalls_of_body Tryz.func21 rfl (zU rfl) ?_
 have hn:=A_new24 (d:=d) (r:=r) (n:=n) (s:=s) (l:=l) (i:=i)
 generalize empR d r n s l i = E at *
 (repeat' (first
  |(apply W.qd;(first
  |(exact zW (hn))|(exact zM)|(exact zN)|(exact jAn)
  |(exact yAb rfl rfl)))|(apply W.ed;(exact jAa))|(apply yA)|(apply yB)|(refine jAb ?_)|(apply yE)
  |(apply yJ)))
 all_goals exact ⟨.inl rfl,[],[rws E],rfl,⟨rfl,trivial⟩,AVle.of_eq rfl,rfl⟩
theorem A_sanity31 : ACalls Tryz.prog 16 [] [] (bV true) []:=by
 refine acalls_of_body Tryz.func16 rfl (zU rfl) ?_
 have f1:=A_config31
 have f2:=A_library31
 have f3:=A_empty31 (d:=6) (r:=2) (n:=10) (s:=1) (l:=4) (i:=4)
 have e3 : empR 6 2 10 1 4 4 = emp31:=by kernel_rfl
 rw [e3] at f3
 have f4:=A_acode (d:=6) (r:=2) (n:=10) (s:=1) (l:=4) (i:=4) (c:=rs31) (x:=5) n_rs31 (by decide)
 rw [s1] at f4
 have f5:=A_rows (d:=6) (r:=2) (n:=10) (s:=1) (l:=4) (i:=4) (in31 (ts:=two31) (us:=use31) (by decide) (by decide))
 rw [s2] at f5
 have f6:=A_admit (d:=6) (r:=2) (n:=10) (s:=1) (l:=4) (i:=4) (in31 (ts:=[tG 6]) (us:=use31) (by decide) (by decide))
 rw [s3] at f6
 have f7:=A_admit (d:=6) (r:=2) (n:=10) (s:=1) (l:=4) (i:=4) (in31 (ts:=[tG 7]) (us:=use31) (by decide) (by decide))
 rw [s4] at f7
 have f8:=A_admit (d:=6) (r:=2) (n:=10) (s:=1) (l:=4) (i:=4) (in31 (ts:=two31) (us:=[]) (by decide) (by decide))
 rw [s5] at f8
 have f8 : ACalls Tryz.prog 19 [cfgA 6 2 10 1 4 4,lib [rs31] [gold31],tns two31,.d (.v (.slice none 0 0)),rws emp31] [] (iV 1) []:=f8.leA ⟨AVle.refl _,AVle.refl _,AVle.refl _,AVle.nil 2,AVle.refl _,trivial⟩
 have f9:=A_blocks (k:=0) s12 (by decide)
 rw [s6] at f9
 have f10:=A_limit (c:=rs31) (x:=5)
 rw [s7] at f10
 have f11:=A_room (d:=6) (r:=2) (n:=10) (s:=1) (l:=4) (i:=4) (k:=0) (in31 (ts:=[]) (us:=[]) (by decide) (by decide))
 rw [s10] at f11
 have f11 : ACalls Tryz.prog 17 [cfgA 6 2 10 1 4 4,lib [rs31] [gold31],.d (.v (.slice none 0 0)),.d (.v (.slice none 0 0)),rws emp31,iV 0] [] (iV 6) []:=f11.leA ⟨AVle.refl _,AVle.refl _,AVle.nil 6,AVle.nil 2,AVle.refl _,AVle.refl _,trivial⟩
 have f12:=A_room (d:=6) (r:=2) (n:=10) (s:=1) (l:=4) (i:=4) (k:=1) (in31 (ts:=[]) (us:=[]) (by decide) (by decide))
 rw [s11] at f12
 have f12 : ACalls Tryz.prog 17 [cfgA 6 2 10 1 4 4,lib [rs31] [gold31],.d (.v (.slice none 0 0)),.d (.v (.slice none 0 0)),rws emp31,iV 1] [] (iV (-1)) []:=f12.leA ⟨AVle.refl _,AVle.refl _,AVle.nil 6,AVle.nil 2,AVle.refl _,AVle.refl _,trivial⟩
 generalize emp31 = E at *
 (repeat' (first
  |(apply yFb;exact rfl;exact rfl)
  |(apply W.qd;(first
  |(exact zW (f1))|(exact zW (f2))|(exact zW (f3))|(exact zW (f4))|(exact zW (f5))|(exact zW (f6))|(exact zW (f7))|(exact zW (f8))|(exact zW (f9))|(exact zW (f10))|(exact zW (f11))|(exact zW (f12))|(exact zM)|(exact zN)|(exact jAm)|(exact jAg)|(exact jAn)|(exact jAu)|(exact yAb rfl rfl)|(exact jAk)|(apply yZ;exact rfl;exact rfl;kernel_rfl)|(exact jAl)|(exact jA)
  |(apply (yEb (u:=.d _));exact rfl;exact rfl)))|(apply W.ed;(exact jAp))|(apply W.ln;(exact jAh))|(apply yA)|(apply yB)|(refine jAb ?_)|(refine jAr ?_)|(apply yE)|(refine jAx ?_)
  |(apply yJ)))
 all_goals first | (exfalso;omega) | exact Ends.b rfl rfl
end
section
section
variable {P : Program} {m : Nat} {env : List (Nat × AV)} {own : List Ent} {dst : Option Tmp} {ty : TypeId} {pos : String} {af : Array Edge} {gd : Option (Nat × Bool)}
theorem e_st_rptG {t : TypeId} {k : Nat} {x y : Operand} {i ver j o sz : Nat} {e : TypeId} {l l' : List (List Dat)} {c : List Dat} {d : Dat} {own' : List Ent} (hx : lookO env x = .rpt i ver j o) (hi : own[i]? = some (.row ver sz e l)) (ht : tyInfo P t = some (false, k)) (hk : k = 1) (hy : cellsD (lookO env y) = some [d]) (h1 : oneA (.d d) = true) (ho' : Nat.blt o sz = true) (hc : l[j]? = some c) (hl : l.set j (c.set o d) = l') (ho : own.set i (.row ver sz e l') = own') :
 Eff P m ⟨dst,.store t x y,ty,pos,af,gd⟩ env own [i] (.d (.v undef)) own':=by
 subst hl ho
 exact e_st_rpt ht hk hx hi hc (Nat.le_of_ble_eq_true ho') hy h1
end
attribute [local irreducible] Quiet Eff OpOk AWPG ACont ABlock ACalls AGoto
end
section
section
variable {α : Type} {f : α → Nat → α} {z : α} {l : List α} {xs : List Nat}
end
section
variable {nv k : Nat} {ts : List Tn} {us : List Ue} {xs : List Nat} (h : tenB nv ts us = true)
include h
end
theorem emp_get {N a : Nat} (h : a < N) : (List.replicate N freeR).getD a rw0 = freeR:=by
 rw [List.getD_eq_getElem?_getD,List.getElem?_replicate,if_pos h];rfl
theorem emp_held {d r n s l i : Int} (c : Nat) : heldF (empR d r n s l i) c = 0:=by
 have key : ∀ (N j : Nat),j ≤ N → heldT (List.replicate N freeR) (c : Int) j = 0:=fun N j hj=>by
  induction j with
  | zero=>rfl
  | succ j ih =>
    rw [heldT,ih (by omega),emp_get (by omega),if_neg (by show ¬ ((-1 : Int) = c);omega)]
 unfold heldF heldN empR
 split
 ·rw [key _ _ (by rw [List.length_replicate];exact Nat.le_refl _)];rfl
 ·rfl
end
section
theorem emp_len (d r n s l i : Int) : (empR d r n s l i).length ≤ n.toNat:=by
 unfold empR
 split
 ·rw [List.length_replicate];omega
 ·exact Nat.zero_le _
theorem emp_used (d r n s l i : Int) : ∀ a (h : a < (empR d r n s l i).length),(empR d r n s l i)[a].2.2.length ≤ 9223372036854775807:=fun a h=>by
 have key : ∀ w ∈ empR d r n s l i,w.2.2.length ≤ 9223372036854775807:=by
  unfold empR
  split
  ·intro w hw
   rw [(List.mem_replicate.1 hw).2]
   exact Nat.zero_le _
  ·intro w hw;cases hw
 exact key _ (List.getElem_mem h)
attribute [local irreducible] Quiet Eff OpOk AWPG ACont ABlock ACalls AGoto
end
section
def rowS (c : Int) (i : Nat) (r : SRw) : List (Nat × Int):=if r.1 = c then r.2.2.map fun u=>(i,u.1) else []
theorem strTo_rowS (rows : List SRw) (c : Int) (n : Nat) : strTo rows c (n + 1) = strTo rows c n ++ rowS c n (rows.getD n rw0):=strTo_succ rows c n
theorem getD_setR {rows : List SRw} {i n : Nat} {r : SRw} (h : n ≠ i) : (rows.set i r).getD n rw0 = rows.getD n rw0:=by
 rw [List.getD_eq_getElem?_getD,List.getElem?_set_ne (by omega),List.getD_eq_getElem?_getD]
theorem getD_setS {rows : List SRw} {i : Nat} {r : SRw} (h : i < rows.length) : (rows.set i r).getD i rw0 = r:=by
 rw [List.getD_eq_getElem?_getD,List.getElem?_set_self h];rfl
theorem str_split {rows : List SRw} {c : Int} {i : Nat} (hi : i < rows.length) : ∀ n, i < n → n ≤ rows.length → ∃ B, ∀ r, strTo (rows.set i r) c n = strTo rows c i ++ rowS c i r ++ B
 | 0,h,_=>by omega
 | n + 1,h,hn=>by
   by_cases e : n = i
   ·subst e
    refine ⟨[],fun r=>?_⟩
    rw [strTo_rowS,strTo_set_lt n (Nat.le_refl _),getD_setS hi,List.append_nil]
   ·obtain ⟨B, hB⟩ := str_split hi n (by omega) (by omega)
    refine ⟨B ++ rowS c n (rows.getD n rw0),fun r=>?_⟩
    rw [strTo_rowS,hB,getD_setR e,List.append_assoc]
theorem str_two {rows : List SRw} {c : Int} {i : Nat} (hi : i < rows.length) {r r' : SRw} {x : List (Nat × Int)} (h : (rowS c i r').Perm (x ++ rowS c i r)) : (strN (rows.set i r') c).Perm (x ++ strN (rows.set i r) c):=by
 obtain ⟨B,hB⟩:=str_split (c:=c) hi rows.length hi (Nat.le_refl _)
 have e1 : ∀ r,strN (rows.set i r) c = strTo rows c i ++ rowS c i r ++ B:=fun r=>by unfold strN;rw [List.length_set];exact hB r
 rw [e1,e1]
 refine ((h.append_left _).append_right B).trans ?_
 have h2 : (strTo rows c i ++ (x ++ rowS c i r)).Perm (x ++ (strTo rows c i ++ rowS c i r)):=by
  rw [← List.append_assoc,← List.append_assoc]
  exact List.perm_append_comm.append_right _
 have h3:=h2.append_right B
 rwa [List.append_assoc x] at h3
theorem set_self {rows : List SRw} {i : Nat} (hi : i < rows.length) : rows.set i rows[i] = rows:=List.set_getElem_self hi
theorem held_set {rows : List SRw} {c : Int} {i : Nat} {r : SRw} (hi : i < rows.length) : ∀ n, n ≤ rows.length → heldT (rows.set i r) c n + (if i < n ∧ rows[i].1 = c then 1 else 0) = heldT rows c n + (if i < n ∧ r.1 = c then 1 else 0)
 | 0,_=>by simp [heldT]
 | n + 1,hn=>by
   have ih:=held_set (r:=r) (c:=c) hi n (by omega)
   unfold heldT
   by_cases e : n = i
   ·subst e
    rw [getD_setS hi,getDr hi]
    rw [if_neg (by omega),if_neg (by omega)] at ih
    by_cases h1 : r.1 = c<;>by_cases h2 : rows[n].1 = c<;>simp only [h1,h2,and_true,and_false,if_true,if_false,Nat.lt_succ_self]<;>omega
   ·rw [getD_setR e]
    have e2 : (i < n + 1 ∧ rows[i].1 = c) ↔ (i < n ∧ rows[i].1 = c):=by constructor<;>(rintro ⟨a,b⟩;exact ⟨by omega,b⟩)
    have e3 : (i < n + 1 ∧ r.1 = c) ↔ (i < n ∧ r.1 = c):=by constructor<;>(rintro ⟨a,b⟩;exact ⟨by omega,b⟩)
    simp only [e2,e3]
    omega
theorem held_two {rows : List SRw} {c : Int} {i : Nat} {r : SRw} (hi : i < rows.length) : heldN (rows.set i r) c + (if rows[i].1 = c then 1 else 0) = heldN rows c + (if r.1 = c then 1 else 0):=by
 have:=held_set (r:=r) (c:=c) hi rows.length (Nat.le_refl _)
 unfold heldN
 rw [List.length_set]
 simpa [hi] using this
def usY : Us:=(0,0,0)
def insT (l : List Us) (u : Us) : Nat → List Us × Bool
 | 0=>([],false)
 | k + 1=>if (insT l u k).2 = false ∧ u.1 < (l.getD k usY).1 then ((insT l u k).1 ++ [u] ++ [l.getD k usY],true) else ((insT l u k).1 ++ [l.getD k usY],(insT l u k).2)
def insN (l : List Us) (u : Us) : List Us:=if (insT l u l.length).2 = true then (insT l u l.length).1 else (insT l u l.length).1 ++ [u]
theorem insT_spec (l : List Us) (u : Us) : ∀ k, k ≤ l.length → if (insT l u k).2 = true then (insT l u k).1.Perm (u :: l.take k) else (insT l u k).1 = l.take k
 | 0,_=>by simp [insT]
 | k + 1,hk=>by
   have ih:=insT_spec l u k (by omega)
   have e : l.take (k + 1) = l.take k ++ [l.getD k usY]:=by
    rw [List.take_succ_eq_append_getElem (by omega),List.getD_eq_getElem?_getD,List.getElem?_eq_getElem (by omega)];rfl
   rw [e]
   unfold insT
   cases hb : (insT l u k).2 with
   | true =>
     rw [hb,if_pos rfl] at ih
     have e2 : ¬ (true = false ∧ u.1 < (l.getD k usY).1):=fun h=>by cases h.1
     simp only [if_neg e2,if_true]
     exact ih.append_right _
   | false =>
     rw [hb,if_neg (by simp)] at ih
     by_cases hu : u.1 < (l.getD k usY).1
     ·simp only [hu, and_self, if_true]
      rw [ih]
      exact (List.perm_append_comm (l₁:=l.take k) (l₂:=[u])).append_right _
     ·simp only [hu, and_false, if_false, Bool.false_eq_true]
      rw [ih]
theorem insN_perm (l : List Us) (u : Us) : (insN l u).Perm (u :: l):=by
 have h:=insT_spec l u l.length (Nat.le_refl _)
 rw [List.take_length] at h
 unfold insN
 cases hb : (insT l u l.length).2 with
 | true=>rw [hb,if_pos rfl] at h;rw [if_pos rfl];exact h
 | false=>rw [hb,if_neg (by simp)] at h;rw [if_neg (by simp),h];exact List.perm_append_comm
theorem insT_len (l : List Us) (u : Us) : ∀ k, (insT l u k).1.length ≤ k + 1 ∧ ((insT l u k).2 = false → (insT l u k).1.length = k)
 | 0=>by simp [insT]
 | k + 1=>by
   obtain ⟨h1,h2⟩:=insT_len l u k
   unfold insT
   split
   ·rename_i h
    have:=h2 h.1
    simp;omega
   ·simp
    exact ⟨h1,h2⟩
def withU (r : SRw) (u : Us) : SRw:=(r.1,r.2.1,insN r.2.2 u)
def relL (l : List Us) (q : Int) : List Us:=l.filter fun u=>!decide (u.1 = q)
def relR (r : SRw) (q : Int) : SRw:=if relL r.2.2 q = [] then (-1,0,[]) else (r.1,r.2.1,relL r.2.2 q)
theorem relL_perm {q : Int} : ∀ {l : List Us}, (l.map (·.1)).Nodup → q ∈ l.map (·.1) → (l.map (·.1)).Perm (q :: (relL l q).map (·.1))
 | [],_,h=>by simp at h
 | x :: t,hn,h=>by
   rw [List.map_cons,List.nodup_cons] at hn
   by_cases e : x.1 = q
   ·have hr : relL (x :: t) q = t:=by
     unfold relL
     rw [List.filter_cons_of_neg (by simp [e])]
     refine List.filter_eq_self.2 fun u hu=>?_
     have : u.1 ≠ q:=fun hq=>hn.1 (by rw [e,← hq];exact List.mem_map_of_mem hu)
     simp [this]
    rw [hr,List.map_cons,e]
   ·have hr : relL (x :: t) q = x :: relL t q:=by
     unfold relL
     rw [List.filter_cons_of_pos (by simp [e])]
    have hm : q ∈ t.map (·.1):=by
     rw [List.map_cons,List.mem_cons] at h
     rcases h with h | h
     ·exact absurd h.symm e
     ·exact h
    rw [hr,List.map_cons,List.map_cons]
    exact ((relL_perm hn.2 hm).cons _).trans (List.Perm.swap ..)
def hasG (r : SRw) (q : Int) : Bool:=r.2.2.any fun u=>decide (u.1 = q)
theorem hasG_iff {r : SRw} {q : Int} : hasG r q = true ↔ q ∈ r.2.2.map (·.1):=by
 unfold hasG
 simp [List.any_eq_true]
def RwGood (W : Int → Int) (G : Int → Nat) (r : SRw) : Prop:=(r.1 = -1 ∧ r.2.2 = []) ∨ (0 ≤ r.1 ∧ r.1 < 8 ∧ r.2.1 = W r.1 ∧ (r.2.2.map (·.1)).Nodup ∧ ∀ u ∈ r.2.2,0 ≤ u.1 ∧ u.1 < (G r.1 : Int))
section
variable {W : Int → Int} {G : Int → Nat} {rows : List SRw} {c : Int} {i : Nat}
theorem good_set {r : SRw} (h : ∀ x ∈ rows,RwGood W G x) (hr : RwGood W G r) : ∀ x ∈ rows.set i r,RwGood W G x:=fun x hx=>(List.mem_or_eq_of_mem_set hx).elim (h x) fun e=>e ▸ hr
theorem perm_map_row {l t : List Us} {x : Us} (h : l.Perm (x :: t)) : (l.map fun u=>(i,u.1)).Perm ((i,x.1) :: t.map fun u=>(i,u.1)):=h.map _
theorem alc_one {q : Nat} (h : ∀ x ∈ rows, RwGood W G x) (hi : i < rows.length) (hc : rows[i].1 = c) (hc0 : 0 ≤ c) (hq : q < G c) (hf : hasG rows[i] q = false) (e1 e2 : Int) :
 (∀ x ∈ rows.set i (withU rows[i] ((q : Int),e1,e2)),RwGood W G x) ∧ (strN (rows.set i (withU rows[i] ((q : Int),e1,e2))) c).Perm ((i,(q : Int)) :: strN rows c) ∧ (∀ c',c' ≠ c → (strN (rows.set i (withU rows[i] ((q : Int),e1,e2))) c').Perm (strN rows c')) ∧ ∀ c',heldN (rows.set i (withU rows[i] ((q : Int),e1,e2))) c' = heldN rows c':=by
 have hp:=insN_perm rows[i].2.2 ((q : Int),e1,e2)
 refine ⟨good_set h ?_,?_,fun c' hne=>?_,fun c'=>?_⟩
 ·rcases h _ (List.getElem_mem hi) with hh | hh
  ·omega
  ·refine .inr ⟨hh.1, hh.2.1, hh.2.2.1, ?_, fun u hu => ?_⟩
   ·refine (hp.map _).nodup_iff.2 ?_
    rw [List.map_cons,List.nodup_cons]
    refine ⟨fun hm=>?_,hh.2.2.2.1⟩
    rw [hasG_iff.2 hm] at hf
    exact absurd hf (by decide)
   ·rcases List.mem_cons.1 (hp.mem_iff.1 hu) with rfl | hu
    ·exact ⟨Int.natCast_nonneg _,by show (q : Int) < (G rows[i].1 : Int);rw [hc];omega⟩
    ·exact hh.2.2.2.2 u hu
 ·have:=str_two (c:=c) (x:=[(i,(q : Int))]) hi (r':=withU rows[i] ((q : Int),e1,e2)) (r:=rows[i]) (by
   unfold rowS
   rw [if_pos (show (withU rows[i] ((q : Int),e1,e2)).1 = c from hc),if_pos hc]
   exact perm_map_row hp)
  rw [set_self hi] at this
  exact this
 ·have:=str_two (c:=c') (x:=[]) hi (r':=withU rows[i] ((q : Int),e1,e2)) (r:=rows[i]) (by
   unfold rowS
   rw [if_neg (show ¬ (withU rows[i] ((q : Int),e1,e2)).1 = c' from fun e=>hne (e.symm.trans hc)),if_neg (fun e=>hne (e.symm.trans hc))]
   exact List.Perm.refl _)
  rw [set_self hi] at this
  exact this
 ·have := held_two (c := c') (r := withU rows[i] ((q : Int), e1, e2)) hi
  have e : (withU rows[i] ((q : Int),e1,e2)).1 = rows[i].1:=rfl
  rw [e] at this
  omega
theorem alc_two {w : Int} (h : ∀ x ∈ rows, RwGood W G x) (hi : i < rows.length) (hf : rows[i].1 = -1) (hc0 : 0 ≤ c ∧ c < 8) (hw : w = W c) (hg : 0 < G c) (e1 e2 : Int) :
 (∀ x ∈ rows.set i (c,w,[(0,e1,e2)]),RwGood W G x) ∧ (strN (rows.set i (c,w,[(0,e1,e2)])) c).Perm ((i,(0 : Int)) :: strN rows c) ∧ (∀ c',0 ≤ c' → c' ≠ c → (strN (rows.set i (c,w,[(0,e1,e2)])) c').Perm (strN rows c')) ∧ heldN (rows.set i (c,w,[(0,e1,e2)])) c = heldN rows c + 1 ∧ ∀ c',0 ≤ c' → c' ≠ c → heldN (rows.set i (c,w,[(0,e1,e2)])) c' = heldN rows c':=by
 refine ⟨good_set h (.inr ⟨hc0.1,hc0.2,hw,by simp,fun u hu=>?_⟩),?_,fun c' h0 hne=>?_,?_,fun c' h0 hne=>?_⟩
 ·obtain rfl : u = (0, e1, e2) := by simpa using hu
  exact ⟨Int.le_refl _,by show (0 : Int) < (G c : Int);omega⟩
 ·have:=str_two (c:=c) (x:=[(i,(0 : Int))]) hi (r':=(c,w,[(0,e1,e2)])) (r:=rows[i]) (by
   unfold rowS
   rw [if_pos rfl,if_neg (by omega)]
   exact List.Perm.refl _)
  rw [set_self hi] at this
  exact this
 ·have:=str_two (c:=c') (x:=[]) hi (r':=(c,w,[(0,e1,e2)])) (r:=rows[i]) (by
   unfold rowS
   rw [if_neg (fun e=>hne e.symm),if_neg (by omega)]
   exact List.Perm.refl _)
  rw [set_self hi] at this
  exact this
 ·have := held_two (c := c) (r := (c, w, [(0, e1, e2)])) hi
  rw [if_neg (by omega),if_pos rfl] at this
  exact this
 ·have := held_two (c := c') (r := (c, w, [(0, e1, e2)])) hi
  rw [if_neg (by omega),if_neg (fun e=>hne e.symm)] at this
  exact this
theorem rel_one {q : Int} (h : ∀ x ∈ rows, RwGood W G x) (hi : i < rows.length) (hq : hasG rows[i] q = true) :
 (∀ x ∈ rows.set i (relR rows[i] q),RwGood W G x) ∧ (strN rows rows[i].1).Perm ((i,q) :: strN (rows.set i (relR rows[i] q)) rows[i].1) ∧ (∀ c',0 ≤ c' → c' ≠ rows[i].1 → (strN rows c').Perm (strN (rows.set i (relR rows[i] q)) c')) ∧ ∀ c',0 ≤ c' → heldN (rows.set i (relR rows[i] q)) c' ≤ heldN rows c':=by
 have hm:=hasG_iff.1 hq
 rcases h _ (List.getElem_mem hi) with hh | ⟨h0,h8,hw,hn,hg⟩
 ·rw [hh.2] at hm;simp at hm
 have hp:=relL_perm hn hm
 have hsub : ∀ u ∈ relL rows[i].2.2 q,u ∈ rows[i].2.2:=fun u hu=>(List.mem_filter.1 hu).1
 have hrow : ∀ l t : List Us,(l.map (·.1)).Perm (q :: t.map (·.1)) → (l.map fun u=>(i,u.1)).Perm ((i,q) :: t.map fun u=>(i,u.1)):=fun l t hlt=>by
  have:=hlt.map fun x : Int=>(i,x)
  simpa [List.map_map,Function.comp_def] using this
 refine ⟨good_set h ?_,?_,fun c' hc hne=>?_,fun c' hc=>?_⟩
 ·unfold relR
  split
  ·exact .inl ⟨rfl,rfl⟩
  ·refine .inr ⟨h0, h8, hw, ?_, fun u hu => hg u (hsub u hu)⟩
   exact List.Nodup.sublist (List.Sublist.map _ List.filter_sublist) hn
 ·have:=str_two (c:=rows[i].1) (x:=[(i,q)]) hi (r':=rows[i]) (r:=relR rows[i] q) (by
   unfold rowS relR
   rw [if_pos rfl]
   split
   ·rename_i e
    rw [if_neg (by show ¬ (-1 : Int) = _;omega)]
    rw [e] at hp
    have:=hrow _ [] hp
    simpa using this
   ·rw [if_pos rfl]
    exact hrow _ _ hp)
  rw [set_self hi] at this
  exact this
 ·have:=str_two (c:=c') (x:=[]) hi (r':=rows[i]) (r:=relR rows[i] q) (by
   unfold rowS relR
   rw [if_neg (fun e=>hne e.symm)]
   split
   ·rw [if_neg (by show ¬ (-1 : Int) = _;omega)];exact List.Perm.refl _
   ·rw [if_neg (fun e=>hne e.symm)];exact List.Perm.refl _)
  rw [set_self hi] at this
  exact this
 ·have := held_two (c := c') (r := relR rows[i] q) hi
  have e : (relR rows[i] q).1 = -1 ∨ (relR rows[i] q).1 = rows[i].1:=by
   unfold relR
   split
   ·exact .inl rfl
   ·exact .inr rfl
  rcases e with e | e
  ·rw [e, if_neg (show ¬ (-1 : Int) = c' by omega)] at this
   omega
  ·rw [e] at this
   omega
end
theorem full_rows {rows : List SRw} {c : Int} {g : Nat} (h : ∀ j (hj : j < rows.length), rows[j].1 = c → g ≤ rows[j].2.2.length) : ∀ n, n ≤ rows.length → g * heldT rows c n ≤ (strTo rows c n).length
 | 0,_=>by simp [heldT]
 | n + 1,hn=>by
   have ih:=full_rows h n (by omega)
   rw [strTo_rowS,heldT,List.length_append,getDr (show n < rows.length by omega),Nat.mul_add]
   unfold rowS
   by_cases hc : rows[n].1 = c
   ·have := h n (by omega) hc
    rw [if_pos hc,if_pos hc,List.length_map]
    omega
   ·rw [if_neg hc, if_neg hc]
    simpa using ih
theorem full_len {r : SRw} {g : Nat} (h : ∀ q : Nat,q < g → hasG r q = true) : g ≤ r.2.2.length:=by
 have h1:=nodup_le (List.range g) (r.2.2.map fun u=>u.1.toNat) List.nodup_range fun q hq=>by
  have h2:=hasG_iff.1 (h q (List.mem_range.1 hq))
  obtain ⟨u,hu,he⟩:=List.mem_map.1 h2
  exact List.mem_map.2 ⟨u,hu,by omega⟩
 simpa using h1
def sumC (f : Nat → Nat) : Nat → Nat
 | 0=>0
 | c + 1=>sumC f c + f c
theorem sumC_add (f g : Nat → Nat) : ∀ n, sumC (fun c => f c + g c) n = sumC f n + sumC g n
 | 0=>rfl
 | n + 1=>by simp only [sumC,sumC_add f g n];omega
theorem sumC_zero : ∀ n, sumC (fun _ => 0) n = 0
 | 0=>rfl
 | n + 1=>by simp only [sumC,sumC_zero n]
theorem sumC_one {a : Nat} : ∀ n, a < n → sumC (fun c => if a = c then 1 else 0) n = 1
 | 0,h=>by omega
 | n + 1,h=>by
   simp only [sumC]
   by_cases e : a = n
   ·subst e
    have : sumC (fun c=>if a = c then 1 else 0) a = sumC (fun _=>0) a:=by
     have key : ∀ m,m ≤ a → sumC (fun c=>if a = c then 1 else 0) m = sumC (fun _=>0) m:=fun m=>by
      induction m with
      | zero=>intro _;rfl
      | succ m ih=>intro hm;simp only [sumC];rw [ih (by omega),if_neg (by omega)]
     exact key a (Nat.le_refl _)
    rw [this,sumC_zero,if_pos rfl]
   ·rw [sumC_one n (by omega),if_neg e]
theorem held_all {rows : List SRw} (h : ∀ j (hj : j < rows.length), 0 ≤ rows[j].1 ∧ rows[j].1 < 8) : ∀ n, n ≤ rows.length → sumC (fun c => heldT rows (c : Int) n) 8 = n
 | 0,_=>rfl
 | n + 1,hn=>by
   have ih:=held_all h n (by omega)
   obtain ⟨h0,h8⟩:=h n (by omega)
   have e : (fun c : Nat=>heldT rows (c : Int) (n + 1)) = fun c : Nat=>heldT rows (c : Int) n + if rows[n].1.toNat = c then 1 else 0:=by
    funext c
    rw [heldT,getDr (show n < rows.length by omega)]
    congr 1
    by_cases hc : rows[n].1 = (c : Int)
    ·rw [if_pos hc,if_pos (by omega)]
    ·rw [if_neg hc,if_neg (by omega)]
   rw [e,sumC_add,ih,sumC_one 8 (by omega)]
theorem sumC_le {f : Nat → Nat} {need : List Int} {h : Nat → Int} (h0 : ∀ c, (f c : Int) ≤ need.getD c 0) : ∀ n, (sumC f n : Int) ≤ sumH need h n
 | 0=>Int.le_refl _
 | n + 1=>by
   have ih:=sumC_le (h:=h) h0 n
   have h1:=h0 n
   unfold sumC sumH mxI
   split<;>omega
theorem alc_cases (rows : List SRw) (c : Int) (g : Nat) : (∃ (i : Nat) (hi : i < rows.length) (q : Nat), rows[i].1 = c ∧ q < g ∧ hasG rows[i] q = false ∧ (∀ q' : Nat, q' < q → hasG rows[i] q' = true) ∧ ∀ j (hj : j < i), rows[j].1 = c → ∀ q' : Nat, q' < g → hasG rows[j] q' = true) ∨
 ((∀ j (hj : j < rows.length),rows[j].1 = c → ∀ q' : Nat,q' < g → hasG rows[j] q' = true) ∧ ((∃ (i : Nat) (hi : i < rows.length),rows[i].1 = -1 ∧ ∀ j (hj : j < i),rows[j].1 ≠ -1) ∨ ∀ j (hj : j < rows.length),rows[j].1 ≠ -1)):=by
 have first : ∀ (p : Nat → Prop) (n : Nat),(∃ i,i < n ∧ p i) → ∃ i,i < n ∧ p i ∧ ∀ j,j < i → ¬ p j:=by
  intro p n
  induction n with
  | zero=>rintro ⟨i,hi,_⟩;omega
  | succ n ih =>
    rintro ⟨i,hi,hp⟩
    by_cases hh : ∃ i,i < n ∧ p i
    ·obtain ⟨i, a, b⟩ := ih hh
     exact ⟨i,by omega,b⟩
    ·have hn : i = n := Classical.byContradiction fun hne => hh ⟨i, by omega, hp⟩
     subst hn
     exact ⟨i,hi,hp,fun j hj hpj=>hh ⟨j,hj,hpj⟩⟩
 by_cases h1 : ∃ i,i < rows.length ∧ ((rows.getD i rw0).1 = c ∧ ∃ q : Nat,q < g ∧ hasG (rows.getD i rw0) q = false)
 ·obtain ⟨i, hi, ⟨hc, hq⟩, hb⟩ := first _ _ h1
  obtain ⟨q,hq1,hq2,hq3⟩:=first _ _ hq
  rw [getDr hi] at hc hq2
  refine .inl ⟨i,hi,q,hc,hq1,hq2,fun q' hq'=>?_,fun j hj hjc q' hq'=>?_⟩
  ·have := hq3 q' hq'
   rw [getDr hi] at this
   simpa using this
  ·have := hb j hj
   rw [getDr (show j < rows.length by omega)] at this
   cases he : hasG rows[j] q' with
   | true=>rfl
   | false=>exact absurd ⟨hjc,q',hq',he⟩ this
 ·refine .inr ⟨fun j hj hjc q' hq' => ?_, ?_⟩
  ·cases he : hasG rows[j] q' with
   | true=>rfl
   | false=>exact absurd ⟨j,hj,by rw [getDr hj];exact hjc,q',hq',by rw [getDr hj];exact he⟩ h1
  ·by_cases h2 : ∃ i, i < rows.length ∧ (rows.getD i rw0).1 = -1
   ·obtain ⟨i, hi, hf, hb⟩ := first _ _ h2
    rw [getDr hi] at hf
    refine .inl ⟨i,hi,hf,fun j hj=>?_⟩
    have:=hb j hj
    rw [getDr (show j < rows.length by omega)] at this
    exact this
   ·refine .inr fun j hj hf => h2 ⟨j, hj, ?_⟩
    rw [getDr hj];exact hf
end
end Go.Proofs.YtplpgijpmgbaiaaGreatDoor
