import Derived.Test.YtplpgijpmgbaiaaGreatDoorMAdmitSuffices1
import Derived.Laws.IdiomStrings
import Derived.RowKit
import Derived.Test.YtplpgijpmgbaiaaGreatDoorChecked
import Derived.Scope
import Derived.Lib.AppendZeros
/- Joined texts: Kern11 Kern12 Kern14 Kern15 Kern16 Kern17 Kern18 Kern19 Kern20 Kern21 Gf1 Gf2 Gf3 Gf4 Fd1 Fd2 Fd3 Fd4 Fd5 Kern22 Kern23 Kern24 Kern25. -/
set_option linter.unusedVariables false
set_option linter.unusedSimpArgs false
namespace Go.Proofs.YtplpgijpmgbaiaaGreatDoor
open Go.RowKit
set_option maxHeartbeats 4000000
set_option maxRecDepth 100000
section
def litEl (env : List (Nat × AV)) : List (Nat × Operand) → Nat → List (List Dat) → Nat → Prop
 | [],_,[],_=>True
 | (i,x) :: ps,k,e :: es,sz=>i = k ∧ cellsD (lookO env x) = some e ∧ e.length = sz ∧ ((e.map AV.d).all oneA) = true ∧ litEl env ps (k + 1) es sz
 | _,_,_,_=>False
theorem litEl_length {env : List (Nat × AV)} {sz : Nat} : ∀ {ps : List (Nat × Operand)} {k : Nat} {es : List (List Dat)}, litEl env ps k es sz → ps.length = es.length
 | [],_,[],_=>rfl
 | (i,x) :: ps,k,e :: es,h=>by simp [litEl_length h.2.2.2.2]
 | [],_,_ :: _,h=>h.elim
 | _ :: _,_,[],h=>h.elim
theorem fill_lit {F : Nat → Prop} {own : List Ent} {κ : List (Option Nat)} {w : World} {a : Act} {env : List (Nat × AV)} {sz : Nat} : ∀ (ps : List (Nat × Operand)) (k : Nat) (es : List (List Dat)) (cs : Array Value), litEl env ps k es sz →
 (∀ p ∈ ps,AV.sat F own κ w (lookO env p.2) (a.eval p.2)) → cs.size = (k + ps.length) * sz →
 ∃ rs : Array Value, Instr.fill (fun i => some (i * sz, sz)) cs (ps.map fun p => (p.1, a.eval p.2)) = some rs ∧ rs.size = cs.size ∧ (∀ j, j < k * sz → rs[j]? = cs[j]?) ∧
  (∀ j e,es[j]? = some e → ∃ us : List Value,AV.satL F own κ w (e.map .d) us ∧ (∀ u ∈ us,u.oneCell' = true) ∧ ∀ i u,us[i]? = some u → rs[(k + j) * sz + i]? = some u)
 | [],k,[],cs,_,_,_=>⟨cs,rfl,rfl,fun _ _=>rfl,fun j e h=>by simp at h⟩
 | (i,x) :: ps,k,e :: es,cs,h,hs,hsz=>by
   obtain ⟨rfl,hc,hl,hone',h⟩:=h
   obtain ⟨hcA,hok⟩:=cellsD_A hc
   have hx:=cellsA_sat hcA (hs (i,x) (by simp)) hok
   have hxl:=satL_length hx
   simp only [List.length_map,Array.length_toList] at hxl
   have h1 : ∀ u ∈ (a.eval x).cells.toList,u.oneCell' = true:=oneL_sat hone' hx
   have hone : (i + ((i,x) :: ps).length) * sz = i * sz + sz + ps.length * sz:=by simp [Nat.add_mul];omega
   have e1 : ((((a.eval x).cells).zipIdx).foldl (fun cs (p : Value × Nat)=>cs.setIfInBounds (i * sz + p.2) p.1) cs) = (((a.eval x).cells.toList.zipIdx).foldl (fun cs (p : Value × Nat)=>cs.setIfInBounds (i * sz + p.2) p.1) cs):=by
    rw [← Array.foldl_toList];simp
   have e2:=foldl_set [] (a.eval x).cells.toList (i * sz) cs (by simp;omega)
   generalize hcs' : (((a.eval x).cells).zipIdx).foldl (fun cs (p : Value × Nat)=>cs.setIfInBounds (i * sz + p.2) p.1) cs = cs' at e1
   rw [← e1] at e2
   have hcl : ((a.eval x).cells.toList).length = sz:=by simp;omega
   have hsz' : cs'.size = cs.size:=by
    have:=congrArg List.length e2
    simp only [Array.length_toList,List.length_append,List.length_take,List.length_drop] at this
    simp only [Array.length_toList] at hcl
    omega
   obtain ⟨rs,g1,g2,g3,g4⟩:=fill_lit ps (i + 1) es cs' h (fun p hp=>hs p (by simp [hp])) (by rw [hsz',hsz];simp [Nat.add_mul];omega)
   have hget : ∀ j,j < (i + 1) * sz → rs[j]? = ((cs.toList.take (i * sz) ++ (a.eval x).cells.toList ++ cs.toList.drop (i * sz + (a.eval x).cells.toList.length)))[j]?:=fun j hj=>by
    rw [g3 j hj,← e2];simp
   rw [Nat.add_mul,Nat.one_mul] at hget
   refine ⟨rs,?_,by omega,fun j hj=>?_,fun j e' hj=>?_⟩
   ·simp only [List.map_cons, Instr.fill]
    rw [if_neg]
    ·rw [hcs'];exact g1
    ·simp only [Bool.or_eq_true, bne_iff_ne, ne_eq, decide_eq_true_eq, not_or]
     exact ⟨by omega,by omega⟩
   ·rw [hget j (by omega),List.append_assoc,List.getElem?_append_left (by simp;omega),List.getElem?_take,if_pos hj];simp
   ·cases j with
    | zero =>
      obtain rfl : e = e':=by simpa using hj
      refine ⟨_,hx,h1,fun q u hu=>?_⟩
      have hq : q < sz:=by
       have : q < (a.eval x).cells.toList.length:=(List.getElem?_eq_some_iff.1 hu).1
       omega
      rw [Nat.add_zero,hget _ (by omega),List.append_assoc,List.getElem?_append_right (by simp;omega),List.getElem?_append_left (by simp;simp at hcl;omega)]
      have : i * sz + q - (cs.toList.take (i * sz)).length = q:=by simp;omega
      rw [this];exact hu
    | succ j =>
      obtain ⟨us,u1,u2,u3⟩:=g4 j e' (by simpa using hj)
      exact ⟨us,u1,u2,fun q u hu=>by rw [show i + (j + 1) = i + 1 + j from by omega];exact u3 q u hu⟩
 | [],_,_ :: _,_,h,_,_=>h.elim
 | _ :: _,_,[],_,h,_,_=>h.elim
section
variable {P : Program} {m : Nat} {env : List (Nat × AV)} {own : List Ent} {dst : Option Tmp} {ty : TypeId} {pos : String} {af : Array Edge} {gd : Option (Nat × Bool)}
theorem run_buildSlice {F : Nat → Prop} {own' : List Ent} {κ : List (Option Nat)} {w : World} {a : Act} {t e : TypeId} {sz by' : Nat} {z : Value} {n : Nat} {parts : Array (Nat × Operand)} {es : List (List Dat)} (ht : slInfo P t = some (e, sz, by', z)) (hz : z.cells.size = sz) (hl : litEl env parts.toList 0 es sz) (hn : n = es.length) (hb : n * sz ≤ 16777216)
 (hs : ∀ p ∈ parts.toList,AV.sat F own' κ w (lookO env p.2) (a.eval p.2)) :
 ∃ rs : Array Value, (Instr.buildSlice t n (parts.map fun (i, x) => (i, a.eval x))).run P w = .ok (.slice (some ⟨w.heap.size, 0, none⟩) n n) (w.alloc (.cells rs e)) ∧ rs.size = n * sz ∧
  (∀ j e,es[j]? = some e → ∃ us : List Value,AV.satL F own' κ w (e.map .d) us ∧ (∀ u ∈ us,u.oneCell' = true) ∧ ∀ i u,us[i]? = some u → rs[j * sz + i]? = some u):=by
 obtain ⟨he,i,hi,rfl,hby,hzz⟩:=slInfo_spec ht
 have hlen:=litEl_length hl
 let cs : Array Value:=(Array.range (n * i.size)).map fun j=>(if n * i.size = 0 then #[] else z.cells)[j % (if n * i.size = 0 then #[] else z.cells).size]!
 have hcs : cs.size = n * i.size:=by simp [cs]
 obtain ⟨rs,h1,h2,_,h3⟩:=fill_lit (a:=a) parts.toList 0 es cs hl hs (by rw [hcs,hn,hlen];simp)
 refine ⟨rs,?_,by omega,fun j e hj=>by obtain ⟨us,u1,u2,u3⟩:=h3 j e hj;exact ⟨us,u1,u2,fun q u hu=>by simpa using u3 q u hu⟩⟩
 have e2 : (parts.map fun (p : Nat × Operand)=>(p.1,a.eval p.2)).toList = parts.toList.map fun p=>(p.1,a.eval p.2):=by simp
 have hb' : ¬ (n * i.size > 2 ^ 24):=by omega
 simp only [Instr.buildSlice,Sem.run_bind,run_underlying he,Result.andThen_ok,sizeOf,typeInfo,run_program,hi,Sem.run_pure,hb',if_false]
 by_cases h0 : n * i.size = 0
 ·simp only [h0, if_true, Sem.run_bind, Sem.run_pure, Result.andThen_ok]
  have hcs0 : cs = (Array.range 0).map fun j=>(#[] : Array Value)[j % (#[] : Array Value).size]!:=by simp only [cs,h0,if_true]
  rw [hcs0] at h1
  rw [e2,h1]
  simp [newRow]
 ·simp only [h0, if_false, Sem.run_bind, zeroValue, typeInfo, run_program, Result.andThen_ok, hi, Sem.run_pure, hzz]
  have hcs0 : cs = (Array.range (n * i.size)).map fun j=>z.cells[j % z.cells.size]!:=by simp only [cs,h0,if_false]
  rw [hcs0] at h1
  rw [e2,h1]
  simp [newRow]
theorem lit_parts {t : TypeId} {n : Nat} {parts : Array (Nat × Operand)} {p : Nat × Operand} (hp : p ∈ parts.toList) : p.2 ∈ (Op.buildSlice t n parts).operands:=by
 simp only [Op.operands,List.mem_toArray,List.mem_map]
 exact ⟨p,by simpa using hp,rfl⟩
theorem litEl_len {sz : Nat} : ∀ {ps : List (Nat × Operand)} {k : Nat} {es : List (List Dat)}, litEl env ps k es sz → ∀ (j : Nat) (e' : List Dat), es[j]? = some e' → e'.length = sz
 | [],_,[],_,j,e',hj=>by simp at hj
 | (i,x) :: ps,k,e :: es,h,j,e',hj=>by
   cases j with
   | zero => obtain rfl : e = e' := by simpa using hj
             exact h.2.2.1
   | succ j=>exact litEl_len h.2.2.2.2 j e' (by simpa using hj)
 | [],_,_ :: _,h,_,_,_=>h.elim
 | _ :: _,_,[],h,_,_,_=>h.elim
theorem lit_rows {F : Nat → Prop} {own' : List Ent} {κ κ' : List (Option Nat)} {w : World} {e : TypeId} {sz k : Nat} {ps : List (Nat × Operand)} {es : List (List Dat)} {rs : Array Value} (hl : litEl env ps k es sz) (hst : Wide (badK F κ) (badK F κ') w (w.alloc (.cells rs e)))
 (h3 : ∀ (j : Nat) (e : List Dat),es[j]? = some e → ∃ us : List Value,AV.satL F own' κ w (e.map .d) us ∧ (∀ u ∈ us,u.oneCell' = true) ∧ ∀ (i : Nat) (u : Value),us[i]? = some u → rs[j * sz + i]? = some u) :
 Dat.rowsSat (badK F κ') (w.alloc (.cells rs e)) w.heap.size sz 0 es:=by
 rw [Dat.rowsSat_iff]
 intro j e' hj
 obtain ⟨us,u1,u2,u3⟩:=h3 j e' hj
 refine ⟨litEl_len hl j e' hj,?_⟩
 rw [Dat.rowSat_iff]
 intro q x hx
 obtain ⟨u,h4,h5⟩:=satL_get u1 q (.d x) (by rw [List.getElem?_map,hx];rfl)
 rw [AV.sat] at h5
 refine ⟨u,?_,u2 u (List.mem_of_getElem? h4),Dat.sat_wide hst x h5⟩
 rw [cell_of_row _ _ _ rs e (0,0) (heap_alloc_new w _),Nat.zero_add]
 exact u3 q u h4
theorem q_lit {t e : TypeId} {sz by' : Nat} {z : Value} {n : Nat} {parts : Array (Nat × Operand)} (es : List (List Dat)) (ht : slInfo P t = some (e, sz, by', z)) (hz : z.cells.size = sz) (h0 : 0 < sz) (hl : litEl env parts.toList 0 es sz) (hn : n = es.length) (hb : n * sz ≤ 16777216) :
 Quiet P m ⟨dst,.buildSlice t n parts,ty,pos,af,gd⟩ env own [] (.d (.sl sz es)) :=
 Quiet.more fun F own' κ a w hs ho _ _=>by
  obtain ⟨rs,h1,h2,h3⟩:=run_buildSlice (P:=P) (a:=a) ht hz hl hn hb (fun p hp=>hs p.2 (lit_parts hp))
  refine ⟨_,_,exec_v h1,?_,rfl,rfl,rfl,by simp,fun b hb=>Below.heap_alloc _ _ _ hb⟩
  have hst : Wide (badK F κ) (badK F κ) w (w.alloc (.cells rs e)):=.of (by simp) (fun b hb _=>Below.heap_alloc _ _ _ hb) fun b _ h=>h
  have hns:=Nat.le_mul_of_pos_right n h0
  rw [AV.sat,Dat.sat]
  refine ⟨some ⟨w.heap.size,0,none⟩,n,by rw [hn],by omega,by unfold maxLen;omega,fun hp=>⟨w.heap.size,0,rfl,by simp,fun hbad=>?_,lit_rows hl hst h3⟩⟩
  rcases hbad with hbad | hbad
  ·have:=ho.frame _ hbad;omega
  ·have:=(ho.lt _ hbad).1;omega
theorem push_same (x : Ent) (i : Nat) (hi : i ∉ [own.length]) : (own ++ [x])[i]? = own[i]?:=by
 rcases Nat.lt_trichotomy i own.length with h | h | h
 ·rw [List.getElem?_append_left h]
 ·exact absurd (by simp [h]) hi
 ·rw [List.getElem?_eq_none (by simp;omega),List.getElem?_eq_none (by omega)]
theorem e_lit {t e : TypeId} {sz by' : Nat} {z : Value} {n : Nat} {parts : Array (Nat × Operand)} (es : List (List Dat)) (ht : slInfo P t = some (e, sz, by', z)) (hz : z.cells.size = sz) (h0 : 0 < sz) (hl : litEl env parts.toList 0 es sz) (hn : n = es.length) (hb : n * sz ≤ 16777216) :
 Eff P m ⟨dst,.buildSlice t n parts,ty,pos,af,gd⟩ env own [own.length] (.osl own.length 0 0 n) (own ++ [.row 0 sz e es]) :=
 Eff.mk (push_same _) fun F κ a w hs ho hm=>by
  obtain ⟨rs,h1,h2,h3⟩:=run_buildSlice (P:=P) (a:=a) ht hz hl hn hb (fun p hp=>hs p.2 (lit_parts hp))
  have hrun : (execOp a.eval ⟨dst,.buildSlice t n parts,ty,pos,af,gd⟩).run P w = .ok (.value (.slice (some ⟨w.heap.size,0,none⟩) n n)) (w.alloc (.cells rs e)):=exec_v h1
  have hns:=Nat.le_mul_of_pos_right n h0
  rw [hrun]
  obtain ⟨g1,g2⟩:=step_push (x:=.row 0 sz e es) (og:=some w.heap.size) (w':=w.alloc (.cells rs e)) hm ho rfl rfl rfl (by simp) (fun b hb=>Below.heap_alloc _ _ _ hb) (.inr ⟨_,rfl,Nat.le_refl _,by simp⟩) (fun hst =>
   ⟨h0,.inr ⟨w.heap.size,rfl,rs,heap_alloc_new _ _,by rw [h2,hn];exact Nat.le_refl _,lit_rows hl hst.wide h3⟩⟩)
  refine ⟨κ ++ [some w.heap.size],?_,g1,g2⟩
  rw [AV.sat]
  refine ⟨⟨.row 0 sz e es,by simp,Nat.le_refl _,rfl⟩,fun sz2 e2 c2 hc=>?_⟩
  obtain ⟨rfl,rfl,rfl⟩ : sz = sz2 ∧ e = e2 ∧ es = c2:=by simpa using hc
  refine ⟨by omega,_,n,rfl,Nat.le_refl _,by unfold maxLen;omega,fun _=>.inl ⟨w.heap.size,by rw [ho.len];simp,by simp,rs,e,(0,0),heap_alloc_new _ _,by rw [h2,Nat.zero_add]⟩⟩
theorem rowsSat_rep {B : Nat → Prop} {w : World} {b sz n : Nat} {zs : List Value} (hz : zs.length = sz) (h1 : ∀ z ∈ zs,z.oneCell' = true) (hc : ∀ j i u,j < n → zs[i]? = some u → w.cell? ⟨b,j * sz + i,none⟩ = some u) : Dat.rowsSat B w b sz 0 (List.replicate n (zs.map .v)):=by
 rw [Dat.rowsSat_iff]
 intro j e hj
 have hjn : j < n:=by have:=(List.getElem?_eq_some_iff.1 hj).1;simpa using this
 obtain rfl : zs.map Dat.v = e:=by rw [List.getElem?_replicate] at hj;simpa [hjn] using hj
 refine ⟨by simpa using hz,?_⟩
 rw [Dat.rowSat_iff]
 intro i x hx
 rw [List.getElem?_map] at hx
 cases hi : zs[i]? with
 | none=>rw [hi] at hx;cases hx
 | some u =>
   rw [hi] at hx;obtain rfl : Dat.v u = x:=by simpa using hx
   exact ⟨u,by rw [Nat.zero_add];exact hc j i u hjn hi,h1 u (List.mem_of_getElem? hi),rfl⟩
theorem e_make {t e : TypeId} {sz by' : Nat} {z : Value} {x y : Operand} {k k' : IntKind} {i : Int} (n : Nat) (ht : slInfo P t = some (e, sz, by', z)) (hz : z.cells.size = sz) (h0 : Nat.ble 1 sz = true) (h1 : (z.cells.toList.all (·.oneCell')) = true) (hby : Nat.ble by' 1024 = true)
 (hx : lookO env x = .d (.v (.int k i))) (hy : lookO env y = .d (.v (.int k' i))) (hi : i = n) (hn : n ≤ 1000000000) :
 Eff P m ⟨dst,.makeSlice t x y,ty,pos,af,gd⟩ env own [own.length] (.osl own.length 0 0 n) (own ++ [.row 0 sz e (List.replicate n (z.cells.toList.map .v))]) :=
 Eff.mk (push_same _) fun F κ a w hs ho hm=>by
  have hx1:=hs x (by simp [Op.operands]);rw [hx,sat_v] at hx1
  have hy1:=hs y (by simp [Op.operands]);rw [hy,sat_v] at hy1
  have h0:=Nat.le_of_ble_eq_true h0
  have hby:=Nat.le_of_ble_eq_true hby
  obtain ⟨he,inf,hi1,rfl,hb1,hzz⟩:=slInfo_spec ht
  have hbn : inf.bytes * n ≤ 281474976710656:=by
   have:=Nat.mul_le_mul (hb1 ▸ hby) hn;omega
  obtain ⟨w',h2,h3,h4⟩:=run_make_full (P:=P) w w.heap.size t e inf z inf.size he hi1 hzz rfl k k' n hbn (by unfold maxLen;omega) (Nat.le_refl _)
  have hrun : (execOp a.eval ⟨dst,.makeSlice t x y,ty,pos,af,gd⟩).run P w = .ok (.value (.slice (some ⟨w.heap.size,0,none⟩) n n)) w':=exec_v (by rw [hx1,hy1,hi];exact h2)
  rw [hrun]
  rcases h3.2 with ⟨hv,_⟩ | ⟨g,cap,cur,hv,_,hh,hnc,hcm,hcs,htake⟩
  ·simp at hv
  ·simp only [Value.slice.injEq, Option.some.injEq, Addr.mk.injEq, and_true] at hv
   obtain ⟨rfl,_,rfl⟩:=hv
   have hlt : w.heap.size < w'.heap.size:=(Array.getElem?_eq_some_iff.1 hh).1
   have hcells : ∀ j i u,j < n → z.cells.toList[i]? = some u → w'.cell? ⟨w.heap.size,j * inf.size + i,none⟩ = some u:=fun j i u hj hu=>by
    rw [cell_of_row w' w.heap.size _ cur e (0,0) hh]
    have hil : i < inf.size:=by have:=(List.getElem?_eq_some_iff.1 hu).1;simp [hz] at this;exact this
    have hjn : j * inf.size + i < n * inf.size:=by
     have:=Nat.mul_le_mul_right inf.size (show j + 1 ≤ n from hj)
     rw [Nat.succ_mul] at this;omega
    have e1 : cur.toList[j * inf.size + i]? = (madeCells z.cells (n * inf.size)).toList[j * inf.size + i]?:=by
     rw [← htake,List.getElem?_take,if_pos hjn]
    have e2 : cur[j * inf.size + i]? = cur.toList[j * inf.size + i]?:=by simp
    rw [e2,e1]
    have hmod : (j * inf.size + i) % z.cells.size = i:=by rw [hz,Nat.mul_comm,Nat.mul_add_mod];exact Nat.mod_eq_of_lt hil
    have hzi : z.cells[i]? = some u:=by simpa using hu
    simp [madeCells,hjn,hmod]
    have hlz : i < z.cells.size:=by omega
    rw [Array.getElem?_eq_getElem hlz] at hzi
    simpa [hlz] using hzi
   obtain ⟨g1,g2⟩:=step_push (x:=.row 0 inf.size e (List.replicate n (z.cells.toList.map .v))) (og:=some w.heap.size) (w':=w') hm ho h4.os h4.tape h4.output h4.size (fun b hb=>h4.block b hb (by simp)) (.inr ⟨_,rfl,Nat.le_refl _,hlt⟩) (fun hst =>
    ⟨h0,.inr ⟨w.heap.size,rfl,cur,hh,by rw [hcs,List.length_replicate];exact Nat.le_refl _,rowsSat_rep (by simpa using hz) (fun u hu=>by simpa using List.all_eq_true.1 h1 u hu) hcells⟩⟩)
   refine ⟨κ ++ [some w.heap.size],?_,g1,g2⟩
   rw [AV.sat]
   refine ⟨⟨_,by rw [List.getElem?_concat_length],Nat.le_refl _,rfl⟩,fun sz2 e2 c2 hc=>?_⟩
   rw [List.getElem?_concat_length] at hc
   obtain ⟨rfl,rfl,rfl⟩ : inf.size = sz2 ∧ e = e2 ∧ List.replicate n (z.cells.toList.map Dat.v) = c2:=by simpa using hc
   refine ⟨by simp,_,n,rfl,Nat.le_refl _,by unfold maxLen;omega,fun _=>.inl ⟨w.heap.size,by rw [ho.len];simp,by simp,cur,e,(0,0),hh,by rw [hcs,Nat.zero_add]⟩⟩
end
end
section
theorem rowSat_append {B : Nat → Prop} {w : World} {b : Nat} : ∀ {xs ys : List Dat} {o : Nat}, Dat.rowSat B w b o (xs ++ ys) ↔ Dat.rowSat B w b o xs ∧ Dat.rowSat B w b (o + xs.length) ys
 | [],ys,o=>by simp [Dat.rowSat]
 | x :: xs,ys,o=>by
   rw [List.cons_append,Dat.rowSat,Dat.rowSat,rowSat_append,List.length_cons,show o + (xs.length + 1) = o + 1 + xs.length from by omega]
   exact ⟨fun ⟨h1,h2,h3⟩=>⟨⟨h1,h2⟩,h3⟩,fun ⟨⟨h1,h2⟩,h3⟩=>⟨h1,h2,h3⟩⟩
theorem rowsSat_flat {B : Nat → Prop} {w : World} {b sz : Nat} : ∀ {l : List (List Dat)} {o : Nat}, Dat.rowsSat B w b sz o l ↔ (∀ e ∈ l, e.length = sz) ∧ Dat.rowSat B w b o l.flatten
 | [],o=>by simp [Dat.rowsSat,Dat.rowSat]
 | e :: es,o=>by
   rw [Dat.rowsSat,rowsSat_flat,List.flatten_cons,rowSat_append]
   constructor
   ·rintro ⟨⟨h1, h2⟩, h3, h4⟩
    exact ⟨fun x hx=>(by rcases List.mem_cons.1 hx with rfl | hx<;>first | exact h1 | exact h3 x hx),h2,by rw [h1];exact h4⟩
   ·rintro ⟨h1, h2, h3⟩
    have he:=h1 e (by simp)
    exact ⟨⟨he,h2⟩,fun x hx=>h1 x (by simp [hx]),by rw [he] at h3;exact h3⟩
def valsSat (B : Nat → Prop) (w : World) (ds : List Dat) (us : List Value) : Prop:=ds.length = us.length ∧ ∀ (j : Nat) (x : Dat),ds[j]? = some x → ∃ u,us[j]? = some u ∧ u.oneCell' = true ∧ Dat.sat B w x u
theorem vals_of_row {B : Nat → Prop} {w : World} {b o : Nat} {ds : List Dat} (h : Dat.rowSat B w b o ds) : ∃ us,valsSat B w ds us ∧ ∀ (j : Nat) (u : Value),us[j]? = some u → w.cell? ⟨b,o + j,none⟩ = some u:=by
 rw [Dat.rowSat_iff] at h
 refine ⟨(List.range ds.length).map fun i=>((w.cell? ⟨b,o + i,none⟩).getD undef),⟨by simp,fun j x hx=>?_⟩,fun j u hu=>?_⟩
 ·obtain ⟨u, h1, h2, h3⟩ := h j x hx
  have hlt : j < ds.length:=(List.getElem?_eq_some_iff.1 hx).1
  exact ⟨u,by simp [hlt,h1],h2,h3⟩
 ·have hlt : j < ds.length := by have := (List.getElem?_eq_some_iff.1 hu).1; simpa using this
  obtain ⟨u',h1,_,_⟩:=h j _ (List.getElem?_eq_getElem hlt)
  have : u' = u:=by simpa [hlt,h1] using hu
  rw [← this];exact h1
theorem row_of_vals {B B' : Nat → Prop} {w w' : World} (hw : Wide B B' w w') {b o : Nat} {ds : List Dat} {us : List Value} (h : valsSat B w ds us) (hc : ∀ (j : Nat) (u : Value),us[j]? = some u → w'.cell? ⟨b,o + j,none⟩ = some u) : Dat.rowSat B' w' b o ds:=by
 rw [Dat.rowSat_iff]
 intro j x hx
 obtain ⟨u,h1,h2,h3⟩:=h.2 j x hx
 exact ⟨u,hc j u h1,h2,Dat.sat_wide hw x h3⟩
theorem vals_append {B : Nat → Prop} {w : World} {ds ds' : List Dat} {us us' : List Value} (h : valsSat B w ds us) (h' : valsSat B w ds' us') : valsSat B w (ds ++ ds') (us ++ us'):=by
 refine ⟨by simp [h.1,h'.1],fun j x hx=>?_⟩
 by_cases hj : j < ds.length
 ·rw [List.getElem?_append_left hj] at hx
  obtain ⟨u,h1,h2⟩:=h.2 j x hx
  exact ⟨u,by rw [List.getElem?_append_left (by rw [← h.1];exact hj)];exact h1,h2⟩
 ·rw [List.getElem?_append_right (by omega)] at hx
  obtain ⟨u,h1,h2⟩:=h'.2 _ x hx
  exact ⟨u,by rw [List.getElem?_append_right (by rw [← h.1];omega),← h.1];exact h1,h2⟩
theorem vals_one {B : Nat → Prop} {w : World} {ds : List Dat} {us : List Value} (h : valsSat B w ds us) : ∀ u ∈ us,u.oneCell' = true:=fun u hu=>by
 obtain ⟨j,hj⟩:=List.mem_iff_getElem?.1 hu
 have hlt : j < ds.length:=by rw [h.1];exact (List.getElem?_eq_some_iff.1 hj).1
 obtain ⟨u',h1,h2,_⟩:=h.2 j _ (List.getElem?_eq_getElem hlt)
 rw [hj] at h1;obtain rfl : u = u':=by simpa using h1
 exact h2
theorem flat_len {sz : Nat} : ∀ {l : List (List Dat)}, (∀ e ∈ l, e.length = sz) → l.flatten.length = l.length * sz
 | [],_=>by simp
 | e :: es,h=>by rw [List.flatten_cons,List.length_append,h e (by simp),flat_len (fun x hx=>h x (by simp [hx])),List.length_cons,Nat.succ_mul];omega
section
variable {P : Program} {m : Nat} {env : List (Nat × AV)} {own : List Ent} {dst : Option Tmp} {ty : TypeId} {pos : String} {af : Array Edge} {gd : Option (Nat × Bool)}
theorem set_same (x : Ent) (p i : Nat) (hi : i ∉ [p]) : (own.set p x)[i]? = own[i]?:=List.getElem?_set_ne (by simpa using Ne.symm (by simpa using hi))
theorem append_fin {F : Nat → Prop} {κ : List (Option Nat)} {w w' : World} {p ver sz n k : Nat} {e : TypeId} {l l2 : List (List Dat)} {og : Option Nat} {v v' : Value} {xs news : List Value} (ho : OwnSat F own κ w) (hm : 0 ≤ p) (hp : own[p]? = some (.row ver sz e l)) (hk : κ[p]? = some og) (hsz : 0 < sz) (hn : n = l.length) (hkl : k = l2.length) (hpos : 0 < k)
 (hl2 : ∀ e ∈ l2,e.length = sz) (hl1 : ∀ e ∈ l,e.length = sz) (hxs : valsSat (badK F κ) w l.flatten xs) (hnews : valsSat (badK F κ) w l2.flatten news)
 (hvo : v.ownBlock = og) (h3 : w'.ownsRow 0 e sz v' (n + k) (xs ++ news)) (h4 : w.grownBy w' v.ownBlock) (h5 : v'.ownBlock = v.ownBlock ∨ v'.ownBlock = some w.heap.size) :
 ∃ κ',AV.sat F (own.set p (.row (ver + 1) sz e (l ++ l2))) κ' w' (.osl p (ver + 1) 0 (n + k)) v' ∧ OwnSat F (own.set p (.row (ver + 1) sz e (l ++ l2))) κ' w' ∧ Tr F m own κ w (own.set p (.row (ver + 1) sz e (l ++ l2))) κ' w':=by
 have hpl : p < own.length:=(List.getElem?_eq_some_iff.1 hp).1
 rcases h3.2 with ⟨_,h0⟩ | ⟨g,cap,cur,rfl,_,hh,hnc,hcm,hcs,htake⟩
 ·omega
 ·have hgl : g < w'.heap.size := (Array.getElem?_eq_some_iff.1 hh).1
  have hog : some g = og ∨ ∃ g',some g = some g' ∧ w.heap.size ≤ g' ∧ g' < w'.heap.size:=by
   rcases h5 with h5 | h5
   ·left;rw [← hvo,← h5];rfl
   ·right
    have : g = w.heap.size:=by simpa [Value.ownBlock] using h5
    exact ⟨g,rfl,by omega,hgl⟩
  have hlen : (l ++ l2).flatten.length = (n + k) * sz:=by
   rw [flat_len (sz:=sz) (by intro e he;rcases List.mem_append.1 he with h | h<;>first | exact hl1 e h | exact hl2 e h),List.length_append,hn,hkl]
  obtain ⟨g1,g2⟩:=step_upd (m:=m) (x':=.row (ver + 1) sz e (l ++ l2)) (og':=some g) (w':=w') ho hp hk h4.os h4.tape h4.output h4.size (fun b hb hne=>h4.block b hb (by rw [hvo];exact Ne.symm hne)) hog (.inl hm) (.inl (Nat.lt_succ_self ver)) (fun hst =>
   ⟨hsz,.inr ⟨g,rfl,cur,hh,by rw [List.length_append,← hn,← hkl,hcs];exact Nat.mul_le_mul_right _ hnc,by
    rw [rowsSat_flat]
    refine ⟨(by intro e he;rcases List.mem_append.1 he with h | h<;>first | exact hl1 e h | exact hl2 e h),?_⟩
    rw [List.flatten_append]
    refine row_of_vals hst.wide (vals_append hxs hnews) fun j u hu=>?_
    rw [Nat.zero_add,cell_of_row w' g j cur e (0,0) hh]
    rw [← htake,List.getElem?_take] at hu
    split at hu
    ·simpa using hu
    ·cases hu⟩⟩)
  refine ⟨_,?_,g1,g2⟩
  rw [AV.sat]
  have hself : (own.set p (.row (ver + 1) sz e (l ++ l2)))[p]? = some (.row (ver + 1) sz e (l ++ l2)):=by rw [List.getElem?_set_self hpl]
  refine ⟨⟨_,hself,Nat.le_refl _,rfl⟩,fun sz2 e2 c2 hc=>?_⟩
  rw [hself] at hc
  obtain ⟨rfl,rfl,rfl⟩ : sz = sz2 ∧ e = e2 ∧ l ++ l2 = c2:=by simpa using hc
  refine ⟨by simp;omega,_,cap,rfl,hnc,hcm,fun _=>.inl ⟨g,?_,by simp,cur,e,(0,0),hh,by rw [hcs,Nat.zero_add]⟩⟩
  rw [List.getElem?_set_self (by rw [← ho.len];exact hpl)]
theorem row_owns {F : Nat → Prop} {κ : List (Option Nat)} {w : World} {p ver sz n : Nat} {e : TypeId} {l : List (List Dat)} {v : Value} (ho : OwnSat F own κ w) (hp : own[p]? = some (.row ver sz e l)) (hn : n = l.length) (hv : AV.sat F own κ w (.osl p ver 0 n) v) :
 0 < sz ∧ (∀ e ∈ l,e.length = sz) ∧ ∃ og xs,κ[p]? = some og ∧ v.ownBlock = og ∧ valsSat (badK F κ) w l.flatten xs ∧ w.ownsRow 0 e sz v n xs:=by
 rw [AV.sat] at hv
 obtain ⟨h1,A,c,rfl,h3,h4,h5⟩:=hv.2 sz e l hp
 obtain ⟨og,hog⟩:=ho.kap p _ hp
 obtain ⟨h0,hent⟩:=ho.ent p _ hp
 have hgd : κ.getD p none = og:=by simp [List.getD_eq_getElem?_getD,hog]
 rw [hgd] at hent
 rcases h5 (.inr rfl) with ⟨g,g1,rfl,cur,t,fz,g3,g4⟩ | ⟨g1,rfl,rfl⟩
 ·obtain rfl : og = some g := by rw [hog] at g1; simpa using g1
  rcases hent with ⟨hx,_⟩ | ⟨g',hg',cur',h6,h7,h8⟩
  ·cases hx
  ·obtain rfl : g = g' := by simpa using hg'
   rw [g3] at h6
   obtain ⟨rfl,rfl,rfl⟩ : cur = cur' ∧ t = e ∧ fz = (0,0):=by simpa using h6
   rw [rowsSat_flat] at h8
   obtain ⟨us,u1,u2⟩:=vals_of_row h8.2
   have hfl:=flat_len h8.1
   have hul : us.length = n * sz:=by rw [← u1.1,hfl,hn]
   refine ⟨h0,h8.1,some g,us,hog,by simp [Value.ownBlock],u1,hul,.inr ⟨g,c,cur,by simp,Nat.zero_le _,g3,h3,h4,by simpa using g4.symm,?_⟩⟩
   apply List.ext_getElem?
   intro j
   rw [List.getElem?_take]
   by_cases hj : j < n * sz
   ·rw [if_pos hj]
    have hj' : j < us.length:=by omega
    have:=u2 j _ (List.getElem?_eq_getElem hj')
    rw [Nat.zero_add,cell_of_row w g j cur t (0,0) g3] at this
    rw [List.getElem?_eq_getElem hj',← this];simp
   ·rw [if_neg hj,List.getElem?_eq_none (by omega)]
 ·obtain rfl : og = none := by rw [hog] at g1; simpa using g1
  rcases hent with ⟨_,rfl⟩ | ⟨g',hg',_⟩
  ·have hn0 : n = 0 := by simpa using hn
   subst hn0
   exact ⟨h0,by simp,none,[],hog,rfl,⟨rfl,fun j x hx=>by simp at hx⟩,by simp,.inl ⟨rfl,rfl⟩⟩
  ·cases hg'
theorem run_builtin_append {a : Act} {x y : Operand} {t : TypeId} {w w' : World} {v : Value} (h : (Builtin.append_ #[t, t] ty #[a.eval x, a.eval y]).run P w = .ok v w') :
 (execOp a.eval ⟨dst,.call ⟨.builtin .append,#[x,y],#[t,t]⟩,ty,pos,af,gd⟩).run P w = .ok (.value v) w':=by
 rw [exec_builtin]
 simp only [builtin,List.map_toArray,List.map_cons,List.map_nil]
 exact exec_v h
theorem e_app {t e : TypeId} {sz by' : Nat} {z : Value} {x y : Operand} {p ver n : Nat} {l l2 : List (List Dat)} (ht : slInfo P t = some (e, sz, by', z)) (hz : z.cells.size = sz) (hby : Nat.ble by' 1024 = true) (hx : lookO env x = .osl p ver 0 n) (hp : own[p]? = some (.row ver sz e l)) (hy : lookO env y = .d (.sl sz l2)) (hm : 0 ≤ p) (hn : n = l.length)
 (hpos : 0 < l2.length) (hb : l.length + l2.length ≤ 1000000000) :
 Eff P m ⟨dst,.call ⟨.builtin .append,#[x,y],#[t,t]⟩,ty,pos,af,gd⟩ env own [p] (.osl p (ver + 1) 0 (l.length + l2.length)) (own.set p (.row (ver + 1) sz e (l ++ l2))) :=
 Eff.mk (set_same _ p) fun F κ a w hs ho hmk=>by
  subst hn
  have hx1:=hs x (by simp [Op.operands,Call.operands]);rw [hx] at hx1
  have hy1:=hs y (by simp [Op.operands,Call.operands]);rw [hy,AV.sat,Dat.sat] at hy1
  obtain ⟨h0,hl1,og,xs,hog,hvo,hxs,hown⟩:=row_owns ho hp rfl hx1
  obtain ⟨A,c,hyv,hc1,hc2,hc3⟩:=hy1
  obtain ⟨b,q,rfl,hb1,hb2,hb3⟩:=hc3 hpos
  rw [rowsSat_flat] at hb3
  obtain ⟨news,hv1,hv2⟩:=vals_of_row hb3.2
  obtain ⟨he,inf,hi1,rfl,hib,hzz⟩:=slInfo_spec ht
  have hnl : news.length = l2.length * inf.size:=by rw [← hv1.1,flat_len hb3.1]
  have hby:=Nat.le_of_ble_eq_true hby
  have hbytes : (l.length + l2.length) * by' ≤ 140737488355328:=by have:=Nat.mul_le_mul hb hby;omega
  obtain ⟨v',w',h2,h3,h4,_,h5⟩:=run_append_own_at (P:=P) w 0 t ty e inf z inf.size by' he hi1 hzz rfl hib hz h0 (a.eval x) l.length xs hown ⟨b,q,none⟩ l2.length c news hnl (fun j u hu=>by rw [add_none];exact hv2 j u hu) (vals_one hv1) (by unfold maxLen;omega) hbytes (Nat.zero_le _)
  rw [run_builtin_append (dst:=dst) (pos:=pos) (af:=af) (gd:=gd) (v:=v') (w':=w') (by rw [hyv];exact h2)]
  exact append_fin ho hm hp hog h0 rfl rfl hpos hb3.1 hl1 hxs hv1 hvo h3 h4 h5
theorem e_app1 {α : Type} {f : α → List Dat} {l : List α} {t e : TypeId} {sz by' : Nat} {z : Value} {x y : Operand} {p ver : Nat} (v : α) (ht : slInfo P t = some (e, sz, by', z)) (hz : z.cells.size = sz) (hby : Nat.ble by' 1024 = true) (hx : lookO env x = .osl p ver 0 l.length) (hp : own[p]? = some (.row ver sz e (l.map f))) (hy : lookO env y = .d (.sl sz [f v])) (hm : Nat.ble 0 p = true)
 (hb : l.length + 1 ≤ 1000000000) :
 Eff P m ⟨dst,.call ⟨.builtin .append,#[x,y],#[t,t]⟩,ty,pos,af,gd⟩ env own [p] (.osl p (ver + 1) 0 (l ++ [v]).length) (own.set p (.row (ver + 1) sz e ((l ++ [v]).map f))):=by
 have:=e_app (P:=P) (m:=m) (dst:=dst) (ty:=ty) (pos:=pos) (af:=af) (gd:=gd) ht hz hby hx hp hy (Nat.le_of_ble_eq_true hm) (by simp) (by simp) (by simpa using hb)
 simpa using this
theorem e_st_rpt {t : TypeId} {k : Nat} {x y : Operand} {i ver j o sz : Nat} {e : TypeId} {l : List (List Dat)} {c : List Dat} {d : Dat} (ht : tyInfo P t = some (false, k)) (hk : k = 1) (hx : lookO env x = .rpt i ver j o) (hi : own[i]? = some (.row ver sz e l)) (hc : l[j]? = some c) (ho' : o < sz) (hy : cellsD (lookO env y) = some [d]) (h1 : oneA (.d d) = true) :
 Eff P m ⟨dst,.store t x y,ty,pos,af,gd⟩ env own [i] (.d (.v undef)) (own.set i (.row ver sz e (l.set j (c.set o d)))) :=
 Eff.mk (set_same _ i) fun F κ a w hs ho hm=>by
  subst hk
  have hx1:=hs x (by simp [Op.operands]);rw [hx,AV.sat] at hx1
  have hy1:=hs y (by simp [Op.operands])
  obtain ⟨hcA,hok⟩:=cellsD_A hy
  have hcs:=cellsA_sat hcA hy1 hok
  have hcl:=satL_length hcs
  obtain ⟨h2,g,h3,h4⟩:=hx1.2 sz e l hi
  obtain ⟨h0,hent⟩:=ho.ent i _ hi
  rw [getD_some h3] at hent
  rcases hent with ⟨hxx,_⟩ | ⟨g',hg',cur,h5,h6,h7⟩
  ·cases hxx
  ·obtain rfl : g = g' := by simpa using hg'
   have hjl : j < l.length:=h2
   have hjs : j * sz + o < l.length * sz:=by
    have:=Nat.mul_le_mul_right sz (show j + 1 ≤ l.length from hjl)
    rw [Nat.succ_mul] at this;omega
   have hvn : (a.eval y).cells.size = 1:=by simpa using hcl.symm
   obtain ⟨u,hu,hsu⟩:=satL_get hcs 0 (.d d) (by simp)
   have hcells : (a.eval y).cells.toList = [u]:=by
    have : (a.eval y).cells.toList.length = 1:=by simpa using hvn
    match hq : (a.eval y).cells.toList,this with
    | [v],_=>rw [hq] at hu;simp at hu;rw [hu]
   have hone : u.oneCell' = true:=one_of_cellsA h1 hsu
   have hrun : (execOp a.eval ⟨dst,.store t x y,ty,pos,af,gd⟩).run P w = .ok .skip (w.setRow g (cur.toList.take (j * sz + o) ++ [u] ++ cur.toList.drop (j * sz + o + 1)).toArray):=by
    have:=run_storeAt (P:=P) ht h5 (.inl rfl) (v:=a.eval y) (o:=j * sz + o) hvn (by omega) (by rw [hcells];simpa using hone)
    rw [hcells] at this
    exact exec_u (by rw [h4];exact this)
   rw [hrun]
   have hrow : (cur.toList.take (j * sz + o) ++ [u] ++ cur.toList.drop (j * sz + o + 1)).toArray = cur.setIfInBounds (j * sz + o) u:=by
    apply Array.ext'
    rw [Array.toList_setIfInBounds,List.set_eq_take_append_cons_drop,if_pos (by simp;omega)]
    simp
   rw [hrow]
   have hgl:=(ho.lt' h3).1
   obtain ⟨g1,g2⟩:=step_upd (m:=m) (x':=.row ver sz e (l.set j (c.set o d))) (og:=some g) (og':=some g) (w':=w.setRow g (cur.setIfInBounds (j * sz + o) u)) ho hi h3 rfl rfl rfl (by simp [World.setRow]) (fun b hb hne=>by
    simp only [World.setRow,Array.getElem?_modify]
    rw [if_neg (fun e=>hne (by rw [e]))]) (.inl rfl) (.inr rfl) (.inr ⟨rfl,rfl,rfl,by simp,rfl,fun g' hg' cur' t' fz' hcur'=>by
     obtain rfl : g = g':=by simpa using hg'
     rw [h5] at hcur'
     obtain ⟨rfl,rfl,rfl⟩ : cur = cur' ∧ e = t' ∧ (0,0) = fz':=by simpa using hcur'
     exact ⟨_,_,_,setRow_heap w g cur _ e (0,0) h5,by simp⟩⟩) (fun hst=>⟨h0,.inr ⟨g,rfl,_,setRow_heap w g cur _ e (0,0) h5,by simpa using h6,by
      have hcell : ∀ q,(w.setRow g (cur.setIfInBounds (j * sz + o) u)).cell? ⟨g,q,none⟩ = if q = j * sz + o then some u else w.cell? ⟨g,q,none⟩:=fun q=>by
       rw [cell_of_row _ g q _ e (0,0) (setRow_heap w g cur _ e (0,0) h5),cell_of_row w g q cur e (0,0) h5,Array.getElem?_setIfInBounds]
       by_cases hq : j * sz + o = q
       ·rw [if_pos hq,if_pos (by omega),if_pos hq.symm]
       ·rw [if_neg hq,if_neg (fun h=>hq h.symm)]
      rw [Dat.rowsSat_iff] at h7 ⊢
      intro j' e' hj'
      by_cases hjj : j' = j
      ·subst hjj
       rw [List.getElem?_set_self hjl] at hj'
       obtain rfl : c.set o d = e':=by simpa using hj'
       obtain ⟨h8,h9⟩:=h7 j' c hc
       refine ⟨by simpa using h8,?_⟩
       rw [Dat.rowSat_iff] at h9 ⊢
       intro q y' hq
       by_cases hqo : q = o
       ·subst hqo
        rw [List.getElem?_set_self (by omega)] at hq
        obtain rfl : d = y':=by simpa using hq
        refine ⟨u,by rw [hcell,if_pos (by omega)],hone,Dat.sat_wide hst.wide d (by rw [AV.sat] at hsu;exact hsu)⟩
       ·rw [List.getElem?_set_ne (Ne.symm hqo)] at hq
        obtain ⟨u',h10,h11,h12⟩:=h9 q y' hq
        exact ⟨u',by rw [hcell,if_neg (by omega)];exact h10,h11,Dat.sat_wide hst.wide y' h12⟩
      ·rw [List.getElem?_set_ne (Ne.symm hjj)] at hj'
       obtain ⟨h8,h9⟩:=h7 j' e' hj'
       refine ⟨h8,?_⟩
       rw [Dat.rowSat_iff] at h9 ⊢
       intro q y' hq
       obtain ⟨u',h10,h11,h12⟩:=h9 q y' hq
       have hql : q < sz:=by have:=(List.getElem?_eq_some_iff.1 hq).1;omega
       have hne : 0 + j' * sz + q ≠ j * sz + o:=fun e=>by
        rcases Nat.lt_trichotomy j' j with hlt | hlt | hlt
        ·have:=Nat.mul_le_mul_right sz (show j' + 1 ≤ j from hlt);rw [Nat.succ_mul] at this;omega
        ·exact hjj hlt
        ·have:=Nat.mul_le_mul_right sz (show j + 1 ≤ j' from hlt);rw [Nat.succ_mul] at this;omega
       exact ⟨u',by rw [hcell,if_neg hne];exact h10,h11,Dat.sat_wide hst.wide y' h12⟩⟩⟩)
   exact ⟨_,sat_v.2 rfl,g1,g2⟩
end
end
section
/-! ### Lists of values,laid out in full by the evaluation itself -/
def cellsF : AV → Option (List AV)
 | .agg l=>some l
 | .d y=>some [.d y]
 | .cl sz l=>some [.cl sz l]
 | .osl i v o n=>some [.osl i v o n]
 | .win i v o n=>some [.win i v o n]
 | .rpt i v j o=>some [.rpt i v j o]
 | .opt i o=>some [.opt i o]
 | .bsl i n c=>some [.bsl i n c]
 | .yl i=>some [.yl i]
 | .mp i=>some [.mp i]
 | .gh _ _=>none
 | .fpt sz l j o=>some [.fpt sz l j o]
 | .fn f l=>some [.fn f l]
 | .bd f l=>some [.bd f l]
 | .top=>none
 | .tup _=>none
theorem cellsF_A {x : AV} {cs : List AV} (h : cellsF x = some cs) : cellsA x = some cs:=by
 cases x<;>simp [cellsF] at h<;>subst h<;>rfl
def spliceF : Nat → List AV → List AV → Option (List AV)
 | 0,[],l=>some l
 | 0,c :: cs,_ :: l=>match spliceF 0 cs l with | some r=>some (c :: r) | none=>none
 | n + 1,cs,z :: l=>match spliceF n cs l with | some r=>some (z :: r) | none=>none
 | 0,_ :: _,[]=>none
 | _ + 1,_,[]=>none
theorem spliceF_spec : ∀ {n : Nat} {cs l r : List AV}, spliceF n cs l = some r → r = l.take n ++ cs ++ l.drop (n + cs.length) ∧ n + cs.length ≤ l.length
 | 0,[],l,r,h=>by simp [spliceF] at h;subst h;simp
 | 0,c :: cs,z :: l,r,h=>by
   simp only [spliceF] at h
   cases hq : spliceF 0 cs l with
   | none=>simp [hq] at h
   | some r' =>
     simp only [hq,Option.some.injEq] at h
     subst h
     obtain ⟨h1,h2⟩:=spliceF_spec hq
     subst h1
     refine ⟨?_,by simp at h2 ⊢;omega⟩
     have : 0 + (c :: cs).length = cs.length + 1:=by simp
     rw [this]
     simp
 | n + 1,cs,z :: l,r,h=>by
   simp only [spliceF] at h
   cases hq : spliceF n cs l with
   | none=>simp [hq] at h
   | some r' =>
     simp only [hq,Option.some.injEq] at h
     subst h
     obtain ⟨h1,h2⟩:=spliceF_spec hq
     subst h1
     refine ⟨?_,by simp at h2 ⊢;omega⟩
     have : n + 1 + cs.length = n + cs.length + 1:=by omega
     rw [this]
     simp
 | 0,_ :: _,[],r,h=>by simp [spliceF] at h
 | _ + 1,_,[],r,h=>by simp [spliceF] at h
def fillF (env : List (Nat × AV)) (pl : List (Nat × Nat)) : List (Nat × Operand) → List AV → Option (List AV)
 | [],cells=>some cells
 | (i, x) :: rest, cells => match pl[i]? with
   | none=>none
   | some (off, sz) => match cellsF (lookO env x) with
     | none=>none
     | some cs => match Nat.beq cs.length sz with
       | false=>none
       | true => match spliceF off cs cells with
         | none=>none
         | some cells'=>fillF env pl rest cells'
theorem fillF_A {env : List (Nat × AV)} {pl : List (Nat × Nat)} : ∀ {ps : List (Nat × Operand)} {cells r : List AV}, fillF env pl ps cells = some r → fillA pl cells (ps.map fun p => (p.1, lookO env p.2)) = some r
 | [],cells,r,h=>by simpa [fillF,fillA] using h
 | (i,x) :: rest,cells,r,h=>by
   simp only [fillF] at h
   cases h1 : pl[i]? with
   | none=>simp [h1] at h
   | some p =>
     obtain ⟨off,sz⟩:=p
     cases h2 : cellsF (lookO env x) with
     | none=>simp [h1,h2] at h
     | some cs =>
       cases h3 : Nat.beq cs.length sz with
       | false=>simp [h1,h2,h3] at h
       | true =>
         cases h4 : spliceF off cs cells with
         | none=>simp [h1,h2,h3,h4] at h
         | some cells' =>
           simp only [h1,h2,h3,h4] at h
           obtain ⟨h5,h6⟩:=spliceF_spec h4
           simp only [List.map_cons,fillA,h1,cellsF_A h2]
           rw [if_pos ⟨Nat.eq_of_beq_eq_true h3,h6⟩,← h5]
           exact fillF_A h
def takeF : Nat → List AV → Option (List AV)
 | 0,_=>some []
 | k + 1,x :: l=>match takeF k l with | some r=>some (x :: r) | none=>none
 | _ + 1,[]=>none
theorem takeF_spec : ∀ {k : Nat} {l r : List AV}, takeF k l = some r → r = l.take k ∧ k ≤ l.length
 | 0,l,r,h=>by simp [takeF] at h;subst h;simp
 | k + 1,x :: l,r,h=>by
   simp only [takeF] at h
   cases hq : takeF k l with
   | none=>simp [hq] at h
   | some r' =>
     simp only [hq,Option.some.injEq] at h
     subst h
     obtain ⟨h1,h2⟩:=takeF_spec hq
     subst h1
     simp;omega
 | _ + 1,[],r,h=>by simp [takeF] at h
def natF : Nat → Option Nat
 | 0=>some 0
 | 1=>some 1
 | 2=>some 2
 | 3=>some 3
 | 4=>some 4
 | 5=>some 5
 | 6=>some 6
 | 7=>some 7
 | 8=>some 8
 | 9=>some 9
 | 10=>some 10
 | 11=>some 11
 | 12=>some 12
 | 13=>some 13
 | 14=>some 14
 | 15=>some 15
 | 16=>some 16
 | 17=>some 17
 | 18=>some 18
 | 19=>some 19
 | 20=>some 20
 | 21=>some 21
 | 22=>some 22
 | 23=>some 23
 | 24=>some 24
 | 25=>some 25
 | 26=>some 26
 | 27=>some 27
 | 28=>some 28
 | 29=>some 29
 | 30=>some 30
 | 31=>some 31
 | 32=>some 32
 | 33=>some 33
 | 34=>some 34
 | 35=>some 35
 | 36=>some 36
 | 37=>some 37
 | 38=>some 38
 | 39=>some 39
 | 40=>some 40
 | 41=>some 41
 | 42=>some 42
 | 43=>some 43
 | 44=>some 44
 | 45=>some 45
 | 46=>some 46
 | 47=>some 47
 | _=>none
theorem natF_spec {n k : Nat} (h : natF n = some k) : k = n:=by
 unfold natF at h
 split at h<;>first | (injection h with h;exact h.symm) | cases h
def natI : Int → Option Nat
 | .ofNat k=>natF k
 | .negSucc _=>none
theorem natI_spec {b : Int} {n : Nat} (h : natI b = some n) : b = (n : Int):=by
 cases b with
 | ofNat k=>rw [natF_spec h];rfl
 | negSucc k=>cases h
def setF : List Ent → Nat → Ent → Option (List Ent)
 | [],_,_=>none
 | _ :: l,0,x=>some (x :: l)
 | y :: l,i + 1,x=>match setF l i x with | some r=>some (y :: r) | none=>none
theorem setF_spec : ∀ {l : List Ent} {i : Nat} {x : Ent} {r : List Ent}, setF l i x = some r → r = l.set i x
 | [],i,x,r,h=>by simp [setF] at h
 | y :: l,0,x,r,h=>by simp [setF] at h;subst h;rfl
 | y :: l,i + 1,x,r,h=>by
   simp only [setF] at h
   cases hq : setF l i x with
   | none=>simp [hq] at h
   | some r'=>simp only [hq,Option.some.injEq] at h;subst h;rw [setF_spec hq];rfl
def pushF : List Ent → Ent → Option (List Ent)
 | [],x=>some [x]
 | y :: l,x=>match pushF l x with | some r=>some (y :: r) | none=>none
theorem pushF_spec : ∀ {l : List Ent} {x : Ent} {r : List Ent}, pushF l x = some r → r = l ++ [x]
 | [],x,r,h=>by simp [pushF] at h;subst h;rfl
 | y :: l,x,r,h=>by
   simp only [pushF] at h
   cases hq : pushF l x with
   | none=>simp [hq] at h
   | some r'=>simp only [hq,Option.some.injEq] at h;subst h;rw [pushF_spec hq];rfl
def lenF : List Ent → Nat → Option Nat
 | [],k=>some k
 | _ :: l,k=>lenF l (Nat.succ k)
theorem lenF_spec : ∀ {l : List Ent} {k n : Nat}, lenF l k = some n → n = l.length + k
 | [],k,n,h=>by simp [lenF] at h;simp [h]
 | _ :: l,k,n,h=>by simp only [lenF] at h;have:=lenF_spec h;simp;omega
section
variable {P : Program} {m : Nat} {env : List (Nat × AV)} {own : List Ent} {dst : Option Tmp} {ty : TypeId} {pos : String} {af : Array Edge} {gd : Option (Nat × Bool)}
theorem q_callC {fo : Operand} {args : Array Operand} {ts : Array TypeId} {f : FuncId} {caps l : List AV} {r : AV} (hc : ACalls P f l [] r []) (hfo : lookO env fo = .fn f caps) (ha : args.toList.map (lookO env) ++ caps = l) (hp : AV.pureL l = true) (hr : AV.pure r = true) (hf : isFn P f = true) :
 Quiet P m ⟨dst,.call ⟨.value fo,args,ts⟩,ty,pos,af,gd⟩ env own [] r:=by
 subst ha
 exact q_call hf hfo hc hp hr
theorem q_convI {src dst' : TypeId} {x : Operand} {k : IntKind} {n : Int} (hs : (P.underlying src).isSome = true) (hd : isInt P dst' .i64 = true) (hx : lookO env x = .d (.v (.int k n))) (h : -9223372036854775808 ≤ n ∧ n < 9223372036854775808) :
 Quiet P m ⟨dst,.convert src dst' x,ty,pos,af,gd⟩ env own [] (iV n):=by
 have:=q_conv (P:=P) (m:=m) (env:=env) (own:=own) (dst:=dst) (ty:=ty) (pos:=pos) (af:=af) (gd:=gd) (src:=src) .i64 hs hd hx
 rwa [wrap_in h] at this
theorem q_buildF {t : TypeId} {parts : Array (Nat × Operand)} {pl : List (Nat × Nat)} {zs : List Value} {r : List AV} (ht : bldInfo P t = some (pl, zs)) (hr : fillF env pl parts.toList (zs.map fun z => .d (.v z)) = some r) (hok : (parts.toList.all fun p => okPart (lookO env p.2)) = true) :
 Quiet P m ⟨dst,.build t parts,ty,pos,af,gd⟩ env own [] (.agg r):=q_build ht hok (fillF_A hr)
theorem q_ld_boxF {t : TypeId} {k : Nat} {x : Operand} {i o : Nat} {l r : List AV} (hx : lookO env x = .opt i o) (hl : own[i]? = some (.box l)) (ht : tyInfo P t = some (true, k)) (hr : takeF k (l.drop o) = some r) :
 Quiet P m ⟨dst,.load t x,ty,pos,af,gd⟩ env own [i] (.agg r):=by
 rw [(takeF_spec hr).1]
 by_cases hk : o + k ≤ l.length
 ·exact q_ld_boxs ht hx hl hk
 ·have h1 := (takeF_spec hr).2
  simp only [List.length_drop] at h1
  have hk0 : k = 0:=by omega
  subst hk0
  by_cases ho : o ≤ l.length
  ·exact q_ld_boxs ht hx hl (by omega)
  ·rw [List.drop_eq_nil_of_le (by omega)]
   refine Quiet.val fun F own' κ a w hs ho' hsame _=>?_
   have h1:=hs x (by simp [Op.operands]);rw [hx,AV.sat] at h1
   obtain ⟨g,l2,h2,h3,h4⟩:=h1
   exact ⟨.agg #[],exec_v (by rw [h4];exact run_loadAt_agg ht [] rfl (fun j u hu=>by simp at hu)),by rw [AV.sat];exact ⟨#[],rfl,by simp [AV.satL]⟩⟩
/-! ### Rows of the call's own,known element by element -/
theorem q_ix_oslm {t e e' : TypeId} {sz by' : Nat} {z : Value} {x y : Operand} {p ver q n : Nat} {l : List (List Dat)} {k : IntKind} {i : Int} {j : Nat} (hx : lookO env x = .osl p ver q n) (hp : own[p]? = some (.row ver sz e' l)) (ht : slInfo P t = some (e, sz, by', z)) (hy : lookO env y = .d (.v (.int k i))) (hij : i = j) (hj : j < n) :
 Quiet P m ⟨dst,.indexAddr t x y,ty,pos,af,gd⟩ env own [p] (.rpt p ver (q + j) 0):=q_ix_osl i j ht hx hp hy hij hj
theorem q_ix_osl0 {t e e' : TypeId} {sz by' : Nat} {z : Value} {x y : Operand} {p ver n : Nat} {l : List (List Dat)} {k : IntKind} {i : Int} {j : Nat} (hx : lookO env x = .osl p ver 0 n) (hp : own[p]? = some (.row ver sz e' l)) (ht : slInfo P t = some (e, sz, by', z)) (hy : lookO env y = .d (.v (.int k i))) (hij : i = j) (hj : j < n) :
 Quiet P m ⟨dst,.indexAddr t x y,ty,pos,af,gd⟩ env own [p] (.rpt p ver j 0):=by
 have:=q_ix_osl (P:=P) (m:=m) (dst:=dst) (ty:=ty) (pos:=pos) (af:=af) (gd:=gd) i j ht hx hp hy hij hj
 rwa [Nat.zero_add] at this
theorem q_ld_rptm {α : Type} {f : α → List Dat} {l : List α} {t : TypeId} {k : Nat} {x : Operand} {i ver j o sz : Nat} {e : TypeId} {y : Dat} (hx : lookO env x = .rpt i ver j o) (hi : own[i]? = some (.row ver sz e (l.map f))) (ht : tyInfo P t = some (false, k)) (hj : j < l.length) (hy : (f (l[j]'hj))[o]? = some y) :
 Quiet P m ⟨dst,.load t x,ty,pos,af,gd⟩ env own [i] (.d y):=q_ld_rpt ht hx hi (by rw [List.getElem?_map,List.getElem?_eq_getElem hj];rfl) hy
theorem e_st_rptm {α : Type} {f : α → List Dat} {l : List α} {t : TypeId} {x y : Operand} {i ver j : Nat} {e : TypeId} {d : Dat} {own' : List Ent} (v : α) (hx : lookO env x = .rpt i ver j 0) (hi : own[i]? = some (.row ver 1 e (l.map f))) (ht : tyInfo P t = some (false, 1)) (hy : cellsD (lookO env y) = some [d]) (hv : f v = [d]) (ho : setF own i (.row ver 1 e ((l.set j v).map f)) = some own') (h1 : oneA (.d d) = true) (hl : ∀ a, (f a).length = 1) (hj : j < l.length) :
 Eff P m ⟨dst,.store t x y,ty,pos,af,gd⟩ env own [i] (.d (.v undef)) own':=by
 have:=e_st_rpt (P:=P) (m:=m) (dst:=dst) (ty:=ty) (pos:=pos) (af:=af) (gd:=gd) (c:=f l[j]) ht rfl hx hi (by rw [List.getElem?_map,List.getElem?_eq_getElem hj];rfl) (by omega) hy h1
 have e1 : (l.map f).set j ((f l[j]).set 0 d) = (l.set j v).map f:=by
  rw [List.map_set,hv]
  congr 1
  have:=hl l[j]
  match hq : f l[j],this with
  | [c],_=>rfl
 rw [setF_spec ho]
 rwa [e1] at this
/-! ### Memory,laid out -/
theorem e_boxF {t : TypeId} {x : Operand} {l : List AV} {n : Nat} {own' : List Ent} (hc : cellsF (lookO env x) = some l) (hn : lenF own 0 = some n) (ho : pushF own (.box l) = some own') (hok : okPart (lookO env x) = true) (h1 : l.all oneA = true) :
 Eff P m ⟨dst,.box t x,ty,pos,af,gd⟩ env own [n] (.opt n 0) own':=by
 have e:=lenF_spec hn
 rw [Nat.add_zero] at e
 rw [pushF_spec ho,e];exact e_box (cellsF_A hc) hok h1
theorem e_allocF {t : TypeId} {zs : List Value} {n : Nat} {own' : List Ent} (hz : zeroInfo P t = some zs) (hn : lenF own 0 = some n) (ho : pushF own (.box (zs.map fun z => .d (.v z))) = some own') (h1 : (zs.all (·.oneCell')) = true) :
 Eff P m ⟨dst,.alloc t,ty,pos,af,gd⟩ env own [n] (.opt n 0) own':=by
 have e:=lenF_spec hn
 rw [Nat.add_zero] at e
 rw [pushF_spec ho,e];exact e_alloc hz h1
theorem e_st_boxF {t : TypeId} {n : Nat} {b : Bool} {x y : Operand} {i o : Nat} {l cs l' : List AV} {own' : List Ent} (hx : lookO env x = .opt i o) (hl : own[i]? = some (.box l)) (hc : cellsF (lookO env y) = some cs) (hs : spliceF o cs l = some l') (ho : setF own i (.box l') = some own') (ht : tyInfo P t = some (b, n)) (hok : okPart (lookO env y) = true) (h1 : cs.all oneA = true) (hn : Nat.beq cs.length n = true) :
 Eff P m ⟨dst,.store t x y,ty,pos,af,gd⟩ env own [i] (.d (.v undef)) own':=by
 have hn:=Nat.eq_of_beq_eq_true hn
 obtain ⟨h2,h3⟩:=spliceF_spec hs
 rw [setF_spec ho,h2]
 exact e_st_box ht hx hl (cellsF_A hc) hok h1 hn (by omega)
theorem e_appF {t e : TypeId} {sz by' : Nat} {z : Value} {x y : Operand} {p ver n : Nat} {l l2 : List (List Dat)} {own' : List Ent} (hx : lookO env x = .osl p ver 0 n) (hp : own[p]? = some (.row ver sz e l)) (hy : lookO env y = .d (.sl sz l2)) (ho : setF own p (.row (ver + 1) sz e (l ++ l2)) = some own') (ht : slInfo P t = some (e, sz, by', z)) (hz : z.cells.size = sz) (hby : Nat.ble by' 1024 = true) (hm : Nat.ble 0 p = true) (hn : n = l.length)
 (hpos : 0 < l2.length) (hb : l.length + l2.length ≤ 1000000000) :
 Eff P m ⟨dst,.call ⟨.builtin .append,#[x,y],#[t,t]⟩,ty,pos,af,gd⟩ env own [p] (.osl p (ver + 1) 0 (l.length + l2.length)) own':=by
 rw [setF_spec ho];exact e_app ht hz hby hx hp hy (Nat.le_of_ble_eq_true hm) hn hpos hb
theorem e_app1F {α : Type} {f : α → List Dat} {l : List α} {t e : TypeId} {sz by' : Nat} {z : Value} {x y : Operand} {p ver : Nat} {own' : List Ent} (v : α) (hx : lookO env x = .osl p ver 0 l.length) (hp : own[p]? = some (.row ver sz e (l.map f))) (hy : lookO env y = .d (.sl sz [f v])) (ho : setF own p (.row (ver + 1) sz e ((l ++ [v]).map f)) = some own') (ht : slInfo P t = some (e, sz, by', z)) (hz : z.cells.size = sz) (hby : Nat.ble by' 1024 = true) (hm : Nat.ble 0 p = true)
 (hb : l.length + 1 ≤ 1000000000) :
 Eff P m ⟨dst,.call ⟨.builtin .append,#[x,y],#[t,t]⟩,ty,pos,af,gd⟩ env own [p] (.osl p (ver + 1) 0 (l ++ [v]).length) own':=by
 rw [setF_spec ho];exact e_app1 v ht hz hby hx hp hy hm hb
theorem e_makeF {t e : TypeId} {by' : Nat} {z : Value} {x y : Operand} {k k' : IntKind} {i : Int} {n q : Nat} {own' : List Ent} (hx : lookO env x = .d (.v (.int k i))) (hy : lookO env y = .d (.v (.int k' i))) (hi : i = n) (hq : lenF own 0 = some q) (ht : slInfo P t = some (e, 1, by', z)) (ho : pushF own (.row 0 1 e ((List.replicate n z).map fun z => [.v z])) = some own') (hz : z.cells = #[z]) (h1 : z.oneCell' = true) (hby : Nat.ble by' 1024 = true) (hn : n ≤ 1000000000) :
 Eff P m ⟨dst,.makeSlice t x y,ty,pos,af,gd⟩ env own [q] (.osl q 0 0 n) own':=by
 have e1:=lenF_spec hq
 rw [Nat.add_zero] at e1
 have:=e_make (P:=P) (m:=m) (env:=env) (own:=own) (dst:=dst) (ty:=ty) (pos:=pos) (af:=af) (gd:=gd) n ht (by rw [hz];rfl) rfl (by rw [hz];simpa using h1) hby hx hy hi hn
 rw [pushF_spec ho,e1]
 rw [hz] at this
 rw [List.map_replicate]
 exact this
/-! ### Structs of integers that are compared -/
/-! ### Remainders of any kind;slice literals -/
def datsF : List AV → Option (List Dat)
 | []=>some []
 | .d x :: l=>match datsF l with | some r=>some (x :: r) | none=>none
 | _ :: _=>none
theorem datsF_spec : ∀ {l : List AV} {r : List Dat}, datsF l = some r → l.mapM datOf = some r
 | [],r,h=>by simp [datsF] at h;subst h;rfl
 | x :: l,r,h=>by
   cases x<;>simp only [datsF,reduceCtorEq] at h
   cases hq : datsF l with
   | none=>simp [hq] at h
   | some r'=>simp only [hq,Option.some.injEq] at h;subst h;rw [List.mapM_cons,datsF_spec hq];rfl
def cellsDF : AV → Option (List Dat)
 | .d (.v u)=>match u.oneCell' with | true=>some [.v u] | false=>none
 | .d .any=>some [.any]
 | .d (.sl sz l)=>some [.sl sz l]
 | .agg l=>datsF l
 | _=>none
theorem cellsDF_D {x : AV} {r : List Dat} (h : cellsDF x = some r) : cellsD x = some r:=by
 cases x with
 | d y =>
   cases y with
   | v u => simp only [cellsDF] at h
            cases hu : u.oneCell' with
            | true=>simp only [hu] at h;simp [cellsD,hu];simpa using h
            | false=>simp [hu] at h
   | any=>simpa [cellsDF,cellsD] using h
   | sl sz l=>simpa [cellsDF,cellsD] using h
 | agg l=>exact datsF_spec h
 | _=>simp [cellsDF] at h
def litF (env : List (Nat × AV)) : List (Nat × Operand) → Nat → Option (List (List Dat))
 | [],_=>some []
 | (i, x) :: ps, k => match Nat.beq i k with
   | false=>none
   | true => match cellsDF (lookO env x) with
     | none=>none
     | some e => match litF env ps (k + 1) with
       | none=>none
       | some r=>some (e :: r)
theorem litF_spec {env : List (Nat × AV)} {sz : Nat} : ∀ {ps : List (Nat × Operand)} {k : Nat} {es : List (List Dat)}, litF env ps k = some es → (es.all fun e => Nat.beq e.length sz && (e.map AV.d).all oneA) = true → litEl env ps k es sz
 | [],k,es,h,_=>by simp [litF] at h;subst h;trivial
 | (i,x) :: ps,k,es,h,ha=>by
   simp only [litF] at h
   cases h1 : Nat.beq i k with
   | false=>simp [h1] at h
   | true =>
     cases h2 : cellsDF (lookO env x) with
     | none=>simp [h1,h2] at h
     | some e =>
       cases h3 : litF env ps (k + 1) with
       | none=>simp [h1,h2,h3] at h
       | some r =>
         simp only [h1,h2,h3,Option.some.injEq] at h
         subst h
         simp only [List.all_cons,Bool.and_eq_true] at ha
         exact ⟨Nat.eq_of_beq_eq_true h1,cellsDF_D h2,Nat.eq_of_beq_eq_true ha.1.1,ha.1.2,litF_spec h3 (by simpa using ha.2)⟩
theorem q_litF {t e : TypeId} {sz sz' by' : Nat} {z : Value} {n : Nat} {parts : Array (Nat × Operand)} {es : List (List Dat)} (hl : litF env parts.toList 0 = some es) (ht : slInfo P t = some (e, sz, by', z)) (hs : natF sz = some sz') (hz : z.cells.size = sz) (h0 : Nat.ble 1 sz = true) (ha : (es.all fun e => Nat.beq e.length sz && (e.map AV.d).all oneA) = true) (hn : Nat.beq n es.length = true) (hb : Nat.ble (n * sz) 16777216 = true) :
 Quiet P m ⟨dst,.buildSlice t n parts,ty,pos,af,gd⟩ env own [] (.d (.sl sz' es)):=by
 rw [natF_spec hs]
 exact q_lit es ht hz (Nat.le_of_ble_eq_true h0) (litF_spec hl ha) (Nat.eq_of_beq_eq_true hn) (Nat.le_of_ble_eq_true hb)
/-! ### Places,laid out -/
theorem q_fld_optF {s f off o' : Nat} {t : TypeId} {x : Operand} {i o : Nat} (hx : lookO env x = .opt i o) (h : fldInfo P s f = some (off,t)) (hn : natF (o + off) = some o') : Quiet P m ⟨dst,.fieldAddr s x f,ty,pos,af,gd⟩ env own [] (.opt i o'):=by
 rw [natF_spec hn];exact q_fld_opt h hx
theorem q_fld_fptF {s f off o' : Nat} {t : TypeId} {x : Operand} {sz j o : Nat} {l : List (List Dat)} (hx : lookO env x = .fpt sz l j o) (h : fldInfo P s f = some (off,t)) (hn : natF (o + off) = some o') : Quiet P m ⟨dst,.fieldAddr s x f,ty,pos,af,gd⟩ env own [] (.fpt sz l j o'):=by
 rw [natF_spec hn];exact q_fld_fpt h hx
theorem q_ix_slF {t e : TypeId} {sz sz' by' : Nat} {z : Value} {x y : Operand} {l : List (List Dat)} {k : IntKind} {i : Int} {j : Nat} (hx : lookO env x = .d (.sl sz l)) (hy : lookO env y = .d (.v (.int k i))) (hs : natF sz = some sz') (ht : slInfo P t = some (e, sz, by', z)) (hij : i = j) (hj : j < l.length) :
 Quiet P m ⟨dst,.indexAddr t x y,ty,pos,af,gd⟩ env own [] (.fpt sz' l j 0):=by
 rw [natF_spec hs];exact q_ix_sl i j ht hx hy hij hj
end
section
variable {P : Program} {m : Nat} {env : List (Nat × AV)} {own : List Ent} {dst : Option Tmp} {ty : TypeId} {pos : String} {af : Array Edge} {gd : Option (Nat × Bool)}
theorem jA {t e : TypeId} {sz sz' by' : Nat} {z : Value} {x y : Operand} {l : List (List Dat)} {k : IntKind} {i : Int} {j : Nat} (hx : lookO env x = .d (.sl sz l):=by exact rfl) (hy : lookO env y = .d (.v (.int k i)):=by exact rfl) (hs : natF sz = some sz':=by exact rfl) (ht : slInfo P t = some (e,sz,by',z):=by exact rfl) (hij : i = j:=by first | (with_reducible exact rfl) | exact natI_spec rfl | assumption | exact (Int.toNat_of_nonneg (by omega)).symm) (hj : j < l.length:=by first | omega | (focus (simp only [List.length_map];omega)) | (focus (simp;done)) | (focus (simp;omega))) : Quiet P m ⟨dst,.indexAddr t x y,ty,pos,af,gd⟩ env own [] (.fpt sz' l j 0):=q_ix_slF hx hy hs ht hij hj
end
section
variable {P : Program} {m : Nat} {env : List (Nat × AV)} {own : List Ent} {dst : Option Tmp} {ty : TypeId} {pos : String} {af : Array Edge} {gd : Option (Nat × Bool)}
theorem jAa {t : TypeId} {x : Operand} {l : List AV} {n : Nat} {own' : List Ent} (hc : cellsF (lookO env x) = some l:=by exact rfl) (hn : lenF own 0 = some n:=by exact rfl) (ho : pushF own (.box l) = some own':=by exact rfl) (hok : okPart (lookO env x) = true:=by kernel_rfl) (h1 : l.all oneA = true:=by kernel_rfl) : Eff P m ⟨dst,.box t x,ty,pos,af,gd⟩ env own [n] (.opt n 0) own':=e_boxF hc hn ho hok h1
end
section
variable {P : Program} {m : Nat} {env : List (Nat × AV)} {own : List Ent} {dst : Option Tmp} {ty : TypeId} {pos : String} {af : Array Edge} {gd : Option (Nat × Bool)}
theorem jAf {t e e' : TypeId} {sz by' : Nat} {z : Value} {x y : Operand} {p ver n : Nat} {l : List (List Dat)} {k : IntKind} {i : Int} {j : Nat} (hx : lookO env x = .osl p ver 0 n:=by exact rfl) (hp : own[p]? = some (.row ver sz e' l):=by exact rfl) (ht : slInfo P t = some (e,sz,by',z):=by exact rfl) (hy : lookO env y = .d (.v (.int k i)):=by exact rfl) (hij : i = j:=by first | (with_reducible exact rfl) | exact natI_spec rfl | assumption | exact (Int.toNat_of_nonneg (by omega)).symm) (hj : j < n:=by first | omega | (focus (simp only [List.length_map];omega)) | (focus (simp;done)) | (focus (simp;omega))) : Quiet P m ⟨dst,.indexAddr t x y,ty,pos,af,gd⟩ env own [p] (.rpt p ver j 0):=q_ix_osl0 hx hp ht hy hij hj
end
section
variable {P : Program} {m : Nat} {env : List (Nat × AV)} {own : List Ent} {dst : Option Tmp} {ty : TypeId} {pos : String} {af : Array Edge} {gd : Option (Nat × Bool)}
theorem jAl {t e : TypeId} {sz sz' by' : Nat} {z : Value} {n : Nat} {parts : Array (Nat × Operand)} {es : List (List Dat)} (hl : litF env parts.toList 0 = some es:=by exact rfl) (ht : slInfo P t = some (e,sz,by',z):=by exact rfl) (hs : natF sz = some sz':=by exact rfl) (hz : z.cells.size = sz:=by exact rfl) (h0 : Nat.ble 1 sz = true:=by exact rfl) (ha : (es.all fun e=>Nat.beq e.length sz && (e.map AV.d).all oneA) = true:=by kernel_rfl) (hn : Nat.beq n es.length = true:=by kernel_rfl) (hb : Nat.ble (n * sz) 16777216 = true:=by exact rfl) : Quiet P m ⟨dst,.buildSlice t n parts,ty,pos,af,gd⟩ env own [] (.d (.sl sz' es)):=q_litF hl ht hs hz h0 ha hn hb
end
section
variable {P : Program} {m : Nat} {env : List (Nat × AV)} {own : List Ent} {dst : Option Tmp} {ty : TypeId} {pos : String} {af : Array Edge} {gd : Option (Nat × Bool)}
theorem jAm {s f off o' : Nat} {t : TypeId} {x : Operand} {i o : Nat} (hx : lookO env x = .opt i o:=by exact rfl) (h : fldInfo P s f = some (off,t):=by exact rfl) (hn : natF (o + off) = some o':=by exact rfl) : Quiet P m ⟨dst,.fieldAddr s x f,ty,pos,af,gd⟩ env own [] (.opt i o'):=q_fld_optF hx h hn
end
section
variable {P : Program} {m : Nat} {env : List (Nat × AV)} {own : List Ent} {dst : Option Tmp} {ty : TypeId} {pos : String} {af : Array Edge} {gd : Option (Nat × Bool)}
theorem jAn {t : TypeId} {k : Nat} {x : Operand} {i o : Nat} {l r : List AV} (hx : lookO env x = .opt i o:=by exact rfl) (hl : own[i]? = some (.box l):=by exact rfl) (ht : tyInfo P t = some (true,k):=by exact rfl) (hr : takeF k (l.drop o) = some r:=by exact rfl) : Quiet P m ⟨dst,.load t x,ty,pos,af,gd⟩ env own [i] (.agg r):=q_ld_boxF hx hl ht hr
end
section
variable {P : Program} {m : Nat} {env : List (Nat × AV)} {own : List Ent} {dst : Option Tmp} {ty : TypeId} {pos : String} {af : Array Edge} {gd : Option (Nat × Bool)}
theorem jAp {t : TypeId} {zs : List Value} {n : Nat} {own' : List Ent} (hz : zeroInfo P t = some zs:=by exact rfl) (hn : lenF own 0 = some n:=by exact rfl) (ho : pushF own (.box (zs.map fun z=>.d (.v z))) = some own':=by exact rfl) (h1 : (zs.all (·.oneCell')) = true:=by kernel_rfl) : Eff P m ⟨dst,.alloc t,ty,pos,af,gd⟩ env own [n] (.opt n 0) own':=e_allocF hz hn ho h1
end
section
variable {P : Program} {m : Nat} {env : List (Nat × AV)} {own : List Ent} {dst : Option Tmp} {ty : TypeId} {pos : String} {af : Array Edge} {gd : Option (Nat × Bool)}
theorem jAq {t e e' : TypeId} {sz by' : Nat} {z : Value} {x y : Operand} {p ver q n : Nat} {l : List (List Dat)} {k : IntKind} {i : Int} {j : Nat} (hx : lookO env x = .osl p ver q n:=by exact rfl) (hp : own[p]? = some (.row ver sz e' l):=by exact rfl) (ht : slInfo P t = some (e,sz,by',z):=by exact rfl) (hy : lookO env y = .d (.v (.int k i)):=by exact rfl) (hij : i = j:=by first | (with_reducible exact rfl) | exact natI_spec rfl | assumption | exact (Int.toNat_of_nonneg (by omega)).symm) (hj : j < n:=by first | omega | (focus (simp only [List.length_map];omega)) | (focus (simp;done)) | (focus (simp;omega))) : Quiet P m ⟨dst,.indexAddr t x y,ty,pos,af,gd⟩ env own [p] (.rpt p ver (q + j) 0):=q_ix_oslm hx hp ht hy hij hj
end
section
variable {P : Program} {m : Nat} {env : List (Nat × AV)} {own : List Ent} {dst : Option Tmp} {ty : TypeId} {pos : String} {af : Array Edge} {gd : Option (Nat × Bool)}
theorem jAz {α : Type} {f : α → List Dat} {l : List α} {t : TypeId} {k : Nat} {x : Operand} {i ver j o sz : Nat} {e : TypeId} {y : Dat} (hx : lookO env x = .rpt i ver j o:=by exact rfl) (hi : own[i]? = some (.row ver sz e (l.map f)):=by exact rfl) (ht : tyInfo P t = some (false,k):=by exact rfl) (hj : j < l.length:=by first | omega | (focus (simp only [List.length_map];omega)) | (focus (simp;done)) | (focus (simp;omega))) (hy : (f (l[j]'hj))[o]? = some y:=by exact rfl) : Quiet P m ⟨dst,.load t x,ty,pos,af,gd⟩ env own [i] (.d y):=q_ld_rptm hx hi ht hj hy
end
section
variable {P : Program} {m : Nat} {env : List (Nat × AV)} {own : List Ent} {dst : Option Tmp} {ty : TypeId} {pos : String} {af : Array Edge} {gd : Option (Nat × Bool)}
theorem jB {s f off o' : Nat} {t : TypeId} {x : Operand} {sz j o : Nat} {l : List (List Dat)} (hx : lookO env x = .fpt sz l j o:=by exact rfl) (h : fldInfo P s f = some (off,t):=by exact rfl) (hn : natF (o + off) = some o':=by exact rfl) : Quiet P m ⟨dst,.fieldAddr s x f,ty,pos,af,gd⟩ env own [] (.fpt sz l j o'):=q_fld_fptF hx h hn
end
end
section
mutual
def AV.ren (js : List Nat) : AV → AV
 | .osl i ver o n=>match plc js i with | some k=>.osl k ver o n | none=>.top
 | .win i ver o n=>match plc js i with | some k=>.win k ver o n | none=>.top
 | .rpt i ver j o=>match plc js i with | some k=>.rpt k ver j o | none=>.top
 | .opt i o=>match plc js i with | some k=>.opt k o | none=>.top
 | .bsl i n c=>match plc js i with | some k=>.bsl k n c | none=>.top
 | .yl i=>match plc js i with | some k=>.yl k | none=>.top
 | .mp i=>match plc js i with | some k=>.mp k | none=>.top
 | .gh l vs=>.gh (AV.renL js l) vs
 | .fn f l=>.fn f (AV.renL js l)
 | .bd f l=>.bd f (AV.renL js l)
 | .agg l=>.agg (AV.renL js l)
 | .tup l=>.tup (AV.renL js l)
 | .top=>.top
 | .d x=>.d x
 | .cl sz l=>.cl sz l
 | .fpt sz l j o=>.fpt sz l j o
def AV.renL (js : List Nat) : List AV → List AV
 | []=>[]
 | x :: xs=>AV.ren js x :: AV.renL js xs
end
def Ent.ren (js : List Nat) : Option Ent → Ent
 | some (.box l)=>.box (AV.renL js l)
 | some (.lp st pe ps asn bdy l)=>.lp st pe ps asn bdy (AV.renL js l)
 | some (.row v s e c)=>.row v s e c
 | some (.mp ks)=>.mp (mapE (AV.ren js) ks)
 | none=>.box []
def selR (own : List Ent) (js : List Nat) : List Ent:=js.map fun i=>Ent.ren js own[i]?
def restF (F : Nat → Prop) (κ : List (Option Nat)) (js : List Nat) (b : Nat) : Prop:=F b ∨ ∃ i : Nat,κ[i]? = some (some b) ∧ i ∉ js
def phi (js : List Nat) (n k : Nat) : Nat:=match js[k]? with | some i=>i | none=>n + (k - js.length)
mutual
def AV.bk (js : List Nat) (n : Nat) : AV → AV
 | .osl i ver o c=>.osl (phi js n i) ver o c
 | .win i ver o c=>.win (phi js n i) ver o c
 | .rpt i ver j o=>.rpt (phi js n i) ver j o
 | .opt i o=>.opt (phi js n i) o
 | .bsl i k c=>.bsl (phi js n i) k c
 | .yl i=>.yl (phi js n i)
 | .mp i=>.mp (phi js n i)
 | .gh l vs=>.gh (AV.bkL js n l) vs
 | .fn f l=>.fn f (AV.bkL js n l)
 | .bd f l=>.bd f (AV.bkL js n l)
 | .agg l=>.agg (AV.bkL js n l)
 | .tup l=>.tup (AV.bkL js n l)
 | .top=>.top
 | .d x=>.d x
 | .cl sz l=>.cl sz l
 | .fpt sz l j o=>.fpt sz l j o
def AV.bkL (js : List Nat) (n : Nat) : List AV → List AV
 | []=>[]
 | x :: xs=>AV.bk js n x :: AV.bkL js n xs
end
def Ent.bk (js : List Nat) (n : Nat) : Ent → Ent
 | .box l=>.box (AV.bkL js n l)
 | .lp st pe ps asn bdy l=>.lp st pe ps asn bdy (AV.bkL js n l)
 | .row v s e c=>.row v s e c
 | .mp ks=>.mp (mapE (AV.bk js n) ks)
def bkOwn (js : List Nat) (own ownC : List Ent) : List Ent :=
 ((List.range own.length).map fun j => match plc js j with
   | some k=>(match ownC[k]? with | some x=>Ent.bk js own.length x | none=>.box [])
   | none=>own.getD j (.box [])) ++ (ownC.drop js.length).map (Ent.bk js own.length)
def bkK (js : List Nat) (κ κC : List (Option Nat)) : List (Option Nat) :=
 ((List.range κ.length).map fun j => match plc js j with
   | some k=>κC.getD k none
   | none=>κ.getD j none) ++ κC.drop js.length
theorem plc_at : ∀ {js : List Nat}, nodupB js = true → ∀ {k i : Nat}, js[k]? = some i → plc js i = some k
 | [],_,k,i,h=>by simp at h
 | j :: js,hn,k,i,h=>by
   simp only [nodupB,Bool.and_eq_true,Bool.not_eq_true'] at hn
   cases k with
   | zero => obtain rfl : j = i := by simpa using h
             simp [plc]
   | succ k =>
     have h' : js[k]? = some i:=by simpa using h
     have : j ≠ i:=fun e=>by
      have hm : i ∈ js:=List.mem_of_getElem? h'
      rw [e] at hn
      have:=hn.1
      simp_all
     simp only [plc,if_neg this,plc_at hn.2 h']
section
variable {F : Nat → Prop} {own : List Ent} {κ : List (Option Nat)} {w : World} {js : List Nat}
theorem selK_mem (hj : selOk own js = true) (ho : OwnSat F own κ w) {b : Nat} (h : some b ∈ selK κ js) : ∃ k i : Nat,js[k]? = some i ∧ κ[i]? = some (some b):=by
 obtain ⟨i,hi,he⟩:=List.mem_map.1 h
 obtain ⟨k,hk⟩:=List.mem_iff_getElem?.1 hi
 refine ⟨k,i,hk,?_⟩
 rw [List.getD_eq_getElem?_getD] at he
 cases h9 : κ[i]? with
 | none=>rw [h9] at he;cases he
 | some og=>rw [h9] at he;simp at he;rw [he]
theorem badR {b : Nat} : badK (restF F κ js) (selK κ js) b → badK F κ b:=fun h=>by
 rcases h with (h | ⟨i,h,_⟩) | h
 ·exact .inl h
 ·exact .inr (List.mem_of_getElem? h)
 ·obtain ⟨i, hi, he⟩ := List.mem_map.1 h
  rw [List.getD_eq_getElem?_getD] at he
  cases h9 : κ[i]? with
  | none=>rw [h9] at he;cases he
  | some og=>rw [h9] at he;simp at he;rw [he] at h9;exact .inr (List.mem_of_getElem? h9)
theorem ren_wide : Wide (badK F κ) (badK (restF F κ js) (selK κ js)) w w:=.of (Nat.le_refl _) (fun _ _ _=>rfl) fun b _ hb h=>hb (badR h)
theorem selR_get {k i : Nat} (h : js[k]? = some i) : (selR own js)[k]? = some (Ent.ren js own[i]?):=by simp [selR,h]
mutual
theorem AV.ren_sat (ho : OwnSat F own κ w) : ∀ (x : AV) {u : Value}, AV.sat F own κ w x u → AV.sat (restF F κ js) (selR own js) (selK κ js) w (AV.ren js x) u
 | .top,u,hs=>by simp [AV.ren,AV.sat]
 | .d x,u,hs=>by
   rw [AV.ren];rw [AV.sat] at hs ⊢
   exact Dat.sat_wide ren_wide x hs
 | .cl sz l,u,hs=>by
   rw [AV.ren];rw [AV.sat] at hs ⊢
   exact ⟨Dat.sat_wide ren_wide (.sl sz l) hs.1,hs.2⟩
 | .fpt sz l j o,u,hs=>by
   rw [AV.ren];rw [AV.sat] at hs ⊢
   obtain ⟨b,q,h1,h2,h3,h4⟩:=hs
   exact ⟨b,q,h1,h2,fun h=>h3 (badR h),Dat.rowsSat_wide ren_wide rfl l h4⟩
 | .osl i ver o n,u,hs=>by
   rw [AV.ren]
   cases hp : plc js i with
   | none=>simp [AV.sat]
   | some k =>
     have hk:=plc_spec hp
     rw [AV.sat] at hs
     obtain ⟨⟨y,hy,hv,h1c⟩,hs2⟩:=hs
     cases y with
     | box l=>exact hv.elim
     | lp=>exact hv.elim
     | mp=>exact hv.elim
     | row v sz e l =>
       show AV.sat _ (selR own js) (selK κ js) w (.osl k ver o n) u
       have hown : (selR own js)[k]? = some (.row v sz e l):=by rw [selR_get hk,hy];rfl
       rw [AV.sat]
       refine ⟨⟨_,hown,hv,h1c⟩,fun sz2 e2 c2 hc=>?_⟩
       rw [hown] at hc
       obtain ⟨rfl,rfl,rfl,rfl⟩ : v = ver ∧ sz = sz2 ∧ e = e2 ∧ l = c2:=by simpa using hc
       obtain ⟨h1,A,c,h2,h3,h4,h5⟩:=hs2 sz e l hy
       refine ⟨h1,A,c,h2,h3,h4,fun hpos=>?_⟩
       rcases h5 hpos with ⟨g,g1,g2,g3⟩ | ⟨g1,g2⟩
       ·exact .inl ⟨g,by rw [selK_get hk,getD_some g1],g2,g3⟩
       ·refine .inr ⟨by rw [selK_get hk];simp [List.getD_eq_getElem?_getD,g1],g2⟩
 | .win i ver o n,u,hs=>by
   rw [AV.ren]
   cases hp : plc js i with
   | none=>simp [AV.sat]
   | some k =>
     have hk:=plc_spec hp
     rw [AV.sat] at hs
     obtain ⟨⟨y,hy,hv,h1c⟩,hs2⟩:=hs
     cases y with
     | box l=>exact hv.elim
     | lp=>exact hv.elim
     | mp=>exact hv.elim
     | row v sz e l =>
       show AV.sat _ (selR own js) (selK κ js) w (.win k ver o n) u
       have hown : (selR own js)[k]? = some (.row v sz e l):=by rw [selR_get hk,hy];rfl
       rw [AV.sat]
       refine ⟨⟨_,hown,hv,h1c⟩,fun sz2 e2 c2 hc=>?_⟩
       rw [hown] at hc
       obtain ⟨rfl,rfl,rfl,rfl⟩ : v = ver ∧ sz = sz2 ∧ e = e2 ∧ l = c2:=by simpa using hc
       obtain ⟨h1,A,c,h2,h3,h4,h5⟩:=hs2 sz e l hy
       refine ⟨h1,A,c,h2,h3,h4,fun hpos=>?_⟩
       rcases h5 hpos with ⟨g,g1,g2,g3⟩ | ⟨g1,g2⟩
       ·exact .inl ⟨g,by rw [selK_get hk,getD_some g1],g2,g3⟩
       ·refine .inr ⟨by rw [selK_get hk];simp [List.getD_eq_getElem?_getD,g1],g2⟩
 | .rpt i ver j o,u,hs=>by
   rw [AV.ren]
   cases hp : plc js i with
   | none=>simp [AV.sat]
   | some k =>
     have hk:=plc_spec hp
     rw [AV.sat] at hs
     obtain ⟨⟨y,hy,hv,h1c⟩,hs2⟩:=hs
     cases y with
     | box l=>exact hv.elim
     | lp=>exact hv.elim
     | mp=>exact hv.elim
     | row v sz e l =>
       show AV.sat _ (selR own js) (selK κ js) w (.rpt k ver j o) u
       have hown : (selR own js)[k]? = some (.row v sz e l):=by rw [selR_get hk,hy];rfl
       rw [AV.sat]
       refine ⟨⟨_,hown,hv,h1c⟩,fun sz2 e2 c2 hc=>?_⟩
       rw [hown] at hc
       obtain ⟨rfl,rfl,rfl,rfl⟩ : v = ver ∧ sz = sz2 ∧ e = e2 ∧ l = c2:=by simpa using hc
       obtain ⟨h1,g,g1,g2⟩:=hs2 sz e l hy
       exact ⟨h1,g,by rw [selK_get hk,getD_some g1],g2⟩
 | .opt i o,u,hs=>by
   rw [AV.ren]
   cases hp : plc js i with
   | none=>simp [AV.sat]
   | some k =>
     have hk:=plc_spec hp
     rw [AV.sat] at hs
     obtain ⟨g,l,h1,h2,h3⟩:=hs
     show AV.sat _ (selR own js) (selK κ js) w (.opt k o) u
     rw [AV.sat]
     exact ⟨g,_,by rw [selR_get hk,h1];rfl,by rw [selK_get hk,getD_some h2],h3⟩
 | .bsl i n c,u,hs=>by
   rw [AV.ren]
   cases hp : plc js i with
   | none=>simp [AV.sat]
   | some k =>
     have hk:=plc_spec hp
     rw [AV.sat] at hs
     obtain ⟨g,l,h1,h2,h3⟩:=hs
     show AV.sat _ (selR own js) (selK κ js) w (.bsl k n c) u
     rw [AV.sat]
     exact ⟨g,_,by rw [selR_get hk,h1];rfl,by rw [selK_get hk,getD_some h2],h3⟩
 | .yl i,u,hs=>by
   rw [AV.ren]
   cases hp : plc js i with
   | none=>simp [AV.sat]
   | some k =>
     have hk:=plc_spec hp
     rw [AV.sat] at hs
     obtain ⟨g,st,pe,ps,asn,bdy,l,h1,h2,h3⟩:=hs
     show AV.sat _ (selR own js) (selK κ js) w (.yl k) u
     rw [AV.sat]
     exact ⟨g,_,_,_,_,_,_,by rw [selR_get hk,h1];rfl,by rw [selK_get hk,getD_some h2],h3⟩
 | .mp i,u,hs=>by
   rw [AV.ren]
   cases hp : plc js i with
   | none=>simp [AV.sat]
   | some k =>
     have hk:=plc_spec hp
     rw [AV.sat] at hs
     obtain ⟨g,ks,h1,h2,h3⟩:=hs
     show AV.sat _ (selR own js) (selK κ js) w (.mp k) u
     rw [AV.sat]
     exact ⟨g,_,by rw [selR_get hk,h1];rfl,by rw [selK_get hk,getD_some h2],h3⟩
 | .gh l vs,u,hs=>by
   rw [AV.ren];rw [AV.sat] at hs ⊢
   exact AV.renL_sat ho l hs
 | .fn f l,u,hs=>by
   rw [AV.ren];rw [AV.sat] at hs ⊢
   obtain ⟨vs,h1,h2⟩:=hs
   exact ⟨vs,h1,AV.renL_sat ho l h2⟩
 | .bd f l,u,hs=>by
   rw [AV.ren];rw [AV.sat] at hs ⊢
   obtain ⟨vs,h1,h2⟩:=hs
   exact ⟨vs,h1,AV.renL_sat ho l h2⟩
 | .agg l,u,hs=>by
   rw [AV.ren];rw [AV.sat] at hs ⊢
   obtain ⟨vs,h1,h2⟩:=hs
   exact ⟨vs,h1,AV.renL_sat ho l h2⟩
 | .tup l,u,hs=>by
   rw [AV.ren];rw [AV.sat] at hs ⊢
   obtain ⟨vs,h1,h2⟩:=hs
   exact ⟨vs,h1,AV.renL_sat ho l h2⟩
theorem AV.renL_sat (ho : OwnSat F own κ w) : ∀ (l : List AV) {us : List Value}, AV.satL F own κ w l us → AV.satL (restF F κ js) (selR own js) (selK κ js) w (AV.renL js l) us
 | [],[],hs=>by simp [AV.renL,AV.satL]
 | x :: xs,u :: us,hs=>by
   rw [AV.satL] at hs
   rw [AV.renL,AV.satL]
   exact ⟨AV.ren_sat ho x hs.1,AV.renL_sat ho xs hs.2⟩
 | [],_ :: _,hs=>by simp [AV.satL] at hs
 | _ :: _,[],hs=>by simp [AV.satL] at hs
end
theorem selR_own (ho : OwnSat F own κ w) (hj : selOk own js = true) : OwnSat (restF F κ js) (selR own js) (selK κ js) w:=by
 have hj':=hj
 simp only [selOk,Bool.and_eq_true] at hj'
 have hlt : ∀ k i : Nat,js[k]? = some i → i < own.length:=fun k i h=>by
  have:=List.all_eq_true.1 hj'.1 i (List.mem_of_getElem? h)
  simpa using this
 have back : ∀ (k g : Nat),(selK κ js)[k]? = some (some g) → ∃ i : Nat,js[k]? = some i ∧ κ[i]? = some (some g):=fun k g h=>by
  unfold selK at h
  rw [List.getElem?_map] at h
  cases hk : js[k]? with
  | none=>rw [hk] at h;cases h
  | some i =>
    rw [hk] at h
    have h : κ.getD i none = some g:=by simpa using h
    refine ⟨i,rfl,?_⟩
    rw [List.getD_eq_getElem?_getD] at h
    cases h9 : κ[i]? with
    | none=>rw [h9] at h;cases h
    | some og=>rw [h9] at h;simp at h;rw [h]
 refine ⟨by simp [selR,selK],fun b hb=>?_,fun g hg=>?_,fun a b g ha hb=>?_,fun k y hy=>?_,glb_keep ho.glb (Nat.le_refl _) (fun _ _ _=>rfl) fun b hb=>.inl (by
  obtain ⟨k,i,_,h2⟩:=selK_mem hj ho hb
  exact List.mem_of_getElem? h2)⟩
 ·rcases hb with hb | ⟨i, hi, _⟩
  ·exact ho.frame b hb
  ·exact (ho.lt' hi).1
 ·obtain ⟨k, i, h1, h2⟩ := selK_mem hj ho hg
  refine ⟨(ho.lt' h2).1,fun hr=>?_⟩
  rcases hr with hr | ⟨i',h3,h4⟩
  ·exact (ho.lt' h2).2 hr
  ·obtain rfl := ho.inj i i' g h2 h3
   exact h4 (List.mem_of_getElem? h1)
 ·obtain ⟨i, h1, h2⟩ := back a g ha
  obtain ⟨i',h3,h4⟩:=back b g hb
  obtain rfl:=ho.inj i i' g h2 h4
  exact nodup_inj hj'.2 h1 h3
 ·cases hk : js[k]? with
  | none=>unfold selR at hy;rw [List.getElem?_map,hk] at hy;cases hy
  | some i =>
    rw [selR_get hk] at hy
    have hi:=hlt k i hk
    have hoi:=List.getElem?_eq_getElem hi
    have hent:=ho.ent i _ hoi
    have e1 : (selK κ js).getD k none = κ.getD i none:=by simp [List.getD_eq_getElem?_getD,selK_get hk]
    rw [e1]
    rw [hoi] at hy
    generalize own[i] = x at hy hent
    cases x with
    | box l =>
      obtain rfl : Ent.box (AV.renL js l) = y:=by simpa [Ent.ren] using hy
      rcases hent with ⟨hn1,rfl⟩ | ⟨g,hg,cur,t,h1,h2,h3⟩
      ·exact .inl ⟨hn1,rfl⟩
      ·exact .inr ⟨g,hg,cur,t,h1,AV.renL_sat ho l h2,h3⟩
    | lp st pe ps asn bdy l =>
      obtain rfl : Ent.lp st pe ps asn bdy (AV.renL js l) = y:=by simpa [Ent.ren] using hy
      obtain ⟨g,hg,r,h1,h2,h3⟩:=hent
      exact ⟨g,hg,r,h1,h2,AV.renL_sat ho l h3⟩
    | mp ks =>
      obtain rfl : Ent.mp (mapE (AV.ren js) ks) = y:=by simpa [Ent.ren] using hy
      obtain ⟨g,hg,es,clock,h1,h2⟩:=hent
      exact ⟨g,hg,es,clock,h1,h2.map fun x u hs=>AV.ren_sat ho x hs⟩
    | row v s e c =>
      obtain rfl : Ent.row v s e c = y:=by simpa [Ent.ren] using hy
      obtain ⟨h0,h1⟩:=hent
      refine ⟨h0,h1.imp id ?_⟩
      rintro ⟨g,hg,cur,h2,h3,h4⟩
      exact ⟨g,hg,cur,h2,h3,Dat.rowsSat_wide ren_wide rfl c h4⟩
end
/-! ### Back from the call -/
section
variable {F Fc : Nat → Prop} {own' ownC : List Ent} {κ' κC : List (Option Nat)} {w : World} {js : List Nat} {n : Nat}
mutual
theorem AV.bk_sat (h1 : ∀ (k : Nat) (x : Ent), ownC[k]? = some x → own'[phi js n k]? = some (Ent.bk js n x)) (h2 : ∀ (k : Nat) (og : Option Nat), κC[k]? = some og → κ'[phi js n k]? = some og) (h3 : ∀ b, ¬ badK Fc κC b → ¬ badK F κ' b) :
 ∀ (x : AV) {u : Value},AV.sat Fc ownC κC w x u → AV.sat F own' κ' w (AV.bk js n x) u
 | .top,u,hs=>by simp [AV.bk,AV.sat]
 | .d x,u,hs=>by
   rw [AV.bk];rw [AV.sat] at hs ⊢
   exact Dat.sat_wide (Wide.of (Nat.le_refl _) (fun _ _ _=>rfl) (fun b _ h=>h3 b h)) x hs
 | .cl sz l,u,hs=>by
   rw [AV.bk];rw [AV.sat] at hs ⊢
   exact ⟨Dat.sat_wide (Wide.of (Nat.le_refl _) (fun _ _ _=>rfl) (fun b _ h=>h3 b h)) (.sl sz l) hs.1,hs.2⟩
 | .fpt sz l j o,u,hs=>by
   rw [AV.bk];rw [AV.sat] at hs ⊢
   obtain ⟨b,q,g1,g2,g3,g4⟩:=hs
   exact ⟨b,q,g1,g2,h3 b g3,Dat.rowsSat_wide (Wide.of (Nat.le_refl _) (fun _ _ _=>rfl) (fun b _ h=>h3 b h)) rfl l g4⟩
 | .osl i ver o c,u,hs=>by
   rw [AV.bk];rw [AV.sat] at hs ⊢
   obtain ⟨⟨y,hy,hv,h1c⟩,hs2⟩:=hs
   cases y with
   | box l=>exact hv.elim
   | lp=>exact hv.elim
   | mp=>exact hv.elim
   | row v s e l =>
     have e1:=h1 i _ hy
     refine ⟨⟨_,e1,hv,h1c⟩,fun sz2 e2 c2 hc=>?_⟩
     rw [e1] at hc
     obtain ⟨rfl,rfl,rfl,rfl⟩ : v = ver ∧ s = sz2 ∧ e = e2 ∧ l = c2:=by simpa [Ent.bk] using hc
     obtain ⟨g1,A,cc,g2,g3,g4,g5⟩:=hs2 s e l hy
     refine ⟨g1,A,cc,g2,g3,g4,fun hp=>?_⟩
     rcases g5 hp with ⟨g,q1,q2⟩ | ⟨q1,q2⟩
     ·exact .inl ⟨g,h2 _ _ q1,q2⟩
     ·exact .inr ⟨h2 _ _ q1,q2⟩
 | .win i ver o c,u,hs=>by
   rw [AV.bk];rw [AV.sat] at hs ⊢
   obtain ⟨⟨y,hy,hv,h1c⟩,hs2⟩:=hs
   cases y with
   | box l=>exact hv.elim
   | lp=>exact hv.elim
   | mp=>exact hv.elim
   | row v s e l =>
     have e1:=h1 i _ hy
     refine ⟨⟨_,e1,hv,h1c⟩,fun sz2 e2 c2 hc=>?_⟩
     rw [e1] at hc
     obtain ⟨rfl,rfl,rfl,rfl⟩ : v = ver ∧ s = sz2 ∧ e = e2 ∧ l = c2:=by simpa [Ent.bk] using hc
     obtain ⟨g1,A,cc,g2,g3,g4,g5⟩:=hs2 s e l hy
     refine ⟨g1,A,cc,g2,g3,g4,fun hp=>?_⟩
     rcases g5 hp with ⟨g,q1,q2⟩ | ⟨q1,q2⟩
     ·exact .inl ⟨g,h2 _ _ q1,q2⟩
     ·exact .inr ⟨h2 _ _ q1,q2⟩
 | .rpt i ver j o,u,hs=>by
   rw [AV.bk];rw [AV.sat] at hs ⊢
   obtain ⟨⟨y,hy,hv,h1c⟩,hs2⟩:=hs
   cases y with
   | box l=>exact hv.elim
   | lp=>exact hv.elim
   | mp=>exact hv.elim
   | row v s e l =>
     have e1:=h1 i _ hy
     refine ⟨⟨_,e1,hv,h1c⟩,fun sz2 e2 c2 hc=>?_⟩
     rw [e1] at hc
     obtain ⟨rfl,rfl,rfl,rfl⟩ : v = ver ∧ s = sz2 ∧ e = e2 ∧ l = c2:=by simpa [Ent.bk] using hc
     obtain ⟨g1,g,g2,g3⟩:=hs2 s e l hy
     exact ⟨g1,g,h2 _ _ g2,g3⟩
 | .opt i o,u,hs=>by
   rw [AV.bk];rw [AV.sat] at hs ⊢
   obtain ⟨g,l,g1,g2,g3⟩:=hs
   exact ⟨g,_,h1 i _ g1,h2 _ _ g2,g3⟩
 | .bsl i k c,u,hs=>by
   rw [AV.bk];rw [AV.sat] at hs ⊢
   obtain ⟨g,l,g1,g2,g3⟩:=hs
   exact ⟨g,_,h1 i _ g1,h2 _ _ g2,g3⟩
 | .yl i,u,hs=>by
   rw [AV.bk];rw [AV.sat] at hs ⊢
   obtain ⟨g,st,pe,ps,asn,bdy,l,g1,g2,g3⟩:=hs
   exact ⟨g,_,_,_,_,_,_,h1 i _ g1,h2 _ _ g2,g3⟩
 | .mp i,u,hs=>by
   rw [AV.bk];rw [AV.sat] at hs ⊢
   obtain ⟨g,ks,g1,g2,g3⟩:=hs
   exact ⟨g,_,h1 i _ g1,h2 _ _ g2,g3⟩
 | .gh l vs,u,hs=>by
   rw [AV.bk];rw [AV.sat] at hs ⊢
   exact AV.bkL_sat h1 h2 h3 l hs
 | .fn f l,u,hs=>by
   rw [AV.bk];rw [AV.sat] at hs ⊢
   obtain ⟨vs,g1,g2⟩:=hs
   exact ⟨vs,g1,AV.bkL_sat h1 h2 h3 l g2⟩
 | .bd f l,u,hs=>by
   rw [AV.bk];rw [AV.sat] at hs ⊢
   obtain ⟨vs,g1,g2⟩:=hs
   exact ⟨vs,g1,AV.bkL_sat h1 h2 h3 l g2⟩
 | .agg l,u,hs=>by
   rw [AV.bk];rw [AV.sat] at hs ⊢
   obtain ⟨vs,g1,g2⟩:=hs
   exact ⟨vs,g1,AV.bkL_sat h1 h2 h3 l g2⟩
 | .tup l,u,hs=>by
   rw [AV.bk];rw [AV.sat] at hs ⊢
   obtain ⟨vs,g1,g2⟩:=hs
   exact ⟨vs,g1,AV.bkL_sat h1 h2 h3 l g2⟩
theorem AV.bkL_sat (h1 : ∀ (k : Nat) (x : Ent), ownC[k]? = some x → own'[phi js n k]? = some (Ent.bk js n x)) (h2 : ∀ (k : Nat) (og : Option Nat), κC[k]? = some og → κ'[phi js n k]? = some og) (h3 : ∀ b, ¬ badK Fc κC b → ¬ badK F κ' b) :
 ∀ (l : List AV) {us : List Value},AV.satL Fc ownC κC w l us → AV.satL F own' κ' w (AV.bkL js n l) us
 | [],[],hs=>by simp [AV.bkL,AV.satL]
 | x :: xs,u :: us,hs=>by
   rw [AV.satL] at hs
   rw [AV.bkL,AV.satL]
   exact ⟨AV.bk_sat h1 h2 h3 x hs.1,AV.bkL_sat h1 h2 h3 xs hs.2⟩
 | [],_ :: _,hs=>by simp [AV.satL] at hs
 | _ :: _,[],hs=>by simp [AV.satL] at hs
end
end
theorem bkK_len (js : List Nat) (κ κC : List (Option Nat)) : (bkK js κ κC).length = κ.length + (κC.length - js.length):=by simp [bkK]
theorem bkK_keep {js : List Nat} {κ κC : List (Option Nat)} {i : Nat} (hi : i < κ.length) (hp : plc js i = none) : (bkK js κ κC)[i]? = κ[i]?:=by
 unfold bkK
 rw [List.getElem?_append_left (by simpa using hi),List.getElem?_map,List.getElem?_range hi]
 simp only [Option.map_some,hp]
 simp [List.getD_eq_getElem?_getD,List.getElem?_eq_getElem hi]
theorem bkK_phi {js : List Nat} {κ κC : List (Option Nat)} {n : Nat} (hn : n = κ.length) (hj1 : ∀ k i : Nat,js[k]? = some i → i < n) (hj2 : nodupB js = true) {k : Nat} {og : Option Nat} (hx : κC[k]? = some og) : (bkK js κ κC)[phi js n k]? = some og:=by
 subst hn
 unfold phi bkK
 cases hk : js[k]? with
 | some i =>
   have hi:=hj1 k i hk
   dsimp only
   rw [List.getElem?_append_left (by simpa using hi),List.getElem?_map,List.getElem?_range hi]
   simp only [Option.map_some,plc_at hj2 hk,List.getD_eq_getElem?_getD,hx,Option.getD_some]
 | none =>
   have hkl : js.length ≤ k:=by simpa using hk
   dsimp only
   rw [List.getElem?_append_right (by simp),List.length_map,List.length_range,Nat.add_sub_cancel_left,List.getElem?_drop,Nat.add_sub_cancel' hkl,hx]
theorem bkK_at {js : List Nat} {κ κC : List (Option Nat)} {i : Nat} {og : Option Nat} (h : (bkK js κ κC)[i]? = some og) : (i < κ.length ∧ plc js i = none ∧ κ[i]? = some og) ∨ (∃ k,plc js i = some k ∧ i < κ.length ∧ κC.getD k none = og) ∨ (κ.length ≤ i ∧ κC[js.length + (i - κ.length)]? = some og):=by
 unfold bkK at h
 by_cases hi : i < κ.length
 ·rw [List.getElem?_append_left (by simpa using hi), List.getElem?_map, List.getElem?_range hi] at h
  cases hp : plc js i with
  | none =>
    simp only [Option.map_some,hp] at h
    refine .inl ⟨hi,rfl,?_⟩
    rw [← h]
    simp [List.getD_eq_getElem?_getD,List.getElem?_eq_getElem hi]
  | some k =>
    simp only [Option.map_some,hp] at h
    exact .inr (.inl ⟨k,rfl,hi,by simpa using h⟩)
 ·rw [List.getElem?_append_right (by simp; omega), List.length_map, List.length_range, List.getElem?_drop] at h
  exact .inr (.inr ⟨by omega,h⟩)
theorem bkOwn_len (js : List Nat) (own ownC : List Ent) : (bkOwn js own ownC).length = own.length + (ownC.length - js.length):=by simp [bkOwn]
theorem bkOwn_keep {js : List Nat} {own ownC : List Ent} {i : Nat} (hi : i < own.length) (hp : plc js i = none) : (bkOwn js own ownC)[i]? = own[i]?:=by
 unfold bkOwn
 rw [List.getElem?_append_left (by simpa using hi),List.getElem?_map,List.getElem?_range hi]
 simp only [Option.map_some,hp]
 simp [List.getD_eq_getElem?_getD,List.getElem?_eq_getElem hi]
theorem bkOwn_phi {js : List Nat} {own ownC : List Ent} (hj : selOk own js = true) {k : Nat} {x : Ent} (hx : ownC[k]? = some x) : (bkOwn js own ownC)[phi js own.length k]? = some (Ent.bk js own.length x):=by
 simp only [selOk,Bool.and_eq_true] at hj
 unfold phi bkOwn
 cases hk : js[k]? with
 | some i =>
   have hi : i < own.length:=by
    have:=List.all_eq_true.1 hj.1 i (List.mem_of_getElem? hk)
    simpa using this
   dsimp only
   rw [List.getElem?_append_left (by simpa using hi),List.getElem?_map,List.getElem?_range hi]
   simp only [Option.map_some,plc_at hj.2 hk,hx]
 | none =>
   have hkl : js.length ≤ k:=by simpa using hk
   dsimp only
   rw [List.getElem?_append_right (by simp),List.length_map,List.length_range,Nat.add_sub_cancel_left,List.getElem?_map,List.getElem?_drop,Nat.add_sub_cancel' hkl,hx]
   rfl
end
section
/-! ### References kept,all values kept -/
section
variable {F F' : Nat → Prop} {own own' : List Ent} {κ κ' : List (Option Nat)} {w w' : World}
mutual
theorem keepAll (ref : ∀ (x : AV) {u : Value}, (∃ i ver o n, x = .osl i ver o n) ∨ (∃ i ver j o, x = .rpt i ver j o) ∨ (∃ i o, x = .opt i o) ∨ (∃ i, x = .yl i) ∨ (∃ i, x = .mp i) ∨ (∃ i ver o n, x = .win i ver o n) → AV.sat F own κ w x u → AV.sat F' own' κ' w' x u) (hw : Wide (badK F κ) (badK F' κ') w w') : ∀ (x : AV) (u : Value), AV.sat F own κ w x u → AV.sat F' own' κ' w' x u
 | .top,u,hs=>by simp [AV.sat]
 | .d x,u,hs=>by
   rw [AV.sat] at hs ⊢
   exact Dat.sat_wide hw x hs
 | .cl sz l,u,hs=>by
   rw [AV.sat] at hs ⊢
   exact ⟨Dat.sat_wide hw (.sl sz l) hs.1,hs.2⟩
 | .fpt sz l j o,u,hs=>by
   rw [AV.sat] at hs ⊢
   obtain ⟨b,q,h1,h2,h3,h4⟩:=hs
   exact ⟨b,q,h1,Nat.lt_of_lt_of_le h2 hw.size,hw.free b h2 h3,hw.rows h2 h3 l h4⟩
 | .osl i ver o n,u,hs=>ref _ (.inl ⟨i,ver,o,n,rfl⟩) hs
 | .win i ver o n,u,hs=>ref _ (.inr (.inr (.inr (.inr (.inr ⟨i,ver,o,n,rfl⟩))))) hs
 | .rpt i ver j o,u,hs=>ref _ (.inr (.inl ⟨i,ver,j,o,rfl⟩)) hs
 | .opt i o,u,hs=>ref _ (.inr (.inr (.inl ⟨i,o,rfl⟩))) hs
 | .bsl i n c,u,hs=>by
   rw [AV.sat] at hs ⊢
   obtain ⟨g,l,h1,h2,h3⟩:=hs
   have h4:=ref (.opt i 0) (u:=.pointer (some ⟨g,0,none⟩)) (.inr (.inr (.inl ⟨i,0,rfl⟩))) (by rw [AV.sat];exact ⟨g,l,h1,h2,rfl⟩)
   rw [AV.sat] at h4
   obtain ⟨g',l',h5,h6,h7⟩:=h4
   obtain rfl : g = g':=by simpa using h7
   exact ⟨g,l',h5,h6,h3⟩
 | .yl i,u,hs=>ref _ (.inr (.inr (.inr (.inl ⟨i,rfl⟩)))) hs
 | .mp i,u,hs=>ref _ (.inr (.inr (.inr (.inr (.inl ⟨i,rfl⟩))))) hs
 | .gh l vs,u,hs=>by
   rw [AV.sat] at hs ⊢
   exact keepAllL ref hw l vs hs
 | .fn f l,u,hs=>by
   rw [AV.sat] at hs ⊢
   obtain ⟨vs,h1,h2⟩:=hs
   exact ⟨vs,h1,keepAllL ref hw l vs.toList h2⟩
 | .bd f l,u,hs=>by
   rw [AV.sat] at hs ⊢
   obtain ⟨vs,h1,h2⟩:=hs
   exact ⟨vs,h1,keepAllL ref hw l vs.toList h2⟩
 | .agg l,u,hs=>by
   rw [AV.sat] at hs ⊢
   obtain ⟨vs,h1,h2⟩:=hs
   exact ⟨vs,h1,keepAllL ref hw l vs.toList h2⟩
 | .tup l,u,hs=>by
   rw [AV.sat] at hs ⊢
   obtain ⟨vs,h1,h2⟩:=hs
   exact ⟨vs,h1,keepAllL ref hw l vs.toList h2⟩
theorem keepAllL (ref : ∀ (x : AV) {u : Value}, (∃ i ver o n, x = .osl i ver o n) ∨ (∃ i ver j o, x = .rpt i ver j o) ∨ (∃ i o, x = .opt i o) ∨ (∃ i, x = .yl i) ∨ (∃ i, x = .mp i) ∨ (∃ i ver o n, x = .win i ver o n) → AV.sat F own κ w x u → AV.sat F' own' κ' w' x u) (hw : Wide (badK F κ) (badK F' κ') w w') : ∀ (l : List AV) (us : List Value), AV.satL F own κ w l us → AV.satL F' own' κ' w' l us
 | [],[],hs=>by simp [AV.satL]
 | x :: xs,u :: us,hs=>by
   rw [AV.satL] at hs ⊢
   exact ⟨keepAll ref hw x u hs.1,keepAllL ref hw xs us hs.2⟩
 | [],_ :: _,hs=>by simp [AV.satL] at hs
 | _ :: _,[],hs=>by simp [AV.satL] at hs
end
theorem keepL (keep : ∀ (x : AV) (u : Value), AV.sat F own κ w x u → AV.sat F' own' κ' w' x u) : ∀ (l : List AV) {us : List Value}, AV.satL F own κ w l us → AV.satL F' own' κ' w' l us
 | [],[],hs=>by simp [AV.satL]
 | x :: xs,u :: us,hs=>by
   rw [AV.satL] at hs ⊢
   exact ⟨keep x u hs.1,keepL keep xs hs.2⟩
 | [],_ :: _,hs=>by simp [AV.satL] at hs
 | _ :: _,[],hs=>by simp [AV.satL] at hs
end
theorem call_back {F : Nat → Prop} {m : Nat} {own ownC : List Ent} {κ κC : List (Option Nat)} {w w' : World} {js : List Nat} {rC : AV} {v : Value} (ho : OwnSat F own κ w) (hj : selOk own js = true) (hm : m ≤ κ.length)
 (hv : AV.sat (restF F κ js) ownC κC w' rC v) (hoC : OwnSat (restF F κ js) ownC κC w') (tr : Tr (restF F κ js) js.length (selR own js) (selK κ js) w ownC κC w') :
 ∃ κ',AV.sat F (bkOwn js own ownC) κ' w' (AV.bk js own.length rC) v ∧ OwnSat F (bkOwn js own ownC) κ' w' ∧ Tr F m own κ w (bkOwn js own ownC) κ' w':=by
 have hj':=hj
 simp only [selOk,Bool.and_eq_true] at hj'
 have hlt : ∀ k i : Nat,js[k]? = some i → i < own.length:=fun k i h=>by
  have:=List.all_eq_true.1 hj'.1 i (List.mem_of_getElem? h)
  simpa using this
 have hKlen : (selK κ js).length = js.length:=by simp [selK]
 have hCle : js.length ≤ κC.length:=tr.pre (by omega)
 have nk : ∀ i : Nat,plc js i = none → i ∉ js:=fun i h hm=>by
  obtain ⟨k,hk⟩:=List.mem_iff_getElem?.1 hm
  exact plc_none h k hk
 -- the places of the callee's entries
 have hphi : ∀ (k : Nat) (og : Option Nat),κC[k]? = some og → (bkK js κ κC)[phi js own.length k]? = some og:=fun k og h=>bkK_phi ho.len hlt hj'.2 h
 have hmem : ∀ b,some b ∈ bkK js κ κC → (∃ i,κ[i]? = some (some b) ∧ i ∉ js) ∨ some b ∈ κC:=fun b hb=>by
  obtain ⟨i,hi⟩:=List.mem_iff_getElem?.1 hb
  rcases bkK_at hi with ⟨h1,h2,h3⟩ | ⟨k,h1,h2,h3⟩ | ⟨h1,h2⟩
  ·exact .inl ⟨i,h3,nk i h2⟩
  ·rw [List.getD_eq_getElem?_getD] at h3
   cases h4 : κC[k]? with
   | none=>rw [h4] at h3;cases h3
   | some og=>rw [h4] at h3;obtain rfl : og = some b:=h3;exact .inr (List.mem_of_getElem? h4)
  ·exact .inr (List.mem_of_getElem? h2)
 have hbad : ∀ b,¬ badK (restF F κ js) κC b → ¬ badK F (bkK js κ κC) b:=fun b h hb=>by
  refine h ?_
  rcases hb with hb | hb
  ·exact .inl (.inl hb)
  ·rcases hmem b hb with h1 | h1
   ·exact .inl (.inr h1)
   ·exact .inr h1
 have hnew : ∀ b,some b ∈ bkK js κ κC → some b ∈ κ ∨ w.heap.size ≤ b:=fun b hb=>by
  rcases hmem b hb with ⟨i,h1,_⟩ | h1
  ·exact .inl (List.mem_of_getElem? h1)
  ·rcases tr.new b h1 with h1 | h1
   ·obtain ⟨k, i, _, h2⟩ := selK_mem hj ho h1
    exact .inl (List.mem_of_getElem? h2)
   ·exact .inr h1
 have hsame : ∀ b,b < w.heap.size → some b ∉ selK κ js → w'.heap[b]? = w.heap[b]?:=tr.old
 have hselK : ∀ b,some b ∈ selK κ js → some b ∈ κ:=fun b h=>by
  obtain ⟨k,i,_,h2⟩:=selK_mem hj ho h
  exact List.mem_of_getElem? h2
 have hwide : Wide (badK F κ) (badK F (bkK js κ κC)) w w':=Tr.wide tr.size (fun b hb h=>hsame b hb fun h2=>h (hselK b h2)) hnew
 -- what an entry that was not handed over is
 have hkeepB : ∀ (i g : Nat),κ[i]? = some (some g) → i ∉ js → w'.heap[g]? = w.heap[g]?:=fun i g hi hn=>by
  refine hsame g (ho.lt' hi).1 fun h=>?_
  obtain ⟨k,i',h1,h2⟩:=selK_mem hj ho h
  obtain rfl:=ho.inj i i' g hi h2
  exact hn (List.mem_of_getElem? h1)
 have hK0 : ∀ (i : Nat),i < own.length → plc js i = none → (bkK js κ κC)[i]? = κ[i]?:=fun i hi hp=>bkK_keep (by rw [← ho.len];exact hi) hp
 have bk:=fun (x : AV) {u : Value}=>AV.bk_sat (F:=F) (own':=bkOwn js own ownC) (κ':=bkK js κ κC) (w:=w') (js:=js) (n:=own.length) (fun k x hx=>bkOwn_phi hj hx) hphi hbad x (u:=u)
 -- references that the caller holds
 have ref : ∀ (x : AV) {u : Value},(∃ i ver o n,x = .osl i ver o n) ∨ (∃ i ver j o,x = .rpt i ver j o) ∨ (∃ i o,x = .opt i o) ∨ (∃ i,x = .yl i) ∨ (∃ i,x = .mp i) ∨ (∃ i ver o n,x = .win i ver o n) → AV.sat F own κ w x u → AV.sat F (bkOwn js own ownC) (bkK js κ κC) w' x u:=by
  intro x u hx hs
  have viaC : ∀ (y : AV),AV.bk js own.length y = x → AV.ren js x = y → AV.sat F (bkOwn js own ownC) (bkK js κ κC) w' x u:=fun y e1 e2=>by
   have h1:=AV.ren_sat (js:=js) ho x hs
   rw [e2] at h1
   have h2:=bk y (tr.keep y u h1)
   rwa [e1] at h2
  rcases hx with ⟨i,ver,o,n,rfl⟩ | ⟨i,ver,j,o,rfl⟩ | ⟨i,o,rfl⟩ | ⟨i,rfl⟩ | ⟨i,rfl⟩ | ⟨i,ver,o,n,rfl⟩
  ·cases hp : plc js i with
   | some k=>exact viaC (.osl k ver o n) (by simp only [AV.bk,phi,plc_spec hp]) (by simp only [AV.ren,hp])
   | none =>
     rw [AV.sat] at hs ⊢
     obtain ⟨⟨y,hy,hv,h1c⟩,hs2⟩:=hs
     have hi : i < own.length:=(List.getElem?_eq_some_iff.1 hy).1
     have e1 : (bkOwn js own ownC)[i]? = own[i]?:=bkOwn_keep hi hp
     refine ⟨⟨y,by rw [e1];exact hy,hv,h1c⟩,fun sz e cells hc=>?_⟩
     rw [e1] at hc
     obtain ⟨h1,A,c,h2,h3,h4,h5⟩:=hs2 sz e cells hc
     refine ⟨h1,A,c,h2,h3,h4,fun hpos=>?_⟩
     rcases h5 hpos with ⟨g,g1,g2,cur,t,fz,g3,g4⟩ | ⟨g1,g2⟩
     ·exact .inl ⟨g,by rw [hK0 i hi hp];exact g1,g2,cur,t,fz,by rw [hkeepB i g g1 (nk i hp)];exact g3,g4⟩
     ·exact .inr ⟨by rw [hK0 i hi hp];exact g1,g2⟩
  ·cases hp : plc js i with
   | some k=>exact viaC (.rpt k ver j o) (by simp only [AV.bk,phi,plc_spec hp]) (by simp only [AV.ren,hp])
   | none =>
     rw [AV.sat] at hs ⊢
     obtain ⟨⟨y,hy,hv,h1c⟩,hs2⟩:=hs
     have hi : i < own.length:=(List.getElem?_eq_some_iff.1 hy).1
     have e1 : (bkOwn js own ownC)[i]? = own[i]?:=bkOwn_keep hi hp
     refine ⟨⟨y,by rw [e1];exact hy,hv,h1c⟩,fun sz e cells hc=>?_⟩
     rw [e1] at hc
     obtain ⟨h1,g,h2,h3⟩:=hs2 sz e cells hc
     exact ⟨h1,g,by rw [hK0 i hi hp];exact h2,h3⟩
  ·cases hp : plc js i with
   | some k=>exact viaC (.opt k o) (by simp only [AV.bk,phi,plc_spec hp]) (by simp only [AV.ren,hp])
   | none =>
     rw [AV.sat] at hs ⊢
     obtain ⟨g,l,h1,h2,h3⟩:=hs
     have hi : i < own.length:=(List.getElem?_eq_some_iff.1 h1).1
     exact ⟨g,l,by rw [bkOwn_keep hi hp];exact h1,by rw [hK0 i hi hp];exact h2,h3⟩
  ·cases hp : plc js i with
   | some k=>exact viaC (.yl k) (by simp only [AV.bk,phi,plc_spec hp]) (by simp only [AV.ren,hp])
   | none =>
     rw [AV.sat] at hs ⊢
     obtain ⟨g,st,pe,ps,asn,bdy,l,h1,h2,h3⟩:=hs
     have hi : i < own.length:=(List.getElem?_eq_some_iff.1 h1).1
     exact ⟨g,st,pe,ps,asn,bdy,l,by rw [bkOwn_keep hi hp];exact h1,by rw [hK0 i hi hp];exact h2,h3⟩
  ·cases hp : plc js i with
   | some k=>exact viaC (.mp k) (by simp only [AV.bk,phi,plc_spec hp]) (by simp only [AV.ren,hp])
   | none =>
     rw [AV.sat] at hs ⊢
     obtain ⟨g,ks,h1,h2,h3⟩:=hs
     have hi : i < own.length:=(List.getElem?_eq_some_iff.1 h1).1
     exact ⟨g,ks,by rw [bkOwn_keep hi hp];exact h1,by rw [hK0 i hi hp];exact h2,h3⟩
  ·cases hp : plc js i with
   | some k=>exact viaC (.win k ver o n) (by simp only [AV.bk,phi,plc_spec hp]) (by simp only [AV.ren,hp])
   | none =>
     rw [AV.sat] at hs ⊢
     obtain ⟨⟨y,hy,hv,h1c⟩,hs2⟩:=hs
     have hi : i < own.length:=(List.getElem?_eq_some_iff.1 hy).1
     have e1 : (bkOwn js own ownC)[i]? = own[i]?:=bkOwn_keep hi hp
     refine ⟨⟨y,by rw [e1];exact hy,hv,h1c⟩,fun sz e cells hc=>?_⟩
     rw [e1] at hc
     obtain ⟨h1,A,c,h2,h3,h4,h5⟩:=hs2 sz e cells hc
     refine ⟨h1,A,c,h2,h3,h4,fun hpos=>?_⟩
     rcases h5 hpos with ⟨g,g1,g2,cur,t,fz,g3,g4⟩ | ⟨g1,g2⟩
     ·exact .inl ⟨g,by rw [hK0 i hi hp];exact g1,g2,cur,t,fz,by rw [hkeepB i g g1 (nk i hp)];exact g3,g4⟩
     ·exact .inr ⟨by rw [hK0 i hi hp];exact g1,g2⟩
 have keep:=keepAll (F:=F) (own:=own) (κ:=κ) (w:=w) ref hwide
 refine ⟨bkK js κ κC, bk rC hv, ⟨?_, fun b hb => Nat.lt_of_lt_of_le (ho.frame b hb) tr.size, fun g hg => ?_, fun a b g ha hb => ?_, fun i y hy => ?_, glb_keep ho.glb tr.size (fun b hb hk => hsame b hb fun h => hk (hselK b h)) hnew⟩,
  ⟨tr.os,tr.tape,tr.output,tr.size,fun b hb hk=>hsame b hb fun h=>hk (hselK b h),hnew,(fun _=>by rw [bkK_len];omega),keep⟩⟩
 ·rw [bkOwn_len,bkK_len,ho.len,hoC.len]
 ·rcases hmem g hg with ⟨i, h1, h2⟩ | h1
  ·have:=ho.lt g (List.mem_of_getElem? h1);have:=tr.size;exact ⟨by omega,(ho.lt g (List.mem_of_getElem? h1)).2⟩
  ·have := hoC.lt g h1
   exact ⟨this.1,fun h=>this.2 (.inl h)⟩
 ·have key : ∀ i : Nat,(bkK js κ κC)[i]? = some (some g) → (κ[i]? = some (some g) ∧ i ∉ js) ∨ ∃ k,κC[k]? = some (some g) ∧ i = phi js own.length k:=fun i h=>by
   rcases bkK_at h with ⟨h1,h2,h3⟩ | ⟨k,h1,h2,h3⟩ | ⟨h1,h2⟩
   ·exact .inl ⟨h3,nk i h2⟩
   ·have hk := plc_spec h1
    refine .inr ⟨k,?_,by simp only [phi,hk]⟩
    rw [List.getD_eq_getElem?_getD] at h3
    cases h4 : κC[k]? with
    | none=>rw [h4] at h3;cases h3
    | some og=>rw [h4] at h3;obtain rfl : og = some g:=h3;rfl
   ·refine .inr ⟨_, h2, ?_⟩
    unfold phi
    rw [List.getElem?_eq_none (by omega)]
    dsimp only
    have:=ho.len
    omega
  have mix : ∀ i k : Nat,κ[i]? = some (some g) → i ∉ js → κC[k]? = some (some g) → False:=fun i k h1 hn h2=>by
   rcases tr.new g (List.mem_of_getElem? h2) with h3 | h3
   ·obtain ⟨k', i', h4, h5⟩ := selK_mem hj ho h3
    obtain rfl:=ho.inj i i' g h1 h5
    exact hn (List.mem_of_getElem? h4)
   ·have:=(ho.lt' h1).1;omega
  rcases key a ha with ⟨h1,h2⟩ | ⟨k,h1,h2⟩<;>rcases key b hb with ⟨h3,h4⟩ | ⟨k',h3,h4⟩
  ·exact ho.inj a b g h1 h3
  ·exact (mix a _ h1 h2 h3).elim
  ·exact (mix b _ h3 h4 h1).elim
  ·have:=hoC.inj _ _ g h1 h3;rw [h2,h4,this]
 ·-- entries
  have viaC : ∀ (k : Nat) (x : Ent),ownC[k]? = some x → i = phi js own.length k → y = Ent.bk js own.length x → EntSat F (bkOwn js own ownC) (bkK js κ κC) w' ((bkK js κ κC).getD i none) y:=fun k x hx hi hyx=>by
   subst hi;subst hyx
   have hent:=hoC.ent k x hx
   obtain ⟨og,hog⟩:=hoC.kap k x hx
   have e1 : κC.getD k none = og:=by simp [List.getD_eq_getElem?_getD,hog]
   have e2 : (bkK js κ κC).getD (phi js own.length k) none = og:=by rw [List.getD_eq_getElem?_getD,hphi k og hog];rfl
   rw [e1] at hent
   rw [e2]
   cases x with
   | box l =>
     rcases hent with ⟨hn1,rfl⟩ | ⟨g,hg,cur,t,h1,h2,h3⟩
     ·exact .inl ⟨hn1,rfl⟩
     exact .inr ⟨g,hg,cur,t,h1,AV.bkL_sat (fun k x hx=>bkOwn_phi hj hx) hphi hbad l h2,h3⟩
   | lp st pe ps asn bdy l =>
     obtain ⟨g,hg,r,h1,h2,h3⟩:=hent
     exact ⟨g,hg,r,h1,h2,AV.bkL_sat (fun k x hx=>bkOwn_phi hj hx) hphi hbad l h3⟩
   | mp ks =>
     obtain ⟨g,hg,es,clock,h1,h2⟩:=hent
     exact ⟨g,hg,es,clock,h1,h2.map fun x u hs=>AV.bk_sat (fun k x hx=>bkOwn_phi hj hx) hphi hbad x hs⟩
   | row v s e c =>
     obtain ⟨h0,h1⟩:=hent
     refine ⟨h0,h1.imp id ?_⟩
     rintro ⟨g,hg,cur,h2,h3,h4⟩
     exact ⟨g,hg,cur,h2,h3,Dat.rowsSat_wide (Wide.of (Nat.le_refl _) (fun _ _ _=>rfl) (fun b _ h=>hbad b h)) rfl c h4⟩
  by_cases hi : i < own.length
  ·cases hp : plc js i with
   | some k =>
     have hk:=plc_spec hp
     have hkl : k < js.length:=(List.getElem?_eq_some_iff.1 hk).1
     have hkC : k < ownC.length:=by rw [hoC.len];omega
     have e1:=bkOwn_phi hj (List.getElem?_eq_getElem hkC)
     have e2 : phi js own.length k = i:=by simp only [phi,hk]
     rw [e2] at e1
     rw [hy] at e1
     exact viaC k _ (List.getElem?_eq_getElem hkC) e2.symm (by simpa using e1)
   | none =>
     rw [bkOwn_keep hi hp] at hy
     have hent:=ho.ent i y hy
     obtain ⟨og,hog⟩:=ho.kap i y hy
     have e1 : κ.getD i none = og:=by simp [List.getD_eq_getElem?_getD,hog]
     have e2 : (bkK js κ κC).getD i none = og:=by rw [List.getD_eq_getElem?_getD,hK0 i hi hp,hog];rfl
     rw [e1] at hent
     rw [e2]
     cases y with
     | box l =>
       rcases hent with ⟨hn1,rfl⟩ | ⟨g,hg,cur,t,h1,h2,h3⟩
       ·exact .inl ⟨hn1,rfl⟩
       subst hg
       exact .inr ⟨g,rfl,cur,t,by rw [hkeepB i g hog (nk i hp)];exact h1,keepL keep l h2,h3⟩
     | lp st pe ps asn bdy l =>
       obtain ⟨g,hg,r,h1,h2,h3⟩:=hent
       subst hg
       exact ⟨g,rfl,r,by rw [hkeepB i g hog (nk i hp)];exact h1,h2,keepL keep l h3⟩
     | mp ks =>
       obtain ⟨g,hg,es,clock,h1,h2⟩:=hent
       subst hg
       exact ⟨g,rfl,es,clock,by rw [hkeepB i g hog (nk i hp)];exact h1,h2.mono fun x u hs=>keep x u hs⟩
     | row v s e c =>
       obtain ⟨h0,h1⟩:=hent
       refine ⟨h0,h1.imp id ?_⟩
       rintro ⟨g,hg,cur,h2,h3,h4⟩
       subst hg
       have hb:=hkeepB i g hog (nk i hp)
       exact ⟨g,rfl,cur,by rw [hb];exact h2,h3,Dat.rowsSat_wide hwide hb c h4⟩
  ·have hil := (List.getElem?_eq_some_iff.1 hy).1
   rw [bkOwn_len] at hil
   have hkC : js.length + (i - own.length) < ownC.length:=by omega
   have e2 : phi js own.length (js.length + (i - own.length)) = i:=by
    unfold phi
    rw [List.getElem?_eq_none (by omega)]
    dsimp only
    omega
   have e1:=bkOwn_phi hj (List.getElem?_eq_getElem hkC)
   rw [e2,hy] at e1
   exact viaC _ _ (List.getElem?_eq_getElem hkC) e2.symm (by simpa using e1)
end
section
def normF : List Ent → Option (List Ent)
 | []=>some []
 | .box l :: r=>match normF r with | some r'=>some (.box l :: r') | none=>none
 | .lp st pe ps asn bdy l :: r=>match normF r with | some r'=>some (.lp st pe ps asn bdy l :: r') | none=>none
 | .row v s e c :: r=>match normF r with | some r'=>some (.row v s e c :: r') | none=>none
 | .mp ks :: r=>match normF r with | some r'=>some (.mp ks :: r') | none=>none
theorem normF_spec : ∀ {l r : List Ent}, normF l = some r → r = l
 | [],r,h=>by simp [normF] at h;exact h.symm ▸ rfl
 | .box l :: l',r,h=>by
   simp only [normF] at h
   cases hq : normF l' with
   | none=>simp [hq] at h
   | some r'=>simp only [hq,Option.some.injEq] at h;rw [← h,normF_spec hq]
 | .lp st pe ps asn bdy l :: l',r,h=>by
   simp only [normF] at h
   cases hq : normF l' with
   | none=>simp [hq] at h
   | some r'=>simp only [hq,Option.some.injEq] at h;rw [← h,normF_spec hq]
 | .row v s e c :: l',r,h=>by
   simp only [normF] at h
   cases hq : normF l' with
   | none=>simp [hq] at h
   | some r'=>simp only [hq,Option.some.injEq] at h;rw [← h,normF_spec hq]
 | .mp ks :: l',r,h=>by
   simp only [normF] at h
   cases hq : normF l' with
   | none=>simp [hq] at h
   | some r'=>simp only [hq,Option.some.injEq] at h;rw [← h,normF_spec hq]
theorem selR_len (own : List Ent) (js : List Nat) : (selR own js).length = js.length:=by simp [selR]
def modJ (js : List Nat) (n k : Nat) : List Nat:=js ++ (List.range k).map (n + ·)
section
variable {P : Program} {m : Nat} {env : List (Nat × AV)} {own : List Ent} {dst : Option Tmp} {ty : TypeId} {pos : String} {af : Array Edge} {gd : Option (Nat × Bool)}
theorem e_callJ {js : List Nat} {fo : Operand} {args : Array Operand} {ts : Array TypeId} {f : FuncId} {caps argsC : List AV} {ownC ownC' own' : List Ent} {rC r : AV}
 (hc : ACalls P f argsC ownC rC ownC') (hfo : lookO env fo = .fn f caps) (hown : selR own js = ownC) (hargs : AV.renL js (args.toList.map (lookO env) ++ caps) = argsC)
 (ho : normF (bkOwn js own ownC') = some own') (hr : AV.bk js own.length rC = r) (hj : selOk own js = true) (hf : isFn P f = true) :
 Eff P m ⟨dst,.call ⟨.value fo,args,ts⟩,ty,pos,af,gd⟩ env own (modJ js own.length (ownC'.length - js.length)) r own':=by
 have ho':=normF_spec ho
 subst ho';subst hr;subst hown;subst hargs
 refine Eff.mk (fun i hi=>?_) fun F κ a w hs hO hm=>?_
 ·simp only [modJ, List.mem_append, List.mem_map, List.mem_range, not_or, not_exists, not_and] at hi
  by_cases hlt : i < own.length
  ·refine bkOwn_keep hlt ?_
   cases hp : plc js i with
   | none=>rfl
   | some k=>exact absurd (List.mem_of_getElem? (plc_spec hp)) hi.1
  ·rw [List.getElem?_eq_none (show own.length ≤ i by omega), List.getElem?_eq_none]
   rw [bkOwn_len]
   have:=hi.2 (i - own.length)
   by_cases h2 : i - own.length < ownC'.length - js.length
   ·exact absurd (by omega) (this h2)
   ·omega
 ·obtain ⟨vs, h1, h2⟩ := exec_call (P := P) (dst := dst) (ty := ty) (pos := pos) (af := af) (gd := gd) hf hfo hs
  rw [h1]
  refine (hc (restF F κ js) (selK κ js) w vs (selR_own hO hj) (AV.renL_sat hO _ h2)).mono ?_
  rintro e w' ⟨v,κC,he,h3,h4,h5⟩
  rw [selR_len] at h5
  exact ⟨v,he,call_back hO hj hm h3 h4 h5⟩
end
end
section
def capK : IntKind → Nat
 | .i64=>9223372036854775808
 | .u8=>256
 | .u16=>65536
 | .u64=>18446744073709551616
 | _=>0
theorem capK_bits {k : IntKind} {x : Nat} (h : x < capK k) : x < 2 ^ k.bits:=by
 cases k<;>simp only [capK] at h<;>first | (exact absurd h (Nat.not_lt_zero _)) | (simp only [IntKind.bits];omega)
theorem capK_wrap {k : IntKind} {x : Nat} (h : x < capK k) : k.wrap (x : Int) = x:=by
 cases k<;>simp only [capK] at h<;>first | (exact absurd h (Nat.not_lt_zero _)) | (simp [IntKind.wrap,IntKind.bits,IntKind.signed];omega)
theorem capK_pow {k : IntKind} {x : Nat} (h : x < capK k) : ∃ n,capK k = 2 ^ n:=by
 cases k<;>simp only [capK] at h<;>first | (exact absurd h (Nat.not_lt_zero _)) | exact ⟨63,by decide⟩ | exact ⟨8,by decide⟩ | exact ⟨16,by decide⟩ | exact ⟨64,by decide⟩
theorem capK_xor {k : IntKind} {x y : Nat} (hx : x < capK k) (hy : y < capK k) : x ^^^ y < capK k:=by
 obtain ⟨n,hn⟩:=capK_pow hx
 rw [hn] at hx hy ⊢;exact Nat.xor_lt_two_pow hx hy
theorem capK_and {k : IntKind} {x y : Nat} (hx : x < capK k) : x &&& y < capK k:=Nat.lt_of_le_of_lt Nat.and_le_left hx
section
variable {P : Program} {m : Nat} {env : List (Nat × AV)} {own : List Ent} {dst : Option Tmp} {ty : TypeId} {pos : String} {af : Array Edge} {gd : Option (Nat × Bool)}
theorem q_xorN {t t' : TypeId} {x y : Operand} {k : IntKind} {a b : Int} {xn yn : Nat} (hx : lookO env x = .d (.v (.int k a))) (hy : lookO env y = .d (.v (.int k b))) (ha : a = (xn : Int)) (hb : b = (yn : Int)) (h1 : xn < capK k) (h2 : yn < capK k) :
 Quiet P m ⟨dst,.binOp .xor t x y t',ty,pos,af,gd⟩ env own [] (.d (.v (.int k ((xn ^^^ yn : Nat) : Int)))):=q_bin hx hy fun w=>by
 subst ha;subst hb
 simp [eqGuard,binOp,Op.intBits,Nat.mod_eq_of_lt (capK_bits h1),Nat.mod_eq_of_lt (capK_bits h2),capK_wrap (capK_xor h1 h2)]
theorem q_andN {t t' : TypeId} {x y : Operand} {k : IntKind} {a b : Int} {xn yn : Nat} (hx : lookO env x = .d (.v (.int k a))) (hy : lookO env y = .d (.v (.int k b))) (ha : a = (xn : Int)) (hb : b = (yn : Int)) (h1 : xn < capK k) (h2 : yn < capK k) :
 Quiet P m ⟨dst,.binOp .and t x y t',ty,pos,af,gd⟩ env own [] (.d (.v (.int k ((xn &&& yn : Nat) : Int)))):=q_bin hx hy fun w=>by
 subst ha;subst hb
 simp [eqGuard,binOp,Op.intBits,Nat.mod_eq_of_lt (capK_bits h1),Nat.mod_eq_of_lt (capK_bits h2),capK_wrap (capK_and (y:=yn) h1)]
theorem q_shlN {t t' : TypeId} {x y : Operand} {k k' : IntKind} {a b : Int} {xn n : Nat} (hx : lookO env x = .d (.v (.int k a))) (hy : lookO env y = .d (.v (.int k' b))) (ha : a = (xn : Int)) (hb : b = (n : Int)) (hn : Nat.ble 64 k.bits = true) (h1 : n < 64) (h2 : xn <<< n < capK k) :
 Quiet P m ⟨dst,.binOp .shl t x y t',ty,pos,af,gd⟩ env own [] (.d (.v (.int k ((xn <<< n : Nat) : Int)))):=q_bin hx hy fun w=>by
 subst ha;subst hb
 have hn:=Nat.le_of_ble_eq_true hn
 have e1 : min n k.bits = n:=Nat.min_eq_left (by omega)
 have e2 : ((xn : Int) * 2 ^ n) = ((xn <<< n : Nat) : Int):=by rw [Nat.shiftLeft_eq];simp
 have e3 : ¬ ((n : Int) < 0):=by omega
 simp only [eqGuard,binOp,Op.shift,e3,if_false,Int.toNat_natCast,e1,e2,capK_wrap h2]
 rfl
theorem q_shrN {t t' : TypeId} {x y : Operand} {k k' : IntKind} {a b : Int} {xn n : Nat} (hx : lookO env x = .d (.v (.int k a))) (hy : lookO env y = .d (.v (.int k' b))) (ha : a = (xn : Int)) (hb : b = (n : Int)) (h1 : n ≤ k.bits) :
 Quiet P m ⟨dst,.binOp .shr t x y t',ty,pos,af,gd⟩ env own [] (.d (.v (.int k ((xn >>> n : Nat) : Int)))):=q_bin hx hy fun w=>by
 subst ha;subst hb
 have e1 : min n k.bits = n:=Nat.min_eq_left h1
 have e2 : (xn : Int).fdiv (2 ^ n) = ((xn >>> n : Nat) : Int):=by
  rw [Nat.shiftRight_eq_div_pow,Int.natCast_ediv,Int.fdiv_eq_ediv_of_nonneg _ (by exact Int.le_of_lt (Int.pow_pos (by omega)))]
  simp
 have e3 : ¬ ((n : Int) < 0):=by omega
 simp only [eqGuard,binOp,Op.shift,e3,if_false,Int.toNat_natCast,e1,e2]
 rfl
def glbAt (g : Nat) : List (Nat × Array Value) → Option (List Value)
 | []=>none
 | (b,c) :: r=>match Nat.beq b g with | true=>some c.toList | false=>glbAt g r
theorem glbAt_mem {g : Nat} : ∀ {l : List (Nat × Array Value)} {c : List Value}, glbAt g l = some c → (g, c.toArray) ∈ l
 | [],c,h=>by simp [glbAt] at h
 | (b,a) :: r,c,h=>by
   simp only [glbAt] at h
   cases hb : Nat.beq b g with
   | true =>
     have:=Nat.eq_of_beq_eq_true hb
     simp only [hb,Option.some.injEq] at h
     subst h;subst this;simp
   | false=>simp only [hb] at h;exact List.mem_cons_of_mem _ (glbAt_mem h)
def valsF : List Value → Option (List AV)
 | []=>some []
 | v :: l=>match valsF l with | some r=>some (.d (.v v) :: r) | none=>none
theorem valsF_spec : ∀ {l : List Value} {r : List AV}, valsF l = some r → r = l.map fun v => .d (.v v)
 | [],r,h=>by simp [valsF] at h;subst h;rfl
 | v :: l,r,h=>by
   simp only [valsF] at h
   cases hq : valsF l with
   | none=>simp [hq] at h
   | some r'=>simp only [hq,Option.some.injEq] at h;subst h;rw [valsF_spec hq];rfl
theorem q_ld_glb {t : TypeId} {k g : Nat} {x : Operand} {c : List Value} {r : List AV} (hx : lookO env x = .d (.v (.pointer (some ⟨g, 0, none⟩)))) (hg : glbAt g glbs = some c) (hr : valsF c = some r) (ht : tyInfo P t = some (true, k)) (hl : Nat.beq c.length k = true) :
 Quiet P m ⟨dst,.load t x,ty,pos,af,gd⟩ env own [] (.agg r) :=
 Quiet.val fun F own' κ a w hs ho hsame _=>by
  have h1:=hs x (by simp [Op.operands]);rw [hx,sat_v] at h1
  obtain ⟨h2,h3,t2,fz,h4⟩:=ho.glb _ (glbAt_mem hg)
  refine ⟨.agg c.toArray,exec_v (by rw [h1];exact run_loadAt_agg ht c (Nat.eq_of_beq_eq_true hl) (fun j u hu=>by rw [cell_of_row w g _ c.toArray t2 fz h4,Nat.zero_add];simpa using hu)),?_⟩
  rw [valsF_spec hr,AV.sat]
  refine ⟨_,rfl,satL_of (by simp) fun j y hy=>?_⟩
  rw [List.getElem?_map] at hy
  cases hj : c[j]? with
  | none=>rw [hj] at hy;cases hy
  | some u => rw [hj] at hy; obtain rfl : AV.d (.v u) = y := by simpa using hy
              exact ⟨u,rfl,sat_v.2 rfl⟩
def arInfo (P : Program) (t : TypeId) : Option (Nat × TypeId):=match P.underlying t with | some (.array n e)=>some (n,e) | _=>none
theorem arInfo_spec {P : Program} {t e : TypeId} {n : Nat} (h : arInfo P t = some (n,e)) : P.underlying t = some (.array n e):=by
 unfold arInfo at h
 split at h
 ·rename_i n' e' he; obtain ⟨rfl, rfl⟩ : n' = n ∧ e' = e := by simpa using h
  exact he
 ·cases h
theorem q_ix_ags {t e : TypeId} {n k j : Nat} {x y : Operand} {l r : List AV} {ik : IntKind} {i : Int} (hx : lookO env x = .agg l) (hy : lookO env y = .d (.v (.int ik i))) (ht : arInfo P t = some (n, e)) (he : tyInfo P e = some (true, k)) (hi : i = (j : Int)) (hr : takeF k (l.drop (j * k)) = some r) (hj : j < n) :
 Quiet P m ⟨dst,.index t x y,ty,pos,af,gd⟩ env own [] (.agg r) :=
 Quiet.val fun F own' κ a w hs _ _ _=>by
  have h1:=hs x (by simp [Op.operands]);rw [hx,AV.sat] at h1
  have h2:=hs y (by simp [Op.operands]);rw [hy,sat_v] at h2
  obtain ⟨vs,h3,h4⟩:=h1
  obtain ⟨h6,i',h7,h8⟩:=tyInfo_spec he
  subst hi
  refine ⟨.agg (vs.extract (j * k) (j * k + k)),exec_v ?_,?_⟩
  ·rw [h3, h2]
   simp [Instr.index,asIntOf,run_underlying (arInfo_spec ht),hj,part,h6 w,sizeOf,typeInfo,h7,h8]
  ·rw [AV.sat]
   refine ⟨_,rfl,?_⟩
   obtain ⟨h9,h10⟩:=takeF_spec hr
   have hl:=satL_length h4
   rw [h9]
   have : (vs.extract (j * k) (j * k + k)).toList = (vs.toList.drop (j * k)).take k:=by
    apply List.ext_getElem?
    intro q
    simp only [Array.getElem?_toList,Array.getElem?_extract,List.getElem?_take,List.getElem?_drop]
    simp only [List.length_drop] at h10
    simp only [Array.length_toList] at hl
    by_cases hq : q < k
    ·rw [if_pos hq,if_pos (by omega)]
    ·rw [if_neg hq,if_neg (by omega)]
   rw [this]
   exact satL_take _ (satL_drop _ h4)
end
section
variable {P : Program} {m : Nat} {env : List (Nat × AV)} {own : List Ent} {dst : Option Tmp} {ty : TypeId} {pos : String} {af : Array Edge} {gd : Option (Nat × Bool)}
theorem jAd {t t' : TypeId} {x y : Operand} {k : IntKind} {a b : Int} {xn yn : Nat} (hx : lookO env x = .d (.v (.int k a)):=by exact rfl) (hy : lookO env y = .d (.v (.int k b)):=by exact rfl) (ha : a = (xn : Int):=by first | (with_reducible exact rfl) | exact natI_spec rfl | assumption | exact (Int.toNat_of_nonneg (by omega)).symm) (hb : b = (yn : Int):=by first | (with_reducible exact rfl) | exact natI_spec rfl | assumption | exact (Int.toNat_of_nonneg (by omega)).symm) (h1 : xn < capK k:=by first | (apply hcap1;omega) | (apply hcap2;omega) | (apply hcap3;omega) | (apply hcap4;omega) | (focus (show _ < 9223372036854775808;omega)) | (focus (show _ < 256;omega)) | assumption) (h2 : yn < capK k:=by first | (apply hcap1;omega) | (apply hcap2;omega) | (apply hcap3;omega) | (apply hcap4;omega) | (focus (show _ < 9223372036854775808;omega)) | (focus (show _ < 256;omega)) | assumption) : Quiet P m ⟨dst,.binOp .xor t x y t',ty,pos,af,gd⟩ env own [] (.d (.v (.int k ((xn ^^^ yn : Nat) : Int)))):=q_xorN hx hy ha hb h1 h2
end
section
variable {P : Program} {m : Nat} {env : List (Nat × AV)} {own : List Ent} {dst : Option Tmp} {ty : TypeId} {pos : String} {af : Array Edge} {gd : Option (Nat × Bool)}
theorem jAe {t t' : TypeId} {x y : Operand} {k k' : IntKind} {a b : Int} {xn n : Nat} (hx : lookO env x = .d (.v (.int k a)):=by exact rfl) (hy : lookO env y = .d (.v (.int k' b)):=by exact rfl) (ha : a = (xn : Int):=by first | (with_reducible exact rfl) | exact natI_spec rfl | assumption | exact (Int.toNat_of_nonneg (by omega)).symm) (hb : b = (n : Int):=by first | (with_reducible exact rfl) | exact natI_spec rfl | assumption | exact (Int.toNat_of_nonneg (by omega)).symm) (hn : Nat.ble 64 k.bits = true:=by exact rfl) (h1 : n < 64:=by omega) (h2 : xn <<< n < capK k:=by first | (apply hcap1;omega) | (apply hcap2;omega) | (apply hcap3;omega) | (apply hcap4;omega) | (focus (show _ < 9223372036854775808;omega)) | (focus (show _ < 256;omega)) | assumption) : Quiet P m ⟨dst,.binOp .shl t x y t',ty,pos,af,gd⟩ env own [] (.d (.v (.int k ((xn <<< n : Nat) : Int)))):=q_shlN hx hy ha hb hn h1 h2
end
section
variable {P : Program} {m : Nat} {env : List (Nat × AV)} {own : List Ent} {dst : Option Tmp} {ty : TypeId} {pos : String} {af : Array Edge} {gd : Option (Nat × Bool)}
theorem jAs {t t' : TypeId} {x y : Operand} {k k' : IntKind} {a b : Int} {xn n : Nat} (hx : lookO env x = .d (.v (.int k a)):=by exact rfl) (hy : lookO env y = .d (.v (.int k' b)):=by exact rfl) (ha : a = (xn : Int):=by first | (with_reducible exact rfl) | exact natI_spec rfl | assumption | exact (Int.toNat_of_nonneg (by omega)).symm) (hb : b = (n : Int):=by first | (with_reducible exact rfl) | exact natI_spec rfl | assumption | exact (Int.toNat_of_nonneg (by omega)).symm) (h1 : n ≤ k.bits:=by focus (show _ ≤ 64;omega)) : Quiet P m ⟨dst,.binOp .shr t x y t',ty,pos,af,gd⟩ env own [] (.d (.v (.int k ((xn >>> n : Nat) : Int)))):=q_shrN hx hy ha hb h1
end
end
section
def EndsO (P : Program) (m : Nat) (rs : List ResultVar) (r : AV) (own' : List Ent) (e : Exit) (s : St) : Prop :=
 (e = .ret ∨ e = .normal) ∧ ∃ js xs,selOk s.own js = true ∧ js.take m = List.range m ∧ ResL P s rs xs ∧ AVle (AV.frz s.own js (tupA xs)) r ∧ selOwn s.own js = own'
theorem acalls_of_bodyO {P : Program} {f : FuncId} {fn : Func} {c : Code} {args : List AV} {r : AV} {own own' : List Ent} (hf : P.funcs[f]? = some fn) (hb : fn.body = some c) (hn : args.length ≤ fn.ntmps)
 (h : AWP P fn.ntmps own.length c (EndsO P own.length fn.results.toList r own') ⟨env0 0 args,own⟩) : ACalls P f args own r own':=fun F κ w vs ho hsat=>by
 have hlen:=satL_length hsat
 refine callsIn_wide.1 (callsIn_of_wp_marks (F:=Fence.wide) (n:=0) hf hb trivial ?_)
 refine wpIn_mono (h F ⟨w,own⟩ κ { tmps:=vs.toArray ++ Array.replicate (fn.ntmps - vs.toArray.size) undef,defers:=[] } κ w trivial ho.len.symm ⟨by simp;omega,Marks.nil,fun t=>?_,ho,by simp,rfl,rfl,rfl,Nat.le_refl _,fun _ _ _=>rfl,(fun b hb=>.inl hb),ho.len,fun _ _ h=>h⟩) ?_
 ·rw [look_env0, if_pos (Nat.zero_le _), Nat.sub_zero]
  cases ht : args[t]? with
  | none=>simp [AV.sat]
  | some x =>
    obtain ⟨u,h1,h2⟩:=satL_get hsat t x ht
    have hlt : t < vs.length:=(List.getElem?_eq_some_iff.1 h1).1
    have : (vs.toArray ++ Array.replicate (fn.ntmps - vs.toArray.size) undef).getD t undef = u:=by
     have : (vs.toArray ++ Array.replicate (fn.ntmps - vs.toArray.size) undef)[t]? = some u:=by
      rw [Array.getElem?_append_left (by simpa using hlt)];simpa using h1
     rw [Array.getD_eq_getD_getElem?,this];rfl
    rw [this]
    exact h2
 ·rintro e a0 w0 ⟨s, κ', ⟨he, js, xs, h1, h1', h2, h3, h4⟩, hs0⟩
  suffices hL : LeavesInM Fence.wide 0 P fn a0.tmps _ a0.defers .returning w0 by
   rcases he with rfl | rfl
   ·exact hL
   ·exact hL
  refine Sim.leaves hs0 fun a' w' _ hs=>?_
  obtain ⟨us,h5,h6⟩:=run_results hs.env hs.own fn.results.toList xs h2
  have hfin : ∃ v,(results fn a'.tmps).run P w' = .ok v w' ∧ AV.sat F s.own κ' w' (tupA xs) v:=by
   have hmap : (fn.results.mapM (resOne a')).run P w' = .ok us.toArray w':=by
    rw [Array.mapM_eq_mapM_toList,Sem.run_map,h5];rfl
   rw [results_eq,Sem.run_bind,hmap]
   simp only [Result.andThen_ok,Sem.run_pure]
   have hl2:=satL_length h6
   match xs,us,h6,hl2 with
   | [x],[u],h6,_=>exact ⟨u,rfl,by rw [AV.satL] at h6;exact h6.1⟩
   | [],[],h6,_ =>
     refine ⟨.tuple #[],rfl,?_⟩
     show AV.sat F s.own κ' w' (.tup []) _
     rw [AV.sat];exact ⟨#[],rfl,h6⟩
   | x :: y :: xs,u :: v :: us,h6,_ =>
     refine ⟨.tuple (u :: v :: us).toArray,by simp,?_⟩
     show AV.sat F s.own κ' w' (.tup (x :: y :: xs)) _
     rw [AV.sat];exact ⟨_,rfl,h6⟩
  obtain ⟨v,h7,h8⟩:=hfin
  have hfz:=h3 _ _ _ _ _ (AV.frz_sat (js:=js) hs.own _ h8)
  have hw:=hs.wkK (s':=⟨[],own'⟩) ho.len.symm h1 h1' h4.symm trivial
  have htr : Tr F own.length own κ w own' (selK κ' js) w':=⟨hw.os,hw.tape,hw.output,hw.size,hw.old,hw.new,(fun _=>by rw [ho.len];exact hw.pre),hw.keep⟩
  rw [h4] at hfz
  exact ⟨v,h7,v,_,rfl,hfz,hw.own,htr⟩
section
variable {P : Program} {m : Nat} {env : List (Nat × AV)} {own : List Ent} {dst : Option Tmp} {ty : TypeId} {pos : String} {af : Array Edge} {gd : Option (Nat × Bool)}
theorem e_callS {fo : Operand} {args : Array Operand} {ts : Array TypeId} {f : FuncId} {caps l : List AV} {r : AV} (hc : ACalls P f l own r own) (hfo : lookO env fo = .fn f caps) (ha : args.toList.map (lookO env) ++ caps = l) (hf : isFn P f = true) :
 Eff P m ⟨dst,.call ⟨.value fo,args,ts⟩,ty,pos,af,gd⟩ env own [] r own :=
 Eff.mk (fun _ _=>rfl) fun F κ a w hs hO hm=>by
  obtain ⟨vs,h1,h2⟩:=exec_call (P:=P) (dst:=dst) (ty:=ty) (pos:=pos) (af:=af) (gd:=gd) hf hfo hs
  rw [h1]
  subst ha
  refine (hc F κ w vs hO h2).mono ?_
  rintro e w' ⟨v,κ',he,h3,h4,h5⟩
  exact ⟨v,he,κ',h3,h4,h5.os,h5.tape,h5.output,h5.size,h5.old,h5.new,(fun h=>by have:=h5.pre (by rw [hO.len];exact Nat.le_refl _);rw [hO.len] at this;omega),h5.keep⟩
end
end
section
def EnvSub (env : List (Nat × AV)) : List (Nat × AV) → Prop
 | []=>True
 | (t,x) :: rest=>x = look env t ∧ EnvSub env rest
theorem EnvSub.look {env : List (Nat × AV)} : ∀ {env' : List (Nat × AV)}, EnvSub env env' → ∀ t, look env' t = .top ∨ look env' t = look env t
 | [],_,t=>.inl rfl
 | (s,x) :: rest,h,t=>by
   simp only [Go.Proofs.YtplpgijpmgbaiaaGreatDoor.look]
   by_cases e : s = t
   ·rw [if_pos e,← e];exact .inr h.1
   ·rw [if_neg e];exact EnvSub.look h.2 t
def WkE (s s' : St) : Prop:=s'.own = s.own ∧ EnvSub s.env s'.env
section
variable {Γ : Ctx} {P : Program} {n m : Nat} {Q : Exit → St → Prop} {s : St}
theorem Sim.wkE {F : Nat → Prop} {W : Root} {κ0 : List (Option Nat)} {s s' : St} {a : Act} {κ : List (Option Nat)} {w : World} (hs : Sim F W κ0 n s a κ w) (h : WkE s s') : Sim F W κ0 n s' a κ w:=by
 obtain ⟨h1,h2⟩:=h
 refine ⟨hs.tm,hs.df,fun t=>?_,by rw [h1];exact hs.own,hs.pre,hs.os,hs.tape,hs.output,hs.size,hs.old,hs.new,hs.len,by rw [h1];exact hs.keep⟩
 rw [h1]
 rcases EnvSub.look h2 t with h | h
 ·rw [h];simp [AV.sat]
 ·rw [h];exact hs.env t
theorem AWP.wkE {c : Code} (s' : St) (h : WkE s s') (hc : AWPG Γ P n m c Q s') : AWPG Γ P n m c Q s:=fun F W κ0 a κ w hH hm hs=>hc F W κ0 a κ w hH hm (hs.wkE h)
theorem AWP.loopE {body : Code} {α : Type} (pre : α → Prop) (st : α → St) (μ : α → Nat) (x0 : α) (h0 : pre x0) (hs0 : WkE s (st x0))
 (hr : ∀ x,pre x → AWPG Γ P n m body (ACont P n m (fun s'=>∃ x',pre x' ∧ μ x' < μ x ∧ WkE s' (st x')) Q) (st x)) : AWPG Γ P n m (.loop body) Q s:=by
 refine AWP.wkE (st x0) hs0 fun F W κ0 a κ w hH hm hs=>?_
 refine wpIn_loop_ghost (fun k a w=>∃ x κ,pre x ∧ μ x = k ∧ Sim F W κ0 n (st x) a κ w) (μ x0) ⟨x0,κ,h0,rfl,hs⟩ fun k a w ⟨x,κ,hp,hk,hs⟩=>?_
 refine wpIn_mono (hr x hp F W κ0 a κ w hH hm hs) fun e a' w' ⟨s',κ',hq,hs'⟩=>?_
 cases e with
 | normal =>
   obtain ⟨x',h1,h2,h3⟩:=hq
   exact ⟨μ x',by omega,x',κ',h1,rfl,hs'.wkE h3⟩
 | _=>exact ⟨s',κ',hq,hs'⟩
end
def EndsS (P : Program) (rs : List ResultVar) (r : AV) (own' : List Ent) (e : Exit) (s : St) : Prop :=
 (e = .ret ∨ e = .normal) ∧ ∃ xs,ResL P s rs xs ∧ AVle (tupA xs) r ∧ s.own = own'
theorem acalls_of_bodyS {P : Program} {f : FuncId} {fn : Func} {c : Code} {args : List AV} {r : AV} {own own' : List Ent} (hf : P.funcs[f]? = some fn) (hb : fn.body = some c) (hn : args.length ≤ fn.ntmps)
 (h : AWP P fn.ntmps own.length c (EndsS P fn.results.toList r own') ⟨env0 0 args,own⟩) : ACalls P f args own r own':=fun F κ w vs ho hsat=>by
 have hlen:=satL_length hsat
 refine callsIn_wide.1 (callsIn_of_wp_marks (F:=Fence.wide) (n:=0) hf hb trivial ?_)
 refine wpIn_mono (h F ⟨w,own⟩ κ { tmps:=vs.toArray ++ Array.replicate (fn.ntmps - vs.toArray.size) undef,defers:=[] } κ w trivial ho.len.symm ⟨by simp;omega,Marks.nil,fun t=>?_,ho,by simp,rfl,rfl,rfl,Nat.le_refl _,fun _ _ _=>rfl,(fun b hb=>.inl hb),ho.len,fun _ _ h=>h⟩) ?_
 ·rw [look_env0, if_pos (Nat.zero_le _), Nat.sub_zero]
  cases ht : args[t]? with
  | none=>simp [AV.sat]
  | some x =>
    obtain ⟨u,h1,h2⟩:=satL_get hsat t x ht
    have hlt : t < vs.length:=(List.getElem?_eq_some_iff.1 h1).1
    have : (vs.toArray ++ Array.replicate (fn.ntmps - vs.toArray.size) undef).getD t undef = u:=by
     have : (vs.toArray ++ Array.replicate (fn.ntmps - vs.toArray.size) undef)[t]? = some u:=by
      rw [Array.getElem?_append_left (by simpa using hlt)];simpa using h1
     rw [Array.getD_eq_getD_getElem?,this];rfl
    rw [this]
    exact h2
 ·rintro e a0 w0 ⟨s, κ', ⟨he, xs, h2, h3, h4⟩, hs0⟩
  suffices hL : LeavesInM Fence.wide 0 P fn a0.tmps _ a0.defers .returning w0 by
   rcases he with rfl | rfl
   ·exact hL
   ·exact hL
  refine Sim.leaves hs0 fun a' w' _ hs=>?_
  obtain ⟨us,h5,h6⟩:=run_results hs.env hs.own fn.results.toList xs h2
  have hfin : ∃ v,(results fn a'.tmps).run P w' = .ok v w' ∧ AV.sat F s.own κ' w' (tupA xs) v:=by
   have hmap : (fn.results.mapM (resOne a')).run P w' = .ok us.toArray w':=by
    rw [Array.mapM_eq_mapM_toList,Sem.run_map,h5];rfl
   rw [results_eq,Sem.run_bind,hmap]
   simp only [Result.andThen_ok,Sem.run_pure]
   have hl2:=satL_length h6
   match xs,us,h6,hl2 with
   | [x],[u],h6,_=>exact ⟨u,rfl,by rw [AV.satL] at h6;exact h6.1⟩
   | [],[],h6,_ =>
     refine ⟨.tuple #[],rfl,?_⟩
     show AV.sat F s.own κ' w' (.tup []) _
     rw [AV.sat];exact ⟨#[],rfl,h6⟩
   | x :: y :: xs,u :: v :: us,h6,_ =>
     refine ⟨.tuple (u :: v :: us).toArray,by simp,?_⟩
     show AV.sat F s.own κ' w' (.tup (x :: y :: xs)) _
     rw [AV.sat];exact ⟨_,rfl,h6⟩
  obtain ⟨v,h7,h8⟩:=hfin
  have hfz:=h3 _ _ _ _ _ h8
  have htr : Tr F own.length own κ w s.own κ' w':=⟨hs.os,hs.tape,hs.output,hs.size,hs.old,hs.new,(fun _=>by rw [ho.len];exact hs.pre),hs.keep⟩
  subst h4
  exact ⟨v,h7,v,_,rfl,hfz,hs.own,htr⟩
section
variable {P : Program} {env : List (Nat × AV)} {own : List Ent} {t : Nat}
theorem EndsS.d {y : Dat} {r : AV} (hx : look env t = .d y) (hr : AV.d y = r) : EndsS P [.tmp t] r own .ret ⟨env,own⟩:=⟨.inl rfl,[.d y],⟨hx,trivial⟩,AVle.of_eq hr,rfl⟩
theorem EndsS.b {b b' : Bool} (hx : look env t = bV b) (h : b = b') : EndsS P [.tmp t] (bV b') own .ret ⟨env,own⟩:=EndsS.d hx (by rw [h])
theorem EndsS.i {k : IntKind} {n n' : Int} (hx : look env t = .d (.v (.int k n))) (h : n = n') : EndsS P [.tmp t] (.d (.v (.int k n'))) own .ret ⟨env,own⟩:=EndsS.d hx (by rw [h])
theorem EndsS.two {t' : Nat} {x y r : AV} (hx : look env t = x) (hy : look env t' = y) (hr : AV.tup [x,y] = r) : EndsS P [.tmp t,.tmp t'] r own .ret ⟨env,own⟩:=⟨.inl rfl,[x,y],⟨hx,hy,trivial⟩,AVle.of_eq hr,rfl⟩
theorem Ends.two {t' : Nat} {x y r : AV} (hx : look env t = x) (hy : look env t' = y) (hr : AV.frz own [] (.tup [x,y]) = r) : Ends P [.tmp t,.tmp t'] r [] .ret ⟨env,own⟩:=⟨.inl rfl,[],[x,y],rfl,⟨hx,hy,trivial⟩,AVle.of_eq hr,rfl⟩
end
section
variable {P : Program} {m : Nat} {ops : Array Oper} {Q : List Part → List (Nat × AV) → List Ent → Prop} {done : List Part} {op : Op} {ty : TypeId} {pos : String} {af : Array Edge} {rest : List Oper} {env : List (Nat × AV)} {own : List Ent} {fp : List Nat} {r : AV}
end
end
section
def iD (n : Int) : List Dat:=[.v (.int .i64 n)]
def tD (b : Bool) : List Dat:=[.v (.bool b)]
def bytesOf (l : List Nat) : ByteArray:=⟨(l.map UInt8.ofNat).toArray⟩
def sD (l : List Nat) : List Dat:=[.v (.string (bytesOf l))]
def rD (l : List Int) : List Dat:=[.sl 1 (l.map iD)]
abbrev ints (l : List Int) : AV:=.d (.sl 1 (l.map iD))
abbrev rowsA (l : List (List Int)) : AV:=.d (.sl 1 (l.map rD))
abbrev bools (l : List Bool) : AV:=.d (.sl 1 (l.map tD))
abbrev bS (l : List Nat) : AV:=.d (.v (.string (bytesOf l)))
def isB (l : List Nat) : Prop:=∀ x ∈ l,x < 256
theorem bytesOf_size (l : List Nat) : (bytesOf l).size = l.length:=by simp [bytesOf,ByteArray.size]
theorem bytesOf_get {l : List Nat} (hb : isB l) (j : Nat) (hj : j < l.length) (h : j < (bytesOf l).size) : ((bytesOf l)[j]'h).toNat = l[j]:=by
 have h1 : (bytesOf l)[j]'h = UInt8.ofNat l[j]:=by simp [bytesOf,ByteArray.getElem_eq_getElem_data]
 rw [h1,UInt8.toNat_ofNat']
 exact Nat.mod_eq_of_lt (hb _ (List.getElem_mem hj))
theorem bytesOf_nat (s : ByteArray) : bytesOf (s.data.toList.map (·.toNat)) = s:=by
 unfold bytesOf
 have : (List.map (fun x : UInt8=>x.toNat) s.data.toList).map UInt8.ofNat = s.data.toList:=by
  rw [List.map_map]
  conv=>rhs;rw [← List.map_id s.data.toList]
  apply List.map_congr_left
  intro x _
  simp
 rw [this]
theorem isB_nat (s : ByteArray) : isB (s.data.toList.map (·.toNat)):=fun x hx=>by
 obtain ⟨b,_,rfl⟩:=List.mem_map.1 hx
 exact b.toNat_lt
theorem bytesOf_inj {l l' : List Nat} (h1 : isB l) (h2 : isB l') (h : bytesOf l = bytesOf l') : l = l':=by
 have h3 : l.map UInt8.ofNat = l'.map UInt8.ofNat:=by
  have:=congrArg (fun s : ByteArray=>s.data.toList) h
  simpa [bytesOf] using this
 have e : ∀ l : List Nat,isB l → (l.map UInt8.ofNat).map (·.toNat) = l:=fun l hl=>by
  rw [List.map_map]
  conv=>rhs;rw [← List.map_id l]
  apply List.map_congr_left
  intro x hx
  simp [Nat.mod_eq_of_lt (hl x hx)]
 rw [← e l h1,← e l' h2,h3]
section
variable {P : Program} {m : Nat} {env : List (Nat × AV)} {own : List Ent} {dst : Option Tmp} {ty : TypeId} {pos : String} {af : Array Edge} {gd : Option (Nat × Bool)}
theorem q_len_bs {t : TypeId} {x : Operand} {l : List Nat} (hx : lookO env x = bS l) (ht : P.underlying t = some .string) :
 Quiet P m ⟨dst,.call ⟨.builtin .len,#[x],#[t]⟩,ty,pos,af,gd⟩ env own [] (iV l.length):=by
 have:=q_len_str (P:=P) (m:=m) (own:=own) (dst:=dst) (ty:=ty) (pos:=pos) (af:=af) (gd:=gd) ht hx
 rwa [bytesOf_size] at this
theorem q_ix_bs {t : TypeId} {x y : Operand} {l : List Nat} {k : IntKind} {i : Int} {j : Nat} (hx : lookO env x = bS l) (hy : lookO env y = .d (.v (.int k i))) (ht : P.underlying t = some .string) (hij : i = j) (hj : j < l.length) (hb : isB l) :
 Quiet P m ⟨dst,.index t x y,ty,pos,af,gd⟩ env own [] (.d (.v (.int .u8 ((l[j]'hj : Nat) : Int)))):=by
 have:=q_index_str (P:=P) (m:=m) (own:=own) (dst:=dst) (ty:=ty) (pos:=pos) (af:=af) (gd:=gd) i j ht hx hy hij (by rw [bytesOf_size];exact hj)
 rwa [bytesOf_get hb j hj] at this
theorem e_makeG {α : Type} {f : α → List Dat} {t e : TypeId} {by' : Nat} {z : Value} {x y : Operand} {k k' : IntKind} {i : Int} {n q : Nat} {own' : List Ent} (v0 : α) (hx : lookO env x = .d (.v (.int k i))) (hy : lookO env y = .d (.v (.int k' i))) (hi : i = n) (hq : lenF own 0 = some q) (ht : slInfo P t = some (e, 1, by', z)) (hz : f v0 = [.v z]) (ho : pushF own (.row 0 1 e ((List.replicate n v0).map f)) = some own') (hz' : z.cells = #[z]) (h1 : z.oneCell' = true) (hby : Nat.ble by' 1024 = true) (hn : n ≤ 1000000000) :
 Eff P m ⟨dst,.makeSlice t x y,ty,pos,af,gd⟩ env own [q] (.osl q 0 0 n) own':=by
 refine e_makeF (z:=z) hx hy hi hq ht ?_ hz' h1 hby hn
 rw [List.map_replicate,hz] at ho
 rw [List.map_replicate];exact ho
end
section
variable {P : Program} {m : Nat} {env : List (Nat × AV)} {own : List Ent} {dst : Option Tmp} {ty : TypeId} {pos : String} {af : Array Edge} {gd : Option (Nat × Bool)}
theorem jAo {t : TypeId} {x y : Operand} {l : List Nat} {k : IntKind} {i : Int} {j : Nat} (hx : lookO env x = bS l:=by exact rfl) (hy : lookO env y = .d (.v (.int k i)):=by exact rfl) (ht : P.underlying t = some .string:=by exact rfl) (hij : i = j:=by first | (with_reducible exact rfl) | exact natI_spec rfl | assumption | exact (Int.toNat_of_nonneg (by omega)).symm) (hj : j < l.length:=by first | omega | (focus (simp only [List.length_map];omega)) | (focus (simp;done)) | (focus (simp;omega))) (hb : isB l:=by assumption) : Quiet P m ⟨dst,.index t x y,ty,pos,af,gd⟩ env own [] (.d (.v (.int .u8 ((l[j]'hj : Nat) : Int)))):=q_ix_bs hx hy ht hij hj hb
end
end
section
namespace Gf
def xt (m p a : Nat) : Nat:=2 * a ^^^ (bif a.testBit (m - 1) then p else 0)
def xi (m p : Nat) : Nat → Nat → Nat
 | 0,a=>a
 | i + 1,a=>xt m p (xi m p i a)
def mulK (m p : Nat) : Nat → Nat → Nat → Nat
 | 0,_,_=>0
 | k + 1,a,b=>mulK m p k a b ^^^ (bif b.testBit k then xi m p k a else 0)
def mul (m p a b : Nat) : Nat:=mulK m p m a b
theorem two_mul_xor (a b : Nat) : 2 * (a ^^^ b) = 2 * a ^^^ 2 * b:=by
 have h : ∀ n : Nat,2 * n = n <<< 1:=fun n=>by rw [Nat.shiftLeft_eq];omega
 rw [h,h,h,Nat.shiftLeft_xor_distrib]
theorem xor4 (a b c d : Nat) : (a ^^^ b) ^^^ (c ^^^ d) = (a ^^^ c) ^^^ (b ^^^ d):=by
 rw [Nat.xor_assoc,← Nat.xor_assoc b c d,Nat.xor_comm b c,Nat.xor_assoc c b d,← Nat.xor_assoc a c]
theorem bif_xor (x y : Bool) (p : Nat) : (bif (x ^^ y) then p else 0) = (bif x then p else 0) ^^^ (bif y then p else 0):=by
 cases x<;>cases y<;>simp
theorem bif_xor' (x : Bool) (p q : Nat) : (bif x then (p ^^^ q) else 0) = (bif x then p else 0) ^^^ (bif x then q else 0):=by
 cases x<;>simp
variable {m p : Nat}
theorem xt_xor (a b : Nat) : xt m p (a ^^^ b) = xt m p a ^^^ xt m p b:=by
 unfold xt
 rw [two_mul_xor,Nat.testBit_xor,bif_xor,xor4]
theorem xt_zero : xt m p 0 = 0:=by simp [xt]
theorem xi_xor (i a b : Nat) : xi m p i (a ^^^ b) = xi m p i a ^^^ xi m p i b:=by
 induction i with
 | zero=>rfl
 | succ i ih=>rw [xi,ih,xt_xor];rfl
theorem xi_zero (i : Nat) : xi m p i 0 = 0:=by
 induction i with
 | zero=>rfl
 | succ i ih=>rw [xi,ih,xt_zero]
theorem xi_add (i j a : Nat) : xi m p (i + j) a = xi m p i (xi m p j a):=by
 induction i with
 | zero=>rw [Nat.zero_add];rfl
 | succ i ih=>rw [Nat.succ_add,xi,ih];rfl
theorem xi_comm (i j a : Nat) : xi m p i (xi m p j a) = xi m p j (xi m p i a):=by rw [← xi_add,← xi_add,Nat.add_comm]
theorem xi_bif (i : Nat) (c : Bool) (a : Nat) : xi m p i (bif c then a else 0) = bif c then xi m p i a else 0:=by
 cases c
 ·exact xi_zero i
 ·rfl
theorem mulK_xor_right (k a b c : Nat) : mulK m p k a (b ^^^ c) = mulK m p k a b ^^^ mulK m p k a c:=by
 induction k with
 | zero=>simp [mulK]
 | succ k ih=>rw [mulK,mulK,mulK,ih,Nat.testBit_xor,bif_xor,xor4]
theorem mulK_xor_left (k a b c : Nat) : mulK m p k (a ^^^ b) c = mulK m p k a c ^^^ mulK m p k b c:=by
 induction k with
 | zero=>simp [mulK]
 | succ k ih=>rw [mulK,mulK,mulK,ih,xi_xor,bif_xor',xor4]
theorem mulK_zero_left (k c : Nat) : mulK m p k 0 c = 0:=by
 induction k with
 | zero=>rfl
 | succ k ih=>rw [mulK,ih,xi_zero];cases c.testBit k<;>rfl
theorem mulK_zero_right (k a : Nat) : mulK m p k a 0 = 0:=by
 induction k with
 | zero=>rfl
 | succ k ih=>rw [mulK,ih];simp
theorem mulK_bif (k : Nat) (c : Bool) (a b : Nat) : mulK m p k (bif c then a else 0) b = bif c then mulK m p k a b else 0:=by
 cases c
 ·exact mulK_zero_left k b
 ·rfl
theorem xi_mulK (j k a b : Nat) : xi m p j (mulK m p k a b) = mulK m p k (xi m p j a) b:=by
 induction k with
 | zero=>exact xi_zero j
 | succ k ih=>rw [mulK,mulK,xi_xor,ih,xi_bif,xi_comm]
theorem mulK_mulK (k l a b c : Nat) : mulK m p k (mulK m p l c a) b = mulK m p l (mulK m p k c b) a:=by
 induction k with
 | zero=>rw [mulK,mulK,mulK_zero_left]
 | succ k ih=>rw [mulK,ih,mulK,mulK_xor_left,mulK_bif,xi_mulK]
/-! ### Below 2^m -/
theorem lt_of_testBit_false (m a : Nat) (h : a < 2 ^ (m + 1)) (hb : a.testBit m = false) : a < 2 ^ m:=by
 apply Nat.lt_pow_two_of_testBit
 intro i hi
 by_cases e : i = m
 ·rw [e];exact hb
 ·exact Nat.testBit_lt_two_pow (Nat.lt_of_lt_of_le h (Nat.pow_le_pow_right (by omega) (by omega)))
theorem xt_lt (hm : 1 ≤ m) (h1 : p.testBit m = true) (h2 : p < 2 ^ (m + 1)) {a : Nat} (ha : a < 2 ^ m) : xt m p a < 2 ^ m:=by
 have e : 2 ^ (m + 1) = 2 * 2 ^ m:=by rw [Nat.pow_succ];omega
 unfold xt
 have hsh : (2 * a).testBit m = a.testBit (m - 1):=by
  obtain ⟨k,rfl⟩ : ∃ k,m = k + 1:=⟨m - 1,by omega⟩
  rw [Nat.testBit_succ,Nat.mul_div_cancel_left a (by omega)];rfl
 apply lt_of_testBit_false
 ·cases a.testBit (m - 1)
  ·simp only [cond_false,Nat.xor_zero];omega
  ·simp only [cond_true]
   exact Nat.xor_lt_two_pow (by omega) h2
 ·rw [Nat.testBit_xor, hsh]
  cases a.testBit (m - 1)
  ·simp
  ·simp [h1]
theorem xi_lt (hm : 1 ≤ m) (h1 : p.testBit m = true) (h2 : p < 2 ^ (m + 1)) {a : Nat} (ha : a < 2 ^ m) (i : Nat) : xi m p i a < 2 ^ m:=by
 induction i with
 | zero=>exact ha
 | succ i ih=>exact xt_lt hm h1 h2 ih
theorem mulK_lt (hm : 1 ≤ m) (h1 : p.testBit m = true) (h2 : p < 2 ^ (m + 1)) {a : Nat} (ha : a < 2 ^ m) (k b : Nat) : mulK m p k a b < 2 ^ m:=by
 induction k with
 | zero=>exact Nat.two_pow_pos m
 | succ k ih =>
   rw [mulK]
   refine Nat.xor_lt_two_pow ih ?_
   cases b.testBit k
   ·exact Nat.two_pow_pos m
   ·exact xi_lt hm h1 h2 ha k
theorem xi_one (i : Nat) (hi : i < m) : xi m p i 1 = 2 ^ i:=by
 induction i with
 | zero=>rfl
 | succ i ih =>
   rw [xi,ih (by omega),xt,Nat.testBit_two_pow_of_ne (by omega)]
   simp only [cond_false,Nat.xor_zero]
   rw [Nat.pow_succ];omega
theorem mod_succ_xor (b k : Nat) : b % 2 ^ (k + 1) = b % 2 ^ k ^^^ (bif b.testBit k then 2 ^ k else 0):=by
 apply Nat.eq_of_testBit_eq
 intro i
 rw [Nat.testBit_xor,Nat.testBit_mod_two_pow,Nat.testBit_mod_two_pow]
 rcases Nat.lt_trichotomy i k with h | h | h
 ·have : (bif b.testBit k then 2 ^ k else 0).testBit i = false:=by
   cases b.testBit k
   ·simp
   ·simp only [cond_true];exact Nat.testBit_two_pow_of_ne (by omega)
  rw [this]
  simp [h,show i < k + 1 by omega]
 ·subst h
  cases hb : b.testBit i
  ·simp
  ·simp [Nat.testBit_two_pow_self]
 ·have : (bif b.testBit k then 2 ^ k else 0).testBit i = false:=by
   cases b.testBit k
   ·simp
   ·simp only [cond_true];exact Nat.testBit_two_pow_of_ne (by omega)
  rw [this]
  simp [show ¬ i < k + 1 by omega,show ¬ i < k by omega]
theorem mulK_one (k b : Nat) (hk : k ≤ m) : mulK m p k 1 b = b % 2 ^ k:=by
 induction k with
 | zero=>rw [mulK,Nat.pow_zero,Nat.mod_one]
 | succ k ih=>rw [mulK,ih (by omega),xi_one k (by omega),mod_succ_xor]
theorem one_mul {b : Nat} (hb : b < 2 ^ m) : mul m p 1 b = b:=by
 rw [mul,mulK_one m b (Nat.le_refl m),Nat.mod_eq_of_lt hb]
theorem mul_comm {a b : Nat} (ha : a < 2 ^ m) (hb : b < 2 ^ m) : mul m p a b = mul m p b a:=by
 have:=mulK_mulK (m:=m) (p:=p) m m a b 1
 rw [show mulK m p m 1 a = a from one_mul ha,show mulK m p m 1 b = b from one_mul hb] at this
 exact this
theorem mul_right_comm (a b c : Nat) : mul m p (mul m p c a) b = mul m p (mul m p c b) a:=mulK_mulK m m a b c
theorem mul_lt (hm : 1 ≤ m) (h1 : p.testBit m = true) (h2 : p < 2 ^ (m + 1)) {a : Nat} (ha : a < 2 ^ m) (b : Nat) : mul m p a b < 2 ^ m:=mulK_lt hm h1 h2 ha m b
theorem mul_assoc (hm : 1 ≤ m) (h1 : p.testBit m = true) (h2 : p < 2 ^ (m + 1)) {a b c : Nat} (ha : a < 2 ^ m) (hb : b < 2 ^ m) (hc : c < 2 ^ m) : mul m p (mul m p a b) c = mul m p a (mul m p b c):=by
 rw [mul_comm ha hb,mul_right_comm a c b,mul_comm (mul_lt hm h1 h2 hb c) ha]
theorem mul_xor (a b c : Nat) : mul m p a (b ^^^ c) = mul m p a b ^^^ mul m p a c:=mulK_xor_right m a b c
theorem xor_mul (a b c : Nat) : mul m p (a ^^^ b) c = mul m p a c ^^^ mul m p b c:=mulK_xor_left m a b c
theorem mul_zero (a : Nat) : mul m p a 0 = 0:=mulK_zero_right m a
theorem zero_mul (a : Nat) : mul m p 0 a = 0:=mulK_zero_left m a
theorem mul_one (hm : 1 ≤ m) {a : Nat} (ha : a < 2 ^ m) : mul m p a 1 = a:=by
 rw [mul_comm ha (Nat.one_lt_two_pow (by omega)),one_mul ha]
theorem xi_mul (i a b : Nat) : mul m p (xi m p i a) b = xi m p i (mul m p a b):=(xi_mulK i m a b).symm
theorem xi_one_mul (i : Nat) {b : Nat} (hb : b < 2 ^ m) : mul m p (xi m p i 1) b = xi m p i b:=by rw [xi_mul,one_mul hb]
/-! ### x generates all but 0 -/
structure Gen (m p : Nat) : Prop where
 hm : 1 ≤ m
 top : p.testBit m = true
 lt : p < 2 ^ (m + 1)
 one : xi m p (2 ^ m - 1) 1 = 1
 first : ∀ i,0 < i → i < 2 ^ m - 1 → xi m p i 1 ≠ 1
def cyc (m p : Nat) : Nat → Nat → Bool
 | 0,_=>false
 | k + 1, v => match xt m p v with
   | 0=>false
   | 1=>Nat.beq k 0
   | w + 2=>cyc m p k (w + 2)
theorem cyc_spec : ∀ (k v : Nat), cyc m p k v = true → xi m p k v = 1 ∧ ∀ i, 0 < i → i < k → xi m p i v ≠ 1
 | 0,v,h=>by simp [cyc] at h
 | k + 1,v,h=>by
   have hs : ∀ i,xi m p (i + 1) v = xi m p i (xt m p v):=fun i=>xi_add i 1 v
   rw [cyc] at h
   split at h
   ·cases h
   ·rename_i h1
    have hk:=Nat.eq_of_beq_eq_true h
    subst hk
    exact ⟨by rw [hs,h1];rfl,fun i h2 h3=>by omega⟩
   ·rename_i w h1
    obtain ⟨h2,h3⟩:=cyc_spec k (w + 2) h
    rw [show w + 2 = xt m p v from h1.symm] at h2 h3
    refine ⟨by rw [hs];exact h2,fun i h4 h5=>?_⟩
    obtain ⟨j,rfl⟩ : ∃ j,i = j + 1:=⟨i - 1,by omega⟩
    rw [hs]
    rcases Nat.eq_zero_or_pos j with rfl | hj
    ·show xt m p v ≠ 1;omega
    ·exact h3 j hj (by omega)
theorem nodup_le : ∀ (n : Nat) (l : List Nat), l.Nodup → (∀ x ∈ l, x < n) → l.length ≤ n
 | 0,l,_,h=>by
   cases l with
   | nil=>simp
   | cons a l=>exact absurd (h a (by simp)) (by omega)
 | n + 1,l,hn,h=>by
   have h1:=nodup_le n (l.erase n) (hn.erase n) (fun x hx=>by
    have hm:=(List.Nodup.mem_erase_iff hn).1 hx
    have:=h x hm.2
    omega)
   have h2:=List.length_erase_le (a:=n) (l:=l)
   by_cases hm : n ∈ l
   ·rw [List.length_erase_of_mem hm] at h1;omega
   ·rw [List.erase_of_not_mem hm] at h1;omega
theorem nodup_full (n : Nat) (l : List Nat) (hn : l.Nodup) (h : ∀ x ∈ l,x < n) (hl : l.length = n) (t : Nat) (ht : t < n) : t ∈ l:=by
 by_cases hm : t ∈ l
 ·exact hm
 ·have:=nodup_le n (t :: l) (List.nodup_cons.2 ⟨hm,hn⟩) (fun x hx=>by
   rcases List.mem_cons.1 hx with rfl | hx
   ·exact ht
   ·exact h x hx)
  simp at this;omega
theorem map_nodup {α : Type} (n : Nat) (f : Nat → α) (h : ∀ p q,p < n → q < n → f p = f q → p = q) : ((List.range n).map f).Nodup:=by
 rw [List.Nodup,List.pairwise_map]
 have:=List.nodup_range (n:=n)
 rw [List.Nodup] at this
 refine List.Pairwise.imp_of_mem (fun {p q} hp hq hne he=>hne (h p q (List.mem_range.1 hp) (List.mem_range.1 hq) he)) this
theorem pigeon (f : Nat → Nat) (n : Nat) (h1 : ∀ i,i < n → f i < n) (h2 : ∀ i j,i < j → j < n → f i ≠ f j) (a : Nat) (ha : a < n) : ∃ i,i < n ∧ f i = a:=by
 have hnd : ((List.range n).map f).Nodup:=map_nodup n f fun p q hp hq e=>by
  rcases Nat.lt_trichotomy p q with h | h | h
  ·exact absurd e (h2 p q h hq)
  ·exact h
  ·exact absurd e.symm (h2 q p h hp)
 have:=nodup_full n _ hnd (fun x hx=>by
  obtain ⟨i,hi,rfl⟩:=List.mem_map.1 hx
  exact h1 i (by simpa using hi)) (by simp) a ha
 obtain ⟨i,hi,rfl⟩:=List.mem_map.1 this
 exact ⟨i,by simpa using hi,rfl⟩
section
variable (g : Gen m p)
include g
theorem Gen.pos : 1 < 2 ^ m:=Nat.one_lt_two_pow (by have:=g.hm;omega)
theorem Gen.xlt (i : Nat) : xi m p i 1 < 2 ^ m:=xi_lt g.hm g.top g.lt g.pos i
theorem Gen.ne_zero {i : Nat} (hi : i ≤ 2 ^ m - 1) : xi m p i 1 ≠ 0:=fun h=>by
 have:=g.one
 rw [show 2 ^ m - 1 = (2 ^ m - 1 - i) + i from by omega,xi_add,h,xi_zero] at this
 cases this
theorem Gen.inj {i j : Nat} (hij : i < j) (hj : j < 2 ^ m - 1) : xi m p i 1 ≠ xi m p j 1:=fun h=>by
 have h1:=congrArg (xi m p (2 ^ m - 1 - i)) h
 rw [← xi_add,← xi_add,show 2 ^ m - 1 - i + i = 2 ^ m - 1 from by omega,show 2 ^ m - 1 - i + j = (j - i) + (2 ^ m - 1) from by omega,xi_add (j - i),g.one] at h1
 exact g.first (j - i) (by omega) (by omega) h1.symm
theorem Gen.log {a : Nat} (h0 : a ≠ 0) (ha : a < 2 ^ m) : ∃ i,i < 2 ^ m - 1 ∧ xi m p i 1 = a:=by
 obtain ⟨i,h1,h2⟩:=pigeon (fun i=>xi m p i 1 - 1) (2 ^ m - 1) (fun i hi=>by
  have:=g.xlt i;have:=g.ne_zero (i:=i) (by omega);omega) (fun i j hij hj=>by
  have:=g.ne_zero (i:=i) (by omega)
  have:=g.ne_zero (i:=j) (by omega)
  have:=g.inj hij hj
  omega) (a - 1) (by omega)
 exact ⟨i,h1,by have:=g.ne_zero (i:=i) (by omega);omega⟩
theorem Gen.inv {a : Nat} (h0 : a ≠ 0) (ha : a < 2 ^ m) : ∃ b,b < 2 ^ m ∧ b ≠ 0 ∧ mul m p a b = 1:=by
 obtain ⟨i,h1,rfl⟩:=g.log h0 ha
 refine ⟨xi m p (2 ^ m - 1 - i) 1,g.xlt _,g.ne_zero (by omega),?_⟩
 rw [xi_one_mul i (g.xlt _),← xi_add,show i + (2 ^ m - 1 - i) = 2 ^ m - 1 from by omega,g.one]
theorem Gen.zero_of_mul {a b : Nat} (ha : a < 2 ^ m) (hb : b < 2 ^ m) (h0 : a ≠ 0) (h : mul m p a b = 0) : b = 0:=by
 obtain ⟨c,h1,_,h2⟩:=g.inv h0 ha
 have : mul m p (mul m p a b) c = b:=by rw [mul_right_comm,h2,one_mul hb]
 rw [h,zero_mul] at this
 exact this.symm
end
end Gf
end
section
namespace Gf
theorem gen8 : Gen 8 0x11d:=by
 have h : cyc 8 0x11d 255 1 = true:=by decide +kernel
 obtain ⟨h1,h2⟩:=cyc_spec 255 1 h
 exact ⟨by omega,by decide +kernel,by decide +kernel,h1,h2⟩
theorem gen16 : Gen 16 0x1100b:=by
 have h : cyc 16 0x1100b 65535 1 = true:=by decide +kernel
 obtain ⟨h1,h2⟩:=cyc_spec 65535 1 h
 exact ⟨by omega,by decide +kernel,by decide +kernel,h1,h2⟩
end Gf
end
section
namespace Gf
variable {m p : Nat}
theorem mulK_succ (k a c : Nat) : mulK m p (k + 1) a c = xt m p (mulK m p k a (c / 2)) ^^^ (bif c.testBit 0 then a else 0):=by
 induction k with
 | zero=>simp [mulK,xi,xt_zero]
 | succ k ih =>
   rw [mulK,ih,mulK,xt_xor,Nat.testBit_succ]
   have : (bif (c / 2).testBit k then xi m p (k + 1) a else 0) = xt m p (bif (c / 2).testBit k then xi m p k a else 0):=by
    cases (c / 2).testBit k
    ·exact xt_zero.symm
    ·rfl
   rw [this,Nat.xor_assoc,Nat.xor_assoc,Nat.xor_comm (xt m p (bif (c / 2).testBit k then xi m p k a else 0))]
theorem mulK_succ' (k a c : Nat) : mulK m p (k + 1) a c = (bif c.testBit 0 then a else 0) ^^^ mulK m p k (xt m p a) (c / 2):=by
 rw [mulK_succ,Nat.xor_comm,show xt m p (mulK m p k a (c / 2)) = mulK m p k (xt m p a) (c / 2) from xi_mulK 1 k a _]
/-! ### The residue of a polynomial -/
def ev (m p n : Nat) : Nat:=mulK m p 64 1 n
theorem ev_xor (a b : Nat) : ev m p (a ^^^ b) = ev m p a ^^^ ev m p b:=mulK_xor_right 64 1 a b
theorem ev_zero : ev m p 0 = 0:=mulK_zero_right 64 1
theorem mulK_more (k a c : Nat) (h : c < 2 ^ k) : mulK m p (k + 1) a c = mulK m p k a c:=by
 rw [mulK,Nat.testBit_lt_two_pow h];simp
theorem mulK_le (k l a c : Nat) (h : c < 2 ^ k) : mulK m p (k + l) a c = mulK m p k a c:=by
 induction l with
 | zero=>rfl
 | succ l ih=>rw [← Nat.add_assoc,mulK_more (k + l) a c (Nat.lt_of_lt_of_le h (Nat.pow_le_pow_right (by omega) (by omega))),ih]
theorem ev_small {n : Nat} (hm : m ≤ 64) (h : n < 2 ^ m) : ev m p n = n:=by
 have:=mulK_le (m:=m) (p:=p) m (64 - m) 1 n h
 rw [show m + (64 - m) = 64 from by omega] at this
 rw [ev,this];exact one_mul h
theorem ev_double {n : Nat} (h : n < 2 ^ 63) : ev m p (2 * n) = xt m p (ev m p n):=by
 unfold ev
 rw [mulK_succ,Nat.mul_div_cancel_left n (by omega),mulK_more 63 1 n h]
 simp
theorem ev_shift (s : Nat) {n : Nat} (h : n <<< s < 2 ^ 63) : ev m p (n <<< s) = xi m p s (ev m p n):=by
 induction s with
 | zero=>rfl
 | succ s ih =>
   have e : n <<< (s + 1) = 2 * (n <<< s):=by rw [Nat.shiftLeft_succ]
   rw [e] at h ⊢
   rw [ev_double (by omega),ih (by omega)];rfl
theorem ev_lt (hm : 1 ≤ m) (h1 : p.testBit m = true) (h2 : p < 2 ^ (m + 1)) (n : Nat) : ev m p n < 2 ^ m:=mulK_lt hm h1 h2 (Nat.one_lt_two_pow (by omega)) 64 n
theorem ev_mod (hm : 1 ≤ m) (hm2 : m ≤ 32) (h1 : p.testBit m = true) (h2 : p < 2 ^ (m + 1)) : ev m p p = 0:=by
 have hp : p = 2 ^ m ^^^ (p % 2 ^ m):=by
  have:=mod_succ_xor p m
  rw [Nat.mod_eq_of_lt h2,h1] at this
  simp only [cond_true] at this
  rw [Nat.xor_comm];exact this
 have hlt : p % 2 ^ m < 2 ^ m:=Nat.mod_lt _ (Nat.two_pow_pos m)
 obtain ⟨k,rfl⟩ : ∃ k,m = k + 1:=⟨m - 1,by omega⟩
 have e1 : ev (k + 1) p (2 ^ (k + 1)) = xt (k + 1) p (2 ^ k):=by
  rw [Nat.pow_succ,Nat.mul_comm,ev_double (Nat.pow_lt_pow_right (by omega) (by omega)),ev_small (by omega) (Nat.pow_lt_pow_right (by omega) (by omega))]
 have e2 : xt (k + 1) p (2 ^ k) = 2 ^ (k + 1) ^^^ p:=by
  unfold xt
  rw [Nat.add_sub_cancel,Nat.testBit_two_pow_self,Nat.pow_succ]
  simp only [cond_true]
  rw [Nat.mul_comm]
 have e3 : 2 ^ (k + 1) ^^^ p = p % 2 ^ (k + 1):=by
  calc 2 ^ (k + 1) ^^^ p = 2 ^ (k + 1) ^^^ (2 ^ (k + 1) ^^^ p % 2 ^ (k + 1)) := by rw [← hp]
   _ = p % 2 ^ (k + 1):=by rw [← Nat.xor_assoc,Nat.xor_self,Nat.zero_xor]
 rw [hp,ev_xor,← hp,e1,e2,e3,ev_small (by omega) hlt,Nat.xor_self]
/-! ### Lengths in bits -/
def bl (n : Nat) : Nat:=if n = 0 then 0 else Nat.log2 n + 1
theorem bl_lt (n : Nat) : n < 2 ^ bl n:=by
 unfold bl
 split
 ·rename_i h;subst h;exact Nat.one_pos
 ·exact Nat.lt_log2_self
theorem bl_le {n k : Nat} : bl n ≤ k ↔ n < 2 ^ k:=by
 unfold bl
 split
 ·rename_i h;subst h;exact ⟨fun _=>Nat.two_pow_pos k,fun _=>Nat.zero_le _⟩
 ·rename_i h;rw [← Nat.log2_lt h];omega
theorem bl_zero : bl 0 = 0:=rfl
theorem bl_eq_zero {n : Nat} : bl n = 0 ↔ n = 0:=by
 constructor
 ·intro h;have:=bl_lt n;rw [h] at this;omega
 ·rintro rfl;rfl
theorem bl_top {n : Nat} (h : n ≠ 0) : n.testBit (bl n - 1) = true:=by
 have h1:=bl_lt n
 have h2 : bl n ≠ 0:=fun e=>h (bl_eq_zero.1 e)
 have h3 : ¬ n < 2 ^ (bl n - 1):=fun hh=>by have:=bl_le.2 hh;omega
 rw [show bl n = (bl n - 1) + 1 from by omega] at h1
 cases hb : n.testBit (bl n - 1) with
 | true=>rfl
 | false=>exact absurd (lt_of_testBit_false _ _ h1 hb) h3
theorem bl_of {n k : Nat} (h1 : n < 2 ^ (k + 1)) (h2 : n.testBit k = true) : bl n = k + 1:=by
 have h3:=bl_le.2 h1
 have h4 : ¬ n < 2 ^ k:=fun h=>by rw [Nat.testBit_lt_two_pow h] at h2;cases h2
 have h5 : ¬ bl n ≤ k:=fun h=>h4 (bl_le.1 h)
 omega
theorem bl_shift {n : Nat} (h : n ≠ 0) (s : Nat) : bl (n <<< s) = bl n + s:=by
 have h2 : bl n ≠ 0:=fun e=>h (bl_eq_zero.1 e)
 have h1:=bl_lt n
 have:=bl_of (n:=n <<< s) (k:=bl n - 1 + s) (by
  rw [Nat.shiftLeft_eq,show bl n - 1 + s + 1 = bl n + s from by omega,Nat.pow_add]
  exact Nat.mul_lt_mul_of_pos_right h1 (Nat.two_pow_pos s)) (by
  rw [Nat.testBit_shiftLeft]
  simp [bl_top h])
 omega
theorem bl_xor_lt {a b : Nat} (h : bl a < bl b) : bl (a ^^^ b) = bl b:=by
 have hb : b ≠ 0:=fun e=>by rw [e] at h;simp [bl_zero] at h
 have:=bl_of (n:=a ^^^ b) (k:=bl b - 1) (by
  rw [show bl b - 1 + 1 = bl b from by omega]
  exact Nat.xor_lt_two_pow (bl_le.1 (by omega)) (bl_lt b)) (by
  rw [Nat.testBit_xor,Nat.testBit_lt_two_pow (bl_le.1 (show bl a ≤ bl b - 1 by omega)),bl_top hb];rfl)
 omega
theorem bl_xor_eq {a b : Nat} (h : bl a = bl b) (h0 : bl a ≠ 0) : bl (a ^^^ b) < bl a:=by
 have ha : a ≠ 0:=fun e=>h0 (bl_eq_zero.2 e)
 have hb : b ≠ 0:=fun e=>h0 (h.trans (bl_eq_zero.2 e))
 have h1 : a ^^^ b < 2 ^ (bl a - 1):=by
  apply lt_of_testBit_false
  ·rw [show bl a - 1 + 1 = bl a from by omega]
   exact Nat.xor_lt_two_pow (bl_lt a) (h ▸ bl_lt b)
  ·rw [Nat.testBit_xor,bl_top ha,h,bl_top hb];rfl
 have:=bl_le.2 h1
 omega
theorem bl_one {n : Nat} : bl n = 1 ↔ n = 1:=by
 constructor
 ·intro h
  have h1:=bl_lt n
  have h2 : n ≠ 0:=fun e=>by rw [e] at h;simp [bl_zero] at h
  rw [h] at h1;omega
 ·rintro rfl;rfl
theorem bl_two {n : Nat} (h0 : n ≠ 0) (h1 : n ≠ 1) : 2 ≤ bl n:=by
 have h2 : bl n ≠ 0:=fun e=>h0 (bl_eq_zero.1 e)
 have h3 : bl n ≠ 1:=fun e=>h1 (bl_one.1 e)
 omega
/-! ### Euclid -/
def eu (u v x y : Nat) : Nat × Nat × Nat × Nat:=if bl u < bl v then (v ^^^ u <<< (bl v - bl u),u,y ^^^ x <<< (bl v - bl u),x) else (u ^^^ v <<< (bl u - bl v),v,x ^^^ y <<< (bl u - bl v),y)
structure EInv (m p a u v x y : Nat) : Prop where
 eu : ev m p u = mul m p a (ev m p x)
 evv : ev m p v = mul m p a (ev m p y)
 bu : bl u ≤ m + 1
 bv : bl v ≤ m + 1
 deg : (bl x + bl v = m + 2 ∧ bl y + bl u ≤ m + 1) ∨ (bl x + bl v ≤ m + 1 ∧ bl y + bl u = m + 2)
theorem EInv.swap {a u v x y : Nat} (h : EInv m p a u v x y) : EInv m p a v u y x:=⟨h.evv,h.eu,h.bv,h.bu,by have:=h.deg;omega⟩
theorem small63 {n : Nat} (h : bl n ≤ 63) : n < 2 ^ 63:=bl_le.1 h
theorem mul_xi (hm : 1 ≤ m) (h1 : p.testBit m = true) (h2 : p < 2 ^ (m + 1)) {a e : Nat} (ha : a < 2 ^ m) (he : e < 2 ^ m) (s : Nat) : mul m p a (xi m p s e) = xi m p s (mul m p a e):=by
 rw [mul_comm ha (xi_lt hm h1 h2 he s),xi_mul,mul_comm he ha]
theorem EInv.bxy {a u v x y : Nat} (h : EInv m p a u v x y) : bl x ≤ m + 2 ∧ bl y ≤ m + 2:=by
 have:=h.deg;omega
structure EGood (m p a u v x y : Nat) : Prop extends EInv m p a u v x y where
 v0 : v ≠ 0
 u0 : u = 0 → v = 1
def eMu (u v : Nat) : Nat:=bl u + bl v + if u = 0 then 1 else 0
structure EDone (m p a u x : Nat) : Prop where
 u1 : u = 1
 inv : mul m p a (ev m p x) = 1
 bx : bl x ≤ m + 3
theorem EInv.done (g : Gen m p) (hm32 : m ≤ 32) {a v x y : Nat} (h : EInv m p a 1 v x y) : EDone m p a 1 x :=
 ⟨rfl,by
  rw [← h.eu]
  exact ev_small (by omega) g.pos,by have:=h.bxy;omega⟩
section
variable (g : Gen m p) (hm32 : m ≤ 32) {a : Nat} (ha : a < 2 ^ m)
include g hm32 ha
theorem EInv.step {u v x y : Nat} (h : EInv m p a u v x y) (hv : v ≠ 0) (hle : bl v ≤ bl u) : EInv m p a (u ^^^ v <<< (bl u - bl v)) v (x ^^^ y <<< (bl u - bl v)) y ∧ bl (u ^^^ v <<< (bl u - bl v)) < bl u ∧ bl (x ^^^ y <<< (bl u - bl v)) + bl v = m + 2:=by
 have hv1 : bl v ≠ 0:=fun e=>hv (bl_eq_zero.1 e)
 have hsv:=bl_shift hv (bl u - bl v)
 have hlt : bl (u ^^^ v <<< (bl u - bl v)) < bl u:=by
  have:=bl_xor_eq (a:=u) (b:=v <<< (bl u - bl v)) (by omega) (by omega)
  exact this
 have hbu:=h.bu
 have hbv:=h.bv
 have hdeg:=h.deg
 have hsy : bl (y <<< (bl u - bl v)) ≤ 63 ∧ (y ≠ 0 → bl (y <<< (bl u - bl v)) = bl y + (bl u - bl v)):=by
  by_cases hy : y = 0
  ·subst hy;simp [bl_zero]
  ·have := bl_shift hy (bl u - bl v)
   exact ⟨by omega,fun _=>this⟩
 have hfin : bl (x ^^^ y <<< (bl u - bl v)) + bl v = m + 2:=by
  rcases hdeg with ⟨d1,d2⟩ | ⟨d1,d2⟩
  ·by_cases hy : y = 0
   ·subst hy;simpa using d1
   ·have := hsy.2 hy
    rw [Nat.xor_comm,bl_xor_lt (by omega)];exact d1
  ·have hy : y ≠ 0 := fun e => by rw [e, bl_zero] at d2; omega
   have:=hsy.2 hy
   rw [bl_xor_lt (by omega)];omega
 refine ⟨⟨?_,h.evv,by omega,hbv,.inl ⟨hfin,by omega⟩⟩,hlt,hfin⟩
 ·rw [ev_xor,ev_xor,ev_shift _ (small63 (by omega)),ev_shift _ (small63 hsy.1),mul_xor,h.eu,h.evv,mul_xi g.hm g.top g.lt ha (ev_lt g.hm g.top g.lt y)]
theorem EInv.last {v x y : Nat} (h0 : a ≠ 0) (h : EInv m p a 0 v x y) (hd : bl x + bl v = m + 2) (hv : v ≠ 0) : v = 1:=by
 have h1:=h.eu
 rw [ev_zero] at h1
 have h2:=g.zero_of_mul ha (ev_lt g.hm g.top g.lt x) h0 h1.symm
 have hbv:=h.bv
 have hv1 : bl v ≠ 0:=fun e=>hv (bl_eq_zero.1 e)
 by_cases hv2 : bl v = 1
 ·exact bl_one.1 hv2
 ·exfalso
  have h3 : x < 2 ^ m:=bl_le.1 (by omega)
  rw [ev_small (by omega) h3] at h2
  rw [h2,bl_zero] at hd
  omega
theorem EGood.next {u v x y : Nat} (h0 : a ≠ 0) (h : EGood m p a u v x y) (hu : u ≠ 1) :
 EDone m p a (eu u v x y).1 (eu u v x y).2.2.1 ∨ (EGood m p a (eu u v x y).1 (eu u v x y).2.1 (eu u v x y).2.2.1 (eu u v x y).2.2.2 ∧ eMu (eu u v x y).1 (eu u v x y).2.1 < eMu u v):=by
 have hv0:=h.v0
 by_cases hz : u = 0
 ·have hv1 := h.u0 hz
  subst hz;subst hv1
  left
  have h2:=h.eu
  rw [ev_zero] at h2
  have h3:=g.zero_of_mul ha (ev_lt g.hm g.top g.lt x) h0 h2.symm
  have h4:=h.evv
  have h5:=h.toEInv.bxy
  have e1 : eu 0 1 x y = (1 ^^^ 0 <<< 1,0,y ^^^ x <<< 1,x):=rfl
  rw [e1]
  have h6 : bl (x <<< 1) ≤ m + 3:=by
   by_cases hx : x = 0
   ·subst hx;simp [bl_zero]
   ·rw [bl_shift hx];omega
  refine ⟨by simp,?_,?_⟩
  ·rw [ev_xor, ev_shift 1 (small63 (by omega)), h3, xi_zero, Nat.xor_zero, ← h4]
   exact ev_small (by omega) g.pos
  ·exact bl_le.2 (Nat.xor_lt_two_pow (bl_le.1 (by omega)) (bl_le.1 h6))
 ·have hu2 := bl_two hz hu
  right
  unfold eu
  by_cases hlt : bl u < bl v
  ·rw [if_pos hlt]
   obtain ⟨h1,h2,h3⟩:=EInv.step g hm32 ha h.toEInv.swap hz (by omega)
   dsimp only
   refine ⟨⟨h1,hz,fun e=>?_⟩,?_⟩
   ·rw [e] at h1
    exact EInv.last g hm32 ha h0 h1 h3 hz
   ·unfold eMu
    rw [if_neg hz]
    split
    ·rename_i e;rw [e,bl_zero];omega
    ·omega
  ·rw [if_neg hlt]
   obtain ⟨h1,h2,h3⟩:=EInv.step g hm32 ha h.toEInv hv0 (by omega)
   dsimp only
   refine ⟨⟨h1,hv0,fun e=>?_⟩,?_⟩
   ·rw [e] at h1
    exact EInv.last g hm32 ha h0 h1 h3 hv0
   ·unfold eMu
    rw [if_neg hz]
    split
    ·rename_i e;rw [e,bl_zero];omega
    ·omega
theorem EGood.init (h0 : a ≠ 0) : EGood m p a a p 1 0:=by
 have hbp : bl p = m + 1:=bl_of g.lt g.top
 have hba:=bl_le.2 ha
 refine ⟨⟨?_,?_,by omega,by omega,.inl ⟨by rw [hbp];rw [show bl 1 = 1 from rfl];omega,by rw [bl_zero];omega⟩⟩,fun e=>?_,fun e=>absurd e h0⟩
 ·rw [ev_small (by omega) ha,ev_small (n:=1) (by omega) g.pos,mul_one g.hm ha]
 ·rw [ev_mod g.hm hm32 g.top g.lt,ev_zero,mul_zero]
 ·rw [e,bl_zero] at hbp;omega
end
end Gf
end
section
namespace Gf
variable {m p : Nat}
def pw (m p a : Nat) : Nat → Nat
 | 0=>1
 | n + 1=>mul m p (pw m p a n) a
theorem xi_rep (g : Gen m p) (k : Nat) : xi m p (k * (2 ^ m - 1)) 1 = 1:=by
 induction k with
 | zero=>rw [Nat.zero_mul];rfl
 | succ k ih=>rw [Nat.succ_mul,xi_add,g.one,ih]
section
variable (g : Gen m p) {a : Nat} (ha : a < 2 ^ m)
include g ha
theorem pw_lt (n : Nat) : pw m p a n < 2 ^ m:=by
 cases n with
 | zero=>exact g.pos
 | succ n =>
   have:=mul_lt g.hm g.top g.lt ha
   induction n with
   | zero=>rw [pw,pw];exact mul_lt g.hm g.top g.lt g.pos a
   | succ n ih=>rw [pw];exact mul_lt g.hm g.top g.lt ih a
theorem pw_sq (n : Nat) : pw m p (mul m p a a) n = pw m p a (2 * n):=by
 induction n with
 | zero=>rfl
 | succ n ih=>rw [pw,ih,show 2 * (n + 1) = 2 * n + 1 + 1 from by omega,pw,pw,mul_assoc g.hm g.top g.lt (pw_lt g ha _) ha ha]
theorem pw_inv (h0 : a ≠ 0) : mul m p a (pw m p a (2 ^ m - 2)) = 1:=by
 obtain ⟨k,_,hk⟩:=g.log h0 ha
 have e : ∀ n,pw m p a n = xi m p (k * n) 1:=fun n=>by
  induction n with
  | zero=>rfl
  | succ n ih=>rw [pw,ih,xi_one_mul _ ha,← hk,← xi_add,Nat.mul_succ]
 have hp:=g.pos
 have e2 : mul m p (pw m p a (2 ^ m - 2)) a = pw m p a (2 ^ m - 2 + 1):=rfl
 rw [mul_comm ha (pw_lt g ha _),e2,show 2 ^ m - 2 + 1 = 2 ^ m - 1 from by omega,e,xi_rep g k]
end
theorem xt_ge (hm : 1 ≤ m) {a : Nat} (ha : a < 2 ^ m) : (2 ^ m ≤ 2 * a → xt m p a = 2 * a ^^^ p) ∧ (2 * a < 2 ^ m → xt m p a = 2 * a):=by
 obtain ⟨k,rfl⟩ : ∃ k,m = k + 1:=⟨m - 1,by omega⟩
 have e : 2 ^ (k + 1) = 2 * 2 ^ k:=by rw [Nat.pow_succ];omega
 unfold xt
 rw [Nat.add_sub_cancel]
 constructor
 ·intro h
  have : a.testBit k = true:=by
   cases hb : a.testBit k with
   | true=>rfl
   | false=>have:=lt_of_testBit_false k a ha hb;omega
  rw [this];rfl
 ·intro h
  rw [Nat.testBit_lt_two_pow (by omega)];simp
end Gf
end
section
theorem yA : type_of% @AWP.seq:=@AWP.seq
theorem yB : type_of% @ACont_normal:=@ACont_normal
theorem yC : type_of% @W.region:=@W.region
theorem yD : type_of% @W.regionD:=@W.regionD
theorem yE : type_of% @Walk.nil:=@Walk.nil
theorem yF : type_of% @W.chk:=@W.chk
theorem yG : type_of% @AWP.block:=@AWP.block
theorem yH : type_of% @AWP.skip:=@AWP.skip
theorem yI : type_of% @AWP.exit:=@AWP.exit
theorem yJ : type_of% @AWP.ret:=@AWP.ret
theorem yK : type_of% @ACont_exit:=@ACont_exit
theorem yL : type_of% @ABlock_normal:=@ABlock_normal
theorem yM : type_of% @ABlock_exit:=@ABlock_exit
theorem yN : type_of% @ABlock_ret:=@ABlock_ret
theorem yO : type_of% @ABlock_exit':=@ABlock_exit'
theorem yP : type_of% @ACont_ret:=@ACont_ret
theorem yQ : type_of% @W.condT:=@W.condT
theorem yR : type_of% @W.condF:=@W.condF
theorem yS : type_of% @q_fld_optF:=@q_fld_optF
theorem yT : type_of% @q_ld_box:=@q_ld_box
theorem yU : type_of% @q_ld_boxF:=@q_ld_boxF
theorem yV : type_of% @q_len_sl:=@q_len_sl
theorem yW : type_of% @q_callC:=@q_callC
theorem yX : type_of% @q_ld_map:=@q_ld_map
theorem yY : type_of% @q_ld_maps:=@q_ld_maps
theorem yZ : type_of% @q_buildF:=@q_buildF
theorem yAb : type_of% @q_extract:=@q_extract
theorem yBb : type_of% @e_boxF:=@e_boxF
theorem yCb : type_of% @e_allocF:=@e_allocF
theorem yDb : type_of% @q_pickF:=@q_pickF
theorem yEb : type_of% @q_pickT:=@q_pickT
theorem yFb : type_of% @W.gOn:=@W.gOn
theorem yGb : type_of% @q_ix_slF:=@q_ix_slF
section
variable {P : Program} {m : Nat} {env : List (Nat × AV)} {own : List Ent} {dst : Option Tmp} {ty : TypeId} {pos : String} {af : Array Edge}
theorem zM {x : Operand} {y : AV} (hx : lookO env x = y:=by conv=>lhs;whnf) : Quiet P m ⟨dst,.move x,ty,pos,af,none⟩ env own [] y:=q_mv hx
theorem zN {x : Operand} {y : AV} (hx : lookO env x = y:=by conv=>lhs;whnf) : Quiet P m ⟨dst,.assign x,ty,pos,af,none⟩ env own [] y:=q_as hx
theorem zW {fo : Operand} {args : Array Operand} {ts : Array TypeId} {f : FuncId} {caps l : List AV} {r : AV} {gd : Option (Nat × Bool)} (hc : ACalls P f l [] r []) (hfo : lookO env fo = .fn f caps:=by exact rfl) (ha : args.toList.map (lookO env) ++ caps = l:=by exact rfl) (hp : AV.pureL l = true:=by kernel_rfl) (hr : AV.pure r = true:=by kernel_rfl) (hf : isFn P f = true:=by kernel_rfl) : Quiet P m ⟨dst,.call ⟨.value fo,args,ts⟩,ty,pos,af,gd⟩ env own [] r:=q_callC hc hfo ha hp hr hf
end
attribute [local irreducible] Quiet Eff OpOk AWPG ACont ABlock ACalls
def modN (m : Int) : Nat:=if m = 8 then 285 else if m = 16 then 69643 else 0
theorem A_modulus (m : Int) : ACalls Tryz.prog 271 [iV m] [] (iV (modN m)) []:=by
 refine acalls_of_body Tryz.func271 rfl (zU rfl) ?_
 (repeat' (first
  |(apply W.qd;(first
  |(exact zM)|(exact zN)
  |(apply q_ld_glb;(iterate 5 exact rfl))))|(apply yA)|(apply yB)|(refine jAb ?_)|(apply yE)
  |(apply yG)))
 refine AWP.loopW (α:=Nat) (fun k=>k ≤ 2 ∧ (1 ≤ k → m ≠ 8) ∧ (2 ≤ k → m ≠ 16)) (fun k=>⟨[(6,iV k),(5,.agg [iV 8,iV 285,iV 16,iV 69643]),(0,iV m)],[]⟩) (fun k=>2 - k) 0 (by omega) ⟨[],rfl,rfl,rfl,by (repeat (first | exact trivial | refine ⟨rfl,?_⟩))⟩ fun k hk=>?_
 have : k = 0 ∨ k = 1 ∨ k = 2:=by omega
 rcases this with rfl | rfl | rfl
 ·(repeat' (first
  |(apply W.qd;(first
  |(exact zM)|(exact zN)|(exact jAm)|(exact jAg)|(exact jAj)|(exact jAu)|(exact jAi)
  |(apply q_ix_ags;(iterate 4 exact rfl);(first | (with_reducible exact rfl) | exact natI_spec rfl | assumption | exact (Int.toNat_of_nonneg (by omega)).symm);exact rfl;omega)))|(apply W.ed;(exact jAp))|(apply W.en;(apply e_st_boxF;(iterate 6 exact rfl);(iterate 3 kernel_rfl)))|(apply yA)|(apply yB)|(refine jAb ?_)|(apply yE)|(apply yG)|(apply yH)|(apply yJ)|(apply yP)|(apply yL)|(apply yN)|(refine jAv ?_)
  |(refine W.cond _ rfl (fun hb=>?_) (fun hb=>?_)<;>((try simp only [hb,zK])<;>(try simp only [zL,zI] at hb)<;>(try (exfalso;omega))))))
  ·exact Ends.i rfl (by unfold modN;rw [if_pos hb.symm];rfl)
  ·exact ⟨1,by omega,by omega,⟨[],rfl,rfl,rfl,by (repeat (first | exact trivial | refine ⟨rfl,?_⟩))⟩⟩
 ·(repeat' (first
  |(apply W.qd;(first
  |(exact zM)|(exact zN)|(exact jAm)|(exact jAg)|(exact jAj)|(exact jAu)|(exact jAi)
  |(apply q_ix_ags;(iterate 4 exact rfl);(first | (with_reducible exact rfl) | exact natI_spec rfl | assumption | exact (Int.toNat_of_nonneg (by omega)).symm);exact rfl;omega)))|(apply W.ed;(exact jAp))|(apply W.en;(apply e_st_boxF;(iterate 6 exact rfl);(iterate 3 kernel_rfl)))|(apply yA)|(apply yB)|(refine jAb ?_)|(apply yE)|(apply yG)|(apply yH)|(apply yJ)|(apply yP)|(apply yL)|(apply yN)|(refine jAv ?_)
  |(refine W.cond _ rfl (fun hb=>?_) (fun hb=>?_)<;>((try simp only [hb,zK])<;>(try simp only [zL,zI] at hb)<;>(try (exfalso;omega))))))
  ·exact Ends.i rfl (by unfold modN;rw [if_neg (by omega),if_pos hb.symm];rfl)
  ·exact ⟨2,by omega,by omega,⟨[],rfl,rfl,rfl,by (repeat (first | exact trivial | refine ⟨rfl,?_⟩))⟩⟩
 ·(repeat' (first
  |(apply W.qd;(first
  |(exact zN)
  |(exact jAj)))|(apply yA)|(apply yB)|(refine jAb ?_)|(apply yE)|(apply yI)|(apply yJ)|(apply yK)|(apply yM)
  |(refine jAy ?_)))
  exact Ends.i rfl (by unfold modN;rw [if_neg (by omega),if_neg (by omega)];rfl)
def FldM (M : Nat) : Prop:=M = 8 ∨ M = 16
theorem FldM.gen {M : Nat} (h : FldM M) : Gf.Gen M (modN M):=by
 rcases h with rfl | rfl
 ·exact Gf.gen8
 ·exact Gf.gen16
theorem FldM.mod {M : Nat} (h : FldM M) : modN M ≠ 0 ∧ modN M < 131072:=by
 rcases h with rfl | rfl
 ·exact ⟨by decide,by decide⟩
 ·exact ⟨by decide,by decide⟩
theorem FldM.cap {M : Nat} (h : FldM M) {a : Nat} (ha : a < 2 ^ M) : a < 65536:=by
 rcases h with rfl | rfl
 ·omega
 ·omega
theorem iV_eq {a b : Int} (h : a = b) : iV a = iV b:=by rw [h]
theorem xt_sh {M p o : Nat} (hM : 1 ≤ M) (ho : o < 2 ^ M) : ((o <<< 1) >>> M ≠ 0 → Gf.xt M p o = (o <<< 1) ^^^ p) ∧ ((o <<< 1) >>> M = 0 → Gf.xt M p o = o <<< 1):=by
 have e1 : o <<< 1 = 2 * o:=by rw [Nat.shiftLeft_eq];omega
 obtain ⟨k,rfl⟩ : ∃ k,M = k + 1:=⟨M - 1,by omega⟩
 have e2 : (o <<< 1) >>> (k + 1) = o >>> k:=by rw [e1,Nat.shiftRight_succ_inside,Nat.mul_div_cancel_left _ (by omega)]
 have e3 : o >>> k < 2:=by
  rw [Nat.shiftRight_eq_div_pow,Nat.div_lt_iff_lt_mul (Nat.two_pow_pos k)]
  rw [Nat.pow_succ] at ho;omega
 have e4 : o.testBit k = decide (o >>> k % 2 = 1):=by
  have:=Nat.testBit_shiftRight (i:=k) (j:=0) o
  rw [Nat.add_zero] at this
  rw [← this,Nat.testBit_zero]
 unfold Gf.xt
 rw [Nat.add_sub_cancel,e4,e2,← e1]
 generalize o >>> k = z at e3
 constructor
 ·intro h;rw [decide_eq_true (by omega)];rfl
 ·intro h;rw [decide_eq_false (by omega)];simp
theorem bit_sh (b i : Nat) : ((b >>> i) &&& 1 ≠ 0 → (b >>> i).testBit 0 = true) ∧ ((b >>> i) &&& 1 = 0 → (b >>> i).testBit 0 = false):=by
 rw [Nat.and_one_is_mod,Nat.testBit_zero]
 exact ⟨fun h=>decide_eq_true (by omega),fun h=>decide_eq_false (by omega)⟩
theorem hor_step {M p a b j : Nat} (hj : 1 ≤ j) (hjM : j ≤ M) {o1 r : Nat} (h1 : o1 = Gf.xt M p (Gf.mulK M p (M - j) a (b >>> j))) (h2 : r = o1 ^^^ (bif (b >>> (j - 1)).testBit 0 then a else 0)) : r = Gf.mulK M p (M - (j - 1)) a (b >>> (j - 1)):=by
 obtain ⟨i,rfl⟩ : ∃ i,j = i + 1:=⟨j - 1,by omega⟩
 rw [Nat.add_sub_cancel] at h2 ⊢
 rw [show M - i = (M - (i + 1)) + 1 from by omega,Gf.mulK_succ,h2,h1]
 have : b >>> (i + 1) = (b >>> i) / 2:=Nat.shiftRight_succ b i
 rw [this]
theorem A_product {M a b : Nat} (hM : FldM M) (ha : a < 2 ^ M) (hb : b < 2 ^ M) : ACalls Tryz.prog 275 [iV M,iV a,iV b] [] (iV (Gf.mul M (modN M) a b)) []:=by
 refine acalls_of_body Tryz.func275 rfl (zU rfl) ?_
 have hmod:=A_modulus M
 have hM16 : 1 ≤ M ∧ M ≤ 16:=by unfold FldM at hM;omega
 have hb16:=hM.cap hb
 have ha16:=hM.cap ha
 have hp:=hM.mod
 have g:=hM.gen
 (repeat' (first
  |(apply W.qd;(first
  |(exact zW (hmod))|(exact zM)|(exact zN)
  |(exact q_sub rfl rfl (by omega))))|(apply yA)|(apply yB)|(refine jAb ?_)|(apply yE)
  |(apply yG)))
 refine AWP.loopW (α:=Nat) (fun j=>j ≤ M) (fun j=>⟨[(9,iV ((j : Int) - 1)),(8,iV (Gf.mulK M (modN M) (M - j) a (b >>> j) : Nat)),(7,iV (modN M)),(0,iV M),(1,iV a),(2,iV b)],[]⟩) (fun j=>j) M (Nat.le_refl _) ?_ fun j hj=>?_
 ·refine ⟨[], rfl, rfl, rfl, rfl, iV_eq ?_, rfl, rfl, rfl, rfl, trivial⟩
  rw [Nat.sub_self];rfl
 have ho:=Gf.mulK_lt g.hm g.top g.lt ha (M - j) (b >>> j)
 have hx:=xt_sh (p:=modN M) hM16.1 ho
 have hst:=fun (h1 : 1 ≤ j) (r : Nat)=>hor_step (M:=M) (p:=modN M) (a:=a) (b:=b) (r:=r) h1 hj rfl
 have hfin : j = 0 → Gf.mul M (modN M) a b = Gf.mulK M (modN M) (M - j) a (b >>> j):=fun h=>by subst h;rfl
 generalize Gf.mulK M (modN M) (M - j) a (b >>> j) = o at *
 have ho16:=hM.cap ho
 have e1 : o <<< 1 = 2 * o:=by rw [Nat.shiftLeft_eq];omega
 have c1 : o <<< 1 < 131072:=by omega
 have c2 : (o <<< 1) ^^^ modN M < 131072:=Nat.xor_lt_two_pow (n:=17) c1 hp.2
 have c3 : (o <<< 1) < 9223372036854775808:=by omega
 have c4 : (o <<< 1) ^^^ modN M < 9223372036854775808:=by omega
 by_cases hj1 : 1 ≤ j
 ·have et : ((j : Int) - 1).toNat = j - 1 := by omega
  have c5 : b >>> ((j : Int) - 1).toNat < 9223372036854775808:=Nat.lt_of_le_of_lt (Nat.shiftRight_le b _) (by omega)
  have hbit:=bit_sh b (j - 1)
  (repeat' (first
   |(apply W.qd;(first
   |(exact zM)|(exact zN)|(exact q_geq rfl rfl)|(exact jBb)|(exact q_sub rfl rfl (by omega))|(exact jAd)|(apply q_andN;exact rfl;exact rfl;(first | (with_reducible exact rfl) | exact natI_spec rfl | assumption | exact (Int.toNat_of_nonneg (by omega)).symm);(first | (with_reducible exact rfl) | exact natI_spec rfl | assumption | exact (Int.toNat_of_nonneg (by omega)).symm);(first | (apply hcap1;omega) | (apply hcap2;omega) | (apply hcap3;omega) | (apply hcap4;omega) | (focus (show _ < 9223372036854775808;omega)) | (focus (show _ < 256;omega)) | assumption);(first | (apply hcap1;omega) | (apply hcap2;omega) | (apply hcap3;omega) | (apply hcap4;omega) | (focus (show _ < 9223372036854775808;omega)) | (focus (show _ < 256;omega)) | assumption))|(exact jAe)
   |(exact jAs)))|(apply yA)|(apply yB)|(refine jAb ?_)|(apply yE)|(apply yG)|(apply yH)|(apply yL)
   |(refine W.cond _ rfl (fun hb=>?_) (fun hb=>?_)<;>((try simp only [hb,zK])<;>(try simp only [zL,zI] at hb)<;>(try (exfalso;omega))))))
  all_goals (rw [et] at hb;rename_i hq)
  all_goals refine ⟨j - 1,by omega,by omega,[],rfl,rfl,rfl,iV_eq (by omega),iV_eq (congrArg _ (Eq.symm (hst hj1 _ ?_))),rfl,rfl,rfl,rfl,trivial⟩
  ·rw [hx.1 fun e=>hq (by rw [e];rfl),hbit.1 fun e=>hb (by rw [e];rfl)];rfl
  ·rw [hx.1 fun e=>hq (by rw [e];rfl),hbit.2 (Int.natCast_eq_zero.1 hb)];simp
  ·rw [hx.2 (Int.natCast_eq_zero.1 hq),hbit.1 fun e=>hb (by rw [e];rfl)];rfl
  ·rw [hx.2 (Int.natCast_eq_zero.1 hq),hbit.2 (Int.natCast_eq_zero.1 hb)];simp
 ·(repeat' (first
  |(apply W.qd;(first
  |(exact zM)|(exact zN)
  |(exact q_geq rfl rfl)))|(apply yA)|(apply yB)|(refine jAb ?_)|(apply yE)|(apply yI)|(apply yJ)|(apply yK)|(apply yM)
  |(refine W.cond _ rfl (fun hb=>?_) (fun hb=>?_)<;>((try simp only [hb,zK])<;>(try simp only [zL,zI] at hb)<;>(try (exfalso;omega))))))
  obtain rfl : j = 0:=by omega
  exact Ends.i rfl (congrArg _ (hfin rfl).symm)
end
section
attribute [local irreducible] Quiet Eff OpOk AWPG ACont ABlock ACalls
theorem lt63 {n : Nat} (h : Gf.bl n ≤ 63) : n < 9223372036854775808:=Gf.bl_le.1 h
theorem A_degree (a : Nat) (ha : Gf.bl a ≤ 63) : ACalls Tryz.prog 296 [iV a] [] (iV ((Gf.bl a : Int) - 1)) []:=by
 refine acalls_of_body Tryz.func296 rfl (zU rfl) ?_
 (repeat' (first
  |(apply W.qd;(exact zN))|(apply yA)|(apply yB)|(refine jAb ?_)|(apply yE)
  |(apply yG)))
 refine AWP.loopW (α:=Nat) (fun k=>k ≤ Gf.bl a) (fun k=>⟨[(3,iV ((k : Int) - 1)),(0,iV (a >>> k : Nat))],[]⟩) (fun k=>Gf.bl a - k) 0 (by omega) ⟨[],rfl,rfl,rfl,by (repeat (first | exact trivial | refine ⟨rfl,?_⟩))⟩ fun k hk=>?_
 have h1 : a >>> k < 9223372036854775808:=Nat.lt_of_le_of_lt (Nat.shiftRight_le a k) (Gf.bl_le.1 ha)
 have h2 : ¬ a >>> k = 0 → k < Gf.bl a:=fun h=>by
  refine Nat.lt_of_not_le fun hle=>h ?_
  have:=Gf.bl_le.1 hle
  rw [Nat.shiftRight_eq_div_pow,Nat.div_eq_of_lt this]
 have h3 : a >>> k = 0 → Gf.bl a ≤ k:=fun h=>by
  rw [Nat.shiftRight_eq_div_pow] at h
  refine Gf.bl_le.2 ?_
  rcases Nat.lt_or_ge a (2 ^ k) with h4 | h4
  ·exact h4
  ·have:=Nat.div_pos h4 (Nat.two_pow_pos k);omega
 have h4 : a >>> (k + 1) = (a >>> k) >>> 1:=by rw [Nat.shiftRight_add]
 (repeat' (first
  |(apply W.qd;(first
  |(exact zM)|(exact zN)|(exact jBb)|(exact jAi)
  |(exact jAs)))|(apply yA)|(apply yB)|(refine jAb ?_)|(apply yE)|(apply yG)|(apply yH)|(apply yI)|(apply yJ)|(apply yK)|(apply yL)|(apply yM)
  |(refine W.cond _ rfl (fun hb=>?_) (fun hb=>?_)<;>((try simp only [hb,zK])<;>(try simp only [zL,zI] at hb)<;>(try (exfalso;omega))))))
 ·have := h2 fun e => hb (by rw [e]; rfl)
  exact ⟨k + 1,by omega,by omega,[],rfl,rfl,rfl,iV_eq (by omega),iV_eq (congrArg _ h4),trivial⟩
 ·have := h3 (Int.natCast_eq_zero.1 hb)
  exact Ends.i rfl (by omega)
theorem A_freduce {M x : Nat} (hM : FldM M) (hx : Gf.bl x ≤ 63) : ACalls Tryz.prog 297 [iV M,iV x] [] (iV (Gf.ev M (modN M) x)) []:=by
 refine acalls_of_body Tryz.func297 rfl (zU rfl) ?_
 have g:=hM.gen
 have hM16 : 1 ≤ M ∧ M ≤ 16:=by unfold FldM at hM;omega
 have hp:=hM.mod
 have hmod:=A_modulus M
 have hd0:=A_degree x hx
 have hbp : Gf.bl (modN M) = M + 1:=Gf.bl_of g.lt g.top
 have hep:=Gf.ev_mod g.hm (by omega) g.top g.lt
 (repeat' (first
  |(apply W.qd;(first
  |(exact zW (hd0))|(exact zM)
  |(exact zN)))|(apply yA)|(apply yB)|(refine jAb ?_)|(apply yE)
  |(apply yG)))
 refine AWP.loopW (α:=Nat) (fun y=>Gf.ev M (modN M) y = Gf.ev M (modN M) x ∧ Gf.bl y ≤ 63) (fun y=>⟨[(5,iV ((Gf.bl y : Int) - 1)),(1,iV y),(0,iV M)],[]⟩) (fun y=>Gf.bl y) x ⟨rfl,hx⟩ ⟨[],rfl,rfl,rfl,by (repeat (first | exact trivial | refine ⟨rfl,?_⟩))⟩ fun y hy=>?_
 obtain ⟨hy1,hy2⟩:=hy
 by_cases hle : M + 1 ≤ Gf.bl y
 ·have es : ((Gf.bl y : Int) - 1 - M).toNat = Gf.bl y - (M + 1) := by omega
  have hsh:=Gf.bl_shift hp.1 (Gf.bl y - (M + 1))
  have hlt : Gf.bl (y ^^^ modN M <<< (Gf.bl y - (M + 1))) < Gf.bl y:=Gf.bl_xor_eq (a:=y) (b:=modN M <<< (Gf.bl y - (M + 1))) (by omega) (by omega)
  have hev : Gf.ev M (modN M) (y ^^^ modN M <<< (Gf.bl y - (M + 1))) = Gf.ev M (modN M) x:=by
   rw [Gf.ev_xor,Gf.ev_shift _ (Gf.bl_le.1 (by omega)),hep,Gf.xi_zero,Nat.xor_zero,hy1]
  have hcap1 : ∀ s : Nat,s ≤ Gf.bl y - (M + 1) → modN M <<< s < 9223372036854775808:=fun s hs=>lt63 (by rw [Gf.bl_shift hp.1 s];omega)
  have c2 : y < 9223372036854775808:=lt63 hy2
  have hd:=A_degree (y ^^^ modN M <<< (Gf.bl y - (M + 1))) (by omega)
  rw [← es] at hd
  (repeat' (first
   |(apply W.qd;(first
   |(exact zW (hmod))|(exact zW (hd))|(exact zM)|(exact zN)|(exact q_geq rfl rfl)|(exact q_sub rfl rfl (by omega))|(exact jAd)
   |(exact jAe)))|(apply yA)|(apply yB)|(refine jAb ?_)|(apply yE)|(apply yG)|(apply yH)|(apply yL)
   |(refine W.cond _ rfl (fun hb=>?_) (fun hb=>?_)<;>((try simp only [hb,zK])<;>(try simp only [zL,zI] at hb)<;>(try (exfalso;omega))))))
  exact ⟨y ^^^ modN M <<< (Gf.bl y - (M + 1)),⟨hev,by omega⟩,hlt,[],rfl,rfl,rfl,by rw [← es];rfl,by rw [← es];rfl,rfl,trivial⟩
 ·(repeat' (first
  |(apply W.qd;(first
  |(exact zM)|(exact zN)
  |(exact q_geq rfl rfl)))|(apply yA)|(apply yB)|(refine jAb ?_)|(apply yE)|(apply yI)|(apply yJ)|(apply yK)|(apply yM)
  |(refine W.cond _ rfl (fun hb=>?_) (fun hb=>?_)<;>((try simp only [hb,zK])<;>(try simp only [zL,zI] at hb)<;>(try (exfalso;omega))))))
  refine Ends.i rfl (congrArg _ ?_)
  rw [← hy1,Gf.ev_small (by omega) (Gf.bl_le.1 (by omega))]
def invN (M a : Nat) : Nat:=((List.range (2 ^ M)).find? fun b=>Gf.mul M (modN M) a b == 1).getD 0
theorem invN_eq {M a b : Nat} (hM : FldM M) (ha : a < 2 ^ M) (hb : b < 2 ^ M) (h : Gf.mul M (modN M) a b = 1) : invN M a = b:=by
 unfold invN
 cases hq : (List.range (2 ^ M)).find? fun b=>Gf.mul M (modN M) a b == 1 with
 | none =>
   rw [List.find?_eq_none] at hq
   have:=hq b (by simpa using hb)
   simp [h] at this
 | some c =>
   have h1:=List.find?_some hq
   have h2:=List.mem_of_find?_eq_some hq
   have hc : c < 2 ^ M:=by simpa using h2
   have h3 : Gf.mul M (modN M) a c = 1:=by simpa using h1
   show c = b
   have e1 : Gf.mul M (modN M) (Gf.mul M (modN M) a b) c = c:=by rw [h];exact Gf.one_mul hc
   rw [Gf.mul_right_comm,h3,Gf.one_mul hb] at e1
   exact e1.symm
theorem A_inverse {M a : Nat} (hM : FldM M) (ha : a < 2 ^ M) (h0 : a ≠ 0) : ACalls Tryz.prog 283 [iV M,iV a] [] (iV (invN M a)) []:=by
 refine acalls_of_body Tryz.func283 rfl (zU rfl) ?_
 have g:=hM.gen
 have hM16 : 1 ≤ M ∧ M ≤ 16:=by unfold FldM at hM;omega
 have hp:=hM.mod
 have hmod:=A_modulus M
 (repeat' (first
  |(apply W.qd;(first
  |(exact zW (hmod))|(exact zM)
  |(exact zN)))|(apply yA)|(apply yB)|(refine jAb ?_)|(apply yE)
  |(apply yG)))
 refine AWP.loopW (α:=Nat × Nat × Nat × Nat) (fun s=>Gf.EGood M (modN M) a s.1 s.2.1 s.2.2.1 s.2.2.2 ∨ Gf.EDone M (modN M) a s.1 s.2.2.1) (fun s=>⟨[(5,iV s.1),(6,iV s.2.1),(7,iV s.2.2.1),(8,iV s.2.2.2),(0,iV M)],[]⟩) (fun s=>if s.1 = 1 then 0 else Gf.eMu s.1 s.2.1 + 1) (a,modN M,1,0) (.inl (Gf.EGood.init g (by omega) ha h0)) ⟨[],rfl,rfl,rfl,by (repeat (first | exact trivial | refine ⟨rfl,?_⟩))⟩ fun s hs=>?_
 obtain ⟨u,v,x,y⟩:=s
 dsimp only at hs ⊢
 by_cases hu : u = 1
 ·have hdone : Gf.EDone M (modN M) a u x:=by
   rcases hs with hs | hs
   ·subst hu;exact Gf.EInv.done g (by omega) hs.toEInv
   ·exact hs
  have hbx:=hdone.bx
  have hr:=A_freduce hM (x:=x) (by omega)
  (repeat' (first
   |(apply W.qd;(first
   |(exact zW (hr))|(exact zM)|(exact zN)
   |(exact jBb)))|(apply yA)|(apply yB)|(refine jAb ?_)|(apply yE)|(apply yI)|(apply yJ)|(apply yK)|(apply yM)
   |(refine W.cond _ rfl (fun hb=>?_) (fun hb=>?_)<;>((try simp only [hb,zK])<;>(try simp only [zL,zI] at hb)<;>(try (exfalso;omega))))))
  refine Ends.i rfl (congrArg _ ?_)
  exact (invN_eq hM ha (Gf.ev_lt g.hm g.top g.lt x) hdone.inv).symm
 ·have hgood : Gf.EGood M (modN M) a u v x y:=by
   rcases hs with hs | hs
   ·exact hs
   ·exact absurd hs.u1 hu
  have hnext:=Gf.EGood.next g (by omega) ha h0 hgood hu
  have hbu:=hgood.bu
  have hbv:=hgood.bv
  have hbxy:=hgood.toEInv.bxy
  have hdu:=A_degree u (by omega)
  have hdv:=A_degree v (by omega)
  have shl : ∀ z s : Nat,Gf.bl z + s ≤ 63 → z <<< s < 9223372036854775808:=fun z s h=>by
   refine lt63 ?_
   by_cases hz : z = 0
   ·subst hz;simp [Gf.bl_zero]
   ·rw [Gf.bl_shift hz];omega
  have hcap1 : ∀ s : Nat,s ≤ 18 → u <<< s < 9223372036854775808:=fun s h=>shl u s (by omega)
  have hcap2 : ∀ s : Nat,s ≤ 18 → v <<< s < 9223372036854775808:=fun s h=>shl v s (by omega)
  have hcap3 : ∀ s : Nat,s ≤ 18 → x <<< s < 9223372036854775808:=fun s h=>shl x s (by omega)
  have hcap4 : ∀ s : Nat,s ≤ 18 → y <<< s < 9223372036854775808:=fun s h=>shl y s (by omega)
  have cu : u < 9223372036854775808:=lt63 (show Gf.bl u ≤ 63 by omega)
  have cv : v < 9223372036854775808:=lt63 (show Gf.bl v ≤ 63 by omega)
  have cx : x < 9223372036854775808:=lt63 (show Gf.bl x ≤ 63 by omega)
  have cy : y < 9223372036854775808:=lt63 (show Gf.bl y ≤ 63 by omega)
  have hmu : ∀ u' v' x' y',Gf.EDone M (modN M) a u' x' ∨ Gf.EGood M (modN M) a u' v' x' y' ∧ Gf.eMu u' v' < Gf.eMu u v → (Gf.EGood M (modN M) a u' v' x' y' ∨ Gf.EDone M (modN M) a u' x') ∧ (if u' = 1 then 0 else Gf.eMu u' v' + 1) < (if u = 1 then 0 else Gf.eMu u v + 1):=fun u' v' x' y' h=>by
   rw [if_neg hu]
   rcases h with h | ⟨h,h2⟩
   ·exact ⟨.inr h,by rw [if_pos h.u1];omega⟩
   ·exact ⟨.inl h,by split<;>omega⟩
  by_cases hlt : Gf.bl u < Gf.bl v
  ·have es : (-((Gf.bl u : Int) - 1 - ((Gf.bl v : Int) - 1))).toNat = Gf.bl v - Gf.bl u := by omega
   unfold Gf.eu at hnext
   rw [if_pos hlt] at hnext
   obtain ⟨n1,n2⟩:=hmu _ _ _ _ hnext
   (repeat' (first
    |(apply W.qd;(first
    |(exact zW (hdu))|(exact zW (hdv))|(exact zM)|(exact zN)|(exact jAj)|(exact jBb)|(exact q_sub rfl rfl (by omega))|(apply q_neg;exact rfl;omega)|(exact jAd)
    |(exact jAe)))|(apply yA)|(apply yB)|(refine jAb ?_)|(apply yE)|(apply yG)|(apply yH)|(apply yL)
    |(refine W.cond _ rfl (fun hb=>?_) (fun hb=>?_)<;>((try simp only [hb,zK])<;>(try simp only [zL,zI] at hb)<;>(try (exfalso;omega))))))
   exact ⟨_,n1,n2,[],rfl,rfl,rfl,by rw [← es];rfl,rfl,by rw [← es];rfl,rfl,rfl,trivial⟩
  ·have es : ((Gf.bl u : Int) - 1 - ((Gf.bl v : Int) - 1)).toNat = Gf.bl u - Gf.bl v := by omega
   unfold Gf.eu at hnext
   rw [if_neg hlt] at hnext
   obtain ⟨n1,n2⟩:=hmu _ _ _ _ hnext
   (repeat' (first
    |(apply W.qd;(first
    |(exact zW (hdu))|(exact zW (hdv))|(exact zM)|(exact zN)|(exact jAj)|(exact jBb)|(exact q_sub rfl rfl (by omega))|(exact jAd)
    |(exact jAe)))|(apply yA)|(apply yB)|(refine jAb ?_)|(apply yE)|(apply yG)|(apply yH)|(apply yL)
    |(refine W.cond _ rfl (fun hb=>?_) (fun hb=>?_)<;>((try simp only [hb,zK])<;>(try simp only [zL,zI] at hb)<;>(try (exfalso;omega))))))
   exact ⟨_,n1,n2,[],rfl,rfl,rfl,by rw [← es];rfl,rfl,by rw [← es];rfl,rfl,rfl,trivial⟩
end
section
def idxA {α : Type} (q : α → Bool) (l : List α) : Int:=match l.findIdx? q with | some k=>k | none=>-1
theorem idxA_hit {α : Type} {q : α → Bool} {l : List α} {k : Nat} (hk : k < l.length) (h : q l[k] = true) (hb : ∀ x ∈ l.take k,q x = false) : idxA q l = k:=by
 unfold idxA
 have : l.findIdx? q = some k:=by
  rw [List.findIdx?_eq_some_iff_getElem]
  refine ⟨hk,h,fun j hj=>?_⟩
  have:=hb l[j] (by rw [List.mem_take_iff_getElem];exact ⟨j,by omega,rfl⟩)
  simp [this]
 rw [this]
theorem idxA_miss {α : Type} {q : α → Bool} {l : List α} (h : ∀ x ∈ l,q x = false) : idxA q l = -1:=by
 unfold idxA
 have : l.findIdx? q = none:=by
  rw [List.findIdx?_eq_none_iff]
  exact h
 rw [this]
theorem idxA_any {α : Type} (q : α → Bool) (l : List α) : decide (0 ≤ idxA q l) = l.any q:=by
 unfold idxA
 cases h : l.findIdx? q with
 | some k =>
   have h1:=(List.findIdx?_eq_some_iff_getElem.1 h)
   obtain ⟨h1,h2,_⟩:=h1
   rw [decide_eq_true (show (0 : Int) ≤ ((k : Nat) : Int) by omega)]
   symm
   rw [List.any_eq_true]
   exact ⟨_,List.getElem_mem h1,h2⟩
 | none =>
   have h1:=List.findIdx?_eq_none_iff.1 h
   rw [decide_eq_false (show ¬ (0 : Int) ≤ -1 by omega)]
   symm
   rw [List.any_eq_false]
   intro x hx
   rw [h1 x hx];simp
attribute [local irreducible] Quiet Eff OpOk AWPG ACont ABlock ACalls
theorem A_index_int {O : List Ent} {g : FuncId} {caps : List AV} (q : Int → Bool) (l : List Int) (hl : l.length ≤ 1000000000) (hgf : isFn Tryz.prog g = true) (hg : ∀ x ∈ l,ACalls Tryz.prog g (iV x :: caps) O (bV (q x)) O) : ACalls Tryz.prog 231 [ints l,.fn g caps] O (iV (idxA q l)) O:=by
 refine acalls_of_bodyS Tryz.func231 rfl (zU rfl) ?_
 (repeat (first
  |(apply W.qd;(first
  |(exact zM)|(exact zN)
  |(exact jAt)))|(apply yA)|(apply yB)|(refine jAb ?_)|(apply yE)
  |(apply yG)))
 refine AWP.loopE (α:=Nat) (fun k=>k ≤ l.length ∧ ∀ x ∈ l.take k,q x = false) (fun k=>⟨[(8,iV k),(7,iV l.length),(0,ints l),(1,.fn g caps)],O⟩) (fun k=>l.length - k) 0 ⟨by omega,by simp⟩ ⟨rfl,rfl,by simp [look],rfl,rfl,trivial⟩ fun k hk=>?_
 by_cases hkl : k < l.length
 ·have hx := hg l[k] (List.getElem_mem hkl)
  (repeat' (first
   |(apply W.qd;(first
   |(exact zM)|(exact zN)|(exact jAj)|(exact jAi)|(exact jAc)
   |(exact jA)))|(apply W.ed;(apply (e_callS (hx));exact rfl;exact rfl;(first | assumption | kernel_rfl)))|(apply yA)|(apply yB)|(refine jAb ?_)|(apply yE)|(apply yG)|(apply yH)|(apply yJ)|(apply yP)|(apply yL)|(apply yN)
   |(refine W.cond _ rfl (fun hb=>?_) (fun hb=>?_)<;>((try simp only [hb,zK])<;>(try simp only [zL,zI] at hb)<;>(try (exfalso;omega))))))
  ·exact EndsS.i rfl (idxA_hit hkl hb hk.2).symm
  ·refine ⟨k + 1, ⟨by omega, fun x hx => ?_⟩, by omega, ⟨rfl, by (repeat (first | exact trivial | refine ⟨rfl, ?_⟩))⟩⟩
   rw [List.take_succ_eq_append_getElem hkl] at hx
   rcases List.mem_append.1 hx with hx | hx
   ·exact hk.2 x hx
   ·rw [List.mem_singleton.1 hx];exact hb
 ·(repeat' (first
  |(apply W.qd;(first
  |(exact zN)
  |(exact jAj)))|(apply yA)|(apply yB)|(refine jAb ?_)|(apply yE)|(apply yI)|(apply yJ)|(apply yK)|(apply yM)
  |(refine W.cond _ rfl (fun hb=>?_) (fun hb=>?_)<;>((try simp only [hb,zK])<;>(try simp only [zL,zI] at hb)<;>(try (exfalso;omega))))))
  refine EndsS.i rfl (idxA_miss fun x hx=>hk.2 x ?_).symm
  rwa [List.take_of_length_le (by omega)]
theorem A_contains_int {O : List Ent} {g : FuncId} {caps : List AV} (q : Int → Bool) (l : List Int) (hl : l.length ≤ 1000000000) (hgf : isFn Tryz.prog g = true) (hg : ∀ x ∈ l,ACalls Tryz.prog g (iV x :: caps) O (bV (q x)) O) : ACalls Tryz.prog 174 [ints l,.fn g caps] O (bV (l.any q)) O:=by
 refine acalls_of_bodyS Tryz.func174 rfl (zU rfl) ?_
 have hi:=A_index_int q l hl hgf hg
 (repeat' (first
  |(apply W.qd;(first
  |(exact zM)|(exact zN)
  |(exact q_geq rfl rfl)))|(apply W.ed;(apply (e_callS (hi));exact rfl;exact rfl;(first | assumption | kernel_rfl)))|(apply yA)|(apply yB)|(refine jAb ?_)|(apply yE)
  |(apply yJ)))
 exact EndsS.b rfl (idxA_any q l)
theorem A_index_row {O : List Ent} {g : FuncId} {caps : List AV} (q : (List Int) → Bool) (l : List (List Int)) (hl : l.length ≤ 1000000000) (hgf : isFn Tryz.prog g = true) (hg : ∀ x ∈ l,ACalls Tryz.prog g (ints x :: caps) O (bV (q x)) O) : ACalls Tryz.prog 276 [rowsA l,.fn g caps] O (iV (idxA q l)) O:=by
 refine acalls_of_bodyS Tryz.func276 rfl (zU rfl) ?_
 (repeat (first
  |(apply W.qd;(first
  |(exact zM)|(exact zN)
  |(exact jAt)))|(apply yA)|(apply yB)|(refine jAb ?_)|(apply yE)
  |(apply yG)))
 refine AWP.loopE (α:=Nat) (fun k=>k ≤ l.length ∧ ∀ x ∈ l.take k,q x = false) (fun k=>⟨[(8,iV k),(7,iV l.length),(0,rowsA l),(1,.fn g caps)],O⟩) (fun k=>l.length - k) 0 ⟨by omega,by simp⟩ ⟨rfl,rfl,by simp [look],rfl,rfl,trivial⟩ fun k hk=>?_
 by_cases hkl : k < l.length
 ·have hx := hg l[k] (List.getElem_mem hkl)
  (repeat' (first
   |(apply W.qd;(first
   |(exact zM)|(exact zN)|(exact jAj)|(exact jAi)|(exact jAc)
   |(exact jA)))|(apply W.ed;(apply (e_callS (hx));exact rfl;exact rfl;(first | assumption | kernel_rfl)))|(apply yA)|(apply yB)|(refine jAb ?_)|(apply yE)|(apply yG)|(apply yH)|(apply yJ)|(apply yP)|(apply yL)|(apply yN)
   |(refine W.cond _ rfl (fun hb=>?_) (fun hb=>?_)<;>((try simp only [hb,zK])<;>(try simp only [zL,zI] at hb)<;>(try (exfalso;omega))))))
  ·exact EndsS.i rfl (idxA_hit hkl hb hk.2).symm
  ·refine ⟨k + 1, ⟨by omega, fun x hx => ?_⟩, by omega, ⟨rfl, by (repeat (first | exact trivial | refine ⟨rfl, ?_⟩))⟩⟩
   rw [List.take_succ_eq_append_getElem hkl] at hx
   rcases List.mem_append.1 hx with hx | hx
   ·exact hk.2 x hx
   ·rw [List.mem_singleton.1 hx];exact hb
 ·(repeat' (first
  |(apply W.qd;(first
  |(exact zN)
  |(exact jAj)))|(apply yA)|(apply yB)|(refine jAb ?_)|(apply yE)|(apply yI)|(apply yJ)|(apply yK)|(apply yM)
  |(refine W.cond _ rfl (fun hb=>?_) (fun hb=>?_)<;>((try simp only [hb,zK])<;>(try simp only [zL,zI] at hb)<;>(try (exfalso;omega))))))
  refine EndsS.i rfl (idxA_miss fun x hx=>hk.2 x ?_).symm
  rwa [List.take_of_length_le (by omega)]
theorem A_contains_row {O : List Ent} {g : FuncId} {caps : List AV} (q : (List Int) → Bool) (l : List (List Int)) (hl : l.length ≤ 1000000000) (hgf : isFn Tryz.prog g = true) (hg : ∀ x ∈ l,ACalls Tryz.prog g (ints x :: caps) O (bV (q x)) O) : ACalls Tryz.prog 243 [rowsA l,.fn g caps] O (bV (l.any q)) O:=by
 refine acalls_of_bodyS Tryz.func243 rfl (zU rfl) ?_
 have hi:=A_index_row q l hl hgf hg
 (repeat' (first
  |(apply W.qd;(first
  |(exact zM)|(exact zN)
  |(exact q_geq rfl rfl)))|(apply W.ed;(apply (e_callS (hi));exact rfl;exact rfl;(first | assumption | kernel_rfl)))|(apply yA)|(apply yB)|(refine jAb ?_)|(apply yE)
  |(apply yJ)))
 exact EndsS.b rfl (idxA_any q l)
def inF (m a : Int) : Bool:=decide (0 ≤ a ∧ a < if m = 8 then 256 else 65536)
theorem shr_zero {M n : Nat} (hM : FldM M) : n >>> M = 0 ↔ (n : Int) < if (M : Int) = 8 then 256 else 65536:=by
 rw [Nat.shiftRight_eq_div_pow,Nat.div_eq_zero_iff]
 rcases hM with rfl | rfl
 ·simp;omega
 ·simp;omega
theorem inF_nat {M : Nat} {a : Int} (hM : FldM M) (h : inF M a = true) : ∃ n : Nat,a = n ∧ n < 2 ^ M:=by
 unfold inF at h
 have h:=of_decide_eq_true h
 obtain ⟨n,rfl⟩:=Int.eq_ofNat_of_zero_le h.1
 refine ⟨n,rfl,?_⟩
 rcases hM with rfl | rfl
 ·have h2:=h.2;rw [if_pos (show ((8 : Nat) : Int) = 8 from rfl)] at h2;omega
 ·have h2:=h.2;rw [if_neg (show ¬ ((16 : Nat) : Int) = 8 by decide)] at h2;omega
theorem inF_lt {M n : Nat} (hM : FldM M) (h : n < 2 ^ M) : inF M n = true:=by
 unfold inF
 refine decide_eq_true ⟨by omega,?_⟩
 rcases hM with rfl | rfl
 ·rw [if_pos (show ((8 : Nat) : Int) = 8 from rfl)];omega
 ·rw [if_neg (show ¬ ((16 : Nat) : Int) = 8 by decide)];omega
theorem A_all1 {M : Nat} (a : Int) (hM : FldM M) (ha : a < 9223372036854775808) : ACalls Tryz.prog 272 [iV a,.opt 0 0] [.box [iV M]] (bV (!inF M a)) [.box [iV M]]:=by
 refine acalls_of_bodyS Tryz.func272 rfl (zU rfl) ?_
 have hM16 : 1 ≤ M ∧ M ≤ 16:=by unfold FldM at hM;omega
 by_cases h0 : 0 ≤ a
 ·obtain ⟨n, rfl⟩ := Int.eq_ofNat_of_zero_le h0
  have hz:=shr_zero (n:=n) hM
  (repeat' (first
   |(apply yFb;exact rfl;exact rfl)
   |(apply W.qd;(first
   |(exact zM)|(exact zN)|(exact jAg)|(exact jAj)|(exact jBb)|(apply (yDb (u:=.d _));exact rfl;exact rfl)
   |(exact jAs)))|(apply yA)|(apply yB)|(refine jAb ?_)|(apply yE)
   |(apply yJ)))
  refine EndsS.b rfl ?_
  unfold inF
  congr 1
  rw [decide_eq_decide,Int.natCast_eq_zero,hz]
  constructor
  ·intro h;exact ⟨by omega,h⟩
  ·exact fun h=>h.2
 ·(repeat' (first
  |(apply W.qd;(first
  |(exact zM)|(exact zN)|(exact jAj)
  |(apply (yEb (u:=.d _));exact rfl;exact rfl)))|(refine W.gOff _ _ rfl rfl (by intro h;cases h) ?_)|(apply yA)|(apply yB)|(refine jAb ?_)|(apply yE)|(apply yJ)
  |(refine W.gF _ _ rfl rfl (fun hb=>?_) (fun hb=>?_)<;>((try simp only [hb,zK])<;>(try simp only [zL,zI] at hb)<;>(try (exfalso;omega))))))
  refine EndsS.b rfl ?_
  unfold inF
  rw [decide_eq_false fun h=>h0 h.1];rfl
def allF (m : Int) (l : List Int) : Bool:=decide (m = 8 ∨ m = 16) && l.all (inF m)
theorem A_all (m : Int) (l : List Int) (hl : l.length ≤ 1000000000) (hb : ∀ x ∈ l,x < 9223372036854775808) : ACalls Tryz.prog 239 [iV m,ints l] [] (bV (allF m l)) []:=by
 refine acalls_of_body Tryz.func239 rfl (zU rfl) ?_
 have hmod:=A_modulus m
 by_cases hm : m = 8 ∨ m = 16
 ·obtain ⟨M, rfl⟩ := Int.eq_ofNat_of_zero_le (show 0 ≤ m by omega)
  have hM : FldM M:=by unfold FldM;omega
  have hp:=hM.mod
  have hc:=A_contains_int (O:=[.box [iV M]]) (g:=272) (caps:=[.opt 0 0]) (fun a=>!inF M a) l hl (by kernel_rfl) (fun x hx=>A_all1 x hM (hb x hx))
  have hneq : ((modN M : Nat) : Int) ≠ 0:=by have:=hp.1;omega
  (repeat' (first
   |(apply yFb;exact rfl;exact rfl)
   |(apply W.qd;(first
   |(exact zW (hmod))|(exact zM)|(exact zN)|(exact jAg)|(exact jBb)|(exact jBe)|(apply q_makeFunc)
   |(apply (yEb (u:=.d _));exact rfl;exact rfl)))
   |(apply W.ed;(first
   |(apply (e_callS (hc));exact rfl;exact rfl;(first | assumption | kernel_rfl))
   |(exact jAa)))|(apply yA)|(apply yB)|(refine jAb ?_)|(apply yE)|(apply yJ)
   |(refine W.gT _ _ rfl rfl (fun hb=>?_) (fun hb=>?_)<;>((try simp only [hb,zK])<;>(try simp only [zL,zI] at hb)<;>(try (exfalso;omega))))))
  ·refine Ends.b rfl ?_
   unfold allF
   rw [decide_eq_true hm,Bool.true_and,List.all_eq_not_any_not]
 ·have h0 : modN m = 0 := by unfold modN; rw [if_neg (by omega), if_neg (by omega)]
  rw [h0] at hmod
  (repeat' (first
   |(apply W.qd;(first
   |(exact zW (hmod))|(exact zM)|(exact zN)|(exact jAg)|(exact jBb)
   |(apply (yDb (u:=.d _));exact rfl;exact rfl)))|(apply W.ed;(exact jAa))|(refine W.gOff _ _ rfl rfl (by intro h;cases h) ?_)|(apply yA)|(apply yB)|(refine jAb ?_)|(apply yE)
   |(apply yJ)))
  exact Ends.b rfl (by unfold allF;rw [decide_eq_false hm];rfl)
theorem A_fvalid (m a : Int) (hb : a < 9223372036854775808) : ACalls Tryz.prog 188 [iV m,iV a] [] (bV (allF m [a])) []:=by
 refine acalls_of_body Tryz.func188 rfl (zU rfl) ?_
 have hc:=A_all m [a] (by simp) (by simpa using hb)
 (repeat' (first
  |(apply W.qd;(first
  |(exact zW (hc))|(exact zM)|(exact zN)
  |(exact jAl)))|(apply yA)|(apply yB)|(refine jAb ?_)|(apply yE)
  |(apply yJ)))
 exact Ends.b rfl rfl
theorem A_mul {M : Nat} {a b : Nat} (hM : FldM M) (ha : a < 2 ^ M) (hb : b < 2 ^ M) : ACalls Tryz.prog 284 [iV M,iV a,iV b] [] (.tup [iV (Gf.mul M (modN M) a b : Nat),iV 0]) []:=by
 refine acalls_of_body Tryz.func284 rfl (zU rfl) ?_
 have ha':=hM.cap ha
 have hb':=hM.cap hb
 have hc:=A_all M [a,b] (by simp) (by simp;omega)
 have hall : allF M [(a : Int),(b : Int)] = true:=by
  unfold allF
  rw [decide_eq_true (by unfold FldM at hM;omega)]
  simp [inF_lt hM ha,inF_lt hM hb]
 rw [hall] at hc
 have hp:=A_product hM ha hb
 (repeat' (first
  |(apply W.qd;(first
  |(exact zW (hc))|(exact zW (hp))|(exact zM)|(exact zN)|(exact jBe)
  |(exact jAl)))|(apply yA)|(apply yB)|(refine jAb ?_)|(apply yE)|(apply yH)|(apply yJ)
  |(refine jAy ?_)))
 exact Ends.two rfl rfl rfl
theorem A_inv {M : Nat} {a : Nat} (hM : FldM M) (ha : a < 2 ^ M) (h0 : a ≠ 0) : ACalls Tryz.prog 252 [iV M,iV a] [] (.tup [iV (invN M a : Nat),iV 0]) []:=by
 refine acalls_of_body Tryz.func252 rfl (zU rfl) ?_
 have ha':=hM.cap ha
 have hc:=A_all M [a] (by simp) (by simp;omega)
 have hall : allF M [(a : Int)] = true:=by
  unfold allF
  rw [decide_eq_true (by unfold FldM at hM;omega)]
  simp [inF_lt hM ha]
 rw [hall] at hc
 have hp:=A_inverse hM ha h0
 (repeat' (first
  |(apply W.qd;(first
  |(exact zW (hc))|(exact zW (hp))|(exact zM)|(exact zN)|(exact jAu)|(exact jBe)
  |(exact jAl)))|(apply yA)|(apply yB)|(refine jAb ?_)|(apply yE)|(apply yG)|(apply yH)|(apply yJ)|(apply yL)|(refine jAy ?_)
  |(refine W.cond _ rfl (fun hb=>?_) (fun hb=>?_)<;>((try simp only [hb,zK])<;>(try simp only [zL,zI] at hb)<;>(try (exfalso;omega))))))
 exact Ends.two rfl rfl rfl
end
section
attribute [local irreducible] Quiet Eff OpOk AWPG ACont ABlock ACalls
theorem A_poly (m : Int) : ACalls Tryz.prog 255 [iV m] [] (iV (modN m)) []:=by
 refine acalls_of_body Tryz.func255 rfl (zU rfl) ?_
 (repeat' (first
  |(apply W.qd;(first
  |(exact zM)|(exact zN)
  |(exact jAu)))|(apply yA)|(apply yB)|(refine jAb ?_)|(apply yE)|(apply yH)|(apply yJ)|(apply yP)
  |(refine W.cond _ rfl (fun hb=>?_) (fun hb=>?_)<;>((try simp only [hb,zK])<;>(try simp only [zL,zI] at hb)<;>(try (exfalso;omega))))))
 ·exact Ends.i rfl (by unfold modN;rw [if_pos hb];rfl)
 ·rename_i h
  exact Ends.i rfl (by unfold modN;rw [if_neg h,if_pos hb];rfl)
 ·rename_i h
  exact Ends.i rfl (by unfold modN;rw [if_neg h,if_neg hb];rfl)
theorem one_shl (M : Nat) : 1 <<< M = 2 ^ M:=by rw [Nat.shiftLeft_eq,Nat.one_mul]
theorem FldM.pow {M : Nat} (h : FldM M) : 2 ^ M ≤ 65536 ∧ 256 ≤ 2 ^ M:=by
 rcases h with rfl | rfl
 ·exact ⟨by decide,by decide⟩
 ·exact ⟨by decide,by decide⟩
theorem A_rfvalid (m a : Int) : ACalls Tryz.prog 211 [iV m,iV a] [] (bV (allF m [a])) []:=by
 refine acalls_of_body Tryz.func211 rfl (zU rfl) ?_
 have hmod:=A_poly m
 by_cases hm : m = 8 ∨ m = 16
 ·obtain ⟨M, rfl⟩ := Int.eq_ofNat_of_zero_le (show 0 ≤ m by omega)
  have hM : FldM M:=by unfold FldM;omega
  have hp:=hM.mod
  have hpw:=hM.pow
  have h1:=one_shl M
  have hcap1 : ∀ s : Nat,s ≤ M → 1 <<< s < 9223372036854775808:=fun s hs=>by
   rw [one_shl]
   have:=Nat.pow_le_pow_right (show 0 < 2 by omega) hs
   omega
  have hneq : ((modN M : Nat) : Int) ≠ 0:=by have:=hp.1;omega
  have hM16 : 1 ≤ M ∧ M ≤ 16:=by unfold FldM at hM;omega
  have key : allF M [a] = decide (0 ≤ a ∧ a < ((1 <<< M : Nat) : Int)):=by
   unfold allF
   rw [decide_eq_true hm]
   simp only [List.all_cons,List.all_nil,Bool.and_true,Bool.true_and]
   unfold inF
   rcases hM with rfl | rfl<;>rfl
  rw [key]
  (repeat' (first
   |(apply yFb;exact rfl;exact rfl)
   |(apply W.qd;(first
   |(exact zW (hmod))|(exact zM)|(exact zN)|(exact jAj)|(exact q_geq rfl rfl)|(exact jBb)|(apply (yEb (u:=.d _));exact rfl;exact rfl)|(apply (yDb (u:=.d _));exact rfl;exact rfl)
   |(exact jAe)))|(refine W.gOff _ _ rfl rfl (by intro h;cases h) ?_)|(apply yA)|(apply yB)|(refine jAb ?_)|(apply yE)|(apply yJ)
   |(refine W.gT _ _ rfl rfl (fun hb=>?_) (fun hb=>?_)<;>((try simp only [hb,zK])<;>(try simp only [zL,zI] at hb)<;>(try (exfalso;omega))))))
  all_goals refine Ends.b rfl ?_
  all_goals generalize ((1 <<< M : Nat) : Int) = z
  all_goals first
   |(rw [decide_eq_decide];omega)
   |(symm;rw [decide_eq_false_iff_not];omega)
 ·have h0 : modN m = 0 := by unfold modN; rw [if_neg (by omega), if_neg (by omega)]
  rw [h0] at hmod
  (repeat' (first
   |(apply W.qd;(first
   |(exact zW (hmod))|(exact zM)|(exact zN)|(exact jBb)
   |(apply (yDb (u:=.d _));exact rfl;exact rfl)))|(refine W.gOff _ _ rfl rfl (by intro h;cases h) ?_)|(apply yA)|(apply yB)|(refine jAb ?_)|(apply yE)
   |(apply yJ)))
  exact Ends.b rfl (by unfold allF;rw [decide_eq_false hm];rfl)
theorem A_times {M a b : Nat} (hM : FldM M) (ha : a < 2 ^ M) (hb : b < 2 ^ M) : ACalls Tryz.prog 256 [iV M,iV a,iV b] [] (iV (Gf.mul M (modN M) a b : Nat)) []:=by
 refine acalls_of_body Tryz.func256 rfl (zU rfl) ?_
 have hmod:=A_poly M
 have g:=hM.gen
 have hp:=hM.mod
 have hpw:=hM.pow
 have hM16 : 1 ≤ M ∧ M ≤ 16:=by unfold FldM at hM;omega
 have h1:=one_shl M
 have hcap1 : ∀ s : Nat,s ≤ M → 1 <<< s < 9223372036854775808:=fun s hs=>by
  rw [one_shl]
  have:=Nat.pow_le_pow_right (show 0 < 2 by omega) hs
  omega
 (repeat' (first
  |(apply W.qd;(first
  |(exact zW (hmod))|(exact zM)
  |(exact zN)))|(apply yA)|(apply yB)|(refine jAb ?_)|(apply yE)
  |(apply yG)))
 refine AWP.loopW (α:=Nat × Nat × Nat × Nat) (fun s=>s.1 ≤ M ∧ s.2.1 < 2 ^ M ∧ s.2.2.1 < 2 ^ M ∧ s.2.2.2 < 2 ^ s.1 ∧ s.2.1 ^^^ Gf.mulK M (modN M) s.1 s.2.2.1 s.2.2.2 = Gf.mul M (modN M) a b) (fun s=>⟨[(8,iV s.2.1),(1,iV s.2.2.1),(2,iV s.2.2.2),(7,iV (modN M)),(0,iV M)],[]⟩) (fun s=>s.2.2.2) (M,0,a,b) ⟨Nat.le_refl _,Nat.two_pow_pos M,ha,hb,by rw [Nat.zero_xor];rfl⟩ ⟨[],rfl,rfl,rfl,by (repeat (first | exact trivial | refine ⟨rfl,?_⟩))⟩ fun s hs=>?_
 obtain ⟨k,o,x,c⟩:=s
 dsimp only at hs ⊢
 obtain ⟨s1,s2,s3,s4,s5⟩:=hs
 have c1:=hM.cap s2
 have c2:=hM.cap s3
 have c3 : c < 65536:=by have:=Nat.pow_le_pow_right (show 0 < 2 by omega) s1;omega
 by_cases hc : c = 0
 ·(repeat' (first
  |(apply W.qd;(first
  |(exact zM)|(exact zN)
  |(exact jBf)))|(apply yA)|(apply yB)|(refine jAb ?_)|(apply yE)|(apply yI)|(apply yJ)|(apply yK)|(apply yM)
  |(refine W.cond _ rfl (fun hb=>?_) (fun hb=>?_)<;>((try simp only [hb,zK])<;>(try simp only [zL,zI] at hb)<;>(try (exfalso;omega))))))
  refine Ends.i rfl (congrArg _ ?_)
  rw [hc,Gf.mulK_zero_right,Nat.xor_zero] at s5
  exact s5
 ·obtain ⟨k',rfl⟩ : ∃ k',k = k' + 1:=by
   cases k with
   | zero=>simp at s4;omega
   | succ k=>exact ⟨k,rfl⟩
  have hxt:=Gf.xt_ge (p:=modN M) hM16.1 s3
  have hxl:=Gf.xt_lt (p:=modN M) g.hm g.top g.lt s3
  have e2 : (2 * (x : Int)).toNat = 2 * x:=by omega
  have c4 : 2 * x ^^^ modN M < 131072:=Nat.xor_lt_two_pow (n:=17) (by omega) hp.2
  have hox : o ^^^ x < 2 ^ M:=Nat.xor_lt_two_pow s2 s3
  have hc2 : c / 2 < 2 ^ k':=by rw [Nat.pow_succ] at s4;omega
  rw [Gf.mulK_succ',Nat.testBit_zero] at s5
  have hodd : c % 2 = 1 → (o ^^^ x) ^^^ Gf.mulK M (modN M) k' (Gf.xt M (modN M) x) (c / 2) = Gf.mul M (modN M) a b:=fun h=>by
   rw [decide_eq_true h] at s5
   rw [Nat.xor_assoc];exact s5
  have heven : ¬ c % 2 = 1 → o ^^^ Gf.mulK M (modN M) k' (Gf.xt M (modN M) x) (c / 2) = Gf.mul M (modN M) a b:=fun h=>by
   rw [decide_eq_false h] at s5
   simpa using s5
  (repeat' (first
   |(apply W.qd;(first
   |(exact zM)|(exact zN)|(exact jBf)|(exact q_geq rfl rfl)|(exact jAu)|(apply q_mul;exact rfl;exact rfl;(first | omega | assumption))|(apply q_quo;exact rfl;exact rfl;omega;omega;omega)|(apply q_rem;exact rfl;exact rfl;omega;omega)|(exact jAd)
   |(exact jAe)))|(apply yA)|(apply yB)|(refine jAb ?_)|(apply yE)|(apply yG)|(apply yH)|(apply yL)
   |(refine W.cond _ rfl (fun hb=>?_) (fun hb=>?_)<;>((try simp only [hb,zK])<;>(try simp only [zL,zI] at hb)<;>(try (exfalso;omega))))))
  all_goals (rename_i hq)
  ·exact ⟨(k',o ^^^ x,Gf.xt M (modN M) x,c / 2),⟨by omega,hox,hxl,hc2,hodd (by omega)⟩,by dsimp only;omega,[],rfl,rfl,rfl,rfl,iV_eq (by dsimp only;rw [hxt.1 (by omega),e2]),iV_eq (by dsimp only;omega),rfl,rfl,trivial⟩
  ·exact ⟨(k',o ^^^ x,Gf.xt M (modN M) x,c / 2),⟨by omega,hox,hxl,hc2,hodd (by omega)⟩,by dsimp only;omega,[],rfl,rfl,rfl,rfl,iV_eq (by dsimp only;rw [hxt.2 (by omega)];omega),iV_eq (by dsimp only;omega),rfl,rfl,trivial⟩
  ·exact ⟨(k',o,Gf.xt M (modN M) x,c / 2),⟨by omega,s2,hxl,hc2,heven (by omega)⟩,by dsimp only;omega,[],rfl,rfl,rfl,rfl,iV_eq (by dsimp only;rw [hxt.1 (by omega),e2]),iV_eq (by dsimp only;omega),rfl,rfl,trivial⟩
  ·exact ⟨(k',o,Gf.xt M (modN M) x,c / 2),⟨by omega,s2,hxl,hc2,heven (by omega)⟩,by dsimp only;omega,[],rfl,rfl,rfl,rfl,iV_eq (by dsimp only;rw [hxt.2 (by omega)];omega),iV_eq (by dsimp only;omega),rfl,rfl,trivial⟩
theorem A_power {M a n : Nat} (hM : FldM M) (ha : a < 2 ^ M) (hn : n < 65536) : ACalls Tryz.prog 308 [iV M,iV a,iV n] [] (iV (Gf.pw M (modN M) a n : Nat)) []:=by
 refine acalls_of_body Tryz.func308 rfl (zU rfl) ?_
 have g:=hM.gen
 (repeat' (first
  |(apply W.qd;(exact zN))|(apply yA)|(apply yB)|(refine jAb ?_)|(apply yE)
  |(apply yG)))
 refine AWP.loopW (α:=Nat × Nat × Nat) (fun s=>s.1 < 2 ^ M ∧ s.2.1 < 2 ^ M ∧ s.2.2 < 65536 ∧ Gf.mul M (modN M) s.1 (Gf.pw M (modN M) s.2.1 s.2.2) = Gf.pw M (modN M) a n) (fun s=>⟨[(7,iV s.1),(1,iV s.2.1),(2,iV s.2.2),(0,iV M)],[]⟩) (fun s=>s.2.2) (1,a,n) ⟨g.pos,ha,hn,Gf.one_mul (Gf.pw_lt g ha n)⟩ ⟨[],rfl,rfl,rfl,by (repeat (first | exact trivial | refine ⟨rfl,?_⟩))⟩ fun s hs=>?_
 obtain ⟨o,x,c⟩:=s
 dsimp only at hs ⊢
 obtain ⟨s1,s2,s3,s4⟩:=hs
 by_cases hc : c = 0
 ·(repeat' (first
  |(apply W.qd;(first
  |(exact zM)|(exact zN)
  |(exact jBf)))|(apply yA)|(apply yB)|(refine jAb ?_)|(apply yE)|(apply yI)|(apply yJ)|(apply yK)|(apply yM)
  |(refine W.cond _ rfl (fun hb=>?_) (fun hb=>?_)<;>((try simp only [hb,zK])<;>(try simp only [zL,zI] at hb)<;>(try (exfalso;omega))))))
  refine Ends.i rfl (congrArg _ ?_)
  rw [hc] at s4
  rw [← s4,Gf.pw,Gf.mul_one g.hm s1]
 ·have ht1 := A_times hM s1 s2
  have ht2:=A_times hM s2 s2
  have l1:=Gf.mul_lt g.hm g.top g.lt s1 x
  have l2:=Gf.mul_lt g.hm g.top g.lt s2 x
  have hsq:=Gf.pw_sq g s2 (c / 2)
  have lp:=Gf.pw_lt g s2 (2 * (c / 2))
  have hodd : c % 2 = 1 → Gf.mul M (modN M) (Gf.mul M (modN M) o x) (Gf.pw M (modN M) (Gf.mul M (modN M) x x) (c / 2)) = Gf.pw M (modN M) a n:=fun h=>by
   have e : c = 2 * (c / 2) + 1:=by omega
   rw [hsq,Gf.mul_right_comm,Gf.mul_assoc g.hm g.top g.lt s1 lp s2,← s4]
   congr 1
   show Gf.pw M (modN M) x (2 * (c / 2) + 1) = _
   rw [← e]
  have heven : ¬ c % 2 = 1 → Gf.mul M (modN M) o (Gf.pw M (modN M) (Gf.mul M (modN M) x x) (c / 2)) = Gf.pw M (modN M) a n:=fun h=>by
   rw [hsq,show 2 * (c / 2) = c from by omega];exact s4
  (repeat' (first
   |(apply W.qd;(first
   |(exact zW (ht1))|(exact zW (ht2))|(exact zM)|(exact zN)|(exact jBf)|(exact jAu)|(apply q_quo;exact rfl;exact rfl;omega;omega;omega)
   |(apply q_rem;exact rfl;exact rfl;omega;omega)))|(apply yA)|(apply yB)|(refine jAb ?_)|(apply yE)|(apply yG)|(apply yH)|(apply yL)
   |(refine W.cond _ rfl (fun hb=>?_) (fun hb=>?_)<;>((try simp only [hb,zK])<;>(try simp only [zL,zI] at hb)<;>(try (exfalso;omega))))))
  ·exact ⟨(Gf.mul M (modN M) o x,Gf.mul M (modN M) x x,c / 2),⟨l1,l2,by dsimp only;omega,hodd (by omega)⟩,by dsimp only;omega,[],rfl,rfl,rfl,rfl,rfl,iV_eq (by dsimp only;omega),rfl,trivial⟩
  ·exact ⟨(o,Gf.mul M (modN M) x x,c / 2),⟨s1,l2,by dsimp only;omega,heven (by omega)⟩,by dsimp only;omega,[],rfl,rfl,rfl,rfl,rfl,iV_eq (by dsimp only;omega),rfl,trivial⟩
theorem all2 {M : Nat} {a : Nat} (hM : FldM M) (ha : a < 2 ^ M) : allF M [(a : Int)] = true:=by
 unfold allF
 rw [decide_eq_true (by unfold FldM at hM;omega)]
 simp [inF_lt hM ha]
theorem A_rmul {M : Nat} {a b : Nat} (hM : FldM M) (ha : a < 2 ^ M) (hb : b < 2 ^ M) : ACalls Tryz.prog 299 [iV M,iV a,iV b] [] (.tup [iV (Gf.mul M (modN M) a b : Nat),iV 0]) []:=by
 refine acalls_of_body Tryz.func299 rfl (zU rfl) ?_
 have h1:=A_rfvalid M a
 have h2:=A_rfvalid M b
 rw [all2 hM ha] at h1
 rw [all2 hM hb] at h2
 have hp:=A_times hM ha hb
 (repeat' (first
  |(apply yFb;exact rfl;exact rfl)
  |(apply W.qd;(first
  |(exact zW (h1))|(exact zW (h2))|(exact zW (hp))|(exact zM)|(exact zN)|(exact jBe)
  |(apply (yDb (u:=.d _));exact rfl;exact rfl)))|(apply yA)|(apply yB)|(refine jAb ?_)|(apply yE)|(apply yH)|(apply yJ)
  |(refine jAy ?_)))
 exact Ends.two rfl rfl rfl
theorem A_rinv {M : Nat} {a : Nat} (hM : FldM M) (ha : a < 2 ^ M) (h0 : a ≠ 0) : ACalls Tryz.prog 298 [iV M,iV a] [] (.tup [iV (invN M a : Nat),iV 0]) []:=by
 refine acalls_of_body Tryz.func298 rfl (zU rfl) ?_
 have g:=hM.gen
 have h1:=A_rfvalid M a
 rw [all2 hM ha] at h1
 have hpw:=hM.pow
 have hsh:=one_shl M
 have hp:=A_power hM ha (n:=2 ^ M - 2) (by omega)
 have hM16 : 1 ≤ M ∧ M ≤ 16:=by unfold FldM at hM;omega
 have hcap1 : ∀ s : Nat,s ≤ M → 1 <<< s < 9223372036854775808:=fun s hs=>by
  rw [one_shl]
  have:=Nat.pow_le_pow_right (show 0 < 2 by omega) hs
  omega
 have e : ((1 <<< M : Nat) : Int) - 2 = ((2 ^ M - 2 : Nat) : Int):=by rw [hsh];omega
 have hb : ((1 <<< M : Nat) : Int) ≤ 65536 ∧ 0 ≤ ((1 <<< M : Nat) : Int):=by rw [hsh];omega
 rw [← e] at hp
 (repeat' (first
  |(apply W.qd;(first
  |(exact zW (h1))|(exact zW (hp))|(exact zM)|(exact zN)|(exact jAu)|(exact jBe)|(exact q_sub rfl rfl (by omega))
  |(exact jAe)))|(apply yA)|(apply yB)|(refine jAb ?_)|(apply yE)|(apply yH)|(apply yJ)|(refine jAy ?_)
  |(refine W.cond _ rfl (fun hb=>?_) (fun hb=>?_)<;>((try simp only [hb,zK])<;>(try simp only [zL,zI] at hb)<;>(try (exfalso;omega))))))
 refine Ends.two rfl rfl ?_
 rw [invN_eq hM ha (Gf.pw_lt g ha _) (Gf.pw_inv g ha h0)]
 rfl
end
section
attribute [local irreducible] Quiet Eff OpOk AWPG ACont ABlock ACalls
def xorL (a b : List Nat) : List Nat:=List.zipWith (· ^^^ ·) a b
theorem xorL_get (a b : List Nat) (k : Nat) (h : k < (xorL a b).length) (ha : k < a.length) (hb : k < b.length) : (xorL a b)[k] = a[k] ^^^ b[k]:=by simp [xorL]
theorem isB_xor {a b : List Nat} (ha : isB a) (hb : isB b) : isB (xorL a b):=fun x hx=>by
 obtain ⟨k,hk,rfl⟩:=List.getElem_of_mem hx
 have h1 : k < a.length ∧ k < b.length:=by simp [xorL] at hk;omega
 rw [xorL_get a b k hk h1.1 h1.2]
 exact Nat.xor_lt_two_pow (n:=8) (ha _ (List.getElem_mem _)) (hb _ (List.getElem_mem _))
theorem f8 : FldM 8:=.inl rfl
def kD (n : Nat) : List Dat:=[.v (.int .i64 n)]
abbrev nats (l : List Nat) : AV:=.d (.sl 1 (l.map kD))
theorem nats_ints (l : List Nat) : nats l = ints (l.map fun n : Nat=>(n : Int)):=by
 show AV.d (.sl 1 (l.map kD)) = AV.d (.sl 1 ((l.map fun n : Nat=>(n : Int)).map iD))
 rw [List.map_map];rfl
def FitM (M n : Nat) : Prop:=M = 16 → n % 2 = 0
end
section
theorem Ends.cell1 {P : Program} {env : List (Nat × AV)} {own : List Ent} {p i : Nat} {tyc : TypeId} {l : List AV} {r : AV} (hx : look env p = .opt i 0) (ho : own[i]? = some (.box l)) (ht : tyInfo P tyc = some (true,l.length)) (hr : AV.frz own [] (.agg l) = r) : Ends P [.cell p tyc] r [] .ret ⟨env,own⟩ :=
 ⟨.inl rfl,[],[.agg l],rfl,⟨⟨i,l,true,hx,ho,ht,rfl⟩,trivial⟩,AVle.of_eq hr,rfl⟩
theorem frz_row {own : List Ent} {i ver n sz : Nat} {e : TypeId} {l : List (List Dat)} (ho : own[i]? = some (.row ver sz e l)) (hn : n = l.length) : AV.frz own [] (.osl i ver 0 n) = .d (.sl sz l):=by
 simp [AV.frz,plc,frzSl,ho,hn]
end
section
def AGoto (Q : Exit → St → Prop) : Exit → St → Prop
 | .goto _,_=>False
 | e,s=>Q e s
section
variable {P : Program} {n m : Nat} {Q : Exit → St → Prop} {s : St}
theorem AWP.label {Γ : Ctx} {l : Nat} (h : Q .normal s) : AWPG Γ P n m (.label l) Q s:=fun F W κ0 a κ w hH hm hs=>wpIn_label ⟨s,κ,h,hs⟩
theorem AWP.scope {c : Code} (h : AWP P n m c (AGoto Q) s) : AWP P n m (.scope c) Q s:=fun F W κ0 a κ w hH hm hs=>wpIn_wide.2 <| by
 refine wp_scope_straight (wp_mono (AWP.wp h F W κ0 a κ w hm hs) fun e a' w' he=>?_)
 obtain ⟨s',κ',hq,hs'⟩:=he
 cases e with
 | goto l=>exact hq.elim
 | _=>exact ⟨s',κ',hq,hs'⟩
theorem AGoto_ret (h : Q .ret s) : AGoto Q .ret s:=h
end
end
section
section
variable {Γ : Ctx} {P : Program} {n m : Nat} {Q : Exit → St → Prop} {env : List (Nat × AV)} {own own1 own2 : List Ent} {c : Code}
theorem AWP.nilBox {l l' : List AV} {q : Nat} (i k sz : Nat) (e : TypeId) (hi : own[i]? = some (.box l)) (hk : l[k]? = some (.d (.v (.slice none 0 0)))) (hs : 0 < sz) (hq : lenF own 0 = some q) (hl : l.set k (.osl q 0 0 0) = l')
 (h1 : pushF own (.row 0 sz e []) = some own1) (h2 : setF own1 i (.box l') = some own2) (hc : AWPG Γ P n m c Q ⟨env,own2⟩) : AWPG Γ P n m c Q ⟨env,own⟩:=fun F W κ0 a κ w hH hm hsim=>by
 have hle : m ≤ κ.length:=by rw [← hm];exact hsim.pre
 obtain ⟨g1,g2⟩:=step_push (m:=m) (x:=.row 0 sz e []) (og:=none) (w':=w) hle hsim.own rfl rfl rfl (Nat.le_refl _) (fun _ _=>rfl) (.inl rfl) (fun hst=>⟨hs,.inl ⟨rfl,rfl⟩⟩)
 have e1:=pushF_spec h1
 have e2:=setF_spec h2
 have e3:=lenF_spec hq
 rw [Nat.add_zero] at e3
 subst e1;subst e2;subst e3;subst hl
 have hio : i < own.length:=(List.getElem?_eq_some_iff.1 hi).1
 have hi' : (own ++ [Ent.row 0 sz e []])[i]? = some (.box l):=by rw [List.getElem?_append_left hio];exact hi
 obtain ⟨og,hog⟩:=g1.kap i _ hi'
 have hent:=g1.ent i _ hi'
 have e4 : (κ ++ [none]).getD i none = og:=by simp [List.getD_eq_getElem?_getD,hog]
 rw [e4] at hent
 rcases hent with ⟨_,h5⟩ | ⟨g,hg,cur,t,h5,h6,h7⟩
 ·rw [h5] at hk;cases k<;>simp at hk
 have hlen:=satL_length h6
 have hl6 : AV.satL F (own ++ [Ent.row 0 sz e []]) (κ ++ [none]) w (l.set k (.osl own.length 0 0 0)) cur.toList:=by
  refine satL_of (by rw [List.length_set];exact hlen) fun j x hx=>?_
  rw [List.getElem?_set] at hx
  by_cases hjk : k = j
  ·subst hjk
   rw [if_pos rfl] at hx
   split at hx
   ·obtain rfl : AV.osl own.length 0 0 0 = x := by simpa using hx
    obtain ⟨u,h8,h9⟩:=satL_get h6 k _ hk
    rw [sat_v] at h9
    refine ⟨u,h8,?_⟩
    subst h9
    rw [AV.sat]
    refine ⟨⟨.row 0 sz e [],by rw [List.getElem?_concat_length],Nat.le_refl _,rfl⟩,fun sz2 e2 c2 hcc=>?_⟩
    rw [List.getElem?_concat_length] at hcc
    obtain ⟨rfl,rfl,rfl⟩ : sz = sz2 ∧ e = e2 ∧ [] = c2:=by simpa using hcc
    refine ⟨by simp,none,0,rfl,Nat.le_refl _,by simp [maxLen],fun _=>.inr ⟨?_,rfl,rfl⟩⟩
    have hl : own.length = κ.length:=hsim.own.len
    rw [hl,List.getElem?_concat_length]
   ·cases hx
  ·rw [if_neg hjk] at hx
   exact satL_get h6 j x hx
 obtain ⟨g3,g4⟩:=step_upd (m:=m) (x':=.box (l.set k (.osl own.length 0 0 0))) (og:=og) (og':=og) (w':=w) g1 hi' hog rfl rfl rfl (Nat.le_refl _) (fun _ _ _=>rfl) (.inl rfl) (.inr rfl) (.inr rfl) (fun hst=>.inr ⟨g,hg,cur,t,h5,AV.satL_stab hst g1.kap _ hl6,h7⟩)
 have g5:=g2.trans g4
 exact hc F W κ0 a _ w hH hm (hsim.step hm g5 hsim.tm rfl (fun u=>g5.keep _ _ (hsim.env u)) g3)
end
section
variable {P : Program} {m : Nat} {env : List (Nat × AV)} {own : List Ent} {dst : Option Tmp} {ty : TypeId} {pos : String} {af : Array Edge} {gd : Option (Nat × Bool)}
theorem e_appN {α : Type} {f : α → List Dat} {l l2 : List α} {t e : TypeId} {sz by' : Nat} {z : Value} {x y : Operand} {p ver : Nat} {own' : List Ent} (hx : lookO env x = .osl p ver 0 l.length) (hp : own[p]? = some (.row ver sz e (l.map f))) (hy : lookO env y = .d (.sl sz (l2.map f))) (ho : setF own p (.row (ver + 1) sz e ((l ++ l2).map f)) = some own') (ht : slInfo P t = some (e, sz, by', z)) (hz : z.cells.size = sz) (hby : Nat.ble by' 1024 = true) (hm : Nat.ble 0 p = true)
 (hpos : 0 < l2.length) (hb : l.length + l2.length ≤ 1000000000) :
 Eff P m ⟨dst,.call ⟨.builtin .append,#[x,y],#[t,t]⟩,ty,pos,af,gd⟩ env own [p] (.osl p (ver + 1) 0 (l ++ l2).length) own':=by
 rw [List.map_append] at ho
 have:=e_appF (P:=P) (m:=m) (dst:=dst) (ty:=ty) (pos:=pos) (af:=af) (gd:=gd) hx hp hy ho ht hz hby hm (by simp) (by simpa using hpos) (by simpa using hb)
 rwa [List.length_map,List.length_map,← List.length_append] at this
end
end
section
section
variable {P : Program} {m : Nat} {env : List (Nat × AV)} {own : List Ent} {dst : Option Tmp} {ty : TypeId} {pos : String} {af : Array Edge} {gd : Option (Nat × Bool)}
theorem q_cap_nil {t : TypeId} {x : Operand} {A : Option Addr} {n c : Nat} (ht : isSl P t = true) (hx : lookO env x = .d (.v (.slice A n c))) :
 Quiet P m ⟨dst,.call ⟨.builtin .cap,#[x],#[t]⟩,ty,pos,af,gd⟩ env own [] (iV c) :=
 Quiet.val fun F own' κ a w hs _ hsame _=>by
  have h1:=hs x (by simp [Op.operands,Call.operands]);rw [hx,sat_v] at h1
  refine ⟨.int .i64 c,?_,sat_v.2 rfl⟩
  rw [exec_builtin]
  simp only [builtin]
  obtain ⟨e,he⟩:=isSl_spec ht
  exact exec_v (by simp [h1,Builtin.cap_,run_underlying he,goInt])
theorem q_slc_nil {t e : TypeId} {sz by' : Nat} {z : Value} {x : Operand} {lo hi : Option Operand} (hx : lookO env x = .d (.v (.slice none 0 0))) (ht : slInfo P t = some (e, sz, by', z)) (h1 : bnd env lo 0 0) (h2 : bnd env hi 0 0) :
 Quiet P m ⟨dst,.slice t x lo hi none,ty,pos,af,gd⟩ env own [] (.d (.v (.slice none 0 0))) :=
 Quiet.val fun F own' κ a w hs _ hsame _=>by
  have hh:=hs x (by simp [Op.operands]);rw [hx,sat_v] at hh
  obtain ⟨he,i,hi1,hi2,_,_⟩:=slInfo_spec ht
  have hb:=run_bounds (P:=P) (a:=a) (mx:=none) true (fun y hy=>hs y (mem_slice (x:=x) (t:=t) hy)) h1 h2 (show bnd env none 0 0 from rfl) (Nat.le_refl _) (Nat.le_refl _) (Nat.le_refl _) (.inl rfl)
  refine ⟨.slice none 0 0,exec_v ?_,sat_v.2 rfl⟩
  simp only [Option.map_none] at hb
  simp [hh,Instr.sliceAt,run_underlying he,Instr.slice,hb,sizeOf,typeInfo,hi1,hi2]
theorem q_app0 {t e : TypeId} {sz by' : Nat} {z : Value} {x y : Operand} {p ver n : Nat} {l : List (List Dat)} (hx : lookO env x = .osl p ver 0 n) (hp : own[p]? = some (.row ver sz e l)) (hy : lookO env y = .d (.sl sz [])) (ht : slInfo P t = some (e, sz, by', z)) :
 Quiet P m ⟨dst,.call ⟨.builtin .append,#[x,y],#[t,t]⟩,ty,pos,af,gd⟩ env own [p] (.osl p ver 0 n) :=
 Quiet.val fun F own' κ a w hs _ hsame _=>by
  have hx1:=hs x (by simp [Op.operands,Call.operands]);rw [hx] at hx1
  have hy1:=hs y (by simp [Op.operands,Call.operands]);rw [hy,AV.sat,Dat.sat] at hy1
  have hp' : own'[p]? = some (.row ver sz e l):=by rw [hsame p (by simp)];exact hp
  have hx2:=hx1
  rw [AV.sat] at hx2
  obtain ⟨h3,A,c,h4,h5,h6,h7⟩:=hx2.2 sz e l hp'
  obtain ⟨B,c2,hyv,_,_,_⟩:=hy1
  obtain ⟨he,inf,hi1,hi2,_,_⟩:=slInfo_spec ht
  refine ⟨.slice A n c,?_,by rw [← h4];exact hx1⟩
  refine run_builtin_append ?_
  rw [h4,hyv]
  have hf : (Builtin.firstCells inf.size 0 (.slice B 0 c2)).run P w = .ok #[] w:=by
   cases B with
   | none=>exact run_firstCells_none w inf.size 0 0 c2
   | some b=>exact run_firstCells_some w inf.size 0 b 0 c2 [] (by simp) (fun j v hj=>by simp at hj)
  cases A<;>simp [Builtin.append_,run_underlying he,sizeOf,typeInfo,hi1,Builtin.lenOf,h5,hf,storeCells]
theorem run_builtin_app2 {a : Act} {x y : Operand} {t t' : TypeId} {w w' : World} {v : Value} (h : (Builtin.append_ #[t, t'] ty #[a.eval x, a.eval y]).run P w = .ok v w') :
 (execOp a.eval ⟨dst,.call ⟨.builtin .append,#[x,y],#[t,t']⟩,ty,pos,af,gd⟩).run P w = .ok (.value v) w':=by
 rw [exec_builtin]
 simp only [builtin,List.map_toArray,List.map_cons,List.map_nil]
 exact exec_v h
def isIntT (P : Program) (t : TypeId) : Bool:=match P.underlying t with | some (.int _)=>true | _=>false
theorem isIntT_spec {t : TypeId} (h : isIntT P t = true) : ∃ k,P.underlying t = some (.int k):=by
 unfold isIntT at h
 split at h
 ·rename_i k hk;exact ⟨k,hk⟩
 ·cases h
theorem e_apz {t t' e : TypeId} {by' : Nat} {z : Value} {x y : Operand} {k : IntKind} {i : Int} {n q : Nat} {own' : List Ent} (hx : lookO env x = .d (.v (.slice none 0 0))) (hy : lookO env y = .d (.v (.int k i))) (hi : i = n) (hq : lenF own 0 = some q) (ht : slInfo P t = some (e, 1, by', z)) (ht' : isIntT P t' = true) (ho : pushF own (.row 0 1 e ((List.replicate n z).map fun z => [.v z])) = some own') (hz : z.cells = #[z]) (h1 : z.oneCell' = true) (hby : Nat.ble by' 1024 = true) (h0 : 0 < n) (hn : n ≤ 1000000000) :
 Eff P m ⟨dst,.call ⟨.builtin .append,#[x,y],#[t,t']⟩,ty,pos,af,gd⟩ env own [q] (.osl q 0 0 n) own':=by
 have e1:=lenF_spec hq
 rw [Nat.add_zero] at e1
 subst e1
 rw [pushF_spec ho]
 exact Eff.mk (push_same _) fun F κ a w hs ho hm=>by
  have hx1:=hs x (by simp [Op.operands,Call.operands]);rw [hx,sat_v] at hx1
  have hy1:=hs y (by simp [Op.operands,Call.operands]);rw [hy,sat_v] at hy1
  have hby:=Nat.le_of_ble_eq_true hby
  obtain ⟨he,inf,hi1,hsz,hb1,hzz⟩:=slInfo_spec ht
  obtain ⟨kn,hkn⟩:=isIntT_spec ht'
  have hbn : n * inf.bytes ≤ 281474976710656:=by
   have:=Nat.mul_le_mul hn (hb1 ▸ hby : inf.bytes ≤ 1024);omega
  have hrun:=Lib.run_append_nil_zeros (P:=P) w t t' ty e inf z k kn he hkn hi1 hzz n h0 (by omega) (by omega) hbn
  have hG:=grownCap_ge w n 0 e
  have hG2:=grownCap_le_maxLen w n 0 e (by unfold maxLen;omega)
  generalize grownCap w n 0 e = G at *
  rw [run_builtin_app2 (dst:=dst) (pos:=pos) (af:=af) (gd:=gd) (by rw [hx1,hy1,hi];exact hrun)]
  have hcur : ∀ j,j < n → (Builtin.zeroCells z.cells n ++ Builtin.zeroCells z.cells (G - n))[j]? = some z:=fun j hj=>by
   rw [hz]
   simp [Builtin.zeroCells,Array.getElem?_append,hj,Nat.mod_one]
  have hsize : (Builtin.zeroCells z.cells n ++ Builtin.zeroCells z.cells (G - n)).size = G:=by
   rw [hz];simp [Builtin.zeroCells];omega
  generalize Builtin.zeroCells z.cells n ++ Builtin.zeroCells z.cells (G - n) = cur at *
  have hh : (w.drew.alloc (.cells cur e)).heap[w.heap.size]? = some (.cells cur e (0,0)):=heap_alloc_new w.drew (.cells cur e)
  obtain ⟨g1,g2⟩:=step_push (x:=.row 0 1 e ((List.replicate n z).map fun z=>[.v z])) (og:=some w.heap.size) (w':=w.drew.alloc (.cells cur e)) hm ho rfl rfl rfl (by simp [World.alloc,World.drew,-World.drew_eq]) (fun b hb=>Below.heap_alloc w.drew _ _ hb) (.inr ⟨_,rfl,Nat.le_refl _,by simp [World.alloc,World.drew,-World.drew_eq]⟩) (fun hst =>
   ⟨Nat.zero_lt_one,.inr ⟨w.heap.size,rfl,cur,hh,by simp;omega,Dat.rowsSat_iff.2 fun j el hj=>by
    rw [List.getElem?_map,List.getElem?_replicate] at hj
    split at hj
    ·rename_i hjn
     obtain rfl : [Dat.v z] = el:=by simpa using hj
     refine ⟨rfl,Dat.rowSat_iff.2 fun j2 x2 hx2=>?_⟩
     cases j2 with
     | zero =>
       obtain rfl : Dat.v z = x2:=by simpa using hx2
       refine ⟨z,?_,h1,by rw [Dat.sat]⟩
       rw [cell_of_row _ _ _ cur e (0,0) hh]
       simpa using hcur j hjn
     | succ j2=>simp at hx2
    ·cases hj⟩⟩)
  refine ⟨κ ++ [some w.heap.size],?_,g1,g2⟩
  rw [AV.sat]
  refine ⟨⟨_,by rw [List.getElem?_concat_length],Nat.le_refl _,rfl⟩,fun sz2 e2 c2 hc=>?_⟩
  rw [List.getElem?_concat_length] at hc
  obtain ⟨rfl,rfl,rfl⟩ : 1 = sz2 ∧ e = e2 ∧ (List.replicate n z).map (fun z=>[Dat.v z]) = c2:=by simpa using hc
  refine ⟨by simp,some ⟨w.heap.size,0,none⟩,G,rfl,hG,hG2,fun _=>.inl ⟨w.heap.size,?_,by simp,cur,e,(0,0),hh,by omega⟩⟩
  rw [ho.len,List.getElem?_concat_length]
end
section
variable {Γ : Ctx} {P : Program} {n m : Nat} {Q : Exit → St → Prop} {env : List (Nat × AV)} {own own' : List Ent} {c : Code}
theorem AWP.shrink {ver sz : Nat} {e : TypeId} {l : List (List Dat)} (t p : Nat) (hx : look env t = .osl p ver 0 0) (hp : own[p]? = some (.row ver sz e l)) (hset : setF own p (.row (ver + 1) sz e []) = some own') (hc : AWPG Γ P n m c Q ⟨(t,.osl p (ver + 1) 0 0) :: env,own'⟩) : AWPG Γ P n m c Q ⟨env,own⟩:=fun F W κ0 a κ w hH hm hsim=>by
 have hset:=setF_spec hset
 subst hset
 have ho:=hsim.own
 obtain ⟨og,hog⟩:=ho.kap p _ hp
 obtain ⟨h0,hent⟩:=ho.ent p _ hp
 have e4 : κ.getD p none = og:=by simp [List.getD_eq_getElem?_getD,hog]
 rw [e4] at hent
 obtain ⟨g1,g2⟩:=step_upd (m:=m) (x':=.row (ver + 1) sz e []) (og:=og) (og':=og) (w':=w) ho hp hog rfl rfl rfl (Nat.le_refl _) (fun _ _ _=>rfl) (.inl rfl) (.inr rfl) (.inl (Nat.lt_succ_self _)) (fun hst=>⟨h0,by
  rcases hent with ⟨hx1,_⟩ | ⟨g,hg,cur,h8,h9,h10⟩
  ·exact .inl ⟨hx1,rfl⟩
  ·exact .inr ⟨g,hg,cur,h8,by simp,by simp [Dat.rowsSat]⟩⟩)
 refine hc F W κ0 a (κ.set p og) w hH hm (hsim.step hm g2 hsim.tm rfl (fun u=>?_) g1)
 simp only [look]
 by_cases hu : t = u
 ·subst hu
  rw [if_pos rfl]
  have hh:=hsim.env t
  rw [hx,AV.sat] at hh
  obtain ⟨h3,A,cc,h4,h5,h6,h7⟩:=hh.2 sz e l hp
  have hpl : p < own.length:=(List.getElem?_eq_some_iff.1 hp).1
  have hpk : p < κ.length:=(List.getElem?_eq_some_iff.1 hog).1
  have hown : (own.set p (.row (ver + 1) sz e []))[p]? = some (.row (ver + 1) sz e []):=by simp [hpl]
  rw [AV.sat]
  obtain ⟨_,_,_,h1c⟩:=hh.1
  refine ⟨⟨_,hown,Nat.le_refl _,h1c⟩,fun sz2 e2 c2 hcc=>?_⟩
  rw [hown] at hcc
  obtain ⟨rfl,rfl,rfl⟩ : sz = sz2 ∧ e = e2 ∧ [] = c2:=by simpa using hcc
  refine ⟨by simp,A,cc,h4,Nat.zero_le _,h6,fun _=>?_⟩
  rcases h7 (.inr rfl) with ⟨g,q1,q2,cur,e3,fz,q3,q4⟩ | ⟨q1,q2,q3⟩
  ·refine .inl ⟨g, ?_, q2, cur, e3, fz, q3, q4⟩
   rw [List.getElem?_set,if_pos rfl,if_pos hpk,← hog,q1]
  ·refine .inr ⟨?_, q2, q3⟩
   rw [List.getElem?_set,if_pos rfl,if_pos hpk,← hog,q1]
 ·rw [if_neg hu];exact g2.keep _ _ (hsim.env u)
end
end
end Go.Proofs.YtplpgijpmgbaiaaGreatDoor
