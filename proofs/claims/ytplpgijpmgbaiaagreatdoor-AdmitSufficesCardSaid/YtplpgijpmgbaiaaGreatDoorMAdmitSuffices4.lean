import Derived.Test.YtplpgijpmgbaiaaGreatDoorMAdmitSuffices3
import Derived.Test.YtplpgijpmgbaiaaGreatDoorProg
import Derived.Test.YtplpgijpmgbaiaaGreatDoorRows
import Derived.WalkKit
/- Joined texts: Open10 Fld8 Rf0 Lw1 La1 La2 La3 La4 La5 La6 La7 Ds1 Ds2 Rf1 Rf2 Rp3 Xp1 Xp2 Xp3 Xp4 Xp5 Xp6 Xp7 Lw9 Lw10a Ch2 Ch4 Ds3. -/
set_option linter.unusedVariables false
set_option linter.unusedSimpArgs false
namespace Go.Proofs.YtplpgijpmgbaiaaGreatDoor
open Go.RowKit
set_option maxHeartbeats 4000000
set_option maxRecDepth 100000
section
open Go.ChangeShapes Go.WideShapes Go.ChangeAt Go.RowKit
section
variable {H : Type} {enc : TypeId × Value → H} {P : Program} {w : World} {base : Nat} {spare : Nat → Bool} {held : Bool}
def OpensTo (enc : TypeId × Value → H) (P : Program) (w : World) (base : Nat) (spare : Nat → Bool) (held : Bool) (t : TypeId) (k : Nat) {α : Type} (f : α → List Dat) (ok : α → Prop) : Prop :=
 ∀ (fuel : Nat) (cs : List Value) (x : DataW H × List MemPlace), DataW.trod enc P w base spare held fuel t cs = some x →
  ∃ a,ok a ∧ (f a).length = k ∧ ∀ (j : Nat) (y : Dat),(f a)[j]? = some y → ∃ u,cs[j]? = some u ∧ u.oneCell' = true ∧ Dat.sat (badK (fun _=>False) []) w y u
theorem opens_to0 {t : TypeId} : OpensTo enc P w base spare held t 0 (fun _ : Unit=>[]) (fun _=>True):=fun fuel cs x hx =>
 ⟨(),trivial,rfl,fun j y hy=>by simp at hy⟩
theorem opens_toS {t : TypeId} {fs : Array Field} {k m : Nat} (i : Nat) {fd : Field} {α β : Type} {f : α → List Dat} {g : β → List Dat} {okf : α → Prop} {okg : β → Prop} (ht : P.underlying t = some (.struct fs)) (h : OpensTo enc P w base spare held t k f okf) (hi : fs[i]? = some fd) (ho : fd.offset = k) (hc : P.cellsOf fd.type = m) (hn : k + m ≤ P.cellsOf t)
 (hg : Opens enc P w base spare held fd.type g okg) : OpensTo enc P w base spare held t (k + m) (fun p : α × β=>f p.1 ++ g p.2) (fun p=>okf p.1 ∧ okg p.2):=fun fuel cs x hx=>by
 obtain ⟨a,h1,h2,h3⟩:=h fuel cs x hx
 obtain ⟨y,n,hy⟩:=open_field ht hx i fd hi
 obtain ⟨_,_,_,_,hl,_,_⟩:=DataW.trod_struct ht hx
 obtain ⟨b,k1,k2,k3⟩:=hg n _ y hy
 rw [ho,hc] at k2 k3
 have hlen : ((cs.drop k).take m).length = m:=by rw [List.length_take,List.length_drop];omega
 refine ⟨(a,b),⟨h1,k1⟩,by show (f a ++ g b).length = _;rw [List.length_append,h2,k2,hlen],fun j y hy=>?_⟩
 have hy : (f a ++ g b)[j]? = some y:=hy
 by_cases hj : j < k
 ·rw [List.getElem?_append_left (by omega)] at hy
  exact h3 j y hy
 ·rw [List.getElem?_append_right (by omega), h2] at hy
  obtain ⟨u,q1,q2,q3⟩:=k3 _ y hy
  refine ⟨u,?_,q2,q3⟩
  have hjm : j - k < m:=by
   have:=(List.getElem?_eq_some_iff.1 hy).1
   omega
  rw [List.getElem?_take,if_pos hjm,List.getElem?_drop] at q1
  rw [← q1]
  congr 1
  omega
theorem opens_all {t : TypeId} {fs : Array Field} {k : Nat} {α : Type} {f : α → List Dat} {ok : α → Prop} (ht : P.underlying t = some (.struct fs)) (hc : P.cellsOf t = k) (h : OpensTo enc P w base spare held t k f ok) : Opens enc P w base spare held t f ok:=fun fuel cs x hx=>by
 obtain ⟨a,h1,h2,h3⟩:=h fuel cs x hx
 obtain ⟨_,_,_,_,hl,_,_⟩:=DataW.trod_struct ht hx
 exact ⟨a,h1,by omega,h3⟩
theorem opens_map {t : TypeId} {α β : Type} {f : α → List Dat} {ok : α → Prop} (h : Opens enc P w base spare held t f ok) (φ : α → β) {g : β → List Dat} {okg : β → Prop} (he : ∀ a,ok a → g (φ a) = f a ∧ okg (φ a)) : Opens enc P w base spare held t g okg:=fun fuel cs x hx=>by
 obtain ⟨a,h1,h2,h3⟩:=h fuel cs x hx
 refine ⟨φ a,(he a h1).2,by rw [(he a h1).1];exact h2,by rw [(he a h1).1];exact h3⟩
theorem opens_agg {t : TypeId} {α : Type} {f : α → List Dat} {ok : α → Prop} {cs : List Value} {d : DataW H} {ps : List MemPlace} (h : Opens enc P w base spare held t f ok) (hv : (Value.agg cs.toArray).cells.toList = cs) (hx : DataW.Trod enc P w base spare held t (.agg cs.toArray) d ps) : ∃ a,ok a ∧ AV.sat (fun _=>False) [] [] w (.agg ((f a).map .d)) (.agg cs.toArray):=by
 obtain ⟨fuel,hf⟩:=hx
 rw [hv] at hf
 obtain ⟨a,h1,h2,h3⟩:=h fuel cs _ hf
 refine ⟨a,h1,?_⟩
 rw [AV.sat]
 refine ⟨_,rfl,satL_of (by simp [h2]) fun j x hj=>?_⟩
 rw [List.getElem?_map] at hj
 cases hy : (f a)[j]? with
 | none=>rw [hy] at hj;cases hj
 | some y =>
   rw [hy] at hj
   obtain rfl : AV.d y = x:=by simpa using hj
   obtain ⟨u,q1,q2,q3⟩:=h3 j y hy
   exact ⟨u,by simpa using q1,by rw [AV.sat];exact q3⟩
end
end
section
open Go.ChangeShapes Go.WideShapes Go.ChangeAt Go.RowKit
section
variable {H : Type} {enc : TypeId × Value → H} {w : World} {base : Nat} {spare : Nat → Bool} {held : Bool}
theorem cellsI : Tryz.prog.cellsOf 3 = 1:=by kernel_rfl
theorem cells125 : Tryz.prog.cellsOf 341 = 2:=by kernel_rfl
theorem cells126 : Tryz.prog.cellsOf 342 = 4:=by kernel_rfl
theorem two_cells {fuel : Nat} {c0 c1 : Value} {a b : Int} {q : List MemPlace} (h : DataW.trod enc Tryz.prog w base spare held fuel 341 [c0,c1] = some (.agg [.lit (.int .i64 a),.lit (.int .i64 b)],q)) : c0 = .int .i64 a ∧ c1 = .int .i64 b:=by
 obtain ⟨xs,n,_,hx,_,hlen,hg⟩:=DataW.trod_struct Tryz.underlying341 h
 have h0:=hg 0 _ rfl
 have h1:=hg 1 _ rfl
 obtain ⟨y0,y1,rfl⟩ : ∃ y0 y1,xs = [y0,y1]:=by
  match xs,hlen with
  | [y0,y1],_=>exact ⟨_,_,rfl⟩
 replace h0 : DataW.trod enc Tryz.prog w base spare held n 3 [c0] = some y0:=by
  have e : List.take (Tryz.prog.cellsOf 3) [c0,c1] = [c0]:=by rw [cellsI];rfl
  rw [← e];exact h0
 replace h1 : DataW.trod enc Tryz.prog w base spare held n 3 [c1] = some y1:=by
  have e : List.take (Tryz.prog.cellsOf 3) [c1] = [c1]:=by rw [cellsI];rfl
  rw [← e];exact h1
 obtain ⟨m0,g0,e0,_⟩:=DataW.trod_int Tryz.underlying3 h0
 obtain ⟨m1,g1,e1,_⟩:=DataW.trod_int Tryz.underlying3 h1
 subst e0;subst e1
 obtain ⟨hx1,_⟩:=Prod.mk.inj hx
 simp only [List.map_cons,List.map_nil,DataW.agg.injEq,List.cons.injEq,DataW.lit.injEq,Lit.int.injEq,and_true,true_and] at hx1
 obtain ⟨rfl,rfl⟩:=hx1
 simp only [List.cons.injEq,and_true] at g0 g1
 exact ⟨g0,g1⟩
theorem fields_cells {fuel : Nat} {cs : Array Value} {q : List MemPlace} (h : DataW.trod enc Tryz.prog w base spare held fuel 342 cs.toList = some (Rows.laid_solvent_field_fields,q)) : cs = #[.int .i64 8,.int .i64 285,.int .i64 16,.int .i64 69643]:=by
 obtain ⟨xs,m,_,hx,hcl,hlen,hg⟩:=DataW.trod_array Tryz.underlying342 h
 obtain ⟨l⟩:=cs
 obtain ⟨c0,c1,c2,c3,rfl⟩:=list4 (hcl.trans cells126)
 have h0:=hg 0 (by decide)
 have h1:=hg 1 (by decide)
 obtain ⟨y0,y1,rfl⟩ : ∃ y0 y1,xs = [y0,y1]:=by
  match xs,hlen with
  | [y0,y1],_=>exact ⟨_,_,rfl⟩
 rw [cells125] at h0 h1
 replace h0 : DataW.trod enc Tryz.prog w base spare held m 341 [c0,c1] = some y0:=h0
 replace h1 : DataW.trod enc Tryz.prog w base spare held m 341 [c2,c3] = some y1:=h1
 obtain ⟨hx1,_⟩:=Prod.mk.inj hx
 unfold Rows.laid_solvent_field_fields at hx1
 simp only [List.map_cons,List.map_nil,DataW.agg.injEq,List.cons.injEq,and_true] at hx1
 obtain ⟨y00,y01⟩:=y0
 obtain ⟨y10,y11⟩:=y1
 obtain ⟨r0,r1⟩:=hx1
 dsimp only at r0 r1
 subst r0;subst r1
 obtain ⟨rfl,rfl⟩:=two_cells h0
 obtain ⟨rfl,rfl⟩:=two_cells h1
 rfl
theorem satL_cons {F : Nat → Prop} {own : List Ent} {κ : List (Option Nat)} {x : AV} {v : Value} {l : List AV} {vs : List Value} (h : AV.sat F own κ w x v) (hl : AV.satL F own κ w l vs) : AV.satL F own κ w (x :: l) (v :: vs):=by
 rw [AV.satL];exact ⟨h,hl⟩
theorem satL_nil {F : Nat → Prop} {own : List Ent} {κ : List (Option Nat)} : AV.satL F own κ w [] []:=by rw [AV.satL];trivial
end
end
section
set_option linter.unusedSectionVars false
theorem ACalls.le {P : Program} {f : FuncId} {args args' : List AV} {r : AV} {own own' : List Ent} (h : ACalls P f args own r own') (hle : ∀ F κ w vs,AV.satL F own κ w args' vs → AV.satL F own κ w args vs) : ACalls P f args' own r own':=fun F κ w vs ho hsat=>h F κ w vs ho (hle F κ w vs hsat)
theorem satL_le1 {x x' : AV} {l : List AV} (h : ∀ F own κ w u,AV.sat F own κ w x' u → AV.sat F own κ w x u) : ∀ F own κ w vs,AV.satL F own κ w (x' :: l) vs → AV.satL F own κ w (x :: l) vs:=fun F own κ w vs hs=>by
 cases vs with
 | nil=>simp [AV.satL] at hs
 | cons v vs =>
   rw [AV.satL] at hs ⊢
   exact ⟨h _ _ _ _ _ hs.1,hs.2⟩
attribute [local irreducible] Quiet Eff OpOk AWPG ACont ABlock ACalls AGoto
end
section
def hv0 : List Bool:=[true,false,false,false,true]
attribute [local irreducible] Quiet Eff OpOk AWPG ACont ABlock ACalls AGoto
end
section
set_option linter.unusedSectionVars false
abbrev mu (M a b : Nat) : Nat:=Gf.mul M (modN M) a b
section
variable {M : Nat} (hM : FldM M)
theorem mu_xor (a b c : Nat) : mu M a (b ^^^ c) = mu M a b ^^^ mu M a c:=Gf.mul_xor a b c
theorem xor_mu (a b c : Nat) : mu M (a ^^^ b) c = mu M a c ^^^ mu M b c:=Gf.xor_mul a b c
theorem mu_zero (a : Nat) : mu M a 0 = 0:=Gf.mul_zero a
theorem zero_mu (a : Nat) : mu M 0 a = 0:=Gf.zero_mul a
include hM
theorem mu_lt {a : Nat} (ha : a < 2 ^ M) (b : Nat) : mu M a b < 2 ^ M:=Gf.mul_lt (FldM.gen hM).hm (FldM.gen hM).top (FldM.gen hM).lt ha b
theorem mu_one {a : Nat} (ha : a < 2 ^ M) : mu M a 1 = a:=Gf.mul_one (FldM.gen hM).hm ha
theorem one_mu {a : Nat} (ha : a < 2 ^ M) : mu M 1 a = a:=Gf.one_mul ha
theorem mu_comm {a b : Nat} (ha : a < 2 ^ M) (hb : b < 2 ^ M) : mu M a b = mu M b a:=Gf.mul_comm ha hb
theorem mu_assoc {a b c : Nat} (ha : a < 2 ^ M) (hb : b < 2 ^ M) (hc : c < 2 ^ M) : mu M (mu M a b) c = mu M a (mu M b c):=Gf.mul_assoc (FldM.gen hM).hm (FldM.gen hM).top (FldM.gen hM).lt ha hb hc
theorem inv_mu {a : Nat} (h0 : a ≠ 0) (ha : a < 2 ^ M) : mu M (invN M a) a = 1 ∧ mu M a (invN M a) = 1:=by
 obtain ⟨b,h1,_,h3⟩:=(FldM.gen hM).inv h0 ha
 have e:=invN_eq hM ha h1 h3
 rw [e]
 exact ⟨by rw [mu_comm hM h1 ha];exact h3,h3⟩
end
theorem xor_lt' {M a b : Nat} (ha : a < 2 ^ M) (hb : b < 2 ^ M) : a ^^^ b < 2 ^ M:=Nat.xor_lt_two_pow ha hb
theorem xor_self_cancel (a b : Nat) : (a ^^^ b) ^^^ b = a:=by rw [Nat.xor_assoc,Nat.xor_self,Nat.xor_zero]
theorem eq_of_xor {a b : Nat} (h : a ^^^ b = 0) : a = b:=by
 have : (a ^^^ b) ^^^ b = 0 ^^^ b:=by rw [h]
 rwa [xor_self_cancel,Nat.zero_xor] at this
def sg (f : Nat → Nat) : Nat → Nat
 | 0=>0
 | n + 1=>sg f n ^^^ f n
theorem sg_congr {f g : Nat → Nat} : ∀ n, (∀ i, i < n → f i = g i) → sg f n = sg g n
 | 0,_=>rfl
 | n + 1,h=>by rw [sg,sg,sg_congr n (fun i hi=>h i (by omega)),h n (by omega)]
theorem sg_zero (n : Nat) : sg (fun _=>0) n = 0:=by
 induction n with
 | zero=>rfl
 | succ n ih=>rw [sg,ih,Nat.xor_zero]
theorem sg_xor (f g : Nat → Nat) (n : Nat) : sg (fun i=>f i ^^^ g i) n = sg f n ^^^ sg g n:=by
 induction n with
 | zero=>simp [sg]
 | succ n ih=>rw [sg,sg,sg,ih];exact Gf.xor4 _ _ _ _
theorem sg_mu {M : Nat} (c : Nat) (f : Nat → Nat) (n : Nat) : mu M c (sg f n) = sg (fun i=>mu M c (f i)) n:=by
 induction n with
 | zero=>exact mu_zero c
 | succ n ih=>rw [sg,sg,mu_xor,ih]
theorem sg_one {f : Nat → Nat} {k : Nat} : ∀ n, (∀ i, i < n → i ≠ k → f i = 0) → sg f n = if k < n then f k else 0
 | 0,_=>by simp [sg]
 | n + 1,h=>by
   rw [sg,sg_one n (fun i hi=>h i (by omega))]
   by_cases e : n = k
   ·subst e;rw [if_neg (by omega),if_pos (by omega),Nat.zero_xor]
   ·rw [h n (by omega) e, Nat.xor_zero]
    by_cases hk : k < n
    ·rw [if_pos hk,if_pos (by omega)]
    ·rw [if_neg hk,if_neg (by omega)]
def Vc (M D : Nat) (v : Nat → Nat) : Prop:=∀ x,x < D → v x < 2 ^ M
inductive Sp (M D : Nat) (S : (Nat → Nat) → Prop) : (Nat → Nat) → Prop
 | zero {v : Nat → Nat} (h : ∀ x,x < D → v x = 0) : Sp M D S v
 | step {u s v : Nat → Nat} {c : Nat} (hu : Sp M D S u) (hs : S s) (hc : c < 2 ^ M) (h : ∀ x,x < D → v x = u x ^^^ mu M c (s x)) : Sp M D S v
section
variable {M D : Nat} {S S' : (Nat → Nat) → Prop} {u v s : Nat → Nat}
theorem Sp.congr (h : Sp M D S u) (e : ∀ x,x < D → v x = u x) : Sp M D S v:=by
 cases h with
 | zero h=>exact .zero fun x hx=>by rw [e x hx,h x hx]
 | step hu hs hc h=>exact .step hu hs hc fun x hx=>by rw [e x hx,h x hx]
theorem Sp.add (hu : Sp M D S u) (hv : Sp M D S v) : Sp M D S (fun x=>u x ^^^ v x):=by
 induction hv with
 | zero h=>exact hu.congr fun x hx=>by rw [h x hx,Nat.xor_zero]
 | step h1 hs hc h ih=>exact .step ih hs hc fun x hx=>by rw [h x hx,Nat.xor_assoc]
theorem Sp.smul (hM : FldM M) (hS : ∀ s,S s → Vc M D s) {c : Nat} (hc : c < 2 ^ M) (hu : Sp M D S u) : Sp M D S (fun x=>mu M c (u x)):=by
 induction hu with
 | zero h=>exact .zero fun x hx=>by rw [h x hx,mu_zero]
 | step h1 hs hc2 h ih=>exact .step ih hs (mu_lt hM hc _) fun x hx=>by rw [h x hx,mu_xor,mu_assoc hM hc hc2 (hS _ hs x hx)]
theorem Sp.of (hM : FldM M) (hS : ∀ s,S s → Vc M D s) (hs : S s) : Sp M D S s :=
 .step (.zero (v:=fun _=>0) fun _ _=>rfl) hs (one_lt hM) fun x hx=>by rw [Nat.zero_xor,one_mu hM (hS s hs x hx)]
theorem Sp.trans (hM : FldM M) (hS' : ∀ s,S' s → Vc M D s) (h : ∀ s,S s → Sp M D S' s) (hv : Sp M D S v) : Sp M D S' v:=by
 induction hv with
 | zero h=>exact .zero h
 | step h1 hs hc h2 ih=>exact (ih.add ((h _ hs).smul hM hS' hc)).congr h2
theorem Sp.mono (h : ∀ s,S s → S' s) (hv : Sp M D S v) : Sp M D S' v:=by
 induction hv with
 | zero h=>exact .zero h
 | step h1 hs hc h2 ih=>exact .step ih (h _ hs) hc h2
theorem Sp.vc (hM : FldM M) (hS : ∀ s,S s → Vc M D s) (hv : Sp M D S v) : Vc M D v:=by
 induction hv with
 | zero h=>exact fun x hx=>by rw [h x hx];exact Nat.two_pow_pos M
 | step h1 hs hc h2 ih=>exact fun x hx=>by rw [h2 x hx];exact xor_lt' (ih x hx) (mu_lt hM hc _)
theorem Sp.vanish {x : Nat} (hx : x < D) (h : ∀ s,S s → s x = 0) (hv : Sp M D S v) : v x = 0:=by
 induction hv with
 | zero h=>exact h x hx
 | step h1 hs hc h2 ih=>rw [h2 x hx,ih,h _ hs,mu_zero,Nat.xor_zero]
theorem Sp.sum (hM : FldM M) (hS : ∀ s, S s → Vc M D s) {c : Nat → Nat} {w : Nat → Nat → Nat} : ∀ n, (∀ j, j < n → c j < 2 ^ M ∧ Sp M D S (w j)) → Sp M D S (fun x => sg (fun j => mu M (c j) (w j x)) n)
 | 0,_=>.zero fun _ _=>rfl
 | n + 1,h=>(Sp.sum hM hS n fun j hj=>h j (by omega)).add ((h n (by omega)).2.smul hM hS (h n (by omega)).1)
theorem Sp.split {r : Nat → Nat} (h : Sp M D (fun s=>s = r ∨ S s) v) : ∃ c u,c < 2 ^ M ∧ Sp M D S u ∧ ∀ x,x < D → v x = u x ^^^ mu M c (r x):=by
 induction h with
 | zero h=>exact ⟨0,fun _=>0,Nat.two_pow_pos M,.zero fun _ _=>rfl,fun x hx=>by rw [h x hx,zero_mu,Nat.xor_zero]⟩
 | step h1 hs hc h2 ih =>
   obtain ⟨c0,u0,e1,e2,e3⟩:=ih
   rcases hs with rfl | hs
   ·exact ⟨_,u0,xor_lt' e1 hc,e2,fun x hx=>by rw [h2 x hx,e3 x hx,xor_mu,Nat.xor_assoc]⟩
   ·refine ⟨c0, _, e1, .step e2 hs hc fun x hx => rfl, fun x hx => ?_⟩
    rw [h2 x hx,e3 x hx,Nat.xor_assoc,Nat.xor_assoc,Nat.xor_comm (mu M c0 _)]
end
end
section
set_option linter.unusedSectionVars false
structure Iso (M D : Nat) (T S : (Nat → Nat) → Nat → Nat) : Prop where
 congr : ∀ u v,(∀ i,i < D → u i = v i) → ∀ i,i < D → T u i = T v i
 congrS : ∀ u v,(∀ i,i < D → u i = v i) → ∀ i,i < D → S u i = S v i
 lt : ∀ v,Vc M D v → Vc M D (T v)
 ltS : ∀ v,Vc M D v → Vc M D (S v)
 add : ∀ u v i,i < D → T (fun k=>u k ^^^ v k) i = T u i ^^^ T v i
 smul : ∀ c v,c < 2 ^ M → Vc M D v → ∀ i,i < D → T (fun k=>mu M c (v k)) i = mu M c (T v i)
 ts : ∀ v,Vc M D v → ∀ i,i < D → T (S v) i = v i
 st : ∀ v,Vc M D v → ∀ i,i < D → S (T v) i = v i
theorem Iso.id (M D : Nat) : Iso M D (fun v=>v) (fun v=>v):=⟨fun _ _ h=>h,fun _ _ h=>h,fun _ h=>h,fun _ h=>h,fun _ _ _ _=>rfl,fun _ _ _ _ _ _=>rfl,fun _ _ _ _=>rfl,fun _ _ _ _=>rfl⟩
section
variable {M D : Nat} {T S T' S' : (Nat → Nat) → Nat → Nat}
theorem Iso.comp (h' : Iso M D T' S') (h : Iso M D T S) : Iso M D (fun v => T' (T v)) (fun v => S (S' v)) where
 congr u v e:=h'.congr _ _ (h.congr u v e)
 congrS u v e:=h.congrS _ _ (h'.congrS u v e)
 lt v hv:=h'.lt _ (h.lt v hv)
 ltS v hv:=h.ltS _ (h'.ltS v hv)
 add u v i hi:=by
  rw [h'.congr _ _ (fun k hk=>h.add u v k hk) i hi]
  exact h'.add _ _ i hi
 smul c v hc hv i hi:=by
  rw [h'.congr _ _ (fun k hk=>h.smul c v hc hv k hk) i hi]
  exact h'.smul c _ hc (h.lt v hv) i hi
 ts v hv i hi:=by
  rw [h'.congr _ _ (fun k hk=>h.ts _ (h'.ltS v hv) k hk) i hi]
  exact h'.ts v hv i hi
 st v hv i hi:=by
  rw [h.congrS _ _ (fun k hk=>h'.st _ (h.lt v hv) k hk) i hi]
  exact h.st v hv i hi
theorem Iso.zero (h : Iso M D T S) {v : Nat → Nat} (hv : ∀ i,i < D → v i = 0) (i : Nat) (hi : i < D) : T v i = 0:=by
 have h1:=h.add v v i hi
 rw [Nat.xor_self] at h1
 rw [← h1]
 exact h.congr _ _ (fun k hk=>by rw [hv k hk,Nat.xor_self]) i hi
theorem Iso.sum (h : Iso M D T S) {c : Nat → Nat} {w : Nat → Nat → Nat} : ∀ n, (∀ j, j < n → c j < 2 ^ M ∧ Vc M D (w j)) → ∀ i, i < D → T (fun x => sg (fun j => mu M (c j) (w j x)) n) i = sg (fun j => mu M (c j) (T (w j) i)) n
 | 0,_,i,hi=>h.zero (fun _ _=>rfl) i hi
 | n + 1,hc,i,hi=>by
   show T (fun x=>sg (fun j=>mu M (c j) (w j x)) n ^^^ mu M (c n) (w n x)) i = _
   rw [h.add (fun x=>sg (fun j=>mu M (c j) (w j x)) n) (fun x=>mu M (c n) (w n x)) i hi,Iso.sum h n (fun j hj=>hc j (by omega)) i hi,h.smul _ _ (hc n (by omega)).1 (hc n (by omega)).2 i hi]
   rfl
theorem Iso.inj (h : Iso M D T S) {u v : Nat → Nat} (hu : Vc M D u) (hv : Vc M D v) (e : ∀ i,i < D → T u i = T v i) : ∀ i,i < D → u i = v i:=fun i hi=>by
 rw [← h.st u hu i hi,← h.st v hv i hi]
 exact h.congrS _ _ e i hi
theorem iso_swap {i k : Nat} (hi : i < D) (hk : k < D) : Iso M D (fun v r => if r = i then v k else if r = k then v i else v r) (fun v r => if r = i then v k else if r = k then v i else v r) where
 congr u v e r hr:=by
  (try dsimp only)
  split
  ·exact e k hk
  ·split
   ·exact e i hi
   ·exact e r hr
 congrS u v e r hr:=by
  (try dsimp only)
  split
  ·exact e k hk
  ·split
   ·exact e i hi
   ·exact e r hr
 lt v hv r hr:=by
  (try dsimp only)
  split
  ·exact hv k hk
  ·split
   ·exact hv i hi
   ·exact hv r hr
 ltS v hv r hr:=by
  (try dsimp only)
  split
  ·exact hv k hk
  ·split
   ·exact hv i hi
   ·exact hv r hr
 add u v r hr:=by
  (try dsimp only)
  split
  ·rfl
  ·split<;>rfl
 smul c v hc hv r hr:=by
  (try dsimp only)
  split
  ·rfl
  ·split<;>rfl
 ts v hv r hr:=by
  (try dsimp only)
  by_cases h1 : r = i
  ·subst h1
   by_cases h2 : k = r
   ·subst h2;simp
   ·simp [h2]
  ·by_cases h2 : r = k
   ·subst h2;simp [h1]
   ·simp [h1,h2]
 st v hv r hr:=by
  (try dsimp only)
  by_cases h1 : r = i
  ·subst h1
   by_cases h2 : k = r
   ·subst h2;simp
   ·simp [h2]
  ·by_cases h2 : r = k
   ·subst h2;simp [h1]
   ·simp [h1,h2]
theorem iso_scale (hM : FldM M) {p f g : Nat} (hp : p < D) (hf : f < 2 ^ M) (hg : g < 2 ^ M) (h1 : mu M f g = 1) : Iso M D (fun v r => if r = p then mu M f (v p) else v r) (fun v r => if r = p then mu M g (v p) else v r) where
 congr u v e r hr:=by
  show (if _ then _ else _) = if _ then _ else _
  split
  ·rw [e p hp]
  ·exact e r hr
 congrS u v e r hr:=by
  show (if _ then _ else _) = if _ then _ else _
  split
  ·rw [e p hp]
  ·exact e r hr
 lt v hv r hr:=by
  (try dsimp only)
  split
  ·exact mu_lt hM hf _
  ·exact hv r hr
 ltS v hv r hr:=by
  (try dsimp only)
  split
  ·exact mu_lt hM hg _
  ·exact hv r hr
 add u v r hr:=by
  (try dsimp only)
  split
  ·exact mu_xor _ _ _
  ·rfl
 smul c v hc hv r hr:=by
  (try dsimp only)
  split
  ·rw [← mu_assoc hM hf hc (hv p hp),mu_comm hM hf hc,mu_assoc hM hc hf (hv p hp)]
  ·rfl
 ts v hv r hr:=by
  (try dsimp only)
  by_cases h : r = p
  ·subst h
   rw [if_pos rfl,if_pos rfl,← mu_assoc hM hf hg (hv r hr),h1,one_mu hM (hv r hr)]
  ·rw [if_neg h,if_neg h]
 st v hv r hr:=by
  (try dsimp only)
  by_cases h : r = p
  ·subst h
   rw [if_pos rfl,if_pos rfl,← mu_assoc hM hg hf (hv r hr),mu_comm hM hg hf,h1,one_mu hM (hv r hr)]
  ·rw [if_neg h,if_neg h]
theorem iso_clear (hM : FldM M) {p : Nat} {g : Nat → Nat} (hp : p < D) (hg : ∀ r, r < D → g r < 2 ^ M) : Iso M D (fun v r => if r = p then v p else v r ^^^ mu M (g r) (v p)) (fun v r => if r = p then v p else v r ^^^ mu M (g r) (v p)) where
 congr u v e r hr:=by
  (try dsimp only)
  split
  ·exact e p hp
  ·rw [e r hr,e p hp]
 congrS u v e r hr:=by
  (try dsimp only)
  split
  ·exact e p hp
  ·rw [e r hr,e p hp]
 lt v hv r hr:=by
  (try dsimp only)
  split
  ·exact hv p hp
  ·exact xor_lt' (hv r hr) (mu_lt hM (hg r hr) _)
 ltS v hv r hr:=by
  (try dsimp only)
  split
  ·exact hv p hp
  ·exact xor_lt' (hv r hr) (mu_lt hM (hg r hr) _)
 add u v r hr:=by
  (try dsimp only)
  split
  ·rfl
  ·rw [mu_xor];exact Gf.xor4 _ _ _ _
 smul c v hc hv r hr:=by
  (try dsimp only)
  split
  ·rfl
  ·rw [mu_xor,← mu_assoc hM (hg r hr) hc (hv p hp),mu_comm hM (hg r hr) hc,mu_assoc hM hc (hg r hr) (hv p hp)]
 ts v hv r hr:=by
  (try dsimp only)
  by_cases h : r = p
  ·subst h;simp
  ·rw [if_neg h,if_neg h,if_pos rfl,xor_self_cancel]
 st v hv r hr:=by
  (try dsimp only)
  by_cases h : r = p
  ·subst h;simp
  ·rw [if_neg h,if_neg h,if_pos rfl,xor_self_cancel]
end
structure RedTo (M R C n : Nat) (L A : List Nat) (pv : List Nat) (T S : (Nat → Nat) → Nat → Nat) : Prop where
 iso : Iso M R T S
 col : ∀ c,c < C → ∀ r,r < R → gt C A r c = T (fun r=>gt C L r c) r
 piv : ∀ q,q < pv.length → pv.getD q 0 < n ∧ ∀ r,r < R → gt C A r (pv.getD q 0) = if r = q then 1 else 0
 inc : ∀ q q',q < q' → q' < pv.length → pv.getD q 0 < pv.getD q' 0
 low : ∀ j,j < n → ∀ r,r < R → gt C A r j ≠ 0 → r < pv.length ∧ pv.getD r 0 ≤ j
theorem getD_app {α : Type} (l : List α) (x d : α) (q : Nat) : (l ++ [x]).getD q d = if q < l.length then l.getD q d else if q = l.length then x else d:=by
 simp only [List.getD_eq_getElem?_getD]
 by_cases h : q < l.length
 ·rw [if_pos h,List.getElem?_append_left h]
 ·rw [if_neg h, List.getElem?_append_right (by omega)]
  by_cases e : q = l.length
  ·subst e;simp
  ·rw [if_neg e]
   have : q - l.length ≠ 0:=by omega
   obtain ⟨m,hm⟩:=Nat.exists_eq_succ_of_ne_zero this
   rw [hm];simp
theorem red_to {M R C : Nat} {L : List Nat} (hM : FldM M) (hn : L.length = R * C) (hL : ∀ x ∈ L, x < 2 ^ M) : ∀ n, n ≤ C → ∃ T S, RedTo M R C n L (red M R C L n).1 (red M R C L n).2 T S
 | 0,_=>⟨_,_,Iso.id M R,fun _ _ _ _=>rfl,fun q hq=>by simp [red] at hq,fun q q' _ hq=>by simp [red] at hq,fun j hj=>by omega⟩
 | n + 1,hnC=>by
   obtain ⟨T,S,ih⟩:=red_to hM hn hL n (by omega)
   have hok:=red_ok hM hn hL n
   rw [red]
   generalize red M R C L n = s at ih hok
   obtain ⟨A,pv⟩:=s
   have h1:=hok.len
   have h2:=hok.lt
   have h3:=hok.pr
   dsimp only at ih h1 h2 h3
   have hf:=findP_le n A (R - pv.length) pv.length (C:=C)
   have hs:=findP_spec (C:=C) (L:=A) n (R - pv.length) pv.length
   rw [redStep]
   dsimp only
   generalize findP C n A (R - pv.length) pv.length = i at hf hs
   have hAl : ∀ r c,gt C A r c < 2 ^ M:=fun r c=>getD_lt h2 _
   by_cases hiR : i = R
   ·rw [if_pos hiR]
    refine ⟨T,S,ih.iso,ih.col,fun q hq=>⟨Nat.lt_succ_of_lt (ih.piv q hq).1,(ih.piv q hq).2⟩,ih.inc,fun j hj r hr h0=>?_⟩
    by_cases hjn : j < n
    ·exact ih.low j hjn r hr h0
    ·have : j = n := by omega
     subst this
     by_cases hrp : r < pv.length
     ·exact ⟨hrp,Nat.le_of_lt (ih.piv r hrp).1⟩
     ·exact absurd (hs.1 r (by omega) (by omega)) h0
   ·rw [if_neg hiR]
    have hiR' : i < R:=by omega
    have hp : pv.length < R:=by omega
    have hne:=hs.2 (by omega)
    have hnC' : n < C:=by omega
    have s1 : ∀ r c,c < C → gt C (swapAt (i * C) (pv.length * C) A C) r c = if r = i then gt C A pv.length c else if r = pv.length then gt C A i c else gt C A r c:=fun r c hc=>gt_swap h1 hiR' hp hc
    have l1 : (swapAt (i * C) (pv.length * C) A C).length = R * C:=by rw [swapAt_length];exact h1
    have b1 : ∀ x ∈ swapAt (i * C) (pv.length * C) A C,x < 2 ^ M:=swapAt_lt _ _ h2 _
    have hx : gt C (swapAt (i * C) (pv.length * C) A C) pv.length n = gt C A i n:=by
     rw [s1 _ _ hnC']
     by_cases e : pv.length = i
     ·rw [if_pos e,e]
     ·rw [if_neg e,if_pos rfl]
    have hxe : (swapAt (i * C) (pv.length * C) A C).getD (pv.length * C + n) 0 = gt C A i n:=hx
    rw [hxe]
    generalize swapAt (i * C) (pv.length * C) A C = L1 at *
    have hxl:=hAl i n
    obtain ⟨v1,v2⟩:=inv_mu hM hne hxl
    have hvl : invN M (gt C A i n) < 2 ^ M:=invN_lt _
    generalize invN M (gt C A i n) = f at *
    generalize hxx : gt C A i n = x at *
    have s2 : ∀ r c,c < C → gt C (scaleAt M f (pv.length * C) L1 C) r c = if r = pv.length then mu M f (gt C L1 pv.length c) else gt C L1 r c:=fun r c hc=>gt_scale l1 hp hc
    have l2 : (scaleAt M f (pv.length * C) L1 C).length = R * C:=by rw [scaleAt_length];exact l1
    have b2 : ∀ y ∈ scaleAt M f (pv.length * C) L1 C,y < 2 ^ M:=scaleAt_lt hM hvl _ b1 _
    generalize scaleAt M f (pv.length * C) L1 C = L2 at *
    have s3 : ∀ r c,r < R → c < C → gt C (clearAt M C n pv.length L2 R) r c = if r = pv.length then gt C L2 pv.length c else gt C L2 r c ^^^ mu M (gt C L2 r n) (gt C L2 pv.length c):=fun r c hr hc=>gt_clear l2 hnC' hr hc
    generalize clearAt M C n pv.length L2 R = A2 at *
    have hg2 : ∀ r,r < R → gt C L2 r n < 2 ^ M:=fun r _=>getD_lt b2 _
    -- the column of an earlier pivot or of none: nothing changes there
    have keep : ∀ c,c < C → (∀ r,pv.length ≤ r → r < R → gt C A r c = 0) → ∀ r,r < R → gt C A2 r c = gt C A r c:=fun c hc hz r hr=>by
     have z1 : ∀ r,r < R → gt C L1 r c = gt C A r c:=fun r hr=>by
      rw [s1 r c hc]
      by_cases e1 : r = i
      ·rw [if_pos e1,e1,hz _ (Nat.le_refl _) hp,hz i (by omega) hiR']
      ·rw [if_neg e1]
       by_cases e2 : r = pv.length
       ·rw [if_pos e2,e2,hz _ (Nat.le_refl _) hp,hz i (by omega) hiR']
       ·rw [if_neg e2]
     have z2 : ∀ r,r < R → gt C L2 r c = gt C A r c:=fun r hr=>by
      rw [s2 r c hc]
      by_cases e2 : r = pv.length
      ·rw [if_pos e2,z1 _ hp,e2,hz _ (Nat.le_refl _) hp,mu_zero]
      ·rw [if_neg e2,z1 r hr]
     rw [s3 r c hr hc]
     by_cases e2 : r = pv.length
     ·rw [if_pos e2,e2,z2 _ hp]
     ·rw [if_neg e2,z2 r hr,z2 _ hp,hz _ (Nat.le_refl _) hp,mu_zero,Nat.xor_zero]
    have pivn : ∀ r,r < R → gt C A2 r n = if r = pv.length then 1 else 0:=fun r hr=>by
     have e0 : gt C L2 pv.length n = 1:=by rw [s2 _ _ hnC',if_pos rfl,hx];exact v1
     rw [s3 r n hr hnC',e0]
     by_cases e2 : r = pv.length
     ·rw [if_pos e2,if_pos e2]
     ·rw [if_neg e2,if_neg e2,mu_one hM (hg2 r hr),Nat.xor_self]
    have i1:=iso_swap (M:=M) (D:=R) hiR' hp
    have i2:=iso_scale (M:=M) (D:=R) hM hp hvl hxl v1
    have i3:=iso_clear (M:=M) (D:=R) hM hp hg2
    have i4:=(i3.comp (i2.comp i1)).comp ih.iso
    refine ⟨_,_,i4,fun c hc r hr=>?_,fun q hq=>?_,fun q q' hqq hq=>?_,fun j hj r hr h0=>?_⟩
    ·have e1 : ∀ k, k < R → gt C A k c = T (fun r => gt C L r c) k := ih.col c hc
     have:=(i3.comp (i2.comp i1)).congr _ _ e1 r hr
     rw [← this]
     rw [s3 r c hr hc,s2 _ _ hc,s2 _ _ hc,s1 _ _ hc,s1 _ _ hc]
    ·rw [List.length_append, List.length_singleton] at hq
     rw [getD_app]
     by_cases hq1 : q < pv.length
     ·rw [if_pos hq1]
      obtain ⟨q1,q2⟩:=ih.piv q hq1
      refine ⟨by omega,fun r hr=>?_⟩
      rw [keep _ (by omega) (fun r h4 h5=>by rw [q2 r h5,if_neg (by omega)]) r hr,q2 r hr]
     ·have : q = pv.length := by omega
      subst this
      rw [if_neg (by omega),if_pos rfl]
      exact ⟨by omega,pivn⟩
    ·rw [List.length_append, List.length_singleton] at hq
     rw [getD_app,getD_app,if_pos (by omega)]
     by_cases hq1 : q' < pv.length
     ·rw [if_pos hq1];exact ih.inc q q' hqq hq1
     ·rw [if_neg hq1, if_pos (by omega)]
      exact (ih.piv q (by omega)).1
    ·rw [List.length_append, List.length_singleton]
     by_cases hjn : j < n
     ·have hz : ∀ r,pv.length ≤ r → r < R → gt C A r j = 0:=fun r h4 h5=>by
       by_cases e : gt C A r j = 0
       ·exact e
       ·have:=(ih.low j hjn r h5 e).1;(try dsimp only at this);omega
      rw [keep j (by omega) hz r hr] at h0
      have:=ih.low j hjn r hr h0
      (try dsimp only at this)
      refine ⟨by omega,?_⟩
      rw [getD_app,if_pos this.1];exact this.2
     ·have : j = n := by omega
      subst this
      rw [pivn r hr] at h0
      have e : r = pv.length:=by
       by_cases e : r = pv.length
       ·exact e
       ·rw [if_neg e] at h0;exact absurd rfl h0
      subst e
      refine ⟨by omega,?_⟩
      rw [getD_app,if_neg (by omega),if_pos rfl]
      exact Nat.le_refl _
end
section
set_option linter.unusedSectionVars false
theorem gt_trAt {R C : Nat} {L B : List Nat} (hB : B.length = C * R) : ∀ n, n ≤ R * C → ∀ r c, r < R → c < C → gt R (trAt R C L B n) c r = if r * C + c < n then gt C L r c else gt R B c r
 | 0,_,r,c,_,_=>by rw [if_neg (by omega)];rfl
 | n + 1,hn,r,c,hr,hc=>by
   have ih:=gt_trAt (L:=L) hB n (by omega) r c hr hc
   have hC : 0 < C:=by omega
   have h1 : n % C < C:=Nat.mod_lt _ hC
   have h2 : n / C < R:=by
    rw [Nat.div_lt_iff_lt_mul hC];omega
   have h3 : n / C * C + n % C = n:=by rw [Nat.mul_comm];exact Nat.div_add_mod n C
   rw [trAt,gt_set (R:=C) (C:=R) (by rw [trAt_length];exact hB) h1 h2 hr,ih]
   by_cases e : c = n % C ∧ r = n / C
   ·obtain ⟨e1, e2⟩ := e
    rw [if_pos ⟨e1,e2⟩,if_pos (by rw [e1,e2,h3];omega)]
    show L.getD n 0 = L.getD (r * C + c) 0
    rw [e1,e2,h3]
   ·rw [if_neg e]
    have hne : r * C + c ≠ n:=fun h=>e (by
     rw [← h3] at h
     obtain ⟨a,b⟩:=idx_inj hc h1 h
     exact ⟨b,a⟩)
    by_cases hlt : r * C + c < n
    ·rw [if_pos hlt,if_pos (by omega)]
    ·rw [if_neg hlt,if_neg (by omega)]
theorem gt_tr {R C : Nat} {L : List Nat} {r c : Nat} (hr : r < R) (hc : c < C) : gt R (trN R C L) c r = gt C L r c:=by
 unfold trN
 rw [gt_trAt (by simp) _ (Nat.le_refl _) r c hr hc,if_pos (idx_lt hr hc)]
theorem gt_pick {R C : Nat} {l : List Nat} (hn : l.length = R * C) {c : Nat} (hc : c < C) : ∀ (is : List Nat), (∀ i ∈ is, i < R) → ∀ k, k < is.length → gt C (pickN C l is) k c = gt C l (is.getD k 0) c
 | [],_,k,hk=>by simp at hk
 | i :: is,h,k,hk=>by
   have hi:=h i (by simp)
   have h1:=Nat.mul_le_mul_right C (show i + 1 ≤ R from hi)
   rw [Nat.add_mul,Nat.one_mul] at h1
   have hl : ((l.drop (i * C)).take C).length = C:=by rw [List.length_take,List.length_drop];omega
   unfold gt
   rw [pickN,List.getD_eq_getElem?_getD]
   cases k with
   | zero =>
     rw [List.getElem?_append_left (by omega),Nat.zero_mul,Nat.zero_add,List.getElem?_take_of_lt hc,List.getElem?_drop]
     rfl
   | succ k =>
     rw [List.getElem?_append_right (by rw [hl,Nat.add_mul];omega),hl,show (k + 1) * C + c - C = k * C + c by rw [Nat.add_mul];omega]
     have:=gt_pick hn hc is (fun x hx=>h x (by simp [hx])) k (by simpa using hk)
     unfold gt at this
     rw [List.getD_eq_getElem?_getD] at this
     rw [this]
     rfl
def U (D : Nat) (gen : List Nat) (u : Nat) : Nat → Nat:=fun x=>gt D gen u x
theorem U_vc {M R D : Nat} {gen : List Nat} (h : MxOk M R D gen) (u : Nat) : Vc M D (U D gen u):=fun x _=>getD_lt h.e _
theorem pres_inc (hv : List Bool) (n : Nat) : (presAt hv n).Pairwise (· < ·):=List.Pairwise.filter _ List.pairwise_lt_range
theorem getD_inc {l : List Nat} (h : l.Pairwise (· < ·)) {q q' : Nat} (hq : q < q') (hq' : q' < l.length) : l.getD q 0 < l.getD q' 0:=by
 rw [List.getD_eq_getElem?_getD,List.getD_eq_getElem?_getD,List.getElem?_eq_getElem hq',List.getElem?_eq_getElem (show q < l.length by omega)]
 exact List.pairwise_iff_getElem.1 h q q' _ _ hq
theorem getD_mem {l : List Nat} {q : Nat} (h : q < l.length) : l.getD q 0 ∈ l:=by
 rw [List.getD_eq_getElem?_getD,List.getElem?_eq_getElem h]
 exact List.getElem_mem h
theorem mem_pres {hv : List Bool} {u : Nat} : u ∈ presN hv ↔ hv.getD u false = true:=by
 unfold presN presAt
 rw [List.mem_filter,List.mem_range]
 constructor
 ·exact fun h=>h.2
 ·intro h
  refine ⟨?_,h⟩
  by_cases hl : u < hv.length
  ·exact hl
  ·rw [List.getD_eq_getElem?_getD, List.getElem?_eq_none (by omega)] at h
   cases h
structure Bas (M D : Nat) (gen : List Nat) (hv : List Bool) (B : List Nat) (T S : (Nat → Nat) → Nat → Nat) : Prop where
 iso : Iso M D T S
 le : B.length ≤ D
 mem : ∀ q,q < B.length → hv.getD (B.getD q 0) false = true
 inc : ∀ q q',q < q' → q' < B.length → B.getD q 0 < B.getD q' 0
 unit : ∀ q,q < B.length → ∀ r,r < D → T (U D gen (B.getD q 0)) r = if r = q then 1 else 0
 low : ∀ u,hv.getD u false = true → ∀ r,r < D → T (U D gen u) r ≠ 0 → r < B.length ∧ B.getD r 0 ≤ u
theorem map_getD {α : Type} {f : Nat → α} {l : List Nat} {q : Nat} (d : α) (h : q < l.length) : (l.map f).getD q d = f (l.getD q 0):=by
 rw [List.getD_eq_getElem?_getD,List.getD_eq_getElem?_getD,List.getElem?_map,List.getElem?_eq_getElem h]
 rfl
theorem basis_to {M D : Nat} {ps : List (List Nat)} {hv : List Bool} (h : CodeOk M D ps) (hl : hv.length = D + ps.length) : ∃ T S,Bas M D (genN D ps) hv (basisN M D ps hv) T S:=by
 have hgok:=gen_ok h
 have hplt : ∀ x ∈ presN hv,x < D + ps.length:=fun x hx=>by have:=presAt_lt hx;omega
 have hpl : (presN hv).length ≤ 32:=by have:=presAt_length hv hv.length;have:=h.w;show (presAt hv hv.length).length ≤ 32;omega
 have hpk:=pick_ok hgok hplt hpl
 have hbl:=basis_len h hl
 have hcol : ∀ c,c < (presN hv).length → ∀ r,r < D → gt (presN hv).length (trN (presN hv).length D (pickN D (genN D ps) (presN hv))) r c = U D (genN D ps) ((presN hv).getD c 0) r:=fun c hc r hr=>by
  rw [gt_tr hc hr,gt_pick hgok.n hr _ hplt c hc]
  rfl
 obtain ⟨T,S,hr⟩:=red_to (M:=M) (R:=D) (C:=(presN hv).length) (L:=trN (presN hv).length D (pickN D (genN D ps) (presN hv))) h.f (trN_length _ _ _) (trN_lt hpk.e) (presN hv).length (Nat.le_refl _)
 have hB : basisN M D ps hv = (red M D (presN hv).length (trN (presN hv).length D (pickN D (genN D ps) (presN hv))) (presN hv).length).2.map fun j=>(presN hv).getD j 0:=rfl
 generalize (red M D (presN hv).length (trN (presN hv).length D (pickN D (genN D ps) (presN hv))) (presN hv).length).1 = A at *
 generalize (red M D (presN hv).length (trN (presN hv).length D (pickN D (genN D ps) (presN hv))) (presN hv).length).2 = pv at *
 have hBl : (basisN M D ps hv).length = pv.length:=by rw [hB,List.length_map]
 have hBq : ∀ q,q < pv.length → (basisN M D ps hv).getD q 0 = (presN hv).getD (pv.getD q 0) 0:=fun q hq=>by rw [hB];exact map_getD 0 hq
 have hT : ∀ c,c < (presN hv).length → ∀ r,r < D → T (U D (genN D ps) ((presN hv).getD c 0)) r = gt (presN hv).length A r c:=fun c hc r hr'=>by
  rw [hr.col c hc r hr']
  exact hr.iso.congr _ _ (fun k hk=>(hcol c hc k hk).symm) r hr'
 refine ⟨T,S,hr.iso,hbl,fun q hq=>?_,fun q q' h1 h2=>?_,fun q hq r hr'=>?_,fun u hu r hr' h0=>?_⟩
 ·rw [hBl] at hq
  rw [hBq q hq]
  exact mem_pres.1 (getD_mem (hr.piv q hq).1)
 ·rw [hBl] at h2
  rw [hBq q (by omega),hBq q' h2]
  exact getD_inc (pres_inc hv _) (hr.inc q q' h1 h2) (hr.piv q' h2).1
 ·rw [hBl] at hq
  rw [hBq q hq,hT _ (hr.piv q hq).1 r hr']
  exact (hr.piv q hq).2 r hr'
 ·obtain ⟨c, hc, e⟩ := List.getElem_of_mem (mem_pres.2 hu)
  have e2 : (presN hv).getD c 0 = u:=by rw [List.getD_eq_getElem?_getD,List.getElem?_eq_getElem hc];exact e
  rw [← e2,hT c hc r hr'] at h0
  obtain ⟨h1,h2⟩:=hr.low c hc r hr' h0
  refine ⟨by omega,?_⟩
  rw [hBq r h1,← e2]
  by_cases e3 : pv.getD r 0 = c
  ·rw [e3];exact Nat.le_refl _
  ·exact Nat.le_of_lt (getD_inc (pres_inc hv _) (by omega) hc)
section
variable {M D : Nat} {gen : List Nat} {hv : List Bool} {B : List Nat} {T S : (Nat → Nat) → Nat → Nat}
def BS (D : Nat) (gen B : List Nat) : (Nat → Nat) → Prop:=fun s=>∃ q,q < B.length ∧ s = U D gen (B.getD q 0)
theorem Bas.span (hM : FldM M) (hg : ∀ u,Vc M D (U D gen u)) (h : Bas M D gen hv B T S) {v : Nat → Nat} (hv' : Vc M D v) (hz : ∀ r,r < D → B.length ≤ r → T v r = 0) : Sp M D (BS D gen B) v:=by
 have hS : ∀ s,BS D gen B s → Vc M D s:=fun s ⟨q,_,e⟩=>by rw [e];exact hg _
 have hsum:=Sp.sum (M:=M) (D:=D) (S:=BS D gen B) hM hS (c:=fun q=>T v q) (w:=fun q=>U D gen (B.getD q 0)) B.length (fun q hq=>⟨h.iso.lt v hv' q (by have:=h.le;omega),Sp.of hM hS ⟨q,hq,rfl⟩⟩)
 refine hsum.congr fun x hx=>?_
 have hw : Vc M D (fun x=>sg (fun q=>mu M (T v q) (U D gen (B.getD q 0) x)) B.length):=hsum.vc hM hS
 refine (h.iso.inj hv' hw fun i hi=>?_) x hx
 rw [h.iso.sum B.length (fun q hq=>⟨h.iso.lt v hv' q (by have:=h.le;omega),hg _⟩) i hi]
 rw [sg_congr B.length (fun q hq=>show mu M (T v q) (T (U D gen (B.getD q 0)) i) = if q = i then T v i else 0 by
  rw [h.unit q hq i hi]
  by_cases e : i = q
  ·subst e;rw [if_pos rfl,if_pos rfl,mu_one hM (h.iso.lt v hv' i hi)]
  ·rw [if_neg e,if_neg (fun e2=>e e2.symm),mu_zero])]
 rw [sg_one (k:=i) B.length (fun q _ hne=>if_neg hne),if_pos rfl]
 by_cases e : i < B.length
 ·rw [if_pos e]
 ·rw [if_neg e,hz i hi (by omega)]
theorem Bas.low' (hM : FldM M) (hg : ∀ u,Vc M D (U D gen u)) (h : Bas M D gen hv B T S) {v : Nat → Nat} (hsp : Sp M D (BS D gen B) v) : ∀ r,r < D → B.length ≤ r → T v r = 0:=by
 induction hsp with
 | zero h0=>exact fun r hr _=>h.iso.zero h0 r hr
 | step h1 hs hc h2 ih =>
   obtain ⟨q,hq,rfl⟩:=hs
   intro r hr hle
   rename_i u v c
   have hUv : T (U D gen (B.getD q 0)) r = 0:=by rw [h.unit q hq r hr,if_neg (by omega)]
   rw [h.iso.congr _ _ h2 r hr,h.iso.add u (fun x=>mu M c (U D gen (B.getD q 0) x)) r hr,ih r hr hle,Nat.zero_xor]
   rw [h.iso.smul c _ hc (hg _) r hr,hUv,mu_zero]
theorem Bas.present (hM : FldM M) (hg : ∀ u,Vc M D (U D gen u)) (h : Bas M D gen hv B T S) {u : Nat} (hu : hv.getD u false = true) : Sp M D (BS D gen B) (U D gen u) :=
 h.span hM hg (hg u) fun r hr hle=>by
  by_cases e : T (U D gen u) r = 0
  ·exact e
  ·have:=(h.low u hu r hr e).1;omega
end
end
section
set_option linter.unusedSectionVars false
theorem addV_get (M f : Nat) (T l : List Nat) : ∀ k, k ≤ T.length → ∀ i, i < T.length → (addV M f T l k).getD i 0 = if i < k then T.getD i 0 ^^^ mu M f (l.getD i 0) else T.getD i 0
 | 0,_,i,_=>by rw [if_neg (by omega)];rfl
 | k + 1,hk,i,hi=>by
   have ih:=addV_get M f T l k (by omega)
   rw [addV,set_getD _ _ _ _ (by rw [addV_length];exact hi)]
   by_cases e : i = k
   ·subst e
    rw [if_pos rfl,if_pos (by omega),ih i hi,if_neg (by omega)]
   ·rw [if_neg e, ih i hi]
    by_cases h : i < k
    ·rw [if_pos h,if_pos (by omega)]
    ·rw [if_neg h,if_neg (by omega)]
abbrev Rd:=Nat × List Nat × List Nat
section
variable {M D n : Nat} {s : List Nat × List Nat} {r : Rd}
theorem subR_1 (hs : SubOk M D n s) (hr : RedRow M D n r) {x : Nat} (hx : x < D) : (subR M s r).1.getD x 0 = s.1.getD x 0 ^^^ mu M (s.1.getD r.1 0) (r.2.1.getD x 0):=by
 unfold subR
 by_cases e : s.1.getD r.1 0 = 0
 ·rw [if_pos e,e,zero_mu,Nat.xor_zero]
 ·rw [if_neg e]
  show (addV M _ s.1 r.2.1 r.2.1.length).getD x 0 = _
  rw [addV_get _ _ _ _ _ (by rw [hs.l1,hr.l1];exact Nat.le_refl _) x (by rw [hs.l1];exact hx),if_pos (by rw [hr.l1];exact hx)]
theorem subR_2 (hs : SubOk M D n s) (hr : RedRow M D n r) {q : Nat} (hq : q < n) : (subR M s r).2.getD q 0 = s.2.getD q 0 ^^^ mu M (s.1.getD r.1 0) (r.2.2.getD q 0):=by
 unfold subR
 by_cases e : s.1.getD r.1 0 = 0
 ·rw [if_pos e,e,zero_mu,Nat.xor_zero]
 ·rw [if_neg e]
  show (addV M _ s.2 r.2.2 r.2.2.length).getD q 0 = _
  rw [addV_get _ _ _ _ _ (by rw [hs.l2,hr.l2];exact Nat.le_refl _) q (by rw [hs.l2];exact hq),if_pos (by rw [hr.l2];exact hq)]
end
structure Rw (M D n : Nat) (W : Nat → Nat → Nat) (r : Rd) : Prop where
 ok : RedRow M D n r
 comb : ∀ x,x < D → r.2.1.getD x 0 = sg (fun q=>mu M (r.2.2.getD q 0) (W q x)) n
 lead : r.2.1.getD r.1 0 = 1
def Tri (rows : List Rd) : Prop:=rows.Pairwise fun a b=>b.2.1.getD a.1 0 = 0
def RS (rows : List Rd) : (Nat → Nat) → Prop:=fun s=>∃ r,r ∈ rows ∧ s = fun x=>r.2.1.getD x 0
section
variable {M D n : Nat} {W : Nat → Nat → Nat} {rows : List Rd}
theorem RS_vc (h : ∀ r ∈ rows,Rw M D n W r) : ∀ s,RS rows s → Vc M D s:=fun s ⟨r,hr,e⟩ x hx=>by rw [e];exact getD_lt (h r hr).ok.e1 _
theorem tri_zero (hM : FldM M) : ∀ {rows : List Rd}, (∀ r ∈ rows, Rw M D n W r) → Tri rows → ∀ {v : Nat → Nat}, Sp M D (RS rows) v → (∀ r ∈ rows, v r.1 = 0) → ∀ x, x < D → v x = 0
 | [],_,_,v,hv,_=>by
   cases hv with
   | zero h=>exact h
   | step _ hs _ _=>obtain ⟨r,hr,_⟩:=hs;simp at hr
 | r :: rows,h,ht,v,hv,h0=>by
   have hr:=h r (by simp)
   obtain ⟨t1,t2⟩:=List.pairwise_cons.1 ht
   have hv2 : Sp M D (fun s=>s = (fun x=>r.2.1.getD x 0) ∨ RS rows s) v:=hv.mono fun s ⟨a,ha,e⟩=>by
    rcases List.mem_cons.1 ha with rfl | ha
    ·exact .inl e
    ·exact .inr ⟨a,ha,e⟩
   obtain ⟨c,u,hc,hu,e⟩:=hv2.split
   have hcz : c = 0:=by
    have e1:=e r.1 hr.ok.c
    rw [h0 r (by simp),hr.lead,mu_one hM hc,hu.vanish hr.ok.c (fun s ⟨a,ha,e⟩=>by rw [e];exact t1 a ha),Nat.zero_xor] at e1
    exact e1.symm
   subst hcz
   have e2 : ∀ x,x < D → v x = u x:=fun x hx=>by rw [e x hx,zero_mu,Nat.xor_zero]
   intro x hx
   rw [e2 x hx]
   exact tri_zero hM (fun a ha=>h a (by simp [ha])) t2 hu (fun a ha=>by rw [← e2 a.1 (h a (by simp [ha])).ok.c];exact h0 a (by simp [ha])) x hx
structure Rst (M D n : Nat) (W : Nat → Nat → Nat) (row : Nat → Nat) (s : List Nat × List Nat) : Prop where
 ok : SubOk M D n s
 sum : ∀ x,x < D → s.1.getD x 0 = row x ^^^ sg (fun q=>mu M (s.2.getD q 0) (W q x)) n
theorem fold_rst (hM : FldM M) (hW : ∀ q, Vc M D (W q)) {row : Nat → Nat} : ∀ (rows : List Rd), (∀ r ∈ rows, Rw M D n W r) → ∀ s, Rst M D n W row s → Rst M D n W row (rows.foldl (subR M) s)
 | [],_,s,h=>h
 | r :: rows,hr,s,h=>by
   refine fold_rst hM hW rows (fun a ha=>hr a (by simp [ha])) _ ⟨sub_ok hM h.ok (hr r (by simp)).ok,fun x hx=>?_⟩
   have hr1:=hr r (by simp)
   rw [subR_1 h.ok hr1.ok hx,h.sum x hx,hr1.comb x hx,Nat.xor_assoc,sg_mu,← sg_xor]
   congr 1
   refine sg_congr n fun q hq=>?_
   rw [subR_2 h.ok hr1.ok hq,xor_mu,mu_assoc hM (getD_lt h.ok.e1 _) (getD_lt hr1.ok.e2 _) (hW q x hx)]
theorem fold_keep {c : Nat} (hc : c < D) (hM : FldM M) : ∀ (rows : List Rd), (∀ r ∈ rows, RedRow M D n r ∧ r.2.1.getD c 0 = 0) → ∀ s, SubOk M D n s → (rows.foldl (subR M) s).1.getD c 0 = s.1.getD c 0
 | [],_,s,_=>rfl
 | r :: rows,hr,s,h=>by
   obtain ⟨h1,h2⟩:=hr r (by simp)
   show (rows.foldl (subR M) (subR M s r)).1.getD c 0 = _
   rw [fold_keep hc hM rows (fun a ha=>hr a (by simp [ha])) _ (sub_ok hM h h1),subR_1 h h1 hc,h2,mu_zero,Nat.xor_zero]
theorem fold_zero (hM : FldM M) : ∀ (rows : List Rd), (∀ r ∈ rows, Rw M D n W r) → Tri rows → ∀ s, SubOk M D n s → ∀ r ∈ rows, (rows.foldl (subR M) s).1.getD r.1 0 = 0
 | [],_,_,_,_,r,hr=>by simp at hr
 | a :: rows,h,ht,s,hs,r,hr=>by
   obtain ⟨t1,t2⟩:=List.pairwise_cons.1 ht
   have ha:=h a (by simp)
   show (rows.foldl (subR M) (subR M s a)).1.getD r.1 0 = 0
   rcases List.mem_cons.1 hr with rfl | hr
   ·rw [fold_keep ha.ok.c hM rows (fun b hb=>⟨(h b (by simp [hb])).ok,t1 b hb⟩) _ (sub_ok hM hs ha.ok),subR_1 hs ha.ok ha.ok.c,ha.lead,mu_one hM (getD_lt hs.e1 _),Nat.xor_self]
   ·exact fold_zero hM rows (fun b hb=>h b (by simp [hb])) t2 _ (sub_ok hM hs ha.ok) r hr
theorem fold_span (hM : FldM M) {all : List Rd} (hall : ∀ r ∈ all, Rw M D n W r) : ∀ (rows : List Rd), (∀ r ∈ rows, r ∈ all) → ∀ s, SubOk M D n s → Sp M D (RS all) (fun x => s.1.getD x 0 ^^^ (rows.foldl (subR M) s).1.getD x 0)
 | [],_,s,_=>.zero fun x hx=>by simp
 | r :: rows,hr,s,hs=>by
   have h1:=hall r (hr r (by simp))
   have ih:=fold_span hM hall rows (fun a ha=>hr a (by simp [ha])) _ (sub_ok hM hs h1.ok)
   refine .step ih ⟨r,hr r (by simp),rfl⟩ (c:=s.1.getD r.1 0) (getD_lt hs.e1 _) fun x hx=>?_
   show s.1.getD x 0 ^^^ (rows.foldl (subR M) (subR M s r)).1.getD x 0 = _
   rw [subR_1 hs h1.ok hx]
   generalize s.1.getD x 0 = a
   generalize (rows.foldl (subR M) (subR M s r)).1.getD x 0 = b
   generalize mu M (s.1.getD r.1 0) (r.2.1.getD x 0) = c
   rw [Nat.xor_assoc a c b,Nat.xor_comm c b,← Nat.xor_assoc,xor_self_cancel]
end
theorem findNZ_lt {l : List Nat} (h : findNZ l < l.length) : l.getD (findNZ l) 0 ≠ 0:=by
 have:=List.findIdx_getElem (xs:=l) (p:=fun x=>x != 0) (w:=h)
 rw [List.getD_eq_getElem?_getD,List.getElem?_eq_getElem h]
 have h3 : ¬ (l[List.findIdx (fun x=>x != 0) l]'h = 0):=by simpa using this
 exact h3
theorem findNZ_ge {l : List Nat} (h : ¬ findNZ l < l.length) (x : Nat) : l.getD x 0 = 0:=by
 rw [List.getD_eq_getElem?_getD]
 by_cases hx : x < l.length
 ·rw [List.getElem?_eq_getElem hx]
  have h2 : findNZ l = l.length:=by
   have:=List.findIdx_le_length (xs:=l) (p:=fun x=>x != 0)
   unfold findNZ at *;omega
  have:=List.findIdx_eq_length.1 h2 l[x] (List.getElem_mem hx)
  simpa using this
 ·rw [List.getElem?_eq_none (by omega)];rfl
theorem row_getD {M R D u : Nat} {gen : List Nat} (h : MxOk M R D gen) (hu : u < R) {x : Nat} (hx : x < D) : ((gen.drop (u * D)).take D).getD x 0 = U D gen u x:=by
 rw [List.getD_eq_getElem?_getD,List.getElem?_take_of_lt hx,List.getElem?_drop]
 unfold U gt
 rw [List.getD_eq_getElem?_getD]
structure SpTo (M D : Nat) (gen B : List Nat) (k : Nat) (rows : List Rd) : Prop where
 rw : ∀ r ∈ rows,Rw M D B.length (fun q=>U D gen (B.getD q 0)) r
 tri : Tri rows
 all : ∀ q,q < k → Sp M D (RS rows) (U D gen (B.getD q 0))
theorem span_to {M R D : Nat} {gen B : List Nat} (hM : FldM M) (hg : MxOk M R D gen) (hB : ∀ u ∈ B, u < R) : ∀ k, k ≤ B.length → SpTo M D gen B k (spanAt M D B.length gen B k)
 | 0,_=>⟨fun r hr=>by simp [spanAt] at hr,List.Pairwise.nil,fun q hq=>by omega⟩
 | k + 1,hk=>by
   have ih:=span_to hM hg hB k (by omega)
   have hok:=span_ok (n:=B.length) hM hg hB k (by omega)
   rw [spanAt]
   generalize spanAt M D B.length gen B k = rows at ih hok
   have hbk : B.getD k 0 < R:=hB _ (getD_mem (by omega))
   obtain ⟨p1,p2⟩:=pick_row hg hbk
   have hW : ∀ q,Vc M D (U D gen (B.getD q 0)):=fun q=>U_vc hg _
   have hs0 : SubOk M D B.length ((gen.drop (B.getD k 0 * D)).take D,List.replicate B.length 0):=⟨p1,List.length_replicate,p2,fun x hx=>by rw [List.eq_of_mem_replicate hx];exact Nat.two_pow_pos M⟩
   have hr0 : Rst M D B.length (fun q=>U D gen (B.getD q 0)) (U D gen (B.getD k 0)) ((gen.drop (B.getD k 0 * D)).take D,List.replicate B.length 0):=⟨hs0,fun x hx=>by
    rw [row_getD hg hbk hx,sg_congr B.length (fun q hq=>show mu M ((List.replicate B.length 0).getD q 0) _ = 0 by
     rw [List.getD_eq_getElem?_getD,List.getElem?_replicate,if_pos hq];exact zero_mu _),sg_zero,Nat.xor_zero]⟩
   have hr:=fold_rst hM hW rows ih.rw _ hr0
   have hz:=fold_zero hM rows ih.rw ih.tri _ hs0
   have hsp:=fold_span hM ih.rw rows (fun _ h=>h) _ hs0
   unfold spanStep
   dsimp only
   change Rst M D B.length _ _ (redV M B.length ((gen.drop (B.getD k 0 * D)).take D) rows) at hr
   change ∀ r ∈ rows,(redV M B.length ((gen.drop (B.getD k 0 * D)).take D) rows).1.getD r.1 0 = 0 at hz
   change Sp M D (RS rows) (fun x=>((gen.drop (B.getD k 0 * D)).take D).getD x 0 ^^^ (redV M B.length ((gen.drop (B.getD k 0 * D)).take D) rows).1.getD x 0) at hsp
   generalize redV M B.length ((gen.drop (B.getD k 0 * D)).take D) rows = s at *
   have hsp2 : Sp M D (RS rows) (fun x=>U D gen (B.getD k 0) x ^^^ s.1.getD x 0):=hsp.congr fun x hx=>by rw [row_getD hg hbk hx]
   have h1:=hr.ok
   have hc : ∀ x,x < D → s.1.getD x 0 = sg (fun q=>mu M ((s.2.set k (s.2.getD k 0 ^^^ 1)).getD q 0) (U D gen (B.getD q 0) x)) B.length:=fun x hx=>by
    rw [hr.sum x hx,Nat.xor_comm]
    have e1 : U D gen (B.getD k 0) x = sg (fun q=>if q = k then U D gen (B.getD k 0) x else 0) B.length:=by
     rw [sg_one (k:=k) B.length (fun q _ hne=>if_neg hne),if_pos (by omega),if_pos rfl]
    rw [e1,← sg_xor]
    refine sg_congr _ fun q hq=>?_
    rw [set_getD _ _ _ _ (by rw [h1.l2];exact hq)]
    by_cases e : q = k
    ·subst e
     rw [if_pos rfl,if_pos rfl,xor_mu,one_mu hM (hW q x hx)]
    ·rw [if_neg e,if_neg e,Nat.xor_zero]
   have hcl : ∀ x ∈ s.2.set k (s.2.getD k 0 ^^^ 1),x < 2 ^ M:=fun x hx=>by
    rcases List.mem_or_eq_of_mem_set hx with hx | rfl
    ·exact h1.e2 x hx
    ·exact xor_lt' (getD_lt h1.e2 _) (one_lt hM)
   have hcn : (s.2.set k (s.2.getD k 0 ^^^ 1)).length = B.length:=by rw [List.length_set];exact h1.l2
   generalize s.2.set k (s.2.getD k 0 ^^^ 1) = c at *
   by_cases hf : findNZ s.1 < D
   ·rw [if_pos hf]
    have hne:=findNZ_lt (l:=s.1) (by rw [h1.l1];exact hf)
    generalize findNZ s.1 = col at *
    have hxl:=getD_lt h1.e1 col
    obtain ⟨v1,v2⟩:=inv_mu hM hne hxl
    have hvl : invN M (s.1.getD col 0) < 2 ^ M:=invN_lt _
    generalize invN M (s.1.getD col 0) = f at *
    have hrep : ∀ m i,(List.replicate m 0).getD i 0 = 0:=fun m i=>by
     rw [List.getD_eq_getElem?_getD,List.getElem?_replicate];split<;>rfl
    have hnr : ∀ x,x < D → (addV M f (List.replicate D 0) s.1 D).getD x 0 = mu M f (s.1.getD x 0):=fun x hx=>by
     rw [addV_get _ _ _ _ _ (by simp) x (by simpa using hx),if_pos hx,hrep,Nat.zero_xor]
    have hnc : ∀ q,q < B.length → (addV M f (List.replicate B.length 0) c B.length).getD q 0 = mu M f (c.getD q 0):=fun q hq=>by
     rw [addV_get _ _ _ _ _ (by simp) q (by simpa using hq),if_pos hq,hrep,Nat.zero_xor]
    have hz0 : ∀ m,∀ x ∈ List.replicate m 0,x < 2 ^ M:=fun m x hx=>by rw [List.eq_of_mem_replicate hx];exact Nat.two_pow_pos M
    have hok1 : RedRow M D B.length (col,addV M f (List.replicate D 0) s.1 D,addV M f (List.replicate B.length 0) c B.length) :=
     ⟨hf,by rw [addV_length,List.length_replicate],by rw [addV_length,List.length_replicate],addV_lt hM hvl (hz0 _) _,addV_lt hM hvl (hz0 _) _⟩
    have hrw1 : Rw M D B.length (fun q=>U D gen (B.getD q 0)) (col,addV M f (List.replicate D 0) s.1 D,addV M f (List.replicate B.length 0) c B.length):=by
     refine ⟨hok1,fun x hx=>?_,?_⟩
     ·show (addV M f (List.replicate D 0) s.1 D).getD x 0 = _
      rw [hnr x hx,hc x hx,sg_mu]
      refine sg_congr _ fun q hq=>?_
      show _ = mu M ((addV M f (List.replicate B.length 0) c B.length).getD q 0) _
      rw [hnc q hq,mu_assoc hM hvl (getD_lt hcl _) (hW q x hx)]
     ·show (addV M f (List.replicate D 0) s.1 D).getD col 0 = 1
      rw [hnr col hf];exact v1
    have hmono : ∀ t,RS rows t → RS (rows ++ [(col,addV M f (List.replicate D 0) s.1 D,addV M f (List.replicate B.length 0) c B.length)]) t:=fun t ⟨r,hr,e⟩=>⟨r,by simp [hr],e⟩
    have hrwA : ∀ r ∈ rows ++ [(col,addV M f (List.replicate D 0) s.1 D,addV M f (List.replicate B.length 0) c B.length)],Rw M D B.length (fun q=>U D gen (B.getD q 0)) r:=fun r hr=>by
     rcases List.mem_append.1 hr with hr | hr
     ·exact ih.rw r hr
     ·rw [List.mem_singleton.1 hr];exact hrw1
    refine ⟨hrwA,?_,fun q hq=>?_⟩
    ·refine List.pairwise_append.2 ⟨ih.tri, List.pairwise_singleton _ _, fun a ha b hb => ?_⟩
     rw [List.mem_singleton.1 hb]
     show (addV M f (List.replicate D 0) s.1 D).getD a.1 0 = 0
     rw [hnr _ (ih.rw a ha).ok.c,hz a ha,mu_zero]
    ·by_cases hqk : q < k
     ·exact (ih.all q hqk).mono hmono
     ·have : q = k := by omega
      subst this
      refine .step (hsp2.mono hmono) ⟨_,List.mem_append_right _ (List.mem_singleton.2 rfl),rfl⟩ (c:=s.1.getD col 0) hxl fun x hx=>?_
      show U D gen (B.getD q 0) x = (U D gen (B.getD q 0) x ^^^ s.1.getD x 0) ^^^ mu M (s.1.getD col 0) ((addV M f (List.replicate D 0) s.1 D).getD x 0)
      rw [hnr x hx,← mu_assoc hM hxl hvl (getD_lt h1.e1 _),v2,one_mu hM (getD_lt h1.e1 _),xor_self_cancel]
   ·rw [if_neg hf]
    refine ⟨ih.rw,ih.tri,fun q hq=>?_⟩
    by_cases hqk : q < k
    ·exact ih.all q hqk
    ·have : q = k := by omega
     subst this
     exact hsp2.congr fun x hx=>by rw [findNZ_ge (l:=s.1) (by rw [h1.l1];exact hf),Nat.xor_zero]
end
section
set_option linter.unusedSectionVars false
def PS (D : Nat) (gen : List Nat) (hv : List Bool) : (Nat → Nat) → Prop:=fun s=>∃ u,hv.getD u false = true ∧ s = U D gen u
theorem U_all {M D : Nat} {ps : List (List Nat)} (h : CodeOk M D ps) (u : Nat) : Vc M D (U D (genN D ps) u):=U_vc (gen_ok h) u
section
variable {M D : Nat} {ps : List (List Nat)} {hv : List Bool} (h : CodeOk M D ps) (hl : hv.length = D + ps.length)
include h hl
theorem hv_lt {u : Nat} (hu : hv.getD u false = true) : u < D + ps.length:=by
 by_cases e : u < hv.length
 ·omega
 ·rw [List.getD_eq_getElem?_getD,List.getElem?_eq_none (by omega)] at hu;cases hu
theorem sp_BP {v : Nat → Nat} : Sp M D (BS D (genN D ps) (basisN M D ps hv)) v ↔ Sp M D (PS D (genN D ps) hv) v:=by
 obtain ⟨T,S,hb⟩:=basis_to h hl
 constructor
 ·exact Sp.mono fun s ⟨q,hq,e⟩=>⟨_,hb.mem q hq,e⟩
 ·exact Sp.trans h.f (fun s ⟨q,_,e⟩=>by rw [e];exact U_all h _) fun s ⟨u,hu,e⟩=>by rw [e];exact hb.present h.f (U_all h) hu
theorem red_left {u : Nat} (hu : u < D + ps.length) :
 Rst M D (basisN M D ps hv).length (fun q=>U D (genN D ps) ((basisN M D ps hv).getD q 0)) (U D (genN D ps) u) (redV M (basisN M D ps hv).length (((genN D ps).drop (u * D)).take D) (spanN M D ps hv)) ∧
 ((redV M (basisN M D ps hv).length (((genN D ps).drop (u * D)).take D) (spanN M D ps hv)).1.all (fun x=>decide (x = 0)) = true ↔ Sp M D (PS D (genN D ps) hv) (U D (genN D ps) u)):=by
 have hg:=gen_ok h
 have hM:=h.f
 have hsp:=span_to hM hg (basis_lt hl) (basisN M D ps hv).length (Nat.le_refl _)
 have hW : ∀ q,Vc M D (U D (genN D ps) ((basisN M D ps hv).getD q 0)):=fun q=>U_all h _
 obtain ⟨p1,p2⟩:=pick_row hg hu
 have hs0 : SubOk M D (basisN M D ps hv).length (((genN D ps).drop (u * D)).take D,List.replicate (basisN M D ps hv).length 0):=⟨p1,List.length_replicate,p2,fun x hx=>by rw [List.eq_of_mem_replicate hx];exact Nat.two_pow_pos M⟩
 have hr0 : Rst M D (basisN M D ps hv).length (fun q=>U D (genN D ps) ((basisN M D ps hv).getD q 0)) (U D (genN D ps) u) (((genN D ps).drop (u * D)).take D,List.replicate (basisN M D ps hv).length 0):=⟨hs0,fun x hx=>by
  rw [row_getD hg hu hx,sg_congr (basisN M D ps hv).length (fun q hq=>show mu M ((List.replicate (basisN M D ps hv).length 0).getD q 0) _ = 0 by
   rw [List.getD_eq_getElem?_getD,List.getElem?_replicate,if_pos hq];exact zero_mu _),sg_zero,Nat.xor_zero]⟩
 have hr:=fold_rst hM hW (spanN M D ps hv) hsp.rw _ hr0
 have hz:=fold_zero hM (spanN M D ps hv) hsp.rw hsp.tri _ hs0
 have hfs:=fold_span hM hsp.rw (spanN M D ps hv) (fun _ h=>h) _ hs0
 refine ⟨hr,?_⟩
 rw [← sp_BP h hl]
 have hbs : ∀ s,BS D (genN D ps) (basisN M D ps hv) s → Vc M D s:=fun s ⟨q,_,e⟩=>by rw [e];exact U_all h _
 constructor
 ·intro h0
  rw [List.all_eq_true] at h0
  have hsum:=Sp.sum (M:=M) (D:=D) hM hbs (c:=fun q=>(redV M (basisN M D ps hv).length (((genN D ps).drop (u * D)).take D) (spanN M D ps hv)).2.getD q 0) (w:=fun q=>U D (genN D ps) ((basisN M D ps hv).getD q 0)) (basisN M D ps hv).length (fun q hq=>⟨getD_lt hr.ok.e2 _,Sp.of hM hbs ⟨q,hq,rfl⟩⟩)
  refine hsum.congr fun x hx=>?_
  have h1:=hr.sum x hx
  have h2 : (List.foldl (subR M) (((genN D ps).drop (u * D)).take D,List.replicate (basisN M D ps hv).length 0) (spanN M D ps hv)).1.getD x 0 = 0:=by
   have hx2 : x < (redV M (basisN M D ps hv).length (((genN D ps).drop (u * D)).take D) (spanN M D ps hv)).1.length:=by
    have:=hr.ok.l1;unfold redV;omega
   have:=h0 _ (List.getElem_mem hx2)
   rw [List.getD_eq_getElem?_getD]
   have e : (redV M (basisN M D ps hv).length (((genN D ps).drop (u * D)).take D) (spanN M D ps hv)).1[x]? = some ((redV M (basisN M D ps hv).length (((genN D ps).drop (u * D)).take D) (spanN M D ps hv)).1[x]):=List.getElem?_eq_getElem hx2
   unfold redV at e this
   rw [e]
   simpa using this
  rw [h2] at h1
  exact eq_of_xor h1.symm
 ·intro hs
  have hv2 : Sp M D (RS (spanN M D ps hv)) (U D (genN D ps) u):=Sp.trans hM (RS_vc hsp.rw) (fun s ⟨q,hq,e⟩=>by rw [e];exact hsp.all q hq) hs
  have hrest : Sp M D (RS (spanN M D ps hv)) (fun x=>(redV M (basisN M D ps hv).length (((genN D ps).drop (u * D)).take D) (spanN M D ps hv)).1.getD x 0):=(hv2.add hfs).congr fun x hx=>by
   show _ = U D (genN D ps) u x ^^^ ((((genN D ps).drop (u * D)).take D).getD x 0 ^^^ _)
   rw [row_getD hg hu hx,← Nat.xor_assoc,Nat.xor_self,Nat.zero_xor]
   rfl
  have h0:=tri_zero hM hsp.rw hsp.tri hrest hz
  rw [List.all_eq_true]
  intro y hy
  obtain ⟨x,hx,rfl⟩:=List.getElem_of_mem hy
  have hxD : x < D:=by have:=hr.ok.l1;unfold redV at hx;omega
  have:=h0 x hxD
  rw [List.getD_eq_getElem?_getD,List.getElem?_eq_getElem hx] at this
  simpa using this
theorem comb_iff {u : Nat} (hu : u < D + ps.length) : (combN M D ps hv u).isSome = true ↔ Sp M D (PS D (genN D ps) hv) (U D (genN D ps) u):=by
 rw [← (red_left h hl hu).2]
 unfold combN termsN
 dsimp only
 split
 ·rename_i e;simp [e]
 ·rename_i e;simp [e]
theorem comb_some {u : Nat} (hu : u < D + ps.length) {l : List (Nat × Nat)} (hc : combN M D ps hv u = some l) : ∃ K : List Nat, K.length = (basisN M D ps hv).length ∧ (∀ x ∈ K, x < 2 ^ M) ∧ l = tmsAt (basisN M D ps hv) K (basisN M D ps hv).length ∧
 ∀ x,x < D → U D (genN D ps) u x = sg (fun q=>mu M (K.getD q 0) (U D (genN D ps) ((basisN M D ps hv).getD q 0) x)) (basisN M D ps hv).length:=by
 obtain ⟨hr,_⟩:=red_left h hl hu
 unfold combN termsN at hc
 dsimp only at hc
 generalize redV M (basisN M D ps hv).length (((genN D ps).drop (u * D)).take D) (spanN M D ps hv) = s at *
 split at hc
 ·rename_i e
  refine ⟨s.2,hr.ok.l2,hr.ok.e2,(Option.some.inj hc).symm,fun x hx=>?_⟩
  have h1:=hr.sum x hx
  have hx2 : x < s.1.length:=by have:=hr.ok.l1;omega
  have h2 : s.1.getD x 0 = 0:=by
   rw [List.getD_eq_getElem?_getD,List.getElem?_eq_getElem hx2]
   rw [List.all_eq_true] at e
   simpa using e _ (List.getElem_mem hx2)
  rw [h2] at h1
  exact eq_of_xor h1.symm
 ·cases hc
end
def eu' (q : Nat) : Nat → Nat:=fun x=>if x = q then 1 else 0
theorem eu_vc {M D : Nat} (hM : FldM M) (q : Nat) : Vc M D (eu' q):=fun x _=>by
 unfold eu'
 split
 ·exact one_lt hM
 ·exact Nat.two_pow_pos M
def WS (w : Nat → Nat → Nat) (p : Nat) : (Nat → Nat) → Prop:=fun s=>∃ r,r < p ∧ s = w r
theorem Iso.sp {M D : Nat} {T S : (Nat → Nat) → Nat → Nat} (h : Iso M D T S) {A A' : (Nat → Nat) → Prop} (hA : ∀ s,A s → Vc M D s ∧ A' (T s)) {v : Nat → Nat} (hv : Sp M D A v) : Sp M D A' (T v):=by
 induction hv with
 | zero h0=>exact .zero fun x hx=>h.zero h0 x hx
 | step h1 hs hc h2 ih =>
   rename_i u s v c
   obtain ⟨a1,a2⟩:=hA _ hs
   refine .step ih a2 hc fun x hx=>?_
   rw [h.congr _ _ h2 x hx,h.add u (fun k=>mu M c (s k)) x hx,h.smul c s hc a1 x hx]
end
section
set_option linter.unusedSectionVars false
theorem gt_id {D : Nat} : ∀ n, n ≤ D → ∀ r c, r < D → c < D → gt D (idAt D n) r c = if r < n ∧ r = c then 1 else 0
 | 0,_,r,c,_,_=>by
   rw [if_neg (by omega)]
   unfold gt idAt
   rw [List.getD_eq_getElem?_getD,List.getElem?_replicate]
   split<;>rfl
 | n + 1,hn,r,c,hr,hc=>by
   rw [idAt,gt_set (R:=D) (by rw [idAt_length]) (by omega) (by omega) hc,gt_id n (by omega) r c hr hc]
   by_cases h : r = n ∧ c = n
   ·rw [if_pos h,if_pos (by omega)]
   ·rw [if_neg h]
    by_cases h2 : r < n ∧ r = c
    ·rw [if_pos h2,if_pos (by omega)]
    ·rw [if_neg h2,if_neg (by omega)]
theorem U_data {D : Nat} {ps : List (List Nat)} {u x : Nat} (hu : u < D) (hx : x < D) : U D (genN D ps) u x = eu' u x:=by
 have h:=gt_id D (Nat.le_refl _) u x hu hx
 unfold U gt genN
 unfold gt at h
 rw [List.getD_eq_getElem?_getD] at h ⊢
 rw [List.getElem?_append_left (by rw [idAt_length];exact idx_lt hu hx),h]
 unfold eu'
 by_cases e : u = x
 ·subst e;rw [if_pos ⟨hu,rfl⟩,if_pos rfl]
 ·rw [if_neg (by omega),if_neg (fun e2=>e e2.symm)]
theorem flat_get {D x : Nat} (hx : x < D) : ∀ {ps : List (List Nat)} (_ : ∀ r ∈ ps, r.length = D) (i : Nat), i < ps.length → ps.flatten.getD (i * D + x) 0 = (ps.getD i []).getD x 0
 | [],_,i,h=>by simp at h
 | r :: ps,hr,i,h=>by
   have h0:=hr r (by simp)
   rw [List.flatten_cons,List.getD_eq_getElem?_getD]
   cases i with
   | zero=>rw [List.getElem?_append_left (by omega),Nat.zero_mul,Nat.zero_add,← List.getD_eq_getElem?_getD];rfl
   | succ i =>
     have e : (i + 1) * D + x - r.length = i * D + x:=by rw [Nat.add_mul];omega
     rw [List.getElem?_append_right (by rw [Nat.add_mul];omega),e,← List.getD_eq_getElem?_getD,flat_get hx (fun s hs=>hr s (by simp [hs])) i (by simpa using h)]
     rfl
theorem U_par {M D : Nat} {ps : List (List Nat)} (h : CodeOk M D ps) {i x : Nat} (hi : i < ps.length) (hx : x < D) : U D (genN D ps) (D + i) x = (ps.getD i []).getD x 0:=by
 rw [← flat_get hx (fun r hr=>(h.row r hr).1) i hi]
 unfold U gt genN
 have e : (D + i) * D + x - (idAt D D).length = i * D + x:=by rw [idAt_length,Nat.add_mul];omega
 rw [List.getD_eq_getElem?_getD,List.getElem?_append_right (by rw [idAt_length,Nat.add_mul];omega),e,← List.getD_eq_getElem?_getD]
theorem U_ne {M D : Nat} {ps : List (List Nat)} (h : CodeOk M D ps) {u : Nat} (hu : u < D + ps.length) : ∃ x,x < D ∧ U D (genN D ps) u x ≠ 0:=by
 by_cases hd : u < D
 ·exact ⟨u,hd,by rw [U_data hd hd];simp [eu']⟩
 ·obtain ⟨i, rfl⟩ : ∃ i, u = D + i := ⟨u - D, by omega⟩
  have hi : i < ps.length:=by omega
  obtain ⟨h1,h2,y,h3,h4⟩:=h.row _ (List.getElem_mem hi)
  obtain ⟨x,hx,rfl⟩:=List.getElem_of_mem h3
  refine ⟨x,by omega,?_⟩
  rw [U_par h hi (by omega),List.getD_eq_getElem?_getD (l:=ps),List.getElem?_eq_getElem hi,Option.getD_some,List.getD_eq_getElem?_getD,List.getElem?_eq_getElem hx]
  exact h4
def wd (M : Nat) (l : List Nat) (j : Nat) : Nat:=if M = 8 then l.getD j 0 else 256 * l.getD (2 * j) 0 + l.getD (2 * j + 1) 0
def lx {α : Type} (f : α → Nat) : List α → Nat
 | []=>0
 | a :: l=>f a ^^^ lx f l
section
variable {M D n : Nat} {ps us : List (List Nat)} (h : CodeOk M D ps) (hl : us.length = D) (hu : ∀ u ∈ us,isB u ∧ u.length = n) (he : FitM M n)
include h hl hu he
end
def Sound (M D : Nat) (ps : List (List Nat)) (u : Nat) (l : List (Nat × Nat)) : Prop:=∀ x,x < D → lx (fun t=>mu M t.2 (U D (genN D ps) t.1 x)) l = U D (genN D ps) u x
section
variable {M D n : Nat} {ps us : List (List Nat)} (h : CodeOk M D ps) (hl : us.length = D) (hu : ∀ u ∈ us,isB u ∧ u.length = n) (he : FitM M n)
include h hl hu he
end
structure CombOk (M D : Nat) (ps : List (List Nat)) (hv : List Bool) (u : Nat) (l : List (Nat × Nat)) : Prop where
 snd : Sound M D ps u l
 lt : ∀ t ∈ l,t.2 < 2 ^ M ∧ t.2 ≠ 0
 pres : ∀ t ∈ l,hv.getD t.1 false = true
 inc : l.Pairwise fun a b=>a.1 < b.1
 le : l.length ≤ (basisN M D ps hv).length
theorem CombOk.pos {M D : Nat} {ps : List (List Nat)} {hv : List Bool} (h : CodeOk M D ps) {u : Nat} (hu : u < D + ps.length) {l : List (Nat × Nat)} (hc : CombOk M D ps hv u l) : 0 < l.length:=by
 cases l with
 | nil =>
   obtain ⟨x,hx,hne⟩:=U_ne h hu
   exact absurd (hc.snd x hx).symm hne
 | cons a l=>simp
end
section
set_option linter.unusedSectionVars false
theorem sp_all {M D : Nat} (hM : FldM M) {S : (Nat → Nat) → Prop} (hS : ∀ s,S s → Vc M D s) (h : ∀ q,q < D → Sp M D S (eu' q)) {v : Nat → Nat} (hv : Vc M D v) : Sp M D S v:=by
 refine (Sp.sum hM hS (c:=v) (w:=eu') D fun q hq=>⟨hv q hq,h q hq⟩).congr fun x hx=>?_
 rw [sg_congr D (fun q hq=>show mu M (v q) (eu' q x) = if q = x then v x else 0 by
  unfold eu'
  by_cases e : x = q
  ·subst e;rw [if_pos rfl,if_pos rfl,mu_one hM (hv x hx)]
  ·rw [if_neg e,if_neg (fun e2=>e e2.symm),mu_zero]),sg_one (k:=x) D (fun q _ hne=>if_neg hne),if_pos hx,if_pos rfl]
section
variable {M D : Nat} {ps : List (List Nat)} {hv : List Bool} (h : CodeOk M D ps) (hl : hv.length = D + ps.length)
include h hl
theorem full_iff : (basisN M D ps hv).length = D ↔ ∀ v,Vc M D v → Sp M D (PS D (genN D ps) hv) v:=by
 obtain ⟨T,S,hb⟩:=basis_to h hl
 constructor
 ·intro e v hv'
  exact (sp_BP h hl).1 (hb.span h.f (U_all h) hv' fun r hr hle=>by omega)
 ·intro hall
  apply Classical.byContradiction
  intro hne
  have hlt : (basisN M D ps hv).length < D:=by have:=hb.le;omega
  have hS:=hb.iso.ltS _ (eu_vc (D:=D) h.f (basisN M D ps hv).length)
  have h1:=hb.low' h.f (U_all h) ((sp_BP h hl).2 (hall _ hS)) (basisN M D ps hv).length hlt (Nat.le_refl _)
  rw [hb.iso.ts _ (eu_vc h.f _) _ hlt] at h1
  simp [eu'] at h1
theorem full_iff_rec : (basisN M D ps hv).length = D ↔ ∀ u,u < D + ps.length → (combN M D ps hv u).isSome = true:=by
 rw [full_iff h hl]
 constructor
 ·intro hall u hu
  exact (comb_iff h hl hu).2 (hall _ (U_all h u))
 ·intro hall v hv'
  have hS : ∀ s,PS D (genN D ps) hv s → Vc M D s:=fun s ⟨u,_,e⟩=>by rw [e];exact U_all h _
  refine sp_all h.f hS (fun q hq=>?_) hv'
  exact ((comb_iff h hl (by omega)).1 (hall q (by omega))).congr fun x hx=>(U_data hq hx).symm
end
section
variable {M D k : Nat} {ps : List (List Nat)} {hv : List Bool} (h : CodeOk M D ps) (hl : hv.length = D + ps.length) (hk : k < D + ps.length)
include h hl hk
end
section
variable {M D n : Nat} {ps us : List (List Nat)} {hv : List Bool} {nz : List Nat} (h : CodeOk M D ps) (hl : us.length = D) (hu : ∀ u ∈ us,isB u ∧ u.length = n) (he : FitM M n) (hvl : hv.length = D + ps.length)
include h hl hu he hvl
end
end
section
def minusN (hv : List Bool) (L : List Nat) : List Bool:=L.foldl (fun h u=>h.set u false) hv
theorem minusN_length : ∀ (L : List Nat) (hv : List Bool), (minusN hv L).length = hv.length
 | [],hv=>rfl
 | u :: L,hv=>by
   have:=minusN_length L (hv.set u false)
   rw [List.length_set] at this
   exact this
theorem getD_setB (hv : List Bool) (u j : Nat) (b : Bool) : (hv.set u b).getD j false = if j = u then (if u < hv.length then b else false) else hv.getD j false:=by
 rw [List.getD_eq_getElem?_getD,List.getD_eq_getElem?_getD,List.getElem?_set]
 by_cases e : j = u
 ·subst e
  rw [if_pos rfl,if_pos rfl]
  split<;>rfl
 ·rw [if_neg (Ne.symm e),if_neg e]
theorem minusN_get : ∀ (L : List Nat) (hv : List Bool) (j : Nat), (minusN hv L).getD j false = if j ∈ L then false else hv.getD j false
 | [],hv,j=>by simp [minusN]
 | u :: L,hv,j=>by
   have:=minusN_get L (hv.set u false) j
   rw [show minusN hv (u :: L) = minusN (hv.set u false) L from rfl,this,getD_setB]
   by_cases h : j ∈ L
   ·rw [if_pos h,if_pos (by simp [h])]
   ·rw [if_neg h]
    by_cases e : j = u
    ·have h8 : j ∈ u :: L := by rw [e]; exact List.mem_cons_self
     rw [if_pos e,if_pos h8];split<;>rfl
    ·have h8 : j ∉ u :: L := fun h9 => (List.mem_cons.1 h9).elim e h
     rw [if_neg e,if_neg h8]
def upN (hv : List Bool) : List Nat:=(List.range hv.length).filter fun i=>hv.getD i false
theorem mem_upN {hv : List Bool} {i : Nat} : i ∈ upN hv ↔ hv.getD i false = true:=by
 unfold upN
 rw [List.mem_filter,List.mem_range]
 constructor
 ·exact fun h=>h.2
 ·intro h
  refine ⟨?_,h⟩
  by_cases e : i < hv.length
  ·exact e
  ·rw [List.getD_eq_getElem?_getD,List.getElem?_eq_none (by omega)] at h;cases h
def subsN : List Nat → Nat → List (List Nat)
 | _,0=>[[]]
 | [],_ + 1=>[]
 | x :: l,k + 1=>(subsN l k).map (x :: ·) ++ subsN l (k + 1)
theorem mem_subsN : ∀ {l : List Nat} {k : Nat} {s : List Nat}, s ∈ subsN l k ↔ s.Sublist l ∧ s.length = k
 | l,0,s=>by
   unfold subsN
   rw [List.mem_singleton]
   constructor
   ·rintro rfl;exact ⟨List.nil_sublist _,rfl⟩
   ·exact fun h=>List.eq_nil_of_length_eq_zero h.2
 | [],k + 1,s=>by
   unfold subsN
   constructor
   ·intro h;cases h
   ·rintro ⟨h1, h2⟩
    have:=h1.length_le
    simp only [List.length_nil] at this
    omega
 | x :: l,k + 1,s=>by
   unfold subsN
   rw [List.mem_append,List.mem_map]
   constructor
   ·rintro (⟨t, h1, rfl⟩ | h1)
    ·obtain ⟨h2, h3⟩ := mem_subsN.1 h1
     exact ⟨h2.cons_cons x,by simp [h3]⟩
    ·obtain ⟨h2, h3⟩ := mem_subsN.1 h1
     exact ⟨h2.cons x,h3⟩
   ·rintro ⟨h1, h2⟩
    cases h1 with
    | cons _ h3=>exact .inr (mem_subsN.2 ⟨h3,h2⟩)
    | cons_cons _ h3=>exact .inl ⟨_,mem_subsN.2 ⟨h3,by simpa using h2⟩,rfl⟩
theorem nodup_le : ∀ (T L : List Nat), T.Nodup → (∀ x ∈ T, x ∈ L) → T.length ≤ L.length
 | [],L,_,_=>by simp
 | x :: T,L,hn,h=>by
   rw [List.nodup_cons] at hn
   have hx:=h x (by simp)
   have ih:=nodup_le T (L.erase x) hn.2 fun y hy=>(List.mem_erase_of_ne (fun e=>hn.1 (by rw [← e];exact hy))).2 (h y (by simp [hy]))
   rw [List.length_erase_of_mem hx] at ih
   have:=List.length_pos_of_mem hx
   simp only [List.length_cons]
   omega
def badN (dec : List Bool → Bool) (hv : List Bool) (f : Nat) : Bool:=(subsN (upN hv) (f + 1)).any fun s=>!dec (minusN hv s)
def leftN (dec : List Bool → Bool) (hv : List Bool) : Int:=if dec hv then (((List.range 4).find? (badN dec hv)).getD 4 : Nat) else -1
end
section
def decN (M D : Nat) (ps : List (List Nat)) (hv : List Bool) : Bool:=decide (hv.length = D + ps.length) && decide ((basisN M D ps hv).length = D)
end
section
attribute [local irreducible] Quiet Eff OpOk AWPG ACont ABlock ACalls AGoto
def someB (r : List Int) (j : Nat) : Bool:=!((r.take j).all fun x=>decide (x = 0))
theorem someB_succ (r : List Int) (j : Nat) (h : j < r.length) : someB r (j + 1) = (someB r j || decide (r[j] ≠ 0)):=by
 unfold someB
 rw [List.take_succ_eq_append_getElem h,List.all_append]
 simp [Bool.not_and]
theorem A_r8valid {M D : Int} {par : List (List Int)} (hD : D ≤ 1000000) (hP : par.length ≤ 1000000) : ACalls Tryz.prog 149 [cdA M D par] [] (bV (validC M D par)) []:=by
 refine acalls_of_bodyO Tryz.func149 rfl (zU rfl) ?_
 have hmp : (par.map rD).length = par.length:=List.length_map _
 have h0 : allF M [0] = decide (M = 8 ∨ M = 16):=by
  unfold allF
  by_cases h : M = 8 ∨ M = 16
  ·rw [decide_eq_true h]
   rcases h with rfl | rfl<;>rfl
  ·rw [decide_eq_false h];rfl
 by_cases hg : (M = 8 ∨ M = 16) ∧ 1 ≤ D ∧ D + par.length ≤ 32
 ·obtain ⟨g1, g2, g3⟩ := hg
  have hv : validC M D par = par.all (rowOk M D):=by
   unfold validC
   rw [h0,decide_eq_true g1,decide_eq_true g2,decide_eq_true (show par.length ≤ 32 by omega),decide_eq_true (show D ≤ 32 - (par.length : Int) by omega)]
   rfl
  rw [hv]
  have hbad : ∀ k (h : k < par.length),rowOk M D par[k] = false → par.all (rowOk M D) = false:=fun k h e=>List.all_eq_false.2 ⟨par[k],List.getElem_mem h,by rw [e];decide⟩
  have hall : (∀ r ∈ par,rowOk M D r = true) → par.all (rowOk M D) = true:=fun h=>List.all_eq_true.2 h
  generalize par.all (rowOk M D) = V at *
  clear hv h0
  (repeat' (first
   |(apply yFb;exact rfl;exact rfl)
   |(apply W.qd;(first
   |(exact zM)|(exact zN)|(exact jAm)|(exact jAg)|(exact jAj)|(exact jBf)|(exact jBb)|(exact jAi)|(exact jAt)|(apply (yEb (u:=.d _));exact rfl;exact rfl)
   |(apply (yDb (u:=.d _));exact rfl;exact rfl)))|(apply W.ed;(exact jAa))|(refine W.gOff _ _ rfl rfl (by intro h;cases h) ?_)|(apply yA)|(apply yB)|(refine jAb ?_)|(apply yE)|(apply yG)|(apply yH)|(refine W.gT _ _ rfl rfl (fun hb=>?_) (fun hb=>?_)<;>((try simp only [hb,zK])<;>(try simp only [zL,zI] at hb)<;>(try (exfalso;omega))))|(refine W.gF _ _ rfl rfl (fun hb=>?_) (fun hb=>?_)<;>((try simp only [hb,zK])<;>(try simp only [zL,zI] at hb)<;>(try (exfalso;omega))))
   |(refine W.cond _ rfl (fun hb=>?_) (fun hb=>?_)<;>((try simp only [hb,zK])<;>(try simp only [zL,zI] at hb)<;>(try (exfalso;omega))))))
  all_goals
   refine AWP.loopW (α:=Nat) (fun k=>k ≤ par.length ∧ ∀ r ∈ par.take k,rowOk M D r = true) (fun k=>⟨[(3,iV k),(1,.opt 0 0)],[.box [.d .any,iV M,iV D,rowsA par,.d .any]]⟩) (fun k=>par.length - k) 0 ⟨by omega,by simp⟩ ⟨[0],rfl,rfl,rfl,by (repeat (first | exact trivial | refine ⟨rfl,?_⟩))⟩ fun k hk=>?_
   by_cases hkl : k < par.length
   ·have hbk := hbad k hkl
    by_cases hrl : (par[k].length : Int) = D
    ·have hro : rowOk M D par[k] = (par[k].all (fun x=>allF M [x]) && !(par[k].all fun x=>decide (x = 0))):=by
      unfold rowOk;rw [decide_eq_true hrl,Bool.true_and]
     (repeat' (first
      |(apply W.qd;(first
      |(exact zM)|(exact zN)|(exact jAm)|(exact jAg)|(exact jAj)|(exact jBb)|(exact jAt)|(exact jAc)
      |(exact jA)))|(apply yA)|(apply yB)|(refine jAb ?_)|(refine jAr ?_)|(apply yE)|(refine jAx ?_)|(apply yG)|(apply yH)
      |(refine W.cond _ rfl (fun hb=>?_) (fun hb=>?_)<;>((try simp only [hb,zK])<;>(try simp only [zL,zI] at hb)<;>(try (exfalso;omega))))))
     refine AWP.loopW (α:=Nat) (fun j=>j ≤ par[k].length ∧ ∀ x ∈ par[k].take j,allF M [x] = true) (fun j=>⟨[(5,iV j),(4,bV (someB par[k] j)),(3,iV k),(1,.opt 0 0)],[.box [.d .any,iV M,iV D,rowsA par,.d .any]]⟩) (fun j=>par[k].length - j) 0 ⟨by omega,by simp⟩ ⟨[0],rfl,rfl,rfl,by (repeat (first | exact trivial | refine ⟨rfl,?_⟩))⟩ fun j hj=>?_
     by_cases hjl : j < par[k].length
     ·have hx := A_rfvalid M (par[k][j])
      have hss:=someB_succ par[k] j hjl
      cases hf : allF M [par[k][j]]<;>rw [hf] at hx
      ·have hV : V = false:=hbk (by
        rw [hro,List.all_eq_false.2 ⟨par[k][j],List.getElem_mem _,by rw [hf];decide⟩];rfl)
       subst hV
       (repeat' (first
        |(apply W.qd;(first
        |(exact zW (hx))|(exact zM)|(exact zN)|(exact jAm)|(exact jAg)|(exact jAj)|(exact jBe)|(exact jAc)
        |(exact jA)))|(apply yA)|(apply yB)|(refine jAb ?_)|(refine jAr ?_)|(apply yE)|(refine jAx ?_)|(apply yG)|(apply yH)|(apply yJ)|(apply yP)|(apply yN)|(refine jAv ?_)
        |(refine W.cond _ rfl (fun hb=>?_) (fun hb=>?_)<;>((try simp only [hb,zK])<;>(try simp only [zL,zI] at hb)<;>(try (exfalso;omega))))))
       all_goals exact ⟨.inl rfl,[],[bV false],rfl,rfl,⟨rfl,trivial⟩,AVle.of_eq rfl,rfl⟩
      ·have hj2 : ∀ x ∈ par[k].take (j + 1),allF M [x] = true:=fun x hx2=>by
        rw [List.take_succ_eq_append_getElem hjl] at hx2
        rcases List.mem_append.1 hx2 with h | h
        ·exact hj.2 x h
        ·rw [List.mem_singleton.1 h];exact hf
       generalize someB par[k] j = s at *
       replace hss:=Lib.hid hss
       cases s
       ·(repeat' (first
        |(apply yFb;exact rfl;exact rfl)
        |(apply W.qd;(first
        |(exact zW (hx))|(exact zM)|(exact zN)|(exact jAm)|(exact jAg)|(exact jAj)|(exact jBb)|(exact jBe)|(exact jAi)|(exact jAc)|(exact jA)
        |(apply (yDb (u:=.d _));exact rfl;exact rfl)))|(apply yA)|(apply yB)|(refine jAb ?_)|(refine jAr ?_)|(apply yE)|(refine jAx ?_)|(apply yG)|(apply yH)|(apply yL)|(refine jAy ?_)
        |(refine W.cond _ rfl (fun hb=>?_) (fun hb=>?_)<;>((try simp only [hb,zK])<;>(try simp only [zL,zI] at hb)<;>(try (exfalso;omega))))))
        refine ⟨j + 1,⟨by omega,hj2⟩,by omega,[0],rfl,rfl,rfl,iV_eq (by omega),?_,rfl,rfl,trivial⟩
        rw [hss.out]
        exact congrArg bV (show (false || decide (par[k][j] ≠ 0)) = !decide (par[k][j] = 0) by simp)
       ·(repeat' (first
        |(apply W.qd;(first
        |(exact zW (hx))|(exact zM)|(exact zN)|(exact jAm)|(exact jAg)|(exact jAj)|(exact jBe)|(exact jAi)|(exact jAc)|(exact jA)
        |(apply (yEb (u:=.d _));exact rfl;exact rfl)))|(refine W.gOff _ _ rfl rfl (by intro h;cases h) ?_)|(apply yA)|(apply yB)|(refine jAb ?_)|(refine jAr ?_)|(apply yE)|(refine jAx ?_)|(apply yG)|(apply yH)|(apply yL)|(refine jAy ?_)
        |(refine W.cond _ rfl (fun hb=>?_) (fun hb=>?_)<;>((try simp only [hb,zK])<;>(try simp only [zL,zI] at hb)<;>(try (exfalso;omega))))))
        refine ⟨j + 1,⟨by omega,hj2⟩,by omega,[0],rfl,rfl,rfl,iV_eq (by omega),?_,rfl,rfl,trivial⟩
        rw [hss.out]
        rfl
     ·have hfull : par[k].take j = par[k] := List.take_of_length_le (by omega)
      have hsv : someB par[k] j = !(par[k].all fun x=>decide (x = 0)):=by unfold someB;rw [hfull]
      have hav : par[k].all (fun x=>allF M [x]) = true:=List.all_eq_true.2 fun x hx=>hj.2 x (by rw [hfull];exact hx)
      rw [hav,← hsv,Bool.true_and] at hro
      generalize someB par[k] j = s at *
      cases s
      ·have hV : V = false := hbk hro
       subst hV
       (repeat' (first
        |(apply W.qd;(first
        |(exact zM)|(exact zN)|(exact jAm)|(exact jAg)|(exact jAj)
        |(exact jBe)))|(apply yA)|(apply yB)|(refine jAb ?_)|(apply yE)|(apply yI)|(apply yJ)|(apply yK)|(apply yP)|(apply yM)|(apply yN)|(refine jAv ?_)
        |(refine W.cond _ rfl (fun hb=>?_) (fun hb=>?_)<;>((try simp only [hb,zK])<;>(try simp only [zL,zI] at hb)<;>(try (exfalso;omega))))))
       all_goals exact ⟨.inl rfl,[],[bV false],rfl,rfl,⟨rfl,trivial⟩,AVle.of_eq rfl,rfl⟩
      ·(repeat' (first
       |(apply W.qd;(first
       |(exact zM)|(exact zN)|(exact jAm)|(exact jAg)|(exact jAj)|(exact jBe)
       |(exact jAi)))|(apply yA)|(apply yB)|(refine jAb ?_)|(apply yE)|(apply yH)|(apply yI)|(apply yK)|(apply yL)|(apply yM)|(refine jAy ?_)
       |(refine W.cond _ rfl (fun hb=>?_) (fun hb=>?_)<;>((try simp only [hb,zK])<;>(try simp only [zL,zI] at hb)<;>(try (exfalso;omega))))))
       refine ⟨k + 1,⟨by omega,fun r hr=>?_⟩,by omega,[0],rfl,rfl,rfl,iV_eq (by omega),rfl,trivial⟩
       rw [List.take_succ_eq_append_getElem hkl] at hr
       rcases List.mem_append.1 hr with h | h
       ·exact hk.2 r h
       ·rw [List.mem_singleton.1 h];exact hro
    ·have hV : V = false := hbk (by unfold rowOk; rw [decide_eq_false hrl]; rfl)
     subst hV
     (repeat' (first
      |(apply W.qd;(first
      |(exact zM)|(exact zN)|(exact jAm)|(exact jAg)|(exact jAj)|(exact jBb)|(exact jAt)|(exact jAc)
      |(exact jA)))|(apply yA)|(apply yB)|(refine jAb ?_)|(refine jAr ?_)|(apply yE)|(refine jAx ?_)|(apply yG)|(apply yH)|(apply yJ)|(apply yP)|(apply yN)
      |(refine W.cond _ rfl (fun hb=>?_) (fun hb=>?_)<;>((try simp only [hb,zK])<;>(try simp only [zL,zI] at hb)<;>(try (exfalso;omega))))))
     all_goals exact ⟨.inl rfl,[],[bV false],rfl,rfl,⟨rfl,trivial⟩,AVle.of_eq rfl,rfl⟩
   ·have hV : V = true := hall fun r hr => hk.2 r (by rwa [List.take_of_length_le (by omega)])
    subst hV
    (repeat' (first
     |(apply W.qd;(first
     |(exact zM)|(exact zN)|(exact jAm)|(exact jAg)|(exact jAj)
     |(exact jAt)))|(apply yA)|(apply yB)|(refine jAb ?_)|(apply yE)|(apply yI)|(apply yJ)|(apply yK)|(apply yM)
     |(refine W.cond _ rfl (fun hb=>?_) (fun hb=>?_)<;>((try simp only [hb,zK])<;>(try simp only [zL,zI] at hb)<;>(try (exfalso;omega))))))
    exact ⟨.inl rfl,[],[bV true],rfl,rfl,⟨rfl,trivial⟩,AVle.of_eq rfl,rfl⟩
 ·have hv : validC M D par = false:=by
   rw [Bool.eq_false_iff]
   intro h
   unfold validC at h
   rw [h0] at h
   simp only [Bool.and_eq_true,decide_eq_true_eq] at h
   exact hg ⟨h.1.1.1.1,h.1.1.1.2,by omega⟩
  rw [hv]
  clear hv h0
  (repeat' (first
   |(apply yFb;exact rfl;exact rfl)
   |(apply W.qd;(first
   |(exact zM)|(exact zN)|(exact jAm)|(exact jAg)|(exact jAj)|(exact jBf)|(exact jBb)|(exact jAi)|(exact jAt)|(apply (yEb (u:=.d _));exact rfl;exact rfl)
   |(apply (yDb (u:=.d _));exact rfl;exact rfl)))|(apply W.ed;(exact jAa))|(refine W.gOff _ _ rfl rfl (by intro h;cases h) ?_)|(apply yA)|(apply yB)|(refine jAb ?_)|(apply yE)|(apply yJ)|(apply yP)|(refine jAv ?_)|(refine W.gT _ _ rfl rfl (fun hb=>?_) (fun hb=>?_)<;>((try simp only [hb,zK])<;>(try simp only [zL,zI] at hb)<;>(try (exfalso;omega))))|(refine W.gF _ _ rfl rfl (fun hb=>?_) (fun hb=>?_)<;>((try simp only [hb,zK])<;>(try simp only [zL,zI] at hb)<;>(try (exfalso;omega))))
   |(refine W.cond _ rfl (fun hb=>?_) (fun hb=>?_)<;>((try simp only [hb,zK])<;>(try simp only [zL,zI] at hb)<;>(try (exfalso;omega))))))
  all_goals exact ⟨.inl rfl,[],[bV false],rfl,rfl,⟨rfl,trivial⟩,AVle.of_eq rfl,rfl⟩
theorem A_r8width {M D : Int} {par : List (List Int)} (hD : D ≤ 1000000) (hP : par.length ≤ 1000000) : ACalls Tryz.prog 89 [cdA M D par] [] (iV (if validC M D par then D + (par.length : Int) else 0)) []:=by
 refine acalls_of_bodyO Tryz.func89 rfl (zU rfl) ?_
 have h0:=A_r8valid (M:=M) hD hP
 have hml : (par.map rD).length = par.length:=List.length_map _
 cases hv : validC M D par
 ·rw [hv] at h0
  (repeat' (first
   |(apply W.qd;(first
   |(exact zW (h0))|(exact zM)|(exact zN)|(exact jAn)
   |(exact jBe)))|(apply W.ed;(exact jAa))|(apply yA)|(apply yB)|(refine jAb ?_)|(apply yE)|(apply yJ)|(apply yP)
   |(refine jAv ?_)))
  exact ⟨.inl rfl,[],[iV 0],rfl,rfl,⟨rfl,trivial⟩,AVle.of_eq rfl,rfl⟩
 ·rw [hv] at h0
  have hD : 1 ≤ D:=by
   unfold validC at hv
   simp only [Bool.and_eq_true,decide_eq_true_eq] at hv
   omega
  (repeat' (first
   |(apply W.qd;(first
   |(exact zW (h0))|(exact zM)|(exact zN)|(exact jAm)|(exact jAg)|(exact jAn)|(exact jBe)|(exact jAi)
   |(exact jAt)))|(apply W.ed;(exact jAa))|(apply yA)|(apply yB)|(refine jAb ?_)|(apply yE)|(apply yH)|(apply yJ)
   |(refine jAy ?_)))
  refine ⟨.inl rfl,[],[_],rfl,rfl,⟨rfl,trivial⟩,AVle.of_eq ?_,rfl⟩
  rw [hml,if_pos rfl]
  rfl
def rowN (D : Nat) (ps : List (List Nat)) (u : Nat) : List Nat:=(List.range D).map fun x=>U D (genN D ps) u x
theorem rowN_length (D : Nat) (ps : List (List Nat)) (u : Nat) : (rowN D ps u).length = D:=by simp [rowN]
theorem A_r8row {M D u : Nat} {ps : List (List Nat)} (h : CodeOk M D ps) (hu : u < D + ps.length) : ACalls Tryz.prog 218 [cdN M D ps,iV u] [] (nats (rowN D ps u)) []:=by
 refine acalls_of_body Tryz.func218 rfl (zU rfl) ?_
 have h1:=h.d
 have h2:=h.w
 have hs : ∀ k,k < D → (rowN D ps u).take (k + 1) = (rowN D ps u).take k ++ [U D (genN D ps) u k]:=fun k hk=>by
  rw [List.take_succ_eq_append_getElem (by rw [rowN_length];exact hk)]
  simp [rowN]
 have hl:=rowN_length D ps u
 have hU1 : ∀ k,k < D → u < D → U D (genN D ps) u k = if u = k then 1 else 0:=fun k hk hu'=>by
  rw [U_data hu' hk];unfold eu'
  by_cases e : k = u
  ·rw [if_pos e,if_pos e.symm]
  ·rw [if_neg e,if_neg (fun e2=>e e2.symm)]
 have hU2 : ∀ k,k < D → ∀ (hge : D ≤ u) (h4 : u - D < ps.length) (h3 : k < (ps[u - D]).length),U D (genN D ps) u k = (ps[u - D])[k]:=fun k hk hge h4 h3=>by
  have:=U_par h h4 hk
  rw [show D + (u - D) = u by omega] at this
  rw [this,List.getD_eq_getElem?_getD (l:=ps),List.getElem?_eq_getElem h4,Option.getD_some,List.getD_eq_getElem?_getD,List.getElem?_eq_getElem h3]
  rfl
 have hrl : ∀ i (hi : i < ps.length),(ps[i]).length = D:=fun i hi=>(h.row _ (List.getElem_mem hi)).1
 generalize rowN D ps u = R at *
 (repeat' (first
  |(apply W.qd;(exact zN))|(apply W.ed;(exact jAa))|(apply yA)|(apply yB)|(refine jAb ?_)|(apply yE)
  |(apply yG)))
 refine AWP.nilRow 5 1 3 rfl (by omega) ?_
 refine AWP.loopW (α:=Nat) (fun k=>k ≤ D) (fun k=>⟨[(6,iV k),(1,iV u),(2,.opt 0 0),(5,.osl 1 k 0 (R.take k).length)],[.box [.d .any,iV M,iV D,rowsN ps,.d .any],.row k 1 3 ((R.take k).map kD)]⟩) (fun k=>D - k) 0 (by omega) ⟨[0,1],rfl,rfl,rfl,by (repeat (first | exact trivial | refine ⟨rfl,?_⟩))⟩ fun k hk=>?_
 have hlt : (R.take k).length ≤ 1024:=by rw [List.length_take];omega
 by_cases hkD : k < D
 ·have hss := hs k hkD
  replace hss:=Lib.hid hss
  generalize R.take k = A at *
  by_cases hud : u < D
  ·have hUk := hU1 k hkD hud
   by_cases huk : u = k
   ·rw [if_pos huk] at hUk
    (repeat' (first
     |(apply W.qd;(first
     |(exact zM)|(exact zN)|(exact jAm)|(exact jAg)|(exact jAj)|(exact q_geq rfl rfl)|(exact jAu)|(exact jAi)
     |(exact jAl)))|(apply W.ld;(apply l_app1;(iterate 8 exact rfl);(first | omega | (focus (simp;omega)) | (focus (simp;done)))))|(apply yA)|(apply yB)|(refine jAb ?_)|(apply yE)|(apply yG)|(apply yH)|(apply yL)
     |(refine W.cond _ rfl (fun hb=>?_) (fun hb=>?_)<;>((try simp only [hb,zK])<;>(try simp only [zL,zI] at hb)<;>(try (exfalso;omega))))))
    refine ⟨k + 1,by omega,by omega,?_⟩
    rw [hss.out,hUk]
    exact ⟨[0,1],rfl,rfl,rfl,iV_eq (by omega),rfl,rfl,congrArg (AV.osl 1 (k + 1) 0) (by simp),trivial⟩
   ·rw [if_neg huk] at hUk
    (repeat' (first
     |(apply W.qd;(first
     |(exact zM)|(exact zN)|(exact jAm)|(exact jAg)|(exact jAj)|(exact q_geq rfl rfl)|(exact jAu)|(exact jAi)
     |(exact jAl)))|(apply W.ld;(apply l_app1;(iterate 8 exact rfl);(first | omega | (focus (simp;omega)) | (focus (simp;done)))))|(apply yA)|(apply yB)|(refine jAb ?_)|(apply yE)|(apply yG)|(apply yH)|(apply yL)
     |(refine W.cond _ rfl (fun hb=>?_) (fun hb=>?_)<;>((try simp only [hb,zK])<;>(try simp only [zL,zI] at hb)<;>(try (exfalso;omega))))))
    refine ⟨k + 1,by omega,by omega,?_⟩
    rw [hss.out,hUk]
    exact ⟨[0,1],rfl,rfl,rfl,iV_eq (by omega),rfl,rfl,congrArg (AV.osl 1 (k + 1) 0) (by simp),trivial⟩
  ·have hi : u - D < ps.length := by omega
   have hl3:=hrl (u - D) hi
   have hUk:=hU2 k hkD (by omega) hi (by omega)
   have hmp : (ps.map rnD).length = ps.length:=List.length_map _
   have hsub : ((u : Int) - (D : Int)) = ((u - D : Nat) : Int):=by omega
   (repeat' (first
    |(apply W.qd;(first
    |(exact zM)|(exact zN)|(exact jAm)|(exact jAg)|(exact jAj)|(exact q_geq rfl rfl)|(exact jAu)|(exact jAi)|(exact q_sub rfl rfl (by omega))|(exact jAc)|(exact jAl)
    |(exact jA)))|(apply W.ld;(apply l_app1;(iterate 8 exact rfl);(first | omega | (focus (simp;omega)) | (focus (simp;done)))))|(apply yA)|(apply yB)|(refine jAb ?_)|(apply yE)|(apply yG)|(apply yH)|(apply yL)
    |(refine W.cond _ rfl (fun hb=>?_) (fun hb=>?_)<;>((try simp only [hb,zK])<;>(try simp only [zL,zI] at hb)<;>(try (exfalso;omega))))))
   all_goals refine ⟨k + 1,by omega,by omega,?_⟩
   all_goals rw [hss.out,hUk]
   all_goals exact ⟨[0,1],rfl,rfl,rfl,iV_eq (by omega),rfl,rfl,congrArg (AV.osl 1 (k + 1) 0) (by simp),trivial⟩
 ·have e : D = k := by omega
  subst e
  rw [List.take_of_length_le (by omega)]
  (repeat' (first
   |(apply W.qd;(first
   |(exact zM)|(exact zN)|(exact jAm)|(exact jAg)
   |(exact jAj)))|(apply yA)|(apply yB)|(refine jAb ?_)|(apply yE)|(apply yI)|(apply yJ)|(apply yK)|(apply yM)
   |(refine W.cond _ rfl (fun hb=>?_) (fun hb=>?_)<;>((try simp only [hb,zK])<;>(try simp only [zL,zI] at hb)<;>(try (exfalso;omega))))))
  exact Ends.osl rfl rfl (by simp) rfl
end
section
set_option linter.unusedSectionVars false
attribute [local irreducible] Quiet Eff OpOk AWPG ACont ABlock ACalls AGoto
theorem A_r8widthN {M D : Nat} {ps : List (List Nat)} (h : CodeOk M D ps) : ACalls Tryz.prog 89 [cdN M D ps] [] (iV (D + ps.length : Nat)) []:=by
 have hl : (toZ ps).length = ps.length:=List.length_map _
 have hw:=h.w
 have:=A_r8width (M:=M) (D:=D) (par:=toZ ps) (by omega) (by omega)
 rw [valid_ok h,if_pos rfl,← cdN_A,hl] at this
 rwa [show ((D + ps.length : Nat) : Int) = (D : Int) + (ps.length : Int) by omega]
end
section
attribute [local irreducible] Quiet Eff OpOk AWPG ACont ABlock ACalls AGoto
theorem A_cloneB {l : List Bool} (h0 : 0 < l.length) (hl : l.length ≤ 1000000) : ACalls Tryz.prog 208 [bools l] [] (.osl 0 1 0 l.length) [.row 1 1 4 (l.map tD)]:=by
 refine acalls_of_bodyO Tryz.func208 rfl (zU rfl) ?_
 have hm : (l.map tD).length = l.length:=List.length_map _
 (repeat' (first
  |(apply W.ed;(apply e_lit0F;(iterate 5 exact rfl)))
  |(apply W.qd;(first
  |(exact zM)|(exact zN)
  |(apply q_eqnilm;(iterate 3 exact rfl);(first | assumption | omega))))|(apply W.ed;(apply e_appF;(iterate 8 exact rfl);(first | rfl | simp);(first | exact Nat.zero_lt_one | (focus (simp;done)) | omega);(first | (focus (simp;done)) | (focus (simp;omega)) | omega)))|(apply yA)|(apply yB)|(refine jAb ?_)|(apply yE)|(apply yH)|(apply yJ)
  |(refine jAy ?_)))
 refine ⟨.inl rfl,[0],[.osl 0 1 0 ((([] : List Nat).length) + (l.map tD).length)],rfl,rfl,⟨rfl,trivial⟩,AVle.of_eq ?_,rfl⟩
 show AV.osl 0 1 0 (0 + (l.map tD).length) = .osl 0 1 0 l.length
 rw [hm,Nat.zero_add]
end
section
set_option linter.unusedSectionVars false
def exCol (rows : List (List Nat)) (t : List Nat) (c : Nat) : Nat → Nat:=fun x=>if c < rows.length then (rows.getD c []).getD x 0 else t.getD x 0
def exM (D : Nat) (rows : List (List Nat)) (t : List Nat) : List Nat:=((List.range D).map fun x=>(List.range (rows.length + 1)).map fun c=>exCol rows t c x).flatten
def exR (M D : Nat) (rows : List (List Nat)) (t : List Nat) (k : Nat) : List Nat × List Nat:=red M D (rows.length + 1) (exM D rows t) k
def exprN (M D : Nat) (rows : List (List Nat)) (t : List Nat) : Option (List Nat) :=
 let s:=exR M D rows t rows.length
 if s.2.length = rows.length ∧ ∀ q,q < D → rows.length ≤ q → gt (rows.length + 1) s.1 q rows.length = 0 then some ((List.range rows.length).map fun k=>gt (rows.length + 1) s.1 k rows.length) else none
theorem flat_len' {C : Nat} : ∀ {l : List (List Nat)}, (∀ r ∈ l, r.length = C) → l.flatten.length = l.length * C
 | [],_=>by simp
 | r :: l,h=>by
   rw [List.flatten_cons,List.length_append,flat_len' fun x hx=>h x (by simp [hx]),h r (by simp),List.length_cons,Nat.succ_mul];omega
theorem exM_row (D : Nat) (rows : List (List Nat)) (t : List Nat) : ∀ r ∈ ((List.range D).map fun x=>(List.range (rows.length + 1)).map fun c=>exCol rows t c x),r.length = rows.length + 1:=fun r hr=>by
 obtain ⟨x,_,rfl⟩:=List.mem_map.1 hr
 simp
theorem exM_length (D : Nat) (rows : List (List Nat)) (t : List Nat) : (exM D rows t).length = D * (rows.length + 1):=by
 unfold exM
 rw [flat_len' (exM_row D rows t)]
 simp
theorem exM_gt {D : Nat} (rows : List (List Nat)) (t : List Nat) {x c : Nat} (hx : x < D) (hc : c < rows.length + 1) : gt (rows.length + 1) (exM D rows t) x c = exCol rows t c x:=by
 unfold gt exM
 rw [flat_get hc (exM_row D rows t) x (by simpa using hx)]
 have e : (((List.range D).map fun x=>(List.range (rows.length + 1)).map fun c=>exCol rows t c x).getD x []) = (List.range (rows.length + 1)).map fun c=>exCol rows t c x:=by
  rw [List.getD_eq_getElem?_getD,List.getElem?_map,List.getElem?_range hx];rfl
 rw [e,List.getD_eq_getElem?_getD,List.getElem?_map,List.getElem?_range hc];rfl
section
variable {M D : Nat} {rows : List (List Nat)} {t : List Nat} (hM : FldM M) (hr : ∀ r ∈ rows,∀ x ∈ r,x < 2 ^ M) (ht : ∀ x ∈ t,x < 2 ^ M)
include hM hr ht
theorem exCol_lt (c x : Nat) : exCol rows t c x < 2 ^ M:=by
 unfold exCol
 by_cases h : c < rows.length
 ·rw [if_pos h]
  refine getD_lt (fun y hy=>?_) x
  rw [List.getD_eq_getElem?_getD,List.getElem?_eq_getElem h] at hy
  exact hr _ (List.getElem_mem h) y hy
 ·rw [if_neg h];exact getD_lt ht x
theorem exM_lt : ∀ x ∈ exM D rows t,x < 2 ^ M:=fun x hx=>by
 unfold exM at hx
 obtain ⟨r,h1,h2⟩:=List.mem_flatten.1 hx
 obtain ⟨y,_,rfl⟩:=List.mem_map.1 h1
 obtain ⟨c,_,rfl⟩:=List.mem_map.1 h2
 exact exCol_lt hM hr ht c y
theorem ex_to {k : Nat} (hk : k ≤ rows.length + 1) : ∃ T S,RedTo M D (rows.length + 1) k (exM D rows t) (exR M D rows t k).1 (exR M D rows t k).2 T S :=
 red_to hM (exM_length D rows t) (exM_lt hM hr ht) k hk
def Indep (M D : Nat) (rows : List (List Nat)) : Prop:=∀ j,j < rows.length → ¬ Sp M D (WS (fun q x=>(rows.getD q []).getD x 0) j) (fun x=>(rows.getD j []).getD x 0)
theorem rowV {q : Nat} (hq : q < rows.length) : Vc M D (fun x=>(rows.getD q []).getD x 0):=fun x _=>by
 have:=exCol_lt (rows:=rows) (t:=t) hM hr ht q x
 unfold exCol at this
 rwa [if_pos hq] at this
theorem ex_sum {k : Nat} (hk : k ≤ rows.length) {T S : (Nat → Nat) → Nat → Nat} {A pv : List Nat} (h : RedTo M D (rows.length + 1) k (exM D rows t) A pv T S) (hpl : pv.length ≤ D) {v : Nat → Nat} (hv : Vc M D v) (hz : ∀ r, r < D → pv.length ≤ r → T v r = 0) :
 ∀ x,x < D → v x = sg (fun q=>mu M (T v q) ((rows.getD (pv.getD q 0) []).getD x 0)) pv.length:=by
 have hw : ∀ q,q < pv.length → T v q < 2 ^ M ∧ Vc M D (fun x=>(rows.getD (pv.getD q 0) []).getD x 0):=fun q hq=>⟨h.iso.lt v hv q (by omega),rowV hM hr ht (by have:=(h.piv q hq).1;omega)⟩
 have hTu : ∀ q,q < pv.length → ∀ r,r < D → T (fun x=>(rows.getD (pv.getD q 0) []).getD x 0) r = if r = q then 1 else 0:=fun q hq r hr'=>by
  obtain ⟨p1,p2⟩:=h.piv q hq
  rw [← p2 r hr',h.col _ (by omega) r hr']
  refine h.iso.congr _ _ (fun i hi=>?_) r hr'
  rw [exM_gt rows t hi (by omega)]
  unfold exCol
  rw [if_pos (show pv.getD q 0 < rows.length by omega)]
 have hS : ∀ s,WS (fun q x=>(rows.getD (pv.getD q 0) []).getD x 0) pv.length s → Vc M D s:=fun s ⟨q,hq,e⟩=>by rw [e];exact (hw q hq).2
 have hsum : Vc M D (fun x=>sg (fun q=>mu M (T v q) ((rows.getD (pv.getD q 0) []).getD x 0)) pv.length) :=
  (Sp.sum (M:=M) (D:=D) (S:=WS (fun q x=>(rows.getD (pv.getD q 0) []).getD x 0) pv.length) hM hS (c:=fun q=>T v q) (w:=fun q x=>(rows.getD (pv.getD q 0) []).getD x 0) pv.length fun q hq=>⟨(hw q hq).1,Sp.of hM hS ⟨q,hq,rfl⟩⟩).vc hM hS
 refine h.iso.inj hv hsum fun i hi=>?_
 rw [h.iso.sum pv.length hw i hi]
 rw [sg_congr pv.length (fun q hq=>show mu M (T v q) (T (fun x=>(rows.getD (pv.getD q 0) []).getD x 0) i) = if q = i then T v i else 0 by
  rw [hTu q hq i hi]
  by_cases e : i = q
  ·subst e;rw [if_pos rfl,if_pos rfl,mu_one hM (h.iso.lt v hv i hi)]
  ·rw [if_neg e,if_neg (fun e2=>e e2.symm),mu_zero])]
 rw [sg_one (k:=i) pv.length (fun q _ hne=>if_neg hne),if_pos rfl]
 by_cases e : i < pv.length
 ·rw [if_pos e]
 ·rw [if_neg e,hz i hi (by omega)]
theorem ex_full (hI : Indep M D rows) : ∀ k, k ≤ rows.length → (exR M D rows t k).2.length = k
 | 0,_=>rfl
 | k + 1,hk=>by
   have ih:=ex_full hI k (by omega)
   obtain ⟨T0,S0,h0⟩:=ex_to hM hr ht (D:=D) (k:=k) (by omega)
   obtain ⟨T,S,h⟩:=ex_to hM hr ht (D:=D) (k:=k + 1) (by omega)
   have hok:=red_ok hM (exM_length D rows t) (exM_lt hM hr ht) (k + 1)
   have hpr:=hok.pr
   have hstep : (exR M D rows t (k + 1)).2 = (exR M D rows t k).2 ∨ (exR M D rows t (k + 1)).2 = (exR M D rows t k).2 ++ [k]:=by
    show (redStep M D (rows.length + 1) k (exR M D rows t k)).2 = _ ∨ (redStep M D (rows.length + 1) k (exR M D rows t k)).2 = _
    generalize exR M D rows t k = s
    unfold redStep
    dsimp only
    split
    ·exact .inl rfl
    ·exact .inr rfl
   rcases hstep with e | e
   ·exfalso
    change (exR M D rows t (k + 1)).2.length ≤ D at hpr
    rw [e] at h hpr
    refine hI k (by omega) ?_
    have hv : Vc M D (fun x=>(rows.getD k []).getD x 0):=rowV hM hr ht (by omega)
    have hTk : ∀ r,r < D → gt (rows.length + 1) (exR M D rows t (k + 1)).1 r k = T (fun x=>(rows.getD k []).getD x 0) r:=fun r hr'=>by
     rw [h.col _ (by omega) r hr']
     refine h.iso.congr _ _ (fun i hi=>?_) r hr'
     rw [exM_gt rows t hi (by omega)]
     unfold exCol
     rw [if_pos (show k < rows.length by omega)]
    have hs:=ex_sum hM hr ht (k:=k + 1) (by omega) h hpr hv fun r hr' hle=>by
     rw [← hTk r hr']
     by_cases e2 : gt (rows.length + 1) (exR M D rows t (k + 1)).1 r k = 0
     ·exact e2
     ·have:=(h.low k (by omega) r hr' e2).1;omega
    have hS : ∀ s,WS (fun q x=>(rows.getD q []).getD x 0) k s → Vc M D s:=fun s ⟨q,hq,e⟩=>by rw [e];exact rowV hM hr ht (by omega)
    refine Sp.congr (Sp.sum (M:=M) (D:=D) hM hS (c:=fun q=>T (fun x=>(rows.getD k []).getD x 0) q) (w:=fun q x=>(rows.getD ((exR M D rows t k).2.getD q 0) []).getD x 0) (exR M D rows t k).2.length fun q hq=>⟨h.iso.lt _ hv q (by omega),Sp.of hM hS ⟨_,(h0.piv q hq).1,rfl⟩⟩) hs
   ·rw [e,List.length_append,ih];rfl
theorem ex_pv (hI : Indep M D rows) {q : Nat} (hq : q < rows.length) : (exR M D rows t rows.length).2.getD q 0 = q:=by
 obtain ⟨T,S,h⟩:=ex_to hM hr ht (D:=D) (k:=rows.length) (by omega)
 have hl:=ex_full hM hr ht hI rows.length (Nat.le_refl _)
 have lo : ∀ q,q < rows.length → q ≤ (exR M D rows t rows.length).2.getD q 0:=by
  intro q
  induction q with
  | zero=>intro _;omega
  | succ q ih =>
    intro hq
    have h1:=ih (by omega)
    have h2:=h.inc q (q + 1) (by omega) (by omega)
    omega
 have hi : ∀ d q,q + d + 1 = rows.length → (exR M D rows t rows.length).2.getD q 0 ≤ q:=by
  intro d
  induction d with
  | zero=>intro q hq;have:=(h.piv q (by omega)).1;omega
  | succ d ih =>
    intro q hq
    have h1:=ih (q + 1) (by omega)
    have h2:=h.inc q (q + 1) (by omega) (by omega)
    omega
 have h1:=lo q hq
 have h2:=hi (rows.length - q - 1) q (by omega)
 omega
def Sums (M D : Nat) (rows : List (List Nat)) (t : List Nat) (K : List Nat) : Prop:=K.length = rows.length ∧ (∀ x ∈ K,x < 2 ^ M) ∧ ∀ x,x < D → t.getD x 0 = sg (fun q=>mu M (K.getD q 0) ((rows.getD q []).getD x 0)) rows.length
theorem tgV : Vc M D (fun x=>t.getD x 0):=fun x _=>getD_lt ht x
theorem ex_tgt {k : Nat} {T S : (Nat → Nat) → Nat → Nat} {A pv : List Nat} (h : RedTo M D (rows.length + 1) k (exM D rows t) A pv T S) {r : Nat} (hr' : r < D) : gt (rows.length + 1) A r rows.length = T (fun x=>t.getD x 0) r:=by
 rw [h.col _ (by omega) r hr']
 refine h.iso.congr _ _ (fun i hi=>?_) r hr'
 rw [exM_gt rows t hi (by omega)]
 unfold exCol
 rw [if_neg (by omega)]
theorem expr_some (hn : rows.length ≤ D) {K : List Nat} (hI : Indep M D rows) (he : exprN M D rows t = some K) : Sums M D rows t K:=by
 obtain ⟨T,S,h⟩:=ex_to hM hr ht (D:=D) (k:=rows.length) (by omega)
 have hl:=ex_full hM hr ht hI rows.length (Nat.le_refl _)
 have hp:=fun q hq=>ex_pv hM hr ht hI (q:=q) hq
 unfold exprN at he
 dsimp only at he
 by_cases hc : (exR M D rows t rows.length).2.length = rows.length ∧ ∀ q,q < D → rows.length ≤ q → gt (rows.length + 1) (exR M D rows t rows.length).1 q rows.length = 0
 ·rw [if_pos hc] at he
  obtain rfl:=Option.some.inj he
  have hg:=fun r hr'=>ex_tgt hM hr ht h (r:=r) hr'
  have hs:=ex_sum hM hr ht (k:=rows.length) (Nat.le_refl _) h (by omega) (tgV (D:=D) hM hr ht) fun r hr' hle=>by
   rw [← hg r hr'];exact hc.2 r hr' (by omega)
  have gk : ∀ q,q < rows.length → ((List.range rows.length).map fun k=>gt (rows.length + 1) (exR M D rows t rows.length).1 k rows.length).getD q 0 = T (fun x=>t.getD x 0) q:=fun q hq=>by
   rw [List.getD_eq_getElem?_getD,List.getElem?_map,List.getElem?_range hq]
   exact hg q (by omega)
  refine ⟨by simp,fun x hx=>?_,fun x hx=>?_⟩
  ·obtain ⟨q, hq, rfl⟩ := List.mem_map.1 hx
   have hq:=List.mem_range.1 hq
   rw [hg q (by omega)]
   exact h.iso.lt _ (tgV (D:=D) hM hr ht) q (by omega)
  ·have := hs x hx
   try dsimp only at this
   rw [this,hl]
   refine sg_congr _ fun q hq=>?_
   rw [gk q hq,hp q hq]
 ·rw [if_neg hc] at he;cases he
theorem expr_eq (hn : rows.length ≤ D) {K : List Nat} (hI : Indep M D rows) (hK : Sums M D rows t K) : exprN M D rows t = some K:=by
 obtain ⟨T,S,h⟩:=ex_to hM hr ht (D:=D) (k:=rows.length) (by omega)
 have hl:=ex_full hM hr ht hI rows.length (Nat.le_refl _)
 have hp:=fun q hq=>ex_pv hM hr ht hI (q:=q) hq
 obtain ⟨k1,k2,k3⟩:=hK
 have hKl : ∀ q,K.getD q 0 < 2 ^ M:=fun q=>getD_lt k2 q
 have hTu : ∀ q,q < rows.length → ∀ r,r < D → T (fun x=>(rows.getD q []).getD x 0) r = if r = q then 1 else 0:=fun q hq r hr'=>by
  obtain ⟨p1,p2⟩:=h.piv q (by omega)
  rw [hp q hq] at p2
  rw [← p2 r hr',h.col _ (by omega) r hr']
  refine h.iso.congr _ _ (fun i hi=>?_) r hr'
  rw [exM_gt rows t hi (by omega)]
  unfold exCol
  rw [if_pos hq]
 have hT : ∀ r,r < D → T (fun x=>t.getD x 0) r = if r < rows.length then K.getD r 0 else 0:=fun r hr'=>by
  rw [h.iso.congr (fun x=>t.getD x 0) _ k3 r hr',h.iso.sum rows.length (fun q hq=>⟨hKl q,rowV hM hr ht hq⟩) r hr']
  rw [sg_congr rows.length (fun q hq=>show mu M (K.getD q 0) (T (fun x=>(rows.getD q []).getD x 0) r) = if q = r then K.getD r 0 else 0 by
   rw [hTu q hq r hr']
   by_cases e : r = q
   ·subst e;rw [if_pos rfl,if_pos rfl,mu_one hM (hKl r)]
   ·rw [if_neg e,if_neg (fun e2=>e e2.symm),mu_zero])]
  rw [sg_one (k:=r) rows.length (fun q _ hne=>if_neg hne),if_pos rfl]
 unfold exprN
 dsimp only
 rw [if_pos ⟨hl,fun q hq hle=>by rw [ex_tgt hM hr ht h hq,hT q hq,if_neg (by omega)]⟩]
 congr 1
 refine List.ext_getElem (by simp [k1]) fun q h1 h2=>?_
 have hq : q < rows.length:=by simpa using h1
 rw [List.getElem_map,List.getElem_range,ex_tgt hM hr ht h (by omega),hT q (by omega),if_pos hq,List.getD_eq_getElem?_getD,List.getElem?_eq_getElem h2]
 rfl
end
end
section
set_option linter.unusedSectionVars false
def takeR (D : Nat) (ps : List (List Nat)) (B : List Nat) (m : Nat) : List (List Nat):=(B.take m).map (rowN D ps)
theorem takeR_length {D : Nat} {ps : List (List Nat)} {B : List Nat} {m : Nat} (hm : m ≤ B.length) : (takeR D ps B m).length = m:=by
 unfold takeR
 rw [List.length_map,List.length_take];omega
theorem rowN_get {D : Nat} {ps : List (List Nat)} {u x : Nat} (hx : x < D) : (rowN D ps u).getD x 0 = U D (genN D ps) u x:=by
 unfold rowN
 rw [List.getD_eq_getElem?_getD,List.getElem?_map,List.getElem?_range hx];rfl
theorem takeR_row {D : Nat} {ps : List (List Nat)} {B : List Nat} {m q : Nat} (hm : m ≤ B.length) (hq : q < m) : (takeR D ps B m).getD q [] = rowN D ps (B.getD q 0):=by
 unfold takeR
 rw [List.getD_eq_getElem?_getD,List.getElem?_map,List.getElem?_take_of_lt hq,List.getD_eq_getElem?_getD]
 have : q < B.length:=by omega
 rw [List.getElem?_eq_getElem this];rfl
theorem takeR_get {D : Nat} {ps : List (List Nat)} {B : List Nat} {m q x : Nat} (hm : m ≤ B.length) (hq : q < m) (hx : x < D) : ((takeR D ps B m).getD q []).getD x 0 = U D (genN D ps) (B.getD q 0) x:=by
 rw [takeR_row hm hq,rowN_get hx]
theorem takeR_succ {D : Nat} {ps : List (List Nat)} {B : List Nat} {m : Nat} (hm : m < B.length) : takeR D ps B (m + 1) = takeR D ps B m ++ [rowN D ps (B.getD m 0)]:=by
 unfold takeR
 rw [List.take_succ_eq_append_getElem hm,List.map_append]
 have : B.getD m 0 = B[m]:=by rw [List.getD_eq_getElem?_getD,List.getElem?_eq_getElem hm];rfl
 rw [this];rfl
section
variable {M D : Nat} {gen : List Nat} {hv : List Bool} {B : List Nat} {T S : (Nat → Nat) → Nat → Nat}
theorem Bas.lowJ (hg : ∀ u,Vc M D (U D gen u)) (h : Bas M D gen hv B T S) {j : Nat} (hj : j ≤ B.length) {v : Nat → Nat} (hsp : Sp M D (WS (fun q=>U D gen (B.getD q 0)) j) v) : ∀ r,r < D → j ≤ r → T v r = 0:=by
 induction hsp with
 | zero h0=>exact fun r hr _=>h.iso.zero h0 r hr
 | step h1 hs hc h2 ih =>
   obtain ⟨q,hq,rfl⟩:=hs
   intro r hr hle
   rename_i u v c
   have hUv : T (U D gen (B.getD q 0)) r = 0:=by rw [h.unit q (by omega) r hr,if_neg (by omega)]
   rw [h.iso.congr _ _ h2 r hr,h.iso.add u (fun x=>mu M c (U D gen (B.getD q 0) x)) r hr,ih r hr hle,Nat.zero_xor]
   rw [h.iso.smul c _ hc (hg _) r hr,hUv,mu_zero]
end
section
variable {M D : Nat} {ps : List (List Nat)} {hv : List Bool} (h : CodeOk M D ps) (hl : hv.length = D + ps.length)
include h hl
theorem rowN_lt (u : Nat) : ∀ x ∈ rowN D ps u,x < 2 ^ M:=fun x hx=>by
 unfold rowN at hx
 obtain ⟨y,hy,rfl⟩:=List.mem_map.1 hx
 exact U_all h u y (List.mem_range.1 hy)
theorem takeR_lt (B : List Nat) (m : Nat) : ∀ r ∈ takeR D ps B m,∀ x ∈ r,x < 2 ^ M:=fun r hr=>by
 unfold takeR at hr
 obtain ⟨u,_,rfl⟩:=List.mem_map.1 hr
 exact rowN_lt h hl u
theorem takeR_ws {B : List Nat} {m j : Nat} (hm : m ≤ B.length) (hj : j ≤ m) {v : Nat → Nat} : Sp M D (WS (fun q x=>((takeR D ps B m).getD q []).getD x 0) j) v ↔ Sp M D (WS (fun q=>U D (genN D ps) (B.getD q 0)) j) v:=by
 constructor
 ·refine Sp.trans h.f (fun s ⟨q, hq, e⟩ => by rw [e]; exact U_all h _) fun s ⟨q, hq, e⟩ => ?_
  rw [e]
  exact (Sp.of h.f (fun s ⟨q,hq,e⟩=>by rw [e];exact U_all h _) ⟨q,hq,rfl⟩).congr fun x hx=>takeR_get hm (by omega) hx
 ·have hV : ∀ s,WS (fun q x=>((takeR D ps B m).getD q []).getD x 0) j s → Vc M D s:=fun s ⟨q,hq,e⟩ x hx=>by
   rw [e]
   show ((takeR D ps B m).getD q []).getD x 0 < 2 ^ M
   rw [takeR_get hm (by omega) hx];exact U_all h _ x hx
  refine Sp.trans h.f hV fun s ⟨q,hq,e⟩=>?_
  rw [e]
  exact (Sp.of h.f hV ⟨q,hq,rfl⟩).congr fun x hx=>(takeR_get hm (by omega) hx).symm
theorem ind_take {m : Nat} (hm : m ≤ (basisN M D ps hv).length) : Indep M D (takeR D ps (basisN M D ps hv) m):=fun j hj hsp=>by
 obtain ⟨T,S,hB⟩:=basis_to h hl
 rw [takeR_length hm] at hj
 have h1:=(takeR_ws h hl hm (by omega)).1 hsp
 have h2:=hB.lowJ (U_all h) (by omega) h1 j (by have:=hB.le;omega) (Nat.le_refl _)
 rw [hB.iso.congr _ (U D (genN D ps) ((basisN M D ps hv).getD j 0)) (fun x hx=>takeR_get hm hj hx) j (by have:=hB.le;omega),hB.unit j (by omega) j (by have:=hB.le;omega),if_pos rfl] at h2
 cases h2
theorem bas_le : (basisN M D ps hv).length ≤ D:=by
 obtain ⟨T,S,hB⟩:=basis_to h hl
 exact hB.le
theorem sums_sp {B : List Nat} {m u : Nat} {K : List Nat} (hm : m ≤ B.length) (hs : Sums M D (takeR D ps B m) (rowN D ps u) K) : Sp M D (WS (fun q=>U D (genN D ps) (B.getD q 0)) m) (U D (genN D ps) u):=by
 obtain ⟨k1,k2,k3⟩:=hs
 rw [takeR_length hm] at k3
 refine Sp.congr (Sp.sum (M:=M) (D:=D) h.f (fun s ⟨q,hq,e⟩=>by rw [e];exact U_all h _) (c:=fun q=>K.getD q 0) (w:=fun q=>U D (genN D ps) (B.getD q 0)) m fun q hq=>⟨getD_lt k2 q,Sp.of h.f (fun s ⟨q,hq,e⟩=>by rw [e];exact U_all h _) ⟨q,hq,rfl⟩⟩) fun x hx=>?_
 rw [← rowN_get hx,k3 x hx]
 exact sg_congr _ fun q hq=>by rw [takeR_get hm hq hx]
theorem step_none {m : Nat} (hm : m < (basisN M D ps hv).length) : exprN M D (takeR D ps (basisN M D ps hv) m) (rowN D ps ((basisN M D ps hv).getD m 0)) = none:=by
 cases he : exprN M D (takeR D ps (basisN M D ps hv) m) (rowN D ps ((basisN M D ps hv).getD m 0)) with
 | none=>rfl
 | some K =>
   exfalso
   have hbl:=bas_le h hl
   have hs:=expr_some h.f (takeR_lt h hl _ _) (rowN_lt h hl _) (by rw [takeR_length (by omega)];omega) (ind_take h hl (by omega)) he
   obtain ⟨T,S,hB⟩:=basis_to h hl
   have h2:=hB.lowJ (U_all h) (by omega) (sums_sp h hl (by omega) hs) m (by omega) (Nat.le_refl _)
   rw [hB.unit m hm m (by omega),if_pos rfl] at h2
   cases h2
theorem step_some {m i : Nat} (hi : hv.getD i false = true) (hm : m ≤ (basisN M D ps hv).length) (hge : ∀ q,m ≤ q → q < (basisN M D ps hv).length → i < (basisN M D ps hv).getD q 0) : (exprN M D (takeR D ps (basisN M D ps hv) m) (rowN D ps i)).isSome = true:=by
 have hbl:=bas_le h hl
 obtain ⟨T,S,hB⟩:=basis_to h hl
 have hlow : ∀ r,r < D → m ≤ r → T (U D (genN D ps) i) r = 0:=fun r hr hle=>by
  by_cases e : T (U D (genN D ps) i) r = 0
  ·exact e
  ·have := hB.low i hi r hr e
   have:=hge r hle this.1
   omega
 have hK : Sums M D (takeR D ps (basisN M D ps hv) m) (rowN D ps i) ((List.range m).map fun q=>T (U D (genN D ps) i) q):=by
  have gk : ∀ q,q < m → ((List.range m).map fun q=>T (U D (genN D ps) i) q).getD q 0 = T (U D (genN D ps) i) q:=fun q hq=>by
   rw [List.getD_eq_getElem?_getD,List.getElem?_map,List.getElem?_range hq];rfl
  refine ⟨by simp [takeR_length hm],fun x hx=>?_,fun x hx=>?_⟩
  ·obtain ⟨q, hq, rfl⟩ := List.mem_map.1 hx
   exact hB.iso.lt _ (U_all h i) q (by have:=List.mem_range.1 hq;omega)
  ·rw [rowN_get hx, takeR_length hm]
   have hS : ∀ s,WS (fun q=>U D (genN D ps) ((basisN M D ps hv).getD q 0)) m s → Vc M D s:=fun s ⟨q,hq,e⟩=>by rw [e];exact U_all h _
   have hsum:=(Sp.sum (M:=M) (D:=D) h.f hS (c:=fun q=>T (U D (genN D ps) i) q) (w:=fun q=>U D (genN D ps) ((basisN M D ps hv).getD q 0)) m fun q hq=>⟨hB.iso.lt _ (U_all h i) q (by omega),Sp.of h.f hS ⟨q,hq,rfl⟩⟩).vc h.f hS
   have key:=hB.iso.inj (U_all h i) hsum fun r hr=>by
    rw [hB.iso.sum m (fun q hq=>⟨hB.iso.lt _ (U_all h i) q (by omega),U_all h _⟩) r hr]
    rw [sg_congr m (fun q hq=>show mu M (T (U D (genN D ps) i) q) (T (U D (genN D ps) ((basisN M D ps hv).getD q 0)) r) = if q = r then T (U D (genN D ps) i) r else 0 by
     rw [hB.unit q (by omega) r hr]
     by_cases e : r = q
     ·subst e;rw [if_pos rfl,if_pos rfl,mu_one h.f (hB.iso.lt _ (U_all h i) r hr)]
     ·rw [if_neg e,if_neg (fun e2=>e e2.symm),mu_zero])]
    rw [sg_one (k:=r) m (fun q _ hne=>if_neg hne),if_pos rfl]
    by_cases e : r < m
    ·rw [if_pos e]
    ·rw [if_neg e,hlow r hr (by omega)]
   have:=key x hx
   try dsimp only at this
   rw [this]
   refine sg_congr _ fun q hq=>?_
   rw [gk q hq,takeR_get hm hq hx]
 rw [expr_eq h.f (takeR_lt h hl _ _) (rowN_lt h hl _) (by rw [takeR_length hm];omega) (ind_take h hl hm) hK]
 rfl
theorem expr_comb {u : Nat} (hu : u < D + ps.length) : (∀ l,combN M D ps hv u = some l → ∃ K,K.length = (basisN M D ps hv).length ∧ (∀ x ∈ K,x < 2 ^ M) ∧ exprN M D (takeR D ps (basisN M D ps hv) (basisN M D ps hv).length) (rowN D ps u) = some K ∧ l = tmsAt (basisN M D ps hv) K (basisN M D ps hv).length) ∧ (combN M D ps hv u = none → exprN M D (takeR D ps (basisN M D ps hv) (basisN M D ps hv).length) (rowN D ps u) = none):=by
 have hbl:=bas_le h hl
 refine ⟨fun l hc=>?_,fun hc=>?_⟩
 ·obtain ⟨K, k1, k2, k3, k4⟩ := comb_some h hl hu hc
  refine ⟨K,k1,k2,expr_eq h.f (takeR_lt h hl _ _) (rowN_lt h hl _) (by rw [takeR_length (Nat.le_refl _)];omega) (ind_take h hl (Nat.le_refl _)) ⟨by rw [takeR_length (Nat.le_refl _)];exact k1,k2,fun x hx=>?_⟩,k3⟩
  rw [rowN_get hx,takeR_length (Nat.le_refl _)]
  have e:=k4 x hx
  first
   |(rw [← e];exact sg_congr _ fun q hq=>by rw [takeR_get (Nat.le_refl _) hq hx])
   |(rw [e];exact sg_congr _ fun q hq=>by rw [takeR_get (Nat.le_refl _) hq hx])
 ·cases he : exprN M D (takeR D ps (basisN M D ps hv) (basisN M D ps hv).length) (rowN D ps u) with
  | none=>rfl
  | some K =>
    exfalso
    have hs:=expr_some h.f (takeR_lt h hl _ _) (rowN_lt h hl _) (by rw [takeR_length (Nat.le_refl _)];omega) (ind_take h hl (Nat.le_refl _)) he
    have hsp:=sums_sp h hl (Nat.le_refl _) hs
    have hBS : Sp M D (BS D (genN D ps) (basisN M D ps hv)) (U D (genN D ps) u):=hsp
    have:=(comb_iff h hl hu).2 ((sp_BP h hl).1 hBS)
    rw [hc] at this;cases this
end
end
section
def findL (pm : List Nat) (Bl : List (List Nat)) (k : Nat) : Nat → Nat → Nat
 | 0,p=>p
 | n + 1,p=>if (Bl.getD (pm.getD p 0) []).getD k 0 = 0 then findL pm Bl k n (p + 1) else p
theorem findL_le (pm : List Nat) (Bl : List (List Nat)) (k : Nat) : ∀ n p, p ≤ findL pm Bl k n p ∧ findL pm Bl k n p ≤ p + n
 | 0,p=>⟨Nat.le_refl _,Nat.le_refl _⟩
 | n + 1,p=>by
   rw [findL]
   split
   ·have:=findL_le pm Bl k n (p + 1);omega
   ·omega
def scV (M f : Nat) (l : List Nat) : Nat → List Nat
 | 0=>l
 | k + 1=>(scV M f l k).set k (mu M f ((scV M f l k).getD k 0))
theorem scV_length (M f : Nat) (l : List Nat) (k : Nat) : (scV M f l k).length = l.length:=by
 induction k with
 | zero=>rfl
 | succ k ih=>rw [scV,List.length_set,ih]
theorem scV_lt {M f : Nat} (hM : FldM M) (hf : f < 2 ^ M) {l : List Nat} (h : ∀ x ∈ l,x < 2 ^ M) (k : Nat) : ∀ x ∈ scV M f l k,x < 2 ^ M:=by
 induction k with
 | zero=>exact h
 | succ k ih =>
   intro x hx
   rw [scV] at hx
   rcases List.mem_or_eq_of_mem_set hx with hx | rfl
   ·exact ih x hx
   ·exact mu_lt hM hf _
theorem addV_zero (M : Nat) (T l : List Nat) (k : Nat) : addV M 0 T l k = T:=by
 induction k with
 | zero=>rfl
 | succ k ih =>
   rw [addV,ih]
   have e : Gf.mul M (modN M) 0 (l.getD k 0) = 0:=zero_mu _
   rw [e,Nat.xor_zero]
   by_cases h : k < T.length
   ·rw [List.getD_eq_getElem?_getD, List.getElem?_eq_getElem h]
    exact List.set_getElem_self h
   ·exact List.set_eq_of_length_le (by omega)
def clB (M C k r : Nat) (pm : List Nat) (Bl : List (List Nat)) : Nat → List (List Nat)
 | 0=>Bl
 | q + 1=>if q = r then clB M C k r pm Bl q else (clB M C k r pm Bl q).set (pm.getD q 0) (addV M (((clB M C k r pm Bl q).getD (pm.getD q 0) []).getD k 0) ((clB M C k r pm Bl q).getD (pm.getD q 0) []) (Bl.getD (pm.getD r 0) []) C)
def swp (pm : List Nat) (p r : Nat) : List Nat:=(pm.set p (pm.getD r 0)).set r (pm.getD p 0)
structure SysOk (M D C : Nat) (pm : List Nat) (Bl : List (List Nat)) : Prop where
 pl : pm.length = D
 nd : ∀ q q',q < D → q' < D → pm.getD q 0 = pm.getD q' 0 → q = q'
 lt : ∀ q,q < D → pm.getD q 0 < D
 bl : Bl.length = D
 rl : ∀ l ∈ Bl,l.length = C
 rx : ∀ l ∈ Bl,∀ x ∈ l,x < 2 ^ M
theorem getDB_mem {Bl : List (List Nat)} {a : Nat} (h : a < Bl.length) : Bl.getD a [] ∈ Bl:=by
 rw [List.getD_eq_getElem?_getD,List.getElem?_eq_getElem h];exact List.getElem_mem h
theorem getDB_set {Bl : List (List Nat)} {a : Nat} (l : List Nat) (h : a < Bl.length) : (Bl.set a l).getD a [] = l:=by
 rw [List.getD_eq_getElem?_getD,List.getElem?_set_self h];rfl
theorem getDB_ne {Bl : List (List Nat)} {a b : Nat} (l : List Nat) (h : a ≠ b) : (Bl.set a l).getD b [] = Bl.getD b []:=by
 rw [List.getD_eq_getElem?_getD,List.getElem?_set_ne h,List.getD_eq_getElem?_getD]
theorem setB_self {Bl : List (List Nat)} {a : Nat} (h : a < Bl.length) : Bl.set a (Bl.getD a []) = Bl:=by
 have e : Bl.getD a [] = Bl[a]:=by rw [List.getD_eq_getElem?_getD,List.getElem?_eq_getElem h];rfl
 rw [e]
 exact List.set_getElem_self h
theorem SysOk.set {M D C : Nat} {pm : List Nat} {Bl : List (List Nat)} (h : SysOk M D C pm Bl) (a : Nat) {l : List Nat} (h1 : l.length = C) (h2 : ∀ x ∈ l,x < 2 ^ M) : SysOk M D C pm (Bl.set a l) :=
 ⟨h.pl,h.nd,h.lt,by rw [List.length_set];exact h.bl,fun x hx=>(List.mem_or_eq_of_mem_set hx).elim (h.rl x) fun e=>e ▸ h1,fun x hx=>(List.mem_or_eq_of_mem_set hx).elim (h.rx x) fun e=>e ▸ h2⟩
theorem swp_get {pm : List Nat} {p r q : Nat} (hp : p < pm.length) (hr : r < pm.length) : (swp pm p r).getD q 0 = if q = r then pm.getD p 0 else if q = p then pm.getD r 0 else pm.getD q 0:=by
 unfold swp
 rw [List.getD_eq_getElem?_getD]
 by_cases h1 : q = r
 ·subst h1;rw [if_pos rfl,List.getElem?_set_self (by rw [List.length_set];exact hr)];rfl
 ·rw [if_neg h1, List.getElem?_set_ne (Ne.symm h1)]
  by_cases h2 : q = p
  ·subst h2;rw [if_pos rfl,List.getElem?_set_self hp];rfl
  ·rw [if_neg h2,List.getElem?_set_ne (Ne.symm h2),List.getD_eq_getElem?_getD]
theorem SysOk.swp {M D C p r : Nat} {pm : List Nat} {Bl : List (List Nat)} (h : SysOk M D C pm Bl) (hp : p < D) (hr : r < D) : SysOk M D C (swp pm p r) Bl:=by
 have hg:=fun q=>swp_get (pm:=pm) (p:=p) (r:=r) (q:=q) (by rw [h.pl];exact hp) (by rw [h.pl];exact hr)
 refine ⟨by unfold Go.Proofs.YtplpgijpmgbaiaaGreatDoor.swp;rw [List.length_set,List.length_set];exact h.pl,fun q q' hq hq' e=>?_,fun q hq=>?_,h.bl,h.rl,h.rx⟩
 ·rw [hg, hg] at e
  by_cases h1 : q = r <;> by_cases h2 : q' = r <;> by_cases h3 : q = p <;> by_cases h4 : q' = p <;> simp only [h1, h2, h3, h4, if_true, if_false] at e <;> first
   |omega
   |(have:=h.nd _ _ (by omega) (by omega) e;omega)
   |(rw [if_neg (by omega)] at e;have:=h.nd _ _ (by omega) (by omega) e;omega)
   |(split at e<;>first | omega | (have:=h.nd _ _ (by omega) (by omega) e;omega))
 ·rw [hg]
  split
  ·exact h.lt p hp
  ·split
   ·exact h.lt r hr
   ·exact h.lt q hq
theorem clB_ok {M D C k r : Nat} {pm : List Nat} {Bl : List (List Nat)} (hM : FldM M) (h : SysOk M D C pm Bl) (hr : r < D) : ∀ q, q ≤ D → SysOk M D C pm (clB M C k r pm Bl q) ∧ (clB M C k r pm Bl q).getD (pm.getD r 0) [] = Bl.getD (pm.getD r 0) []
 | 0,_=>⟨h,rfl⟩
 | q + 1,hq=>by
   obtain ⟨i1,i2⟩:=clB_ok hM h hr q (by omega)
   rw [clB]
   by_cases e : q = r
   ·rw [if_pos e];exact ⟨i1,i2⟩
   ·rw [if_neg e]
    have hm:=getDB_mem (Bl:=clB M C k r pm Bl q) (a:=pm.getD q 0) (by rw [i1.bl];exact h.lt q (by omega))
    refine ⟨i1.set _ (by rw [addV_length];exact i1.rl _ hm) (addV_lt hM (getD_lt (i1.rx _ hm) _) (i1.rx _ hm) _),?_⟩
    rw [getDB_ne _ fun e2=>e (h.nd q r (by omega) hr e2)]
    exact i2
attribute [local irreducible] Quiet Eff OpOk AWPG ACont ABlock ACalls AGoto
theorem A_r8times {M a b : Nat} (hM : FldM M) (ha : a < 2 ^ M) (hb : b < 2 ^ M) : ACalls Tryz.prog 286 [iV M,iV a,iV b] [] (iV (mu M a b : Nat)) []:=by
 refine acalls_of_body Tryz.func286 rfl (zU rfl) ?_
 have h:=A_rmul hM ha hb
 (repeat' (first
  |(apply W.qd;(first
  |(exact zW (h))|(exact zM)|(exact zN)
  |(exact yAb rfl rfl)))|(apply yA)|(apply yB)|(refine jAb ?_)|(apply yE)
  |(apply yJ)))
 exact Ends.i rfl rfl
theorem A_r8inverse {M a : Nat} (hM : FldM M) (ha : a < 2 ^ M) (h0 : a ≠ 0) : ACalls Tryz.prog 285 [iV M,iV a] [] (iV (invN M a : Nat)) []:=by
 refine acalls_of_body Tryz.func285 rfl (zU rfl) ?_
 have h:=A_rinv hM ha h0
 (repeat' (first
  |(apply W.qd;(first
  |(exact zW (h))|(exact zM)|(exact zN)
  |(exact yAb rfl rfl)))|(apply yA)|(apply yB)|(refine jAb ?_)|(apply yE)
  |(apply yJ)))
 exact Ends.i rfl rfl
theorem A_elim_no {M D C v c k r : Nat} {pm : List Nat} {Bl : List (List Nat)} (hs : SysOk M D C pm Bl) (hk : k < C) (hr : r ≤ D) (hC : C ≤ 1000) (hD : D ≤ 1000) (hp : findL pm Bl k (D - r) r = D) :
 ACalls Tryz.prog 259 [.opt 0 0,iV k,iV r] (sysO 3 M v C c D pm Bl) (bV false) (sysO 3 M v C c D pm Bl):=by
 refine acalls_of_bodyS Tryz.func259 rfl (zU rfl) ?_
 unfold sysO
 (repeat' (first
  |(apply W.qd;(first
  |(exact zM)
  |(exact zN)))|(apply yA)|(apply yB)|(apply (W.regionS 2);exact rfl;kernel_rfl)|(apply yE)
  |(apply yG)))
 refine AWP.loopE (α:=Nat) (fun p=>r ≤ p ∧ p ≤ D ∧ findL pm Bl k (D - p) p = D) (fun p=>⟨[(7,iV p),(0,.opt 0 0),(1,iV k),(2,iV r)],.box [iV M,.bsl 1 D c] :: .box (pm.map (ptrS v C)) :: Bl.map (rowE 3 v)⟩) (fun p=>D - p) r ⟨Nat.le_refl _,hr,hp⟩ ⟨rfl,by (repeat (first | exact trivial | refine ⟨rfl,?_⟩))⟩ fun p hp=>?_
 obtain ⟨h1,h2,h3⟩:=hp
 by_cases hpD : p < D
 ·have hpm := sys_ld (v := v) (C := C) (p := p) (pm := pm) (by rw [hs.pl]; exact hpD)
  have ha:=hs.lt p hpD
  have hget:=sys_get (t:=3) (v:=v) (E0:=.box [iV M,.bsl 1 D c]) (E1:=.box (pm.map (ptrS v C))) (Bl:=Bl) (p:=pm.getD p 0) (by rw [hs.bl];exact ha)
  have hll:=hs.rl _ (getDB_mem (Bl:=Bl) (a:=pm.getD p 0) (by rw [hs.bl];exact ha))
  rw [show D - p = (D - (p + 1)) + 1 by omega,findL] at h3
  have hx : (Bl.getD (pm.getD p 0) []).getD k 0 = 0:=by
   by_cases e : (Bl.getD (pm.getD p 0) []).getD k 0 = 0
   ·exact e
   ·rw [if_neg e] at h3;omega
  rw [if_pos hx] at h3
  generalize Bl.getD (pm.getD p 0) [] = l at *
  have hx2 : l[k]'(by omega) = 0:=by rw [List.getD_eq_getElem?_getD,List.getElem?_eq_getElem (show k < l.length by omega)] at hx;exact hx
  generalize pm.getD p 0 = a at *
  (repeat' (first
   |(apply yFb;exact rfl;exact rfl)
   |(apply W.qd;(first
   |((apply s_ld;exact rfl;exact rfl;assumption;exact rfl))
   |((apply s_ix;exact rfl;assumption;(iterate 3 exact rfl);omega))
   |((apply s_ldr;exact rfl;assumption;exact rfl;exact rfl;omega))
   |((exact q_len_bsl rfl rfl))
   |((apply q_ix_bsl;(iterate 4 exact rfl);omega))|(exact zM)|(exact zN)|(exact jAm)|(exact jAg)|(exact jAj)|(exact jAu)|(exact jAi)|(exact q_nil_opt rfl)
   |(apply (yEb (u:=.d _));exact rfl;exact rfl)))|(apply yA)|(apply yB)|(refine jAb ?_)|(apply yE)|(apply yG)|(apply yH)|(apply yL)|(refine W.gT _ _ rfl rfl (fun hb=>?_) (fun hb=>?_)<;>((try simp only [hb,zK])<;>(try simp only [zL,zI] at hb)<;>(try (exfalso;omega))))
   |(refine W.cond _ rfl (fun hb=>?_) (fun hb=>?_)<;>((try simp only [hb,zK])<;>(try simp only [zL,zI] at hb)<;>(try (exfalso;omega))))))
  -- @1
  exact ⟨p + 1,⟨by omega,by omega,h3⟩,by omega,rfl,iV_eq (by omega),rfl,rfl,rfl,trivial⟩
 ·(repeat' (first
  |(apply W.qd;(first
  |((exact q_len_bsl rfl rfl))|(exact zM)|(exact zN)|(exact jAm)|(exact jAg)|(exact jAj)|(exact jAu)|(exact q_nil_opt rfl)
  |(apply (yDb (u:=.d _));exact rfl;exact rfl)))|(refine W.gOff _ _ rfl rfl (by intro h;cases h) ?_)|(apply yA)|(apply yB)|(refine jAb ?_)|(apply yE)|(apply yI)|(apply yJ)|(apply yK)|(apply yP)|(apply yM)|(refine jAy ?_)|(refine W.gT _ _ rfl rfl (fun hb=>?_) (fun hb=>?_)<;>((try simp only [hb,zK])<;>(try simp only [zL,zI] at hb)<;>(try (exfalso;omega))))
  |(refine W.cond _ rfl (fun hb=>?_) (fun hb=>?_)<;>((try simp only [hb,zK])<;>(try simp only [zL,zI] at hb)<;>(try (exfalso;omega))))))
  exact EndsS.b rfl rfl
theorem A_elim {M D C v c k r P : Nat} {pm : List Nat} {Bl : List (List Nat)} (hM : FldM M) (hs : SysOk M D C pm Bl) (hk : k < C) (hr : r < D) (hC : C ≤ 1000) (hD : D ≤ 1000) (hp : findL pm Bl k (D - r) r = P) (hPD : P < D) :
 ACalls Tryz.prog 259 [.opt 0 0, iV k, iV r] (sysO 3 M v C c D pm Bl) (bV true)
  (sysO 3 M v C c D (swp pm P r) (clB M C k r (swp pm P r) (Bl.set (pm.getD P 0) (scV M (invN M ((Bl.getD (pm.getD P 0) []).getD k 0)) (Bl.getD (pm.getD P 0) []) C)) D)):=by
 refine acalls_of_bodyS Tryz.func259 rfl (zU rfl) ?_
 have hsL : (sysO 3 M v C c D pm Bl).length = D + 2:=by rw [sys_len,hs.bl]
 unfold sysO
 (repeat' (first
  |(apply W.qd;(first
  |(exact zM)
  |(exact zN)))|(apply yA)|(apply yB)|(apply (W.regionS 2);exact rfl;kernel_rfl)|(apply yE)
  |(apply yG)))
 refine AWP.loopE (α:=Nat) (fun p=>r ≤ p ∧ p ≤ P ∧ findL pm Bl k (D - p) p = P) (fun p=>⟨[(7,iV p),(0,.opt 0 0),(1,iV k),(2,iV r)],.box [iV M,.bsl 1 D c] :: .box (pm.map (ptrS v C)) :: Bl.map (rowE 3 v)⟩) (fun p=>D - p) r ⟨Nat.le_refl _,by have:=findL_le pm Bl k (D - r) r;omega,hp⟩ ⟨rfl,by (repeat (first | exact trivial | refine ⟨rfl,?_⟩))⟩ fun p hp=>?_
 obtain ⟨h1,h2,h3⟩:=hp
 have hpD : p < D:=by omega
 have hpm:=sys_ld (v:=v) (C:=C) (p:=p) (pm:=pm) (by rw [hs.pl];exact hpD)
 have ha:=hs.lt p hpD
 have hget:=sys_get (t:=3) (v:=v) (E0:=.box [iV M,.bsl 1 D c]) (E1:=.box (pm.map (ptrS v C))) (Bl:=Bl) (p:=pm.getD p 0) (by rw [hs.bl];exact ha)
 have hmem:=getDB_mem (Bl:=Bl) (a:=pm.getD p 0) (by rw [hs.bl];exact ha)
 have hll:=hs.rl _ hmem
 have hlx:=hs.rx _ hmem
 rw [show D - p = (D - (p + 1)) + 1 by omega,findL] at h3
 by_cases hx : (Bl.getD (pm.getD p 0) []).getD k 0 = 0
 ·rw [if_pos hx] at h3
  have hle:=(findL_le pm Bl k (D - (p + 1)) (p + 1)).1
  generalize Bl.getD (pm.getD p 0) [] = l at *
  have hx2 : l[k]'(by omega) = 0:=by rw [List.getD_eq_getElem?_getD,List.getElem?_eq_getElem (show k < l.length by omega)] at hx;exact hx
  generalize pm.getD p 0 = a at *
  (repeat' (first
   |(apply yFb;exact rfl;exact rfl)
   |(apply W.qd;(first
   |((apply s_ld;exact rfl;exact rfl;assumption;exact rfl))
   |((apply s_ix;exact rfl;assumption;(iterate 3 exact rfl);omega))
   |((apply s_ldr;exact rfl;assumption;exact rfl;exact rfl;omega))
   |((exact q_len_bsl rfl rfl))
   |((apply q_ix_bsl;(iterate 4 exact rfl);omega))|(exact zM)|(exact zN)|(exact jAm)|(exact jAg)|(exact jAj)|(exact jAu)|(exact jAi)|(exact q_nil_opt rfl)
   |(apply (yEb (u:=.d _));exact rfl;exact rfl)))|(apply yA)|(apply yB)|(refine jAb ?_)|(apply yE)|(apply yG)|(apply yH)|(apply yL)|(refine W.gT _ _ rfl rfl (fun hb=>?_) (fun hb=>?_)<;>((try simp only [hb,zK])<;>(try simp only [zL,zI] at hb)<;>(try (exfalso;omega))))
   |(refine W.cond _ rfl (fun hb=>?_) (fun hb=>?_)<;>((try simp only [hb,zK])<;>(try simp only [zL,zI] at hb)<;>(try (exfalso;omega))))))
  exact ⟨p + 1,⟨by omega,by omega,h3⟩,by omega,rfl,iV_eq (by omega),rfl,rfl,rfl,trivial⟩
 ·rw [if_neg hx] at h3
  subst h3
  have hpm2:=sys_ld (v:=v) (C:=C) (p:=r) (pm:=pm) (by rw [hs.pl];exact hr)
  have hsw:=hs.swp hpD hr
  have hbk : (swp pm p r).getD r 0 = pm.getD p 0:=by rw [swp_get (by rw [hs.pl];exact hpD) (by rw [hs.pl];exact hr),if_pos rfl]
  have hpl:=hs.pl
  have hbl:=hs.bl
  have hswd : (pm.set p (pm.getD r 0)).set r (pm.getD p 0) = swp pm p r:=rfl
  obtain ⟨l,hl⟩ : ∃ l,Bl.getD (pm.getD p 0) [] = l:=⟨_,rfl⟩
  rw [hl] at hget hll hlx hx ⊢
  have hx2 : l[k]'(by omega) ≠ 0:=by rw [List.getD_eq_getElem?_getD,List.getElem?_eq_getElem (show k < l.length by omega)] at hx;exact hx
  have hxe : l.getD k 0 = l[k]'(by omega):=by rw [List.getD_eq_getElem?_getD,List.getElem?_eq_getElem (show k < l.length by omega)];rfl
  have hxl:=hlx _ (List.getElem_mem (show k < l.length by omega))
  rw [hxe]
  have hinv:=A_r8inverse hM hxl hx2
  have hfl : invN M (l[k]'(by omega)) < 2 ^ M:=invN_lt _
  generalize invN M (l[k]'(by omega)) = f at *
  have hBs:=fun j=>hsw.set (pm.getD p 0) (l:=scV M f l j) (by rw [scV_length];exact hll) (scV_lt hM hfl hlx j)
  have hB1:=hBs C
  have hgB:=fun j=>getDB_set (Bl:=Bl) (a:=pm.getD p 0) (scV M f l j) (by omega)
  have hcl:=fun q hq=>clB_ok (k:=k) hM hB1 hr q hq
  rw [hbk,hgB C] at hcl
  have hcs : ∀ q,clB M C k r (swp pm p r) (Bl.set (pm.getD p 0) (scV M f l C)) (q + 1) = if q = r then clB M C k r (swp pm p r) (Bl.set (pm.getD p 0) (scV M f l C)) q else (clB M C k r (swp pm p r) (Bl.set (pm.getD p 0) (scV M f l C)) q).set ((swp pm p r).getD q 0) (addV M (((clB M C k r (swp pm p r) (Bl.set (pm.getD p 0) (scV M f l C)) q).getD ((swp pm p r).getD q 0) []).getD k 0) ((clB M C k r (swp pm p r) (Bl.set (pm.getD p 0) (scV M f l C)) q).getD ((swp pm p r).getD q 0) []) (scV M f l C) C):=fun q=>by
   rw [clB,hbk,hgB C]
  have hc0 : clB M C k r (swp pm p r) (Bl.set (pm.getD p 0) (scV M f l C)) 0 = Bl.set (pm.getD p 0) (scV M f l C):=rfl
  generalize clB M C k r (swp pm p r) (Bl.set (pm.getD p 0) (scV M f l C)) = CB at *
  have hnd:=hsw.nd
  have hslt:=hsw.lt
  have hspl:=hsw.pl
  have hldS:=fun q (hq : q < D)=>sys_ld (v:=v) (C:=C) (p:=q) (pm:=swp pm p r) (by rw [hspl];exact hq)
  generalize hSW : swp pm p r = SW at *
  generalize pm.getD p 0 = a at *
  generalize pm.getD r 0 = ar at *
  (repeat' (first
   |(apply yFb;exact rfl;exact rfl)
   |(apply W.qd;(first
   |(exact zW (hinv))
   |((apply s_ld;exact rfl;exact rfl;assumption;exact rfl))
   |((apply s_ix;exact rfl;assumption;(iterate 3 exact rfl);omega))
   |((apply s_ldr;exact rfl;assumption;exact rfl;exact rfl;omega))
   |((exact q_len_bsl rfl rfl))
   |((apply q_ix_bsl;(iterate 4 exact rfl);omega))|(exact zM)|(exact zN)|(exact jAm)|(exact jAg)|(exact jAj)|(exact jAu)|(exact q_nil_opt rfl)
   |(apply (yEb (u:=.d _));exact rfl;exact rfl)))|(apply W.en;((apply s_stb;(iterate 4 exact rfl);exact sys_set1;(simp only [List.length_map,List.length_set];omega))))|(apply yA)|(apply yB)|(apply (W.regionS 10);exact rfl;kernel_rfl)|(apply (W.regionDS 10);exact rfl;exact rfl;kernel_rfl)|(apply yE)|(refine jAx ?_)|(apply yH)|(apply yI)|(apply yK)|(apply yM)|(refine W.gT _ _ rfl rfl (fun hb=>?_) (fun hb=>?_)<;>((try simp only [hb,zK])<;>(try simp only [zL,zI] at hb)<;>(try (exfalso;omega))))
   |(refine W.cond _ rfl (fun hb=>?_) (fun hb=>?_)<;>((try simp only [hb,zK])<;>(try simp only [zL,zI] at hb)<;>(try (exfalso;omega))))))
  rw [hswd]
  have hset0 : Bl.set a (scV M f l 0) = Bl:=by
   rw [scV,← hl];exact setB_self (by omega)
  (repeat' (first
   |(apply W.qd;(exact zN))|(apply yB)|(apply (W.regionS 11);exact rfl;kernel_rfl)|(apply yE)
   |(apply yG)))
  refine AWP.loopE (α:=Nat) (fun j=>j ≤ C) (fun j=>⟨[(10,iV j),(8,.osl (a + 2) v 0 C),(9,iV f),(0,.opt 0 0),(1,iV k),(2,iV r)],.box [iV M,.bsl 1 D c] :: .box (SW.map (ptrS v C)) :: (Bl.set a (scV M f l j)).map (rowE 3 v)⟩) (fun j=>C - j) 0 (by omega) ⟨by rw [hset0],by (repeat (first | exact trivial | refine ⟨rfl,?_⟩))⟩ fun j hj=>?_
  have hlj : (scV M f l j).length = C:=by rw [scV_length];exact hll
  have hxj:=scV_lt hM hfl hlx j
  have hst : ∀ h,scV M f l (j + 1) = (scV M f l j).set j (mu M f ((scV M f l j)[j]'h)):=fun h=>by
   rw [scV,List.getD_eq_getElem?_getD,List.getElem?_eq_getElem h];rfl
  by_cases hjC : j < C
  ·have hgj := (sys_get (t := 3) (v := v) (E0 := .box [iV M, .bsl 1 D c]) (E1 := .box (SW.map (ptrS v C))) (Bl := Bl.set a (scV M f l j)) (p := a) (by rw [List.length_set]; omega)).trans (by rw [hgB j])
   have hst2:=Lib.hid (hst (by omega))
   clear hcs hc0 hcl hB1 hBs hst
   have htm:=A_r8times hM hfl (hxj _ (List.getElem_mem (show j < (scV M f l j).length by omega)))
   (repeat' (first
    |(apply W.qd;(first
    |(exact zW (htm))
    |((apply s_ix;exact rfl;assumption;(iterate 3 exact rfl);omega))
    |((apply s_ldr;exact rfl;assumption;exact rfl;exact rfl;omega))
    |((apply s_len;exact rfl;assumption;exact rfl))|(exact zM)|(exact zN)|(exact jAm)|(exact jAg)|(exact jAj)|(exact jAi)
    |(exact q_nil_opt rfl)))|(apply W.en;((apply s_str;exact rfl;assumption;(iterate 3 exact rfl);exact sys_set _;exact rfl;exact fun _=>rfl;omega)))|(apply yA)|(apply yB)|(refine jAb ?_)|(refine jAr ?_)|(apply yE)|(refine jAx ?_)|(apply yG)|(apply yH)|(apply yL)
    |(refine W.cond _ rfl (fun hb=>?_) (fun hb=>?_)<;>((try simp only [hb,zK])<;>(try simp only [zL,zI] at hb)<;>(try (exfalso;omega))))))
   refine ⟨j + 1,by omega,by omega,?_,iV_eq (by omega),rfl,rfl,rfl,rfl,rfl,trivial⟩
   show _ :: _ :: List.map _ (Bl.set a (scV M f l (j + 1))) = _ :: _ :: List.map _ ((Bl.set a (scV M f l j)).set a _)
   rw [hst2.out,List.set_set]
  have hjC' : j = C:=by omega
  subst hjC'
  clear hst
  have hgj:=(sys_get (t:=3) (v:=v) (E0:=.box [iV M,.bsl 1 D c]) (E1:=.box (SW.map (ptrS v j))) (Bl:=Bl.set a (scV M f l j)) (p:=a) (by rw [List.length_set];omega)).trans (by rw [hgB j])
  generalize scV M f l j = x at *
  (repeat' (first
   |(apply W.qd;(first
   |((apply s_len;exact rfl;assumption;exact rfl))|(exact zM)|(exact zN)
   |(exact jAj)))|(apply yA)|(apply yB)|(apply (W.regionS 15);exact rfl;kernel_rfl)|(apply yE)|(apply yG)|(apply yI)|(apply yK)|(apply yM)
   |(refine W.cond _ rfl (fun hb=>?_) (fun hb=>?_)<;>((try simp only [hb,zK])<;>(try simp only [zL,zI] at hb)<;>(try (exfalso;omega))))))
  clear hgj
  refine AWP.loopE (α:=Nat) (fun q=>q ≤ D) (fun q=>⟨[(11,iV q),(8,.osl (a + 2) v 0 j),(0,.opt 0 0),(1,iV k),(2,iV r)],.box [iV M,.bsl 1 D c] :: .box (SW.map (ptrS v j)) :: (CB q).map (rowE 3 v)⟩) (fun q=>D - q) 0 (by omega) ⟨by rw [hc0],by (repeat (first | exact trivial | refine ⟨rfl,?_⟩))⟩ fun q hq=>?_
  by_cases hqD : q < D
  ·have hld := hldS q hqD
   have hb:=hslt q hqD
   obtain ⟨i1,i2⟩:=hcl q hq
   have ibl:=i1.bl
   have hgT:=sys_get (t:=3) (v:=v) (E0:=.box [iV M,.bsl 1 D c]) (E1:=.box (SW.map (ptrS v j))) (Bl:=CB q) (p:=SW.getD q 0) (by omega)
   have hTm:=getDB_mem (Bl:=CB q) (a:=SW.getD q 0) (by omega)
   have hTl:=i1.rl _ hTm
   have hTx:=i1.rx _ hTm
   have hstep:=hcs q
   have hba : q ≠ r → SW.getD q 0 ≠ a:=fun e1 e2=>e1 (hnd q r hqD hr (by rw [e2,hbk]))
   have hsetT : (CB q).set (SW.getD q 0) ((CB q).getD (SW.getD q 0) []) = CB q:=setB_self (by omega)
   clear hcs hcl hBs hB1 hgB
   generalize hT : (CB q).getD (SW.getD q 0) [] = T at *
   generalize SW.getD q 0 = b at *
   have hTk : T.getD k 0 = T[k]'(by omega):=by rw [List.getD_eq_getElem?_getD,List.getElem?_eq_getElem (show k < T.length by omega)];rfl
   have hTkx:=hTx _ (List.getElem_mem (show k < T.length by omega))
   by_cases hqr : q = r
   ·rw [if_pos hqr] at hstep
    (repeat' (first
     |(apply W.qd;(first
     |((apply s_ld;exact rfl;exact rfl;assumption;exact rfl))
     |((apply s_ix;exact rfl;assumption;(iterate 3 exact rfl);omega))
     |((apply s_ldr;exact rfl;assumption;exact rfl;exact rfl;omega))
     |((exact q_len_bsl rfl rfl))
     |((apply q_ix_bsl;(iterate 4 exact rfl);omega))|(exact zM)|(exact zN)|(exact jAm)|(exact jAg)|(exact jAj)|(exact jAu)|(exact jAi)|(exact q_nil_opt rfl)
     |(apply (yEb (u:=.d _));exact rfl;exact rfl)))|(refine W.gOff _ _ rfl rfl (by intro h;cases h) ?_)|(apply yA)|(apply yB)|(refine jAb ?_)|(apply yE)|(apply yG)|(apply yH)|(apply yI)|(apply yK)|(apply yM)|(refine jAv ?_)|(refine W.gF _ _ rfl rfl (fun hb=>?_) (fun hb=>?_)<;>((try simp only [hb,zK])<;>(try simp only [zL,zI] at hb)<;>(try (exfalso;omega))))
     |(refine W.cond _ rfl (fun hb=>?_) (fun hb=>?_)<;>((try simp only [hb,zK])<;>(try simp only [zL,zI] at hb)<;>(try (exfalso;omega))))))
    refine ⟨q + 1,by omega,by omega,?_,iV_eq (by omega),rfl,rfl,rfl,rfl,trivial⟩
    show _ :: _ :: List.map _ (CB (q + 1)) = _
    rw [hstep]
   ·rw [if_neg hqr, hTk] at hstep
    have hba:=hba hqr
    by_cases hz : T[k]'(by omega) = 0
    ·rw [hz, addV_zero, hsetT] at hstep
     (repeat' (first
      |(apply yFb;exact rfl;exact rfl)
      |(apply W.qd;(first
      |((apply s_ld;exact rfl;exact rfl;assumption;exact rfl))
      |((apply s_ix;exact rfl;assumption;(iterate 3 exact rfl);omega))
      |((apply s_ldr;exact rfl;assumption;exact rfl;exact rfl;omega))
      |((exact q_len_bsl rfl rfl))
      |((apply q_ix_bsl;(iterate 4 exact rfl);omega))|(exact zM)|(exact zN)|(exact jAm)|(exact jAg)|(exact jAj)|(exact jAu)|(exact jAi)|(exact q_nil_opt rfl)
      |(apply (yDb (u:=.d _));exact rfl;exact rfl)))|(apply yA)|(apply yB)|(refine jAb ?_)|(apply yE)|(apply yG)|(apply yH)|(apply yI)|(apply yK)|(apply yM)|(refine W.gF _ _ rfl rfl (fun hb=>?_) (fun hb=>?_)<;>((try simp only [hb,zK])<;>(try simp only [zL,zI] at hb)<;>(try (exfalso;omega))))
      |(refine W.cond _ rfl (fun hb=>?_) (fun hb=>?_)<;>((try simp only [hb,zK])<;>(try simp only [zL,zI] at hb)<;>(try (exfalso;omega))))))
     refine ⟨q + 1,by omega,by omega,?_,iV_eq (by omega),rfl,rfl,rfl,rfl,trivial⟩
     show _ :: _ :: List.map _ (CB (q + 1)) = _
     rw [hstep]
    ·(repeat' (first
     |(apply yFb;exact rfl;exact rfl)
     |(apply W.qd;(first
     |((apply s_ld;exact rfl;exact rfl;assumption;exact rfl))
     |((apply s_ix;exact rfl;assumption;(iterate 3 exact rfl);omega))
     |((apply s_ldr;exact rfl;assumption;exact rfl;exact rfl;omega))
     |((exact q_len_bsl rfl rfl))
     |((apply q_ix_bsl;(iterate 4 exact rfl);omega))|(exact zM)|(exact zN)|(exact jAm)|(exact jAg)|(exact jAj)|(exact jAu)|(exact q_nil_opt rfl)
     |(apply (yDb (u:=.d _));exact rfl;exact rfl)))|(apply yA)|(apply yB)|(apply (W.regionS 20);exact rfl;kernel_rfl)|(apply yE)|(apply yG)|(apply yH)|(refine W.gF _ _ rfl rfl (fun hb=>?_) (fun hb=>?_)<;>((try simp only [hb,zK])<;>(try simp only [zL,zI] at hb)<;>(try (exfalso;omega))))
     |(refine W.cond _ rfl (fun hb=>?_) (fun hb=>?_)<;>((try simp only [hb,zK])<;>(try simp only [zL,zI] at hb)<;>(try (exfalso;omega))))))
     have hgT0:=hgT
     clear hgT
     generalize hg : T[k]'(by omega) = g at *
     refine AWP.loopE (α:=Nat) (fun i=>i ≤ j) (fun i=>⟨[(13,iV i),(12,iV g),(11,iV q),(8,.osl (a + 2) v 0 j),(0,.opt 0 0),(1,iV k),(2,iV r)],.box [iV M,.bsl 1 D c] :: .box (SW.map (ptrS v j)) :: ((CB q).set b (addV M g T x i)).map (rowE 3 v)⟩) (fun i=>j - i) 0 (by omega) ⟨by rw [addV,hsetT],by (repeat (first | exact trivial | refine ⟨rfl,?_⟩))⟩ fun i hi=>?_
     have hli : (addV M g T x i).length = j:=by rw [addV_length];exact hTl
     have hxi:=addV_lt hM hTkx hTx i (l:=x)
     have hgA : (.box [iV M,.bsl 1 D c] :: .box (SW.map (ptrS v j)) :: ((CB q).set b (addV M g T x i)).map (rowE 3 v))[a + 2]? = some (Ent.row v 1 3 (x.map kD)) :=
      (sys_get (by rw [List.length_set];omega)).trans (by rw [getDB_ne _ hba,i2])
     have hgI : (.box [iV M,.bsl 1 D c] :: .box (SW.map (ptrS v j)) :: ((CB q).set b (addV M g T x i)).map (rowE 3 v))[b + 2]? = some (Ent.row v 1 3 ((addV M g T x i).map kD)) :=
      (sys_get (by rw [List.length_set];omega)).trans (by rw [getDB_set _ (by omega)])
     have hst : ∀ h h',addV M g T x (i + 1) = (addV M g T x i).set i ((addV M g T x i)[i]'h ^^^ mu M g (x[i]'h')):=fun h h'=>by
      rw [addV,List.getD_eq_getElem?_getD,List.getElem?_eq_getElem h,List.getD_eq_getElem?_getD,List.getElem?_eq_getElem h'];rfl
     by_cases hij : i < j
     ·have hst2 := Lib.hid (hst (by omega) (by omega))
      clear hst
      have hxm:=hxj _ (List.getElem_mem (show i < x.length by omega))
      have htm:=A_r8times hM hTkx hxm
      have hc1:=hM.cap (hxi _ (List.getElem_mem (show i < (addV M g T x i).length by omega)))
      have hc2:=hM.cap (mu_lt hM hTkx (x[i]'(by omega)))
      (repeat' (first
       |(apply W.qd;(first
       |(exact zW (htm))
       |((apply s_ld;exact rfl;exact rfl;assumption;exact rfl))
       |((apply s_ix;exact rfl;assumption;(iterate 3 exact rfl);omega))
       |((apply s_ldr;exact rfl;assumption;exact rfl;exact rfl;omega))
       |((apply s_len;exact rfl;assumption;exact rfl))
       |((apply q_ix_bsl;(iterate 4 exact rfl);omega))|(exact zM)|(exact zN)|(exact jAm)|(exact jAg)|(exact jAj)|(exact jAi)|(exact q_nil_opt rfl)
       |(exact jAd)))|(apply W.en;((apply s_str;exact rfl;assumption;(iterate 3 exact rfl);exact sys_set _;exact rfl;exact fun _=>rfl;omega)))|(apply yA)|(apply yB)|(refine jAb ?_)|(refine jAr ?_)|(apply yE)|(refine jAx ?_)|(apply yG)|(apply yH)|(apply yL)
       |(refine W.cond _ rfl (fun hb=>?_) (fun hb=>?_)<;>((try simp only [hb,zK])<;>(try simp only [zL,zI] at hb)<;>(try (exfalso;omega))))))
      refine ⟨i + 1,by omega,by omega,?_,iV_eq (by omega),rfl,rfl,rfl,rfl,rfl,rfl,trivial⟩
      show _ :: _ :: List.map _ ((CB q).set b (addV M g T x (i + 1))) = _ :: _ :: List.map _ (((CB q).set b (addV M g T x i)).set b _)
      rw [hst2.out,List.set_set]
     ·have hij' : i = j := by omega
      subst hij'
      clear hst hgI
      (repeat' (first
       |(apply W.qd;(first
       |((apply s_len;exact rfl;assumption;exact rfl))|(exact zM)|(exact zN)|(exact jAj)
       |(exact jAi)))|(apply yA)|(apply yB)|(refine jAb ?_)|(apply yE)|(apply yI)|(apply yK)|(apply yL)|(apply yM)
       |(refine W.cond _ rfl (fun hb=>?_) (fun hb=>?_)<;>((try simp only [hb,zK])<;>(try simp only [zL,zI] at hb)<;>(try (exfalso;omega))))))
      refine ⟨q + 1,by omega,by omega,?_,iV_eq (by omega),rfl,rfl,rfl,rfl,trivial⟩
      show _ :: _ :: List.map _ (CB (q + 1)) = _
      rw [hstep]
  ·have hqD' : q = D := by omega
   subst hqD'
   (repeat' (first
    |(apply W.qd;(first
    |((exact q_len_bsl rfl rfl))|(exact zM)|(exact zN)|(exact jAm)|(exact jAg)|(exact jAj)
    |(exact q_nil_opt rfl)))|(apply yA)|(apply yB)|(refine jAb ?_)|(apply yE)|(apply yI)|(apply yJ)|(apply yK)|(apply yM)
    |(refine W.cond _ rfl (fun hb=>?_) (fun hb=>?_)<;>((try simp only [hb,zK])<;>(try simp only [zL,zI] at hb)<;>(try (exfalso;omega))))))
   exact EndsS.b rfl rfl
end
section
set_option linter.unusedSectionVars false
theorem scV_get (M f : Nat) (l : List Nat) : ∀ n, n ≤ l.length → ∀ i, i < l.length → (scV M f l n).getD i 0 = if i < n then mu M f (l.getD i 0) else l.getD i 0
 | 0,_,i,_=>by rw [scV,if_neg (by omega)]
 | n + 1,hn,i,hi=>by
   have ih:=scV_get M f l n (by omega)
   rw [scV]
   by_cases e : n = i
   ·subst e
    rw [getD_set_eq (by rw [scV_length];exact hi),ih n hi,if_neg (by omega),if_pos (by omega)]
   ·rw [getD_set_ne' e, ih i hi]
    by_cases h : i < n
    ·rw [if_pos h,if_pos (by omega)]
    ·rw [if_neg h,if_neg (by omega)]
def lgN (pm : List Nat) (Bl : List (List Nat)) (q j : Nat) : Nat:=(Bl.getD (pm.getD q 0) []).getD j 0
theorem clB_get {M D C k r : Nat} {pm : List Nat} {Bl : List (List Nat)} (hM : FldM M) (h : SysOk M D C pm Bl) (hr : r < D) : ∀ q, q ≤ D → ∀ q' j, q' < D → j < C → lgN pm (clB M C k r pm Bl q) q' j = if q' < q ∧ q' ≠ r then lgN pm Bl q' j ^^^ mu M (lgN pm Bl q' k) (lgN pm Bl r j) else lgN pm Bl q' j
 | 0,_,q',j,_,_=>by rw [clB,if_neg (by omega)]
 | q + 1,hq,q',j,hq',hj=>by
   have ih0:=clB_get (k:=k) hM h hr q (by omega)
   have ih:=fun j hq' hj=>ih0 q' j hq' hj
   obtain ⟨i1,_⟩:=clB_ok (k:=k) hM h hr q (by omega)
   rw [clB]
   by_cases e : q = r
   ·rw [if_pos e, ih j hq' hj]
    by_cases h1 : q' < q ∧ q' ≠ r
    ·rw [if_pos h1,if_pos ⟨by omega,h1.2⟩]
    ·rw [if_neg h1,if_neg (by omega)]
   ·rw [if_neg e]
    by_cases e2 : q' = q
    ·subst e2
     have hb:=h.lt q' hq'
     have hm:=getDB_mem (Bl:=clB M C k r pm Bl q') (a:=pm.getD q' 0) (by rw [i1.bl];exact hb)
     have hl:=i1.rl _ hm
     rw [if_pos ⟨by omega,e⟩]
     have hT : ∀ j,j < C → ((clB M C k r pm Bl q').getD (pm.getD q' 0) []).getD j 0 = lgN pm Bl q' j:=fun j hj=>by
      have:=ih0 q' j hq' hj
      rw [if_neg (by omega)] at this
      exact this
     unfold lgN at hT ⊢
     rw [getDB_set _ (by rw [i1.bl];exact hb),addV_get M _ _ _ C (by omega) j (by omega),if_pos hj,hT j hj]
     by_cases hk : k < C
     ·rw [hT k hk]
     ·have z1 : ((clB M C k r pm Bl q').getD (pm.getD q' 0) []).getD k 0 = 0:=by
       rw [List.getD_eq_getElem?_getD,List.getElem?_eq_none (by omega)];rfl
      have hm2:=getDB_mem (Bl:=Bl) (a:=pm.getD q' 0) (by rw [h.bl];exact hb)
      have z2 : (Bl.getD (pm.getD q' 0) []).getD k 0 = 0:=by
       rw [List.getD_eq_getElem?_getD,List.getElem?_eq_none (by rw [h.rl _ hm2];omega)];rfl
      rw [z1,z2]
    ·have hne : pm.getD q 0 ≠ pm.getD q' 0 := fun e3 => e2 (h.nd q q' (by omega) hq' e3).symm
     have hs : ∀ l j,lgN pm ((clB M C k r pm Bl q).set (pm.getD q 0) l) q' j = lgN pm (clB M C k r pm Bl q) q' j:=fun l j=>by
      unfold lgN;rw [getDB_ne _ hne]
     rw [hs,ih j hq' hj]
     by_cases h1 : q' < q ∧ q' ≠ r
     ·rw [if_pos h1,if_pos ⟨by omega,h1.2⟩]
     ·rw [if_neg h1,if_neg (by omega)]
def RelL (D C : Nat) (pm : List Nat) (Bl : List (List Nat)) (A : List Nat) : Prop:=∀ q,q < D → ∀ j,j < C → lgN pm Bl q j = gt C A q j
theorem find_rel {D C k : Nat} {pm : List Nat} {Bl : List (List Nat)} {A : List Nat} (h : RelL D C pm Bl A) (hk : k < C) : ∀ n p, p + n ≤ D → findL pm Bl k n p = findP C k A n p
 | 0,p,_=>rfl
 | n + 1,p,hp=>by
   rw [findL,findP]
   have h1:=h p (by omega) k hk
   unfold lgN gt at h1
   rw [h1,find_rel h hk n (p + 1) (by omega)]
theorem elim_rel {M D C k r P : Nat} {pm : List Nat} {Bl : List (List Nat)} {A pv : List Nat} (hM : FldM M) (hs : SysOk M D C pm Bl) (h : RelL D C pm Bl A) (hA : A.length = D * C) (hpv : pv.length = r) (hk : k < C) (hr : r < D) (hP : findL pm Bl k (D - r) r = P) (hPD : P < D) :
 (redStep M D C k (A,pv)).2 = pv ++ [k] ∧
 SysOk M D C (swp pm P r) (clB M C k r (swp pm P r) (Bl.set (pm.getD P 0) (scV M (invN M ((Bl.getD (pm.getD P 0) []).getD k 0)) (Bl.getD (pm.getD P 0) []) C)) D) ∧
 RelL D C (swp pm P r) (clB M C k r (swp pm P r) (Bl.set (pm.getD P 0) (scV M (invN M ((Bl.getD (pm.getD P 0) []).getD k 0)) (Bl.getD (pm.getD P 0) []) C)) D) (redStep M D C k (A,pv)).1:=by
 have hPr:=(findL_le pm Bl k (D - r) r).1
 have hf:=find_rel h hk (D - r) r (by omega)
 rw [hP] at hf
 have hsw:=hs.swp hPD hr
 have hsg:=fun q=>swp_get (pm:=pm) (p:=P) (r:=r) (q:=q) (by rw [hs.pl];exact hPD) (by rw [hs.pl];exact hr)
 have ha:=hs.lt P hPD
 have hm:=getDB_mem (Bl:=Bl) (a:=pm.getD P 0) (by rw [hs.bl];exact ha)
 have hll:=hs.rl _ hm
 have hlx:=hs.rx _ hm
 have hxk : ((Bl.getD (pm.getD P 0) []).getD k 0) = gt C A P k:=h P hPD k hk
 have hfl : invN M ((Bl.getD (pm.getD P 0) []).getD k 0) < 2 ^ M:=invN_lt _
 have hB1:=hsw.set (pm.getD P 0) (l:=scV M (invN M ((Bl.getD (pm.getD P 0) []).getD k 0)) (Bl.getD (pm.getD P 0) []) C) (by rw [scV_length];exact hll) (scV_lt hM hfl hlx C)
 unfold redStep
 dsimp only
 rw [hpv,← hf,if_neg (by omega)]
 refine ⟨rfl,(clB_ok hM hB1 hr D (Nat.le_refl _)).1,fun q hq j hj=>?_⟩
 rw [clB_get hM hB1 hr D (Nat.le_refl _) q j hq hj]
 have s1 : ∀ q c,c < C → gt C (swapAt (P * C) (r * C) A C) q c = if q = P then gt C A r c else if q = r then gt C A P c else gt C A q c:=fun q c hc=>gt_swap hA hPD hr hc
 have l1 : (swapAt (P * C) (r * C) A C).length = D * C:=by rw [swapAt_length];exact hA
 have hxe : (swapAt (P * C) (r * C) A C).getD (r * C + k) 0 = gt C A P k:=by
  show gt C (swapAt (P * C) (r * C) A C) r k = _
  rw [s1 r k hk]
  by_cases e : r = P
  ·rw [if_pos e,e]
  ·rw [if_neg e,if_pos rfl]
 rw [hxe,hxk]
 generalize swapAt (P * C) (r * C) A C = L1 at *
 generalize invN M (gt C A P k) = f at *
 have s2 : ∀ q c,c < C → gt C (scaleAt M f (r * C) L1 C) q c = if q = r then mu M f (gt C L1 r c) else gt C L1 q c:=fun q c hc=>gt_scale l1 hr hc
 have l2 : (scaleAt M f (r * C) L1 C).length = D * C:=by rw [scaleAt_length];exact l1
 generalize scaleAt M f (r * C) L1 C = L2 at *
 have key : ∀ q,q < D → ∀ c,c < C → lgN (swp pm P r) (Bl.set (pm.getD P 0) (scV M f (Bl.getD (pm.getD P 0) []) C)) q c = gt C L2 q c:=fun q hq c hc=>by
  rw [s2 q c hc]
  unfold lgN
  rw [hsg q]
  by_cases e1 : q = r
  ·rw [if_pos e1, if_pos e1, getDB_set _ (by rw [hs.bl]; exact ha), scV_get M f _ C (by omega) c (by omega), if_pos hc, s1 r c hc]
   have:=h P hPD c hc
   unfold lgN at this
   rw [this]
   by_cases e : r = P
   ·rw [if_pos e,e]
   ·rw [if_neg e,if_pos rfl]
  ·rw [if_neg e1, if_neg e1, s1 q c hc]
   by_cases e2 : q = P
   ·rw [if_pos e2, if_pos e2, getDB_ne _ (fun e3 => e1 (by rw [e2]; exact hs.nd P r hPD hr e3))]
    exact h r hr c hc
   ·rw [if_neg e2, if_neg e2, if_neg e1, getDB_ne _ (fun e3 => e2 (hs.nd P q hPD hq e3).symm)]
    exact h q hq c hc
 rw [gt_clear l2 hk hq hj,key q hq j hj,key q hq k hk,key r hr j hj]
 by_cases e : q = r
 ·rw [if_neg (by omega),if_pos e,e]
 ·rw [if_pos ⟨hq,e⟩,if_neg e]
end
section
def eqA (rows : List (List Nat)) (t : List Nat) (k i : Nat) : List Nat:=(List.range k).map fun c=>exCol rows t c i
theorem eqA_length (rows : List (List Nat)) (t : List Nat) (k i : Nat) : (eqA rows t k i).length = k:=by simp [eqA]
theorem eqA_succ (rows : List (List Nat)) (t : List Nat) (k i : Nat) : eqA rows t (k + 1) i = eqA rows t k i ++ [exCol rows t k i]:=by
 unfold eqA;rw [List.range_succ,List.map_append];rfl
def blA (rows : List (List Nat)) (t : List Nat) (C j : Nat) : List (List Nat):=(List.range j).map (eqA rows t C)
theorem blA_length (rows : List (List Nat)) (t : List Nat) (C j : Nat) : (blA rows t C j).length = j:=by simp [blA]
theorem blA_succ (rows : List (List Nat)) (t : List Nat) (C j : Nat) : blA rows t C (j + 1) = blA rows t C j ++ [eqA rows t C j]:=by
 unfold blA;rw [List.range_succ,List.map_append];rfl
theorem range_getD {D q : Nat} (h : q < D) : (List.range D).getD q 0 = q:=by
 rw [List.getD_eq_getElem?_getD,List.getElem?_range h];rfl
theorem blA_getD {rows : List (List Nat)} {t : List Nat} {C D q : Nat} (h : q < D) : (blA rows t C D).getD q [] = eqA rows t C q:=by
 unfold blA
 rw [List.getD_eq_getElem?_getD,List.getElem?_map,List.getElem?_range h];rfl
theorem blA_ok {M D : Nat} {rows : List (List Nat)} {t : List Nat} (hM : FldM M) (hr : ∀ r ∈ rows,∀ x ∈ r,x < 2 ^ M) (ht : ∀ x ∈ t,x < 2 ^ M) (C : Nat) : SysOk M D C (List.range D) (blA rows t C D):=by
 refine ⟨List.length_range,fun q q' h h' e=>by rw [range_getD h,range_getD h'] at e;exact e,fun q h=>by rw [range_getD h];exact h,blA_length ..,fun l hl=>?_,fun l hl x hx=>?_⟩
 ·obtain ⟨i, _, rfl⟩ := List.mem_map.1 hl
  exact eqA_length ..
 ·obtain ⟨i, _, rfl⟩ := List.mem_map.1 hl
  obtain ⟨c,_,rfl⟩:=List.mem_map.1 hx
  exact exCol_lt hM hr ht c i
theorem blA_rel {D : Nat} (rows : List (List Nat)) (t : List Nat) : RelL D (rows.length + 1) (List.range D) (blA rows t (rows.length + 1) D) (exM D rows t):=fun q hq j hj=>by
 rw [exM_gt rows t hq hj]
 unfold lgN
 rw [range_getD hq,blA_getD hq]
 unfold eqA
 rw [List.getD_eq_getElem?_getD,List.getElem?_map,List.getElem?_range hj];rfl
def exprA : Option (List Nat) → AV
 | some K=>.tup [nats K,bV true]
 | none=>.tup [nats [],bV false]
theorem AVle.gh0 : AVle .top (.gh [] []):=fun F own κ w u _=>by rw [AV.sat,AV.satL];trivial
theorem exR_len_mono (M D : Nat) (rows : List (List Nat)) (t : List Nat) (k : Nat) : ∀ d, (exR M D rows t (k + d)).2.length ≤ (exR M D rows t k).2.length + d
 | 0=>Nat.le_refl _
 | d + 1=>by
   have ih:=exR_len_mono M D rows t k d
   have : (exR M D rows t (k + (d + 1))).2.length ≤ (exR M D rows t (k + d)).2.length + 1:=by
    show (redStep M D (rows.length + 1) (k + d) (exR M D rows t (k + d))).2.length ≤ _
    generalize exR M D rows t (k + d) = s
    unfold redStep
    dsimp only
    split
    ·omega
    ·rw [List.length_append];exact Nat.le_refl _
   omega
attribute [local irreducible] Quiet Eff OpOk AWPG ACont ABlock ACalls AGoto
theorem A_express {M D : Nat} {rows : List (List Nat)} {t : List Nat} (hM : FldM M) (hD0 : 0 < D) (hD : D ≤ 32) (hn : rows.length ≤ 32) (hrl : ∀ r ∈ rows, r.length = D) (htl : t.length = D) (hr : ∀ r ∈ rows, ∀ x ∈ r, x < 2 ^ M) (ht : ∀ x ∈ t, x < 2 ^ M) :
 ACalls Tryz.prog 219 [iV M,rowsN rows,nats t] [] (exprA (exprN M D rows t)) []:=by
 refine acalls_of_bodyO Tryz.func219 rfl (zU rfl) ?_
 have hmr : (rows.map rnD).length = rows.length:=List.length_map _
 have hmt : (t.map kD).length = t.length:=List.length_map _
 obtain ⟨C,hC⟩ : ∃ C,rows.length + 1 = C:=⟨_,rfl⟩
 (repeat' (first
  |(apply W.qd;(first
  |(exact zM)|(exact zN)
  |(apply yZ;exact rfl;exact rfl;kernel_rfl)))|(apply W.ed;(exact jAa))|(apply yA)|(apply yB)|(apply (W.regionS 2);exact rfl;kernel_rfl)
  |(apply yE)))
 refine AWP.nilBox (l':=[iV M,.osl 1 0 0 0]) 0 1 1 91 rfl rfl (by omega) rfl rfl rfl rfl ?_
 refine AWP.le 999 (.gh [] []) rfl AVle.gh0 ?_
 (repeat' (first
  |(apply W.qd;(exact zN))|(apply yB)|(apply (W.regionS 3);exact rfl;kernel_rfl)|(apply yE)
  |(apply yG)))
 refine AWP.loopE (α:=Nat × List Value) (fun s=>s.1 ≤ D ∧ s.1 = s.2.length) (fun s=>⟨[(9,iV s.1),(8,.opt 0 0),(0,iV M),(1,rowsN rows),(2,nats t),(999,.gh ((List.range s.1).map (ptrS C C)) s.2)],.box [iV M,.osl 1 s.1 0 s.1] :: .row s.1 1 91 (s.2.map xD) :: (blA rows t C s.1).map (rowE 3 C)⟩) (fun s=>D - s.1) (0,[]) ⟨Nat.zero_le _,rfl⟩ ⟨rfl,by (repeat (first | exact trivial | refine ⟨rfl,?_⟩))⟩ fun s hs=>?_
 obtain ⟨j,vs⟩:=s
 obtain ⟨hj,hvs⟩:=hs
 dsimp only at hj hvs ⊢
 have hLl : ((blA rows t C j).map (rowE 3 C)).length = j:=by rw [List.length_map,blA_length]
 have hbs : (blA rows t C (j + 1)).map (rowE 3 C) = (blA rows t C j).map (rowE 3 C) ++ [.row C 1 3 ((eqA rows t C j).map kD)]:=by rw [blA_succ,List.map_append];rfl
 by_cases hjD : j < D
 ·(repeat' (first
  |(apply W.qd;(first
  |(exact zM)|(exact zN)|(exact jAj)
  |(exact jAt)))|(apply yA)|(apply yB)|(apply (W.regionS 6);exact rfl;kernel_rfl)|(apply yE)|(apply yG)|(apply yH)
  |(refine W.cond _ rfl (fun hb=>?_) (fun hb=>?_)<;>((try simp only [hb,zK])<;>(try simp only [zL,zI] at hb)<;>(try (exfalso;omega))))))
  refine AWP.nilRow 10 1 3 rfl (by omega) ?_
  generalize (blA rows t C j).map (rowE 3 C) = L at *
  refine AWP.wkE ⟨[(10,.osl (j + 2) 0 0 0),(9,iV j),(8,.opt 0 0),(0,iV M),(1,rowsN rows),(2,nats t),(999,.gh ((List.range j).map (ptrS C C)) vs)],.box [iV M,.osl 1 j 0 j] :: .row j 1 91 (vs.map xD) :: (L ++ [.row 0 1 3 []])⟩ ⟨rfl,congrArg (fun n=>AV.osl n 0 0 0) (by simp [hLl]),rfl,rfl,rfl,rfl,rfl,rfl,trivial⟩ ?_
  (repeat' (first
   |(apply W.qd;(exact zN))|(apply yB)|(apply (W.regionS 7);exact rfl;kernel_rfl)|(apply yE)
   |(apply yG)))
  refine AWP.loopE (α:=Nat) (fun k=>k ≤ rows.length) (fun k=>⟨[(11,iV k),(10,.osl (j + 2) k 0 k),(9,iV j),(8,.opt 0 0),(0,iV M),(1,rowsN rows),(2,nats t),(999,.gh ((List.range j).map (ptrS C C)) vs)],.box [iV M,.osl 1 j 0 j] :: .row j 1 91 (vs.map xD) :: (L ++ [.row k 1 3 ((eqA rows t k j).map kD)])⟩) (fun k=>rows.length - k) 0 (Nat.zero_le _) ⟨rfl,by (repeat (first | exact trivial | refine ⟨rfl,?_⟩))⟩ fun k hk=>?_
  have hes:=eqA_succ rows t k j
  have hel:=eqA_length rows t k j
  have hp : ((.box [iV M,.osl 1 j 0 j] :: .row j 1 91 (vs.map xD) :: (L ++ [.row k 1 3 ((eqA rows t k j).map kD)])) : List Ent)[j + 2]? = some (.row k 1 3 ((eqA rows t k j).map kD)):=dyn_last hLl
  by_cases hkn : k < rows.length
  ·have hrk := hrl _ (List.getElem_mem hkn)
   have hex : exCol rows t k j = (rows[k])[j]'(by omega):=by
    unfold exCol
    rw [if_pos hkn,List.getD_eq_getElem?_getD,List.getD_eq_getElem?_getD,List.getElem?_eq_getElem hkn]
    show (rows[k])[j]?.getD 0 = _
    rw [List.getElem?_eq_getElem (show j < rows[k].length by omega)];rfl
   rw [hex] at hes
   replace hes:=Lib.hid hes
   (repeat' (first
    |(apply W.qd;(first
    |(exact zM)|(exact zN)|(exact jAj)|(exact jAi)|(exact jAt)|(exact jAc)|(exact jAl)
    |(exact jA)))|(apply W.ed;((apply (s_app1 (f:=kD) ((rows[k])[j]'(by omega)));exact rfl;assumption;exact rfl;exact dyn_setl hLl;(iterate 3 exact rfl);exact hel.symm;omega)))|(apply yA)|(apply yB)|(refine jAb ?_)|(apply yE)|(apply yG)|(apply yH)|(apply yL)
    |(refine W.cond _ rfl (fun hb=>?_) (fun hb=>?_)<;>((try simp only [hb,zK])<;>(try simp only [zL,zI] at hb)<;>(try (exfalso;omega))))))
   refine ⟨k + 1,by omega,by omega,?_,iV_eq (by omega),rfl,rfl,rfl,rfl,rfl,rfl,rfl,trivial⟩
   rw [hes.out]
  ·have hkn' : k = rows.length := by omega
   subst hkn'
   have hex : exCol rows t rows.length j = t[j]'(by omega):=by
    unfold exCol
    rw [if_neg (by omega),List.getD_eq_getElem?_getD,List.getElem?_eq_getElem (show j < t.length by omega)];rfl
   rw [hex,hC] at hes
   replace hes:=Lib.hid hes
   (repeat' (first
    |(apply W.qd;(first
    |(exact zM)|(exact zN)|(exact jAj)|(exact jAt)|(exact jAc)|(exact jAl)
    |(exact jA)))|(apply W.ed;((apply (s_app1 (f:=kD) (t[j]'(by omega)));exact rfl;assumption;exact rfl;exact dyn_setl hLl;(iterate 3 exact rfl);exact hel.symm;omega)))|(apply yA)|(apply yB)|(apply (W.regionS 11);exact rfl;kernel_rfl)|(apply yE)|(apply yI)|(apply yK)|(apply yM)
    |(refine W.cond _ rfl (fun hb=>?_) (fun hb=>?_)<;>((try simp only [hb,zK])<;>(try simp only [zL,zI] at hb)<;>(try (exfalso;omega))))))
   rw [hC,← hes.out]
   refine AWP.name 10 999 (j + 2) rfl (dyn_last hLl) rfl (by omega) fun g cc=>?_
   (repeat' (first
    |(apply W.qd;(first
    |(exact zM)|(exact zN)|(exact jAm)|(exact jAg)|(exact jAi)|(exact q_nil_opt rfl)
    |(exact jAl)))|(apply W.ed;((apply (s_app1 (f:=xD) (.slice (some ⟨g,0,none⟩) C cc));(iterate 7 exact rfl);exact hvs;omega)))|(apply W.ln;(exact jAh))|(apply yB)|(refine jAb ?_)|(apply yE)
    |(apply yL)))
   refine ⟨(j + 1,vs ++ [.slice (some ⟨g,0,none⟩) C cc]),⟨by show j + 1 ≤ D;omega,by show j + 1 = _;simp [hvs]⟩,by show D - (j + 1) < D - j;omega,?_,iV_eq (by show ((j + 1 : Nat) : Int) = _;omega),rfl,rfl,rfl,rfl,?_,trivial⟩
   ·show _ = _
    dsimp only
    rw [hbs]
    rfl
   ·show AV.gh _ _ = AV.gh _ _
    dsimp only
    rw [List.range_succ,List.map_append];rfl
 ·have hjD' : j = D := by omega
  subst hjD'
  clear hbs hLl
  (repeat' (first
   |(apply W.qd;(first
   |(exact zM)|(exact jAj)
   |(exact jAt)))|(apply yA)|(apply yB)|(apply (W.regionS 12);exact rfl;kernel_rfl)|(apply yE)|(apply yI)|(apply yK)|(apply yM)
   |(refine W.cond _ rfl (fun hb=>?_) (fun hb=>?_)<;>((try simp only [hb,zK])<;>(try simp only [zL,zI] at hb)<;>(try (exfalso;omega))))))
  refine AWP.recast (α:=Nat) (fun c=>⟨[(8,.opt 0 0),(0,iV M),(1,rowsN rows)],sysO 3 M C C c j (List.range j) (blA rows t C j)⟩) rfl (fun F κ w a he ho=>?_) fun c=>?_
  ·have hg := he 999
   change AV.sat F _ κ w (.gh ((List.range j).map (ptrS C C)) vs) _ at hg
   rw [AV.sat] at hg
   obtain ⟨c,hc⟩:=sys_thaw hD0 (blA_length rows t C j) hvs.symm ho hg
   refine ⟨c,env_of fun p hp=>?_,hc⟩
   have h0:=he 0
   have h1:=he 1
   have h8:=he 8
   change AV.sat F _ κ w (iV M) _ at h0
   change AV.sat F _ κ w (rowsN rows) _ at h1
   change AV.sat F _ κ w (.opt 0 0) _ at h8
   simp only [List.mem_cons,List.not_mem_nil,or_false] at hp
   rcases hp with rfl | rfl | rfl
   ·rw [AV.sat] at h8 ⊢
    obtain ⟨g,l,q1,q2,q3⟩:=h8
    exact ⟨g,_,rfl,q2,q3⟩
   ·rw [AV.sat] at h0 ⊢;exact h0
   ·rw [AV.sat] at h1 ⊢;exact h1
  clear hvs
  have hok0:=blA_ok (D:=j) hM hr ht C
  have hrel0:=blA_rel (D:=j) rows t
  rw [hC] at hrel0
  generalize blA rows t C j = Bl0 at *
  have hAl:=fun k=>(red_ok hM (exM_length j rows t) (exM_lt hM hr ht) k).len
  have hApr:=fun k=>(red_ok hM (exM_length j rows t) (exM_lt hM hr ht) k).pr
  have hmono:=exR_len_mono M j rows t
  have hst : ∀ k,exR M j rows t (k + 1) = redStep M j C k (exR M j rows t k):=fun k=>by rw [← hC];rfl
  have hst0 : exR M j rows t 0 = (exM j rows t,[]):=rfl
  change ∀ k,(exR M j rows t k).1.length = _ at hAl
  change ∀ k,(exR M j rows t k).2.length ≤ j at hApr
  have hEx : exprN M j rows t = if (exR M j rows t rows.length).2.length = rows.length ∧ ∀ q,q < j → rows.length ≤ q → gt C (exR M j rows t rows.length).1 q rows.length = 0 then some ((List.range rows.length).map fun k=>gt C (exR M j rows t rows.length).1 k rows.length) else none:=by unfold exprN;rw [hC]
  rw [hC] at hAl
  generalize exprN M j rows t = EX at *
  generalize exR M j rows t = XR at *
  (repeat' (first
   |(apply W.qd;(exact zN))|(apply yB)|(apply (W.regionS 13);exact rfl;kernel_rfl)|(apply yE)
   |(apply yG)))
  refine AWP.loopE (α:=Nat × List Nat × List (List Nat)) (fun s=>s.1 ≤ rows.length ∧ SysOk M j C s.2.1 s.2.2 ∧ RelL j C s.2.1 s.2.2 (XR s.1).1 ∧ (XR s.1).2.length = s.1) (fun s=>⟨[(12,iV s.1),(8,.opt 0 0),(0,iV M),(1,rowsN rows)],sysO 3 M C C c j s.2.1 s.2.2⟩) (fun s=>rows.length - s.1) (0,List.range j,Bl0) ⟨Nat.zero_le _,hok0,by rw [hst0];exact hrel0,by rw [hst0];rfl⟩ ⟨rfl,by (repeat (first | exact trivial | refine ⟨rfl,?_⟩))⟩ fun s hs=>?_
  obtain ⟨k,pm,Bl⟩:=s
  obtain ⟨hk,hok,hrel,hXl⟩:=hs
  dsimp only at hk hok hrel hXl ⊢
  clear hok0 hrel0
  by_cases hkn : k < rows.length
  ·have hkj := hApr k
   rw [hXl] at hkj
   have hf:=find_rel hrel (k:=k) (by omega) (j - k) k (by omega)
   have hfl:=findL_le pm Bl k (j - k) k
   by_cases hP : findL pm Bl k (j - k) k = j
   ·have hno := A_elim_no (M := M) (v := C) (c := c) hok (by omega) hkj (by omega) (by omega) hP
    have hstk:=hst k
    have hXk1 : (XR (k + 1)).2.length = k:=by
     rw [hstk,redStep]
     dsimp only
     rw [hXl,← hf,if_pos hP];exact hXl
    have hnone : EX = none:=by
     rw [hEx,if_neg]
     intro hh
     have:=hmono (k + 1) (rows.length - (k + 1))
     rw [show k + 1 + (rows.length - (k + 1)) = rows.length by omega,hXk1,hh.1] at this
     omega
    rw [hnone]
    unfold exprA
    clear hEx hst hmono hAl hApr hf hrel
    (repeat' (first
     |(apply W.qd;(first
     |(exact zM)|(exact zN)|(exact jAj)|(exact jBe)
     |(exact jAt)))|(apply W.ed;((apply (e_callA hno);exact rfl;exact rfl;kernel_rfl)))|(apply yA)|(apply yB)|(refine jAb ?_)|(apply yE)|(apply yG)|(apply yH)|(apply yJ)|(apply yP)|(apply yN)|(refine jAv ?_)
     |(refine W.cond _ rfl (fun hb=>?_) (fun hb=>?_)<;>((try simp only [hb,zK])<;>(try simp only [zL,zI] at hb)<;>(try (exfalso;omega))))))
    exact ⟨.inl rfl,[],[.d (.v (.slice none 0 0)),bV false],rfl,rfl,⟨rfl,rfl,trivial⟩,AVle.tup2 (AVle.nil 1) (AVle.refl _),rfl⟩
   ·have hPD : findL pm Bl k (j - k) k < j := by omega
    have hkj2 : k < j:=by have:=hfl.1;omega
    have hel:=A_elim (M:=M) (v:=C) (c:=c) hM hok (by omega) hkj2 (by omega) (by omega) rfl hPD
    obtain ⟨r1,r2,r3⟩:=elim_rel (pv:=(XR k).2) hM hok hrel (hAl k) hXl (by omega) hkj2 rfl hPD
    have hstk:=hst k
    have e2 : (XR k) = ((XR k).1,(XR k).2):=rfl
    rw [← e2,← hstk] at r1 r3
    generalize clB M C k k (swp pm (findL pm Bl k (j - k) k) k) (Bl.set (pm.getD (findL pm Bl k (j - k) k) 0) (scV M (invN M ((Bl.getD (pm.getD (findL pm Bl k (j - k) k) 0) []).getD k 0)) (Bl.getD (pm.getD (findL pm Bl k (j - k) k) 0) []) C)) j = Bl' at *
    generalize swp pm (findL pm Bl k (j - k) k) k = pm' at *
    clear hEx hst hmono hAl hApr hf hrel hstk
    (repeat' (first
     |(apply W.qd;(first
     |(exact zM)|(exact zN)|(exact jAj)|(exact jBe)|(exact jAi)
     |(exact jAt)))|(apply W.ed;((apply (e_callA hel);exact rfl;exact rfl;kernel_rfl)))|(apply yA)|(apply yB)|(refine jAb ?_)|(apply yE)|(apply yG)|(apply yH)|(apply yL)|(refine jAy ?_)
     |(refine W.cond _ rfl (fun hb=>?_) (fun hb=>?_)<;>((try simp only [hb,zK])<;>(try simp only [zL,zI] at hb)<;>(try (exfalso;omega))))))
    exact ⟨(k + 1,pm',Bl'),⟨by show k + 1 ≤ _;omega,r2,r3,by rw [r1,List.length_append,hXl];rfl⟩,by show rows.length - (k + 1) < _;omega,rfl,iV_eq (by show ((k + 1 : Nat) : Int) = _;omega),rfl,rfl,rfl,trivial⟩
  have hk' : k = rows.length:=by omega
  subst hk'
  have hnj : rows.length ≤ j:=by have:=hApr rows.length;omega
  have hXA:=hrel
  generalize hA : (XR rows.length).1 = A at *
  have hEx2 : EX = if ∀ q,q < j → rows.length ≤ q → gt C A q rows.length = 0 then some ((List.range rows.length).map fun k=>gt C A k rows.length) else none:=by
   rw [hEx]
   by_cases h : ∀ q,q < j → rows.length ≤ q → gt C A q rows.length = 0
   ·rw [if_pos h,if_pos ⟨hXl,h⟩]
   ·rw [if_neg h,if_neg fun h2=>h h2.2]
  clear hEx hst hmono hAl hApr hrel hXl
  have hbl:=hok.bl
  have hpl:=hok.pl
  -- an equation's element
  have hget : ∀ q (L : List Ent),q < j → (((.box [iV M,.bsl 1 j c] :: .box (pm.map (ptrS C C)) :: (Bl.map (rowE 3 C) ++ L)) : List Ent)[pm.getD q 0 + 2]? = some (.row C 1 3 ((Bl.getD (pm.getD q 0) []).map kD))):=fun q L hq=>by
   have h1:=hok.lt q hq
   have h2:=sys_get (t:=3) (v:=C) (E0:=.box [iV M,.bsl 1 j c]) (E1:=.box (pm.map (ptrS C C))) (Bl:=Bl) (p:=pm.getD q 0) (by omega)
   rw [← h2]
   show (Bl.map (rowE 3 C) ++ L)[pm.getD q 0]? = (Bl.map (rowE 3 C))[pm.getD q 0]?
   rw [List.getElem?_append_left (by rw [List.length_map];omega)]
  have hpm:=fun q (hq : q < j)=>sys_ld (v:=C) (C:=C) (p:=q) (pm:=pm) (by omega)
  have hbq : ∀ q,q < j → (Bl.getD (pm.getD q 0) []).length = C:=fun q hq=>hok.rl _ (getDB_mem (by have:=hok.lt q hq;omega))
  have hel : ∀ q,q < j → ∀ h,(Bl.getD (pm.getD q 0) [])[rows.length]'h = gt C A q rows.length:=fun q hq h=>by
   rw [← hXA q hq rows.length (by omega)]
   unfold lgN
   rw [List.getD_eq_getElem?_getD (l:=Bl.getD (pm.getD q 0) []),List.getElem?_eq_getElem h];rfl
  unfold sysO
  (repeat' (first
   |(apply W.qd;(first
   |(exact zM)|(exact zN)|(exact jAj)
   |(exact jAt)))|(apply yA)|(apply yB)|(apply (W.regionS 19);exact rfl;kernel_rfl)|(apply yE)|(apply yG)|(apply yI)|(apply yK)|(apply yM)
   |(refine W.cond _ rfl (fun hb=>?_) (fun hb=>?_)<;>((try simp only [hb,zK])<;>(try simp only [zL,zI] at hb)<;>(try (exfalso;omega))))))
  refine AWP.loopE (α:=Nat) (fun q=>rows.length ≤ q ∧ q ≤ j ∧ ∀ q',q' < q → rows.length ≤ q' → gt C A q' rows.length = 0) (fun q=>⟨[(14,iV q),(8,.opt 0 0),(1,rowsN rows)],.box [iV M,.bsl 1 j c] :: .box (pm.map (ptrS C C)) :: Bl.map (rowE 3 C)⟩) (fun q=>j - q) rows.length ⟨Nat.le_refl _,hnj,fun q' h1 h2=>by omega⟩ ⟨rfl,iV_eq (by rw [hmr]),rfl,rfl,trivial⟩ fun q hq=>?_
  obtain ⟨hq1,hq2,hq3⟩:=hq
  by_cases hqj : q < j
  ·have g1 := hget q [] hqj
   rw [List.append_nil] at g1
   have g2:=hpm q hqj
   have g3:=hbq q hqj
   have g4:=hel q hqj
   obtain ⟨l,hl⟩ : ∃ l,Bl.getD (pm.getD q 0) [] = l:=⟨_,rfl⟩
   rw [hl] at g1 g3 g4
   replace g4:=g4 (by omega)
   clear hget hpm hbq hel
   clear hl
   generalize pm.getD q 0 = a at *
   have hCn : rows.length < C:=by omega
   by_cases hz : gt C A q rows.length = 0
   ·rw [hz] at g4
    (repeat' (first
     |(apply W.qd;(first
     |((apply s_ld;exact rfl;exact rfl;assumption;exact rfl))
     |((apply s_ix;exact rfl;assumption;(iterate 3 exact rfl);omega))
     |((apply s_ldr;exact rfl;assumption;exact rfl;exact rfl;omega))
     |((exact q_len_bsl rfl rfl))
     |((apply q_ix_bsl;(iterate 4 exact rfl);omega))|(exact zM)|(exact zN)|(exact jAm)|(exact jAg)|(exact jAj)|(exact jBb)|(exact jAi)|(exact jAt)
     |(exact q_nil_opt rfl)))|(apply yA)|(apply yB)|(refine jAb ?_)|(apply yE)|(apply yG)|(apply yH)|(apply yL)
     |(refine W.cond _ rfl (fun hb=>?_) (fun hb=>?_)<;>((try simp only [hb,zK])<;>(try simp only [zL,zI] at hb)<;>(try (exfalso;omega))))))
    exact ⟨q + 1,⟨by omega,by omega,fun q' h1 h2=>by
     by_cases e : q' = q
     ·rw [e];exact hz
     ·exact hq3 q' (by omega) h2⟩,by omega,rfl,iV_eq (by omega),rfl,rfl,trivial⟩
   ·rw [hEx2, if_neg fun h => hz (h q hqj hq1)]
    unfold exprA
    have g5 : l[rows.length]'(by omega) ≠ 0:=by rw [g4];exact hz
    (repeat' (first
     |(apply W.qd;(first
     |((apply s_ld;exact rfl;exact rfl;assumption;exact rfl))
     |((apply s_ix;exact rfl;assumption;(iterate 3 exact rfl);omega))
     |((apply s_ldr;exact rfl;assumption;exact rfl;exact rfl;omega))
     |((exact q_len_bsl rfl rfl))
     |((apply q_ix_bsl;(iterate 4 exact rfl);omega))|(exact zM)|(exact zN)|(exact jAm)|(exact jAg)|(exact jAj)|(exact jBb)|(exact jAt)
     |(exact q_nil_opt rfl)))|(apply yA)|(apply yB)|(refine jAb ?_)|(apply yE)|(apply yG)|(apply yH)|(apply yJ)|(apply yP)|(apply yN)
     |(refine W.cond _ rfl (fun hb=>?_) (fun hb=>?_)<;>((try simp only [hb,zK])<;>(try simp only [zL,zI] at hb)<;>(try (exfalso;omega))))))
    exact ⟨.inl rfl,[],[.d (.v (.slice none 0 0)),bV false],rfl,rfl,⟨rfl,rfl,trivial⟩,AVle.tup2 (AVle.nil 1) (AVle.refl _),rfl⟩
  ·have hqj' : q = j := by omega
   subst hqj'
   rw [hEx2,if_pos hq3]
   unfold exprA
   clear hEx2
   (repeat' (first
    |(apply W.qd;(first
    |((exact q_len_bsl rfl rfl))|(exact zM)|(exact zN)|(exact jAm)|(exact jAg)|(exact jAj)
    |(exact q_nil_opt rfl)))|(apply yA)|(apply yB)|(apply (W.regionS 24);exact rfl;kernel_rfl)|(apply yE)|(apply yI)|(apply yK)|(apply yM)
    |(refine W.cond _ rfl (fun hb=>?_) (fun hb=>?_)<;>((try simp only [hb,zK])<;>(try simp only [zL,zI] at hb)<;>(try (exfalso;omega))))))
   refine AWP.nilRow 15 1 3 rfl (by omega) ?_
   refine AWP.wkE ⟨[(15,.osl (q + 2) 0 0 0),(8,.opt 0 0),(1,rowsN rows)],.box [iV M,.bsl 1 q c] :: .box (pm.map (ptrS C C)) :: (Bl.map (rowE 3 C) ++ [.row 0 1 3 []])⟩ ⟨rfl,congrArg (fun n=>AV.osl n 0 0 0) (by simp [hbl]),rfl,rfl,trivial⟩ ?_
   have hLl : (Bl.map (rowE 3 C)).length = q:=by rw [List.length_map];exact hbl
   (repeat' (first
    |(apply W.qd;(exact zN))|(apply yB)|(apply (W.regionS 25);exact rfl;kernel_rfl)|(apply yE)
    |(apply yG)))
   refine AWP.loopE (α:=Nat) (fun k=>k ≤ rows.length) (fun k=>⟨[(16,iV k),(15,.osl (q + 2) k 0 k),(8,.opt 0 0),(1,rowsN rows)],.box [iV M,.bsl 1 q c] :: .box (pm.map (ptrS C C)) :: (Bl.map (rowE 3 C) ++ [.row k 1 3 (((List.range k).map fun k=>gt C A k rows.length).map kD)])⟩) (fun k=>rows.length - k) 0 (Nat.zero_le _) ⟨rfl,by (repeat (first | exact trivial | refine ⟨rfl,?_⟩))⟩ fun k hk=>?_
   have hp : ((.box [iV M,.bsl 1 q c] :: .box (pm.map (ptrS C C)) :: (Bl.map (rowE 3 C) ++ [.row k 1 3 (((List.range k).map fun k=>gt C A k rows.length).map kD)])) : List Ent)[q + 2]? = some (.row k 1 3 (((List.range k).map fun k=>gt C A k rows.length).map kD)):=dyn_last hLl
   by_cases hkn : k < rows.length
   ·have g1 := hget k [.row k 1 3 (((List.range k).map fun k => gt C A k rows.length).map kD)] (by omega)
    have g2:=hpm k (by omega)
    have g3:=hbq k (by omega)
    have g4:=hel k (by omega)
    obtain ⟨l,hl⟩ : ∃ l,Bl.getD (pm.getD k 0) [] = l:=⟨_,rfl⟩
    rw [hl] at g1 g3 g4
    replace g4:=g4 (by omega)
    have hls : ((List.range (k + 1)).map fun k=>gt C A k rows.length) = ((List.range k).map fun k=>gt C A k rows.length) ++ [gt C A k rows.length]:=by rw [List.range_succ,List.map_append];rfl
    have hll : ((List.range k).map fun k=>gt C A k rows.length).length = k:=by simp
    have g5 : l[(rows.map rnD).length]'(by omega) = gt C A k rows.length:=by simp only [hmr];exact g4
    rw [← g5] at hls
    replace hls:=Lib.hid hls
    clear hget hpm hbq hel
    clear hl
    generalize pm.getD k 0 = a at *
    have hCn : rows.length < C:=by omega
    (repeat' (first
     |(apply W.qd;(first
     |((apply s_ld;exact rfl;exact rfl;assumption;exact rfl))
     |((apply s_ix;exact rfl;assumption;(iterate 3 exact rfl);omega))
     |((apply s_ldr;exact rfl;assumption;exact rfl;exact rfl;omega))
     |((apply q_ix_bsl;(iterate 4 exact rfl);omega))|(exact zM)|(exact zN)|(exact jAm)|(exact jAg)|(exact jAj)|(exact jAi)|(exact jAt)|(exact q_nil_opt rfl)
     |(exact jAl)))|(apply W.ed;((apply (s_app1 (f:=kD) (l[(rows.map rnD).length]'(by omega)));exact rfl;assumption;exact rfl;exact dyn_setl hLl;(iterate 3 exact rfl);exact hll.symm;omega)))|(apply yA)|(apply yB)|(refine jAb ?_)|(apply yE)|(apply yG)|(apply yH)|(apply yL)
     |(refine W.cond _ rfl (fun hb=>?_) (fun hb=>?_)<;>((try simp only [hb,zK])<;>(try simp only [zL,zI] at hb)<;>(try (exfalso;omega))))))
    refine ⟨k + 1,by omega,by omega,?_,iV_eq (by omega),rfl,rfl,rfl,trivial⟩
    rw [hls.out]
   ·have hkn' : k = rows.length := by omega
    subst hkn'
    refine AWP.wk ⟨[(16,iV rows.length),(15,nats ((List.range rows.length).map fun k=>gt C A k rows.length)),(1,rowsN rows)],[]⟩ ⟨[],rfl,rfl,rfl,rfl,(frz_rowJ hp rfl (by simp)).symm,rfl,trivial⟩ ?_
    (repeat' (first
     |(apply W.qd;(first
     |(exact zM)|(exact zN)|(exact jAj)
     |(exact jAt)))|(apply yA)|(apply yB)|(refine jAb ?_)|(apply yE)|(apply yI)|(apply yJ)|(apply yK)|(apply yM)
     |(refine W.cond _ rfl (fun hb=>?_) (fun hb=>?_)<;>((try simp only [hb,zK])<;>(try simp only [zL,zI] at hb)<;>(try (exfalso;omega))))))
    exact ⟨.inl rfl,[],[nats ((List.range rows.length).map fun k=>gt C A k rows.length),bV true],rfl,rfl,⟨rfl,rfl,trivial⟩,AVle.of_eq rfl,rfl⟩
end
section
theorem frz_rowS {own own' : List Ent} {i ver n sz : Nat} {e : TypeId} {l : List (List Dat)} (ho : own[i]? = some (.row ver sz e l)) (hs : own'[i]? = own[i]?) (hn : n = l.length) : AV.frz own' [] (.osl i ver 0 n) = .d (.sl sz l):=frz_rowJ (hs.trans ho) rfl hn
theorem takeB_succ {B : List Nat} {m : Nat} (hm : m < B.length) : B.take (m + 1) = B.take m ++ [B.getD m 0]:=by
 have : B.getD m 0 = B[m]:=by rw [List.getD_eq_getElem?_getD,List.getElem?_eq_getElem hm];rfl
 rw [List.take_succ_eq_append_getElem hm,this]
theorem bas_pres {M D : Nat} {ps : List (List Nat)} {hv : List Bool} (h : CodeOk M D ps) (hl : hv.length = D + ps.length) {q : Nat} (hq : q < (basisN M D ps hv).length) : hv.getD ((basisN M D ps hv).getD q 0) false = true:=by
 obtain ⟨T,S,hB⟩:=basis_to h hl
 exact hB.mem q hq
theorem bas_inc {M D : Nat} {ps : List (List Nat)} {hv : List Bool} (h : CodeOk M D ps) (hl : hv.length = D + ps.length) {q q' : Nat} (hqq : q < q') (hq : q' < (basisN M D ps hv).length) : (basisN M D ps hv).getD q 0 < (basisN M D ps hv).getD q' 0:=by
 obtain ⟨T,S,hB⟩:=basis_to h hl
 exact hB.inc q q' hqq hq
attribute [local irreducible] Quiet Eff OpOk AWPG ACont ABlock ACalls AGoto
theorem A_r8basis {M D : Nat} {ps : List (List Nat)} {hv : List Bool} (h : CodeOk M D ps) (hl : hv.length = D + ps.length) : ACalls Tryz.prog 217 [cdN M D ps,bools hv] [] (.tup [nats (basisN M D ps hv),iV 0]) []:=by
 refine acalls_of_bodyO Tryz.func217 rfl (zU rfl) ?_
 have hM:=h.f
 have h1:=h.d
 have h2:=h.w
 have hw:=A_r8widthN h
 have hmh : (hv.map tD).length = hv.length:=List.length_map _
 have hbl:=bas_le h hl
 have hpres:=fun q hq=>bas_pres h hl (q:=q) hq
 have hinc:=fun q q' hqq hq=>bas_inc h hl (q:=q) (q':=q') hqq hq
 have hnone:=fun m hm=>step_none h hl (m:=m) hm
 have hsome:=fun m i hi hm hge=>step_some h hl (m:=m) (i:=i) hi hm hge
 have hrow:=fun i (hi : i < D + ps.length)=>A_r8row h hi
 have hexp:=fun m i (hm : m ≤ (basisN M D ps hv).length)=>A_express (M:=M) (D:=D) (rows:=takeR D ps (basisN M D ps hv) m) (t:=rowN D ps i) hM (by omega) (by omega) (by rw [takeR_length hm];omega) (fun r hr=>by
  obtain ⟨u,_,rfl⟩:=List.mem_map.1 hr;exact rowN_length ..) (rowN_length ..) (takeR_lt h hl _ _) (rowN_lt h hl i)
 generalize basisN M D ps hv = B at *
 have htl:=fun m (hm : m ≤ B.length)=>takeR_length (D:=D) (ps:=ps) (B:=B) hm
 have hts:=fun m (hm : m < B.length)=>Lib.hid (takeR_succ (D:=D) (ps:=ps) (B:=B) hm)
 have hbs:=fun m (hm : m < B.length)=>Lib.hid (takeB_succ (B:=B) hm)
 have ht0 : takeR D ps B 0 = []:=rfl
 obtain ⟨Wd,hW⟩ : ∃ Wd,D + ps.length = Wd:=⟨_,rfl⟩
 rw [hW] at hw hl hrow
 (repeat' (first
  |(apply yFb;exact rfl;exact rfl)
  |(apply W.qd;(first
  |(exact zW (hw))|(exact zM)|(exact zN)|(exact jAn)|(exact jAu)|(exact jBb)|(exact jAt)
  |(apply (yDb (u:=.d _));exact rfl;exact rfl)))|(apply W.ed;(exact jAa))|(apply yA)|(apply yB)|(apply (W.regionS 6);exact rfl;kernel_rfl)|(apply yE)|(apply yH)|(refine W.gF _ _ rfl rfl (fun hb=>?_) (fun hb=>?_)<;>((try simp only [hb,zK])<;>(try simp only [zL,zI] at hb)<;>(try (exfalso;omega))))
  |(refine W.cond _ rfl (fun hb=>?_) (fun hb=>?_)<;>((try simp only [hb,zK])<;>(try simp only [zL,zI] at hb)<;>(try (exfalso;omega))))))
 refine AWP.nilRow 7 1 3 rfl (by omega) ?_
 refine AWP.nilRow 8 1 91 rfl (by omega) ?_
 (repeat' (first
  |(apply W.qd;(exact zN))|(apply yB)|(apply (W.regionS 7);exact rfl;kernel_rfl)|(apply yE)
  |(apply yG)))
 refine AWP.loopW (α:=Nat × Nat) (fun s=>s.1 ≤ Wd ∧ s.2 ≤ B.length ∧ (∀ q,q < s.2 → B.getD q 0 < s.1) ∧ ∀ q,s.2 ≤ q → q < B.length → s.1 ≤ B.getD q 0) (fun s=>⟨[(9,iV s.1),(6,iV Wd),(7,.osl 1 s.2 0 s.2),(8,.osl 2 s.2 0 s.2),(1,bools hv),(2,.opt 0 0)],[.box [.d .any,iV M,iV D,rowsN ps,.d .any],.row s.2 1 3 ((B.take s.2).map kD),.row s.2 1 91 ((takeR D ps B s.2).map rnD)]⟩) (fun s=>Wd - s.1) (0,0) ⟨Nat.zero_le _,Nat.zero_le _,fun q hq=>by omega,fun q _ _=>Nat.zero_le _⟩ ⟨[0,1,2],rfl,rfl,rfl,by (repeat (first | exact trivial | refine ⟨rfl,?_⟩))⟩ fun s hs=>?_
 obtain ⟨i,m⟩:=s
 obtain ⟨p1,p2,p3,p4⟩:=hs
 dsimp only at p1 p2 p3 p4 ⊢
 by_cases hiW : i < Wd
 ·have eg : hv.getD i false = hv[i]'(by omega) := by rw [List.getD_eq_getElem?_getD, List.getElem?_eq_getElem (show i < hv.length by omega)]; rfl
  have hr:=hrow i hiW
  have he:=hexp m i p2
  have hl2:=htl m p2
  have hfz : ∀ own own' : List Ent,own[2]? = some (.row m 1 91 ((takeR D ps B m).map rnD)) → same [2] own own' → AV.frzL own' [] [iV M,.osl 2 m 0 m,nats (rowN D ps i)] = [iV M,rowsN (takeR D ps B m),nats (rowN D ps i)]:=fun own own' h1 h2 =>
   congrArg (fun z=>[iV M,z,nats (rowN D ps i)]) (frz_rowS h1 (h2 2 (by simp)) (by rw [List.length_map];exact hl2.symm))
  have hbt : (B.take m).length = m:=by rw [List.length_take];omega
  cases hb0 : hv[i]'(by omega) with
  | false =>
    have hne : ∀ q,m ≤ q → q < B.length → i + 1 ≤ B.getD q 0:=fun q h5 h6=>by
     have h7:=p4 q h5 h6
     by_cases e : B.getD q 0 = i
     ·have:=hpres q h6;rw [e,eg,hb0] at this;cases this
     ·omega
    clear he hexp hr hrow hnone hsome hts hbs
    (repeat' (first
     |(apply W.qd;(first
     |(exact zM)|(exact zN)|(exact jAm)|(exact jAg)|(exact jAn)|(exact jAj)|(exact jBe)|(exact jAi)|(exact jAc)
     |(exact jA)))|(apply yA)|(apply yB)|(refine jAb ?_)|(refine jAr ?_)|(apply yE)|(apply yG)|(apply yH)|(apply yI)|(apply yK)|(apply yM)
     |(refine W.cond _ rfl (fun hb=>?_) (fun hb=>?_)<;>((try simp only [hb,zK])<;>(try simp only [zL,zI] at hb)<;>(try (exfalso;omega))))))
    (all_goals (try (exfalso;exact absurd ((‹hv[i] = true› : hv[i] = true).symm.trans (‹hv[i] = false› : hv[i] = false)) (by decide))))
    all_goals exact ⟨(i + 1,m),⟨by show i + 1 ≤ Wd;omega,p2,fun q hq=>Nat.lt_succ_of_lt (p3 q hq),hne⟩,by show Wd - (i + 1) < _;omega,[0,1,2],rfl,rfl,rfl,iV_eq (by show ((i + 1 : Nat) : Int) = _;omega),rfl,rfl,rfl,rfl,rfl,trivial⟩
  | true =>
    by_cases hcase : ∃ hm : m < B.length,B.getD m 0 = i
    ·obtain ⟨hm, hBm⟩ := hcase
     have hno:=hnone m hm
     rw [hBm] at hno
     rw [hno] at he
     unfold exprA at he
     dsimp only at he
     have hts2:=hts m hm
     have hbs2:=hbs m hm
     rw [hBm] at hts2 hbs2
     have hn1 : ∀ q,q < m + 1 → B.getD q 0 < i + 1:=fun q hq=>by
      by_cases e : q = m
      ·rw [e,hBm];omega
      ·have:=p3 q (by omega);omega
     have hn2 : ∀ q,m + 1 ≤ q → q < B.length → i + 1 ≤ B.getD q 0:=fun q h5 h6=>by have:=hinc m q (by omega) h6;omega
     clear hexp hrow hnone hsome hts hbs p3 p4
     generalize takeR D ps B m = R at *
     generalize B.take m = T at *
     generalize rowN D ps i = rw0 at *
     (repeat' (first
      |(apply W.qd;(first
      |(exact zW (hr))
      |((apply (q_callF (js:=[2]) he);exact rfl;exact fun own' hh=>hfz _ own' rfl hh;exact rfl;kernel_rfl))|(exact zM)|(exact zN)|(exact jAm)|(exact jAg)|(exact jAn)|(exact jAj)|(exact jBe)|(exact jAi)|(exact yAb rfl rfl)|(exact jAc)|(exact jAl)
      |(exact jA)))
      |(apply W.ed;(first
      |((apply (s_app1 (f:=kD) i);(iterate 7 exact rfl);exact hbt.symm;omega))
      |((apply (s_app1 (f:=rnD) rw0);(iterate 7 exact rfl);exact hl2.symm;omega))))|(apply yA)|(apply yB)|(refine jAb ?_)|(refine jAr ?_)|(apply yE)|(refine jAx ?_)|(apply yG)|(apply yH)|(apply yI)|(apply yK)|(apply yL)|(apply yM)|(refine jAv ?_)
      |(refine W.cond _ rfl (fun hb=>?_) (fun hb=>?_)<;>((try simp only [hb,zK])<;>(try simp only [zL,zI] at hb)<;>(try (exfalso;omega))))))
     (all_goals (try (exfalso;exact absurd ((‹hv[i] = true› : hv[i] = true).symm.trans (‹hv[i] = false› : hv[i] = false)) (by decide))))
     all_goals refine ⟨(i + 1,m + 1),⟨by show i + 1 ≤ Wd;omega,by show m + 1 ≤ _;omega,hn1,hn2⟩,by show Wd - (i + 1) < _;omega,[0,1,2],rfl,rfl,?_,iV_eq (by show ((i + 1 : Nat) : Int) = _;omega),rfl,rfl,rfl,rfl,rfl,trivial⟩
     all_goals (show [_,Ent.row (m + 1) 1 _ ((B.take (m + 1)).map kD),Ent.row (m + 1) 1 _ ((takeR D ps B (m + 1)).map rnD)] = _;rw [hts2.out,hbs2.out];rfl)
    ·have hne : ∀ q,m ≤ q → q < B.length → i < B.getD q 0:=fun q h5 h6=>by
      have h7:=p4 q h5 h6
      by_cases e : B.getD q 0 = i
      ·exfalso
       by_cases e2 : q = m
       ·exact hcase ⟨by omega,by rw [← e2];exact e⟩
       ·have h8 := hinc m q (by omega) h6
        have h9:=p4 m (Nat.le_refl _) (by omega)
        omega
      ·omega
     have hso:=hsome m i (by rw [eg,hb0]) p2 hne
     obtain ⟨K,hK⟩:=Option.isSome_iff_exists.1 hso
     rw [hK] at he
     unfold exprA at he
     dsimp only at he
     clear hexp hrow hnone hsome hts hbs p4 hso
     (repeat' (first
      |(apply W.qd;(first
      |(exact zW (hr))
      |((apply (q_callF (js:=[2]) he);exact rfl;exact fun own' hh=>hfz _ own' rfl hh;exact rfl;kernel_rfl))|(exact zM)|(exact zN)|(exact jAm)|(exact jAg)|(exact jAn)|(exact jAj)|(exact jBe)|(exact jAi)|(exact yAb rfl rfl)|(exact jAc)
      |(exact jA)))|(apply yA)|(apply yB)|(refine jAb ?_)|(refine jAr ?_)|(apply yE)|(refine jAx ?_)|(apply yG)|(apply yH)|(apply yI)|(apply yK)|(apply yL)|(apply yM)|(refine jAy ?_)
      |(refine W.cond _ rfl (fun hb=>?_) (fun hb=>?_)<;>((try simp only [hb,zK])<;>(try simp only [zL,zI] at hb)<;>(try (exfalso;omega))))))
     (all_goals (try (exfalso;exact absurd ((‹hv[i] = true› : hv[i] = true).symm.trans (‹hv[i] = false› : hv[i] = false)) (by decide))))
     all_goals exact ⟨(i + 1,m),⟨by show i + 1 ≤ Wd;omega,p2,fun q hq=>Nat.lt_succ_of_lt (p3 q hq),fun q h5 h6=>hne q h5 h6⟩,by show Wd - (i + 1) < _;omega,[0,1,2],rfl,rfl,rfl,iV_eq (by show ((i + 1 : Nat) : Int) = _;omega),rfl,rfl,rfl,rfl,rfl,trivial⟩
 ·have hmB : m = B.length:=by
   by_cases e : m < B.length
   ·exfalso
    have h5:=p4 m (Nat.le_refl _) e
    have h6:=hpres m e
    rw [List.getD_eq_getElem?_getD,List.getElem?_eq_none (by omega)] at h6
    cases h6
   ·omega
  subst hmB
  clear hexp hrow hnone hsome hts hbs
  have e1 : B.take B.length = B:=List.take_length
  refine AWP.wk ⟨[(9,iV i),(6,iV Wd),(7,nats B),(2,.opt 0 0)],[.box [.d .any,iV M,iV D,rowsN ps,.d .any]]⟩ ⟨[0],rfl,rfl,rfl,rfl,rfl,(congrArg (fun l=>nats l) e1.symm).trans (frz_rowJ rfl rfl (by simp)).symm,rfl,trivial⟩ ?_
  (repeat' (first
   |(apply W.qd;(first
   |(exact zM)|(exact zN)
   |(exact jAj)))|(apply yA)|(apply yB)|(refine jAb ?_)|(apply yE)|(apply yI)|(apply yJ)|(apply yK)|(apply yM)
   |(refine W.cond _ rfl (fun hb=>?_) (fun hb=>?_)<;>((try simp only [hb,zK])<;>(try simp only [zL,zI] at hb)<;>(try (exfalso;omega))))))
  exact ⟨.inl rfl,[],[nats B,iV 0],rfl,rfl,⟨rfl,rfl,trivial⟩,AVle.of_eq rfl,rfl⟩
end
section
attribute [local irreducible] Quiet Eff OpOk AWPG ACont ABlock ACalls AGoto
def coefA (B : List Nat) : Option (List Nat) → AV
 | some K=>.tup [nats B,nats K,iV 0]
 | none=>.tup [nats [],nats [],iV 11]
theorem A_r8coef {M D u : Nat} {ps : List (List Nat)} {hv : List Bool} (h : CodeOk M D ps) (hl : hv.length = D + ps.length) (hu : u < D + ps.length) : ACalls Tryz.prog 160 [cdN M D ps,bools hv,iV u] [] (coefA (basisN M D ps hv) (exprN M D (takeR D ps (basisN M D ps hv) (basisN M D ps hv).length) (rowN D ps u))) []:=by
 refine acalls_of_bodyO Tryz.func160 rfl (zU rfl) ?_
 have hM:=h.f
 have h1:=h.d
 have h2:=h.w
 have hb:=A_r8basis h hl
 have hmh : (hv.map tD).length = hv.length:=List.length_map _
 have hbl:=bas_le h hl
 have hblt : ∀ q,q < (basisN M D ps hv).length → (basisN M D ps hv).getD q 0 < D + ps.length:=fun q hq=>hv_lt h hl (bas_pres h hl hq)
 have hrow:=fun i (hi : i < D + ps.length)=>A_r8row h hi
 have hr:=hrow u hu
 have he:=A_express (M:=M) (D:=D) (rows:=takeR D ps (basisN M D ps hv) (basisN M D ps hv).length) (t:=rowN D ps u) hM (by omega) (by omega) (by rw [takeR_length (Nat.le_refl _)];omega) (fun r hr=>by
  obtain ⟨u,_,rfl⟩:=List.mem_map.1 hr;exact rowN_length ..) (rowN_length ..) (takeR_lt h hl _ _) (rowN_lt h hl u)
 generalize basisN M D ps hv = B at *
 have htl:=fun m (hm : m ≤ B.length)=>takeR_length (D:=D) (ps:=ps) (B:=B) hm
 have hts:=fun m (hm : m < B.length)=>Lib.hid (takeR_succ (D:=D) (ps:=ps) (B:=B) hm)
 have ht0 : takeR D ps B 0 = []:=rfl
 have hmB : (B.map kD).length = B.length:=List.length_map _
 (repeat' (first
  |(apply yFb;exact rfl;exact rfl)
  |(apply W.qd;(first
  |(exact zW (hb))|(exact zM)|(exact zN)|(exact jAn)|(exact jAj)|(exact q_geq rfl rfl)|(exact jBb)|(exact yAb rfl rfl)|(exact jAt)
  |(apply (yDb (u:=.d _));exact rfl;exact rfl)))|(apply W.ed;(exact jAa))|(apply yA)|(apply yB)|(apply (W.regionS 5);exact rfl;kernel_rfl)|(apply yE)|(apply yH)
  |(refine W.cond _ rfl (fun hb=>?_) (fun hb=>?_)<;>((try simp only [hb,zK])<;>(try simp only [zL,zI] at hb)<;>(try (exfalso;omega))))))
 refine AWP.nilRow 11 1 91 rfl (by omega) ?_
 (repeat' (first
  |(apply W.qd;(exact zN))|(apply yB)|(apply (W.regionS 6);exact rfl;kernel_rfl)|(apply yE)
  |(apply yG)))
 refine AWP.loopW (α:=Nat) (fun m=>m ≤ B.length) (fun m=>⟨[(12,iV m),(9,nats B),(11,.osl 1 m 0 m),(2,iV u),(3,.opt 0 0)],[.box [.d .any,iV M,iV D,rowsN ps,.d .any],.row m 1 91 ((takeR D ps B m).map rnD)]⟩) (fun m=>B.length - m) 0 (Nat.zero_le _) ⟨[0,1],rfl,rfl,rfl,by (repeat (first | exact trivial | refine ⟨rfl,?_⟩))⟩ fun m hm=>?_
 by_cases hmB2 : m < B.length
 ·have hbm : B.getD m 0 = B[m] := by rw [List.getD_eq_getElem?_getD, List.getElem?_eq_getElem hmB2]; rfl
  have hts2:=hts m hmB2
  have hlt:=hblt m hmB2
  rw [hbm] at hts2 hlt
  have hr2:=hrow (B[m]) hlt
  have hl2:=htl m hm
  clear hrow he hblt hts
  generalize takeR D ps B m = R at *
  generalize rowN D ps B[m] = rw0 at *
  (repeat' (first
   |(apply W.qd;(first
   |(exact zW (hr2))|(exact zM)|(exact zN)|(exact jAn)|(exact jAj)|(exact jAi)|(exact jAt)|(exact jAc)|(exact jAl)
   |(exact jA)))|(apply W.ed;((apply (s_app1 (f:=rnD) rw0);(iterate 7 exact rfl);exact hl2.symm;omega)))|(apply yA)|(apply yB)|(refine jAb ?_)|(refine jAr ?_)|(apply yE)|(refine jAx ?_)|(apply yG)|(apply yH)|(apply yL)
   |(refine W.cond _ rfl (fun hb=>?_) (fun hb=>?_)<;>((try simp only [hb,zK])<;>(try simp only [zL,zI] at hb)<;>(try (exfalso;omega))))))
  refine ⟨m + 1,by omega,by omega,[0,1],rfl,rfl,?_,iV_eq (by omega),rfl,rfl,rfl,rfl,trivial⟩
  rw [hts2.out];rfl
 ·have hmB3 : m = B.length := by omega
  subst hmB3
  have hl2:=htl B.length (Nat.le_refl _)
  clear hrow hblt hts ht0
  generalize takeR D ps B B.length = R at *
  refine AWP.wk ⟨[(12,iV B.length),(9,nats B),(11,rowsN R),(2,iV u),(3,.opt 0 0)],[.box [.d .any,iV M,iV D,rowsN ps,.d .any]]⟩ ⟨[0],rfl,rfl,rfl,rfl,rfl,(frz_rowJ rfl rfl (by rw [List.length_map];exact hl2.symm)).symm,rfl,rfl,trivial⟩ ?_
  cases hE : exprN M D R (rowN D ps u) with
  | none =>
    rw [hE] at he
    unfold exprA at he
    dsimp only at he
    generalize rowN D ps u = rw0 at *
    (repeat' (first
     |(apply W.qd;(first
     |(exact zW (hr))|(exact zW (he))|(exact zM)|(exact zN)|(exact jAm)|(exact jAg)|(exact jAn)|(exact jAj)|(exact jBe)|(exact yAb rfl rfl)
     |(exact jAt)))|(apply yA)|(apply yB)|(refine jAb ?_)|(refine jAr ?_)|(apply yE)|(refine jAx ?_)|(apply yI)|(apply yJ)|(apply yK)|(apply yP)|(apply yM)|(refine jAv ?_)
     |(refine W.cond _ rfl (fun hb=>?_) (fun hb=>?_)<;>((try simp only [hb,zK])<;>(try simp only [zL,zI] at hb)<;>(try (exfalso;omega))))))
    exact ⟨.inl rfl,[],[.d (.v (.slice none 0 0)),.d (.v (.slice none 0 0)),iV 11],rfl,rfl,⟨rfl,rfl,rfl,trivial⟩,AVle.tup ⟨AVle.nil 1,AVle.nil 1,AVle.refl _,trivial⟩,rfl⟩
  | some K =>
    rw [hE] at he
    unfold exprA at he
    dsimp only at he
    generalize rowN D ps u = rw0 at *
    (repeat' (first
     |(apply W.qd;(first
     |(exact zW (hr))|(exact zW (he))|(exact zM)|(exact zN)|(exact jAm)|(exact jAg)|(exact jAn)|(exact jAj)|(exact jBe)|(exact yAb rfl rfl)
     |(exact jAt)))|(apply yA)|(apply yB)|(refine jAb ?_)|(refine jAr ?_)|(apply yE)|(refine jAx ?_)|(apply yH)|(apply yI)|(apply yJ)|(apply yK)|(apply yM)|(refine jAy ?_)
     |(refine W.cond _ rfl (fun hb=>?_) (fun hb=>?_)<;>((try simp only [hb,zK])<;>(try simp only [zL,zI] at hb)<;>(try (exfalso;omega))))))
    exact ⟨.inl rfl,[],[nats B,nats K,iV 0],rfl,rfl,⟨rfl,rfl,rfl,trivial⟩,AVle.of_eq rfl,rfl⟩
theorem A_r8comb {M D u : Nat} {ps : List (List Nat)} {hv : List Bool} (h : CodeOk M D ps) (hl : hv.length = D + ps.length) (hu : u < D + ps.length) : ACalls Tryz.prog 102 [cdN M D ps,bools hv,iV u] [] (termsA (combN M D ps hv u)) []:=by
 refine acalls_of_bodyO Tryz.func102 rfl (zU rfl) ?_
 have hc:=A_r8coef h hl hu
 obtain ⟨e1,e2⟩:=expr_comb h hl hu
 have hbl:=bas_le h hl
 have h2:=h.w
 cases hC : combN M D ps hv u with
 | none =>
   rw [e2 hC] at hc
   unfold coefA at hc
   dsimp only at hc
   unfold termsA
   (repeat' (first
    |(apply W.qd;(first
    |(exact zW (hc))|(exact zM)|(exact zN)|(exact jAn)|(exact jBb)
    |(exact yAb rfl rfl)))|(apply W.ed;(exact jAa))|(apply yA)|(apply yB)|(refine jAb ?_)|(apply yE)|(apply yJ)|(apply yP)
    |(refine jAv ?_)))
   all_goals exact ⟨.inl rfl,[],[.d (.v (.slice none 0 0)),iV 11],rfl,rfl,⟨rfl,rfl,trivial⟩,AVle.tup2 (AVle.nil 2) (AVle.refl _),rfl⟩
 | some l =>
   obtain ⟨K,k1,k2,k3,k4⟩:=e1 l hC
   rw [k3] at hc
   unfold coefA at hc
   dsimp only at hc
   unfold termsA
   dsimp only
   rw [k4]
   clear k3 k4 e1 e2 hC
   generalize basisN M D ps hv = B at *
   have hmB : (B.map kD).length = B.length:=List.length_map _
   have hmK : (K.map kD).length = K.length:=List.length_map _
   have hs:=fun i=>Lib.hid (tmsAt_succ B K i)
   have hle:=tmsAt_length B K
   have ht0 : tmsAt B K 0 = []:=rfl
   generalize tmsAt B K = TM at *
   (repeat' (first
    |(apply W.qd;(first
    |(exact zW (hc))|(exact zM)|(exact zN)|(exact jAn)|(exact jBb)
    |(exact yAb rfl rfl)))|(apply W.ed;(exact jAa))|(apply yA)|(apply yB)|(apply (W.regionS 5);exact rfl;kernel_rfl)|(apply yE)|(apply yH)
    |(refine jAy ?_)))
   refine AWP.nilRow 11 2 252 rfl (by omega) ?_
   (repeat' (first
    |(apply W.qd;(exact zN))|(apply yB)|(apply (W.regionS 6);exact rfl;kernel_rfl)|(apply yE)
    |(apply yG)))
   refine AWP.loopW (α:=Nat) (fun i=>i ≤ B.length) (fun i=>⟨[(12,iV i),(8,nats B),(9,nats K),(11,.osl 1 (TM i).length 0 (TM i).length),(3,.opt 0 0)],[.box [.d .any,iV M,iV D,rowsN ps,.d .any],.row (TM i).length 2 252 ((TM i).map tmD)]⟩) (fun i=>B.length - i) 0 (Nat.zero_le _) ?wk0 fun i hi=>?_
   case wk0 =>
    rw [ht0]
    exact ⟨[0,1],rfl,rfl,rfl,by (repeat (first | exact trivial | refine ⟨rfl,?_⟩))⟩
   by_cases hiB : i < B.length
   ·have hs2 := (hs i).out
    have hbm : B.getD i 0 = B[i]:=by rw [List.getD_eq_getElem?_getD,List.getElem?_eq_getElem hiB];rfl
    have hkm : K.getD i 0 = K[i]'(by omega):=by rw [List.getD_eq_getElem?_getD,List.getElem?_eq_getElem (show i < K.length by omega)];rfl
    rw [hbm,hkm] at hs2
    have hle2:=hle i
    by_cases hz : K[i]'(by omega) = 0
    ·rw [if_pos hz] at hs2
     replace hs2:=Lib.hid hs2
     clear hs hle
     generalize TM i = T at *
     (repeat' (first
      |(apply W.qd;(first
      |(exact zM)|(exact zN)|(exact jAj)|(exact jBb)|(exact jAi)|(exact jAt)|(exact jAc)
      |(exact jA)))|(apply yA)|(apply yB)|(refine jAb ?_)|(apply yE)|(apply yG)|(apply yH)|(apply yL)
      |(refine W.cond _ rfl (fun hb=>?_) (fun hb=>?_)<;>((try simp only [hb,zK])<;>(try simp only [zL,zI] at hb)<;>(try (exfalso;omega))))))
     refine ⟨i + 1,by omega,by omega,?_⟩
     rw [hs2.out]
     exact ⟨[0,1],rfl,rfl,rfl,iV_eq (by omega),rfl,rfl,rfl,rfl,trivial⟩
    ·rw [if_neg hz] at hs2
     replace hs2:=Lib.hid hs2
     clear hs hle
     generalize TM i = T at *
     (repeat' (first
      |(apply W.qd;(first
      |(exact zM)|(exact zN)|(exact jAj)|(exact jBb)|(exact jAi)|(exact jAt)|(exact jAc)|(apply yZ;exact rfl;exact rfl;kernel_rfl)|(exact jAl)
      |(exact jA)))|(apply W.ed;((apply (e_app1F (f:=tmD) (B[i],K[i]'(by omega)));(iterate 8 exact rfl);omega)))|(apply yA)|(apply yB)|(refine jAb ?_)|(refine jAr ?_)|(apply yE)|(refine jAx ?_)|(apply yG)|(apply yH)|(apply yL)
      |(refine W.cond _ rfl (fun hb=>?_) (fun hb=>?_)<;>((try simp only [hb,zK])<;>(try simp only [zL,zI] at hb)<;>(try (exfalso;omega))))))
     refine ⟨i + 1,by omega,by omega,?_⟩
     rw [hs2.out,show (T ++ [(B[i],K[i]'(by omega))]).length = T.length + 1 by simp]
     exact ⟨[0,1],rfl,rfl,rfl,iV_eq (by omega),rfl,rfl,congrArg (AV.osl 1 (T.length + 1) 0) (by simp),rfl,trivial⟩
   ·have hiB3 : i = B.length := by omega
    subst hiB3
    clear hs hle
    generalize TM B.length = T at *
    (repeat' (first
     |(apply W.qd;(first
     |(exact zM)|(exact zN)|(exact jAj)
     |(exact jAt)))|(apply yA)|(apply yB)|(refine jAb ?_)|(apply yE)|(apply yI)|(apply yJ)|(apply yK)|(apply yM)
     |(refine W.cond _ rfl (fun hb=>?_) (fun hb=>?_)<;>((try simp only [hb,zK])<;>(try simp only [zL,zI] at hb)<;>(try (exfalso;omega))))))
    exact ⟨.inl rfl,[],[.osl 1 T.length 0 T.length,iV 0],rfl,rfl,⟨rfl,rfl,trivial⟩,AVle.tup2 (AVle.of_eq (frz_rowJ rfl rfl (by simp))) (AVle.of_eq rfl),rfl⟩
theorem A_r8recov {l : List (Nat × Nat)} {e : Int} {M D : Int} {par : List (List Int)} {hv : List Bool} {u : Int} (hc : ACalls Tryz.prog 102 [cdA M D par,bools hv,iV u] [] (.tup [tmsA l,iV e]) []) : ACalls Tryz.prog 51 [cdA M D par,bools hv,iV u] [] (bV (decide (e = 0))) []:=by
 refine acalls_of_bodyO Tryz.func51 rfl (zU rfl) ?_
 (repeat' (first
  |(apply W.qd;(first
  |(exact zW (hc))|(exact zM)|(exact zN)|(exact jAn)|(exact jAu)
  |(exact yAb rfl rfl)))|(apply W.ed;(exact jAa))|(apply yA)|(apply yB)|(refine jAb ?_)|(apply yE)
  |(apply yJ)))
 all_goals exact ⟨.inl rfl,[],[bV (decide (e = 0))],rfl,rfl,⟨rfl,trivial⟩,AVle.of_eq rfl,rfl⟩
end
section
attribute [local irreducible] Quiet Eff OpOk AWPG ACont ABlock ACalls AGoto
theorem A_r8decod {M D : Nat} {ps : List (List Nat)} {hv : List Bool} (h : CodeOk M D ps) (hl : hv.length = D + ps.length) : ACalls Tryz.prog 47 [cdN M D ps,bools hv] [] (bV (decide ((basisN M D ps hv).length = D))) []:=by
 refine acalls_of_bodyO Tryz.func47 rfl (zU rfl) ?_
 have h1:=h.d
 have h2:=h.w
 have hw:=A_r8widthN h
 rw [← hl] at hw
 have hmh : (hv.map tD).length = hv.length:=List.length_map _
 have hfull:=full_iff_rec h hl
 have hrec : ∀ i,i < hv.length → ACalls Tryz.prog 51 [cdN M D ps,bools hv,iV i] [] (bV (combN M D ps hv i).isSome) []:=fun i hi=>by
  have hc:=A_r8comb h hl (u:=i) (by omega)
  rw [cdN_A] at hc ⊢
  cases hc2 : combN M D ps hv i with
  | none=>rw [hc2] at hc;exact A_r8recov (l:=[]) (e:=11) hc
  | some l=>rw [hc2] at hc;exact A_r8recov (l:=l) (e:=0) hc
 rw [← hl] at hfull
 generalize combN M D ps hv = C at *
 generalize (basisN M D ps hv).length = BL at *
 (repeat' (first
  |(apply yFb;exact rfl;exact rfl)
  |(apply W.qd;(first
  |(exact zW (hw))|(exact zM)|(exact zN)|(exact jAn)|(exact jAu)|(exact jBb)|(exact jAt)
  |(apply (yDb (u:=.d _));exact rfl;exact rfl)))|(apply W.ed;(exact jAa))|(apply yA)|(apply yB)|(apply (W.regionS 5);exact rfl;kernel_rfl)|(apply yE)|(apply yG)|(apply yH)|(refine W.gF _ _ rfl rfl (fun hb=>?_) (fun hb=>?_)<;>((try simp only [hb,zK])<;>(try simp only [zL,zI] at hb)<;>(try (exfalso;omega))))
  |(refine W.cond _ rfl (fun hb=>?_) (fun hb=>?_)<;>((try simp only [hb,zK])<;>(try simp only [zL,zI] at hb)<;>(try (exfalso;omega))))))
 refine AWP.loopW (α:=Nat) (fun k=>k ≤ hv.length ∧ ∀ i,i < k → (C i).isSome = true) (fun k=>⟨[(6,iV k),(5,iV hv.length),(1,bools hv),(2,.opt 0 0)],[.box [.d .any,iV M,iV D,rowsN ps,.d .any]]⟩) (fun k=>hv.length - k) 0 ⟨Nat.zero_le _,fun i hi=>by omega⟩ ⟨[0],rfl,rfl,rfl,by (repeat (first | exact trivial | refine ⟨rfl,?_⟩))⟩ fun k hk=>?_
 by_cases hkl : k < hv.length
 ·have hr := hrec k hkl
  clear hrec
  cases hC : (C k).isSome with
  | true =>
    rw [hC] at hr
    (repeat' (first
     |(apply W.qd;(first
     |(exact zW (hr))|(exact zM)|(exact zN)|(exact jAn)|(exact jAj)|(exact jBe)
     |(exact jAi)))|(apply yA)|(apply yB)|(refine jAb ?_)|(apply yE)|(apply yG)|(apply yH)|(apply yL)|(refine jAy ?_)
     |(refine W.cond _ rfl (fun hb=>?_) (fun hb=>?_)<;>((try simp only [hb,zK])<;>(try simp only [zL,zI] at hb)<;>(try (exfalso;omega))))))
    exact ⟨k + 1,⟨by omega,fun i hi=>by
     by_cases e : i = k
     ·rw [e];exact hC
     ·exact hk.2 i (by omega)⟩,by omega,[0],rfl,rfl,rfl,iV_eq (by omega),rfl,rfl,rfl,trivial⟩
  | false =>
    rw [hC] at hr
    have hne : ¬ BL = D:=fun e=>by
     have:=hfull.1 e k hkl
     rw [hC] at this;cases this
    rw [decide_eq_false hne]
    (repeat' (first
     |(apply W.qd;(first
     |(exact zW (hr))|(exact zM)|(exact zN)|(exact jAn)|(exact jAj)
     |(exact jBe)))|(apply yA)|(apply yB)|(refine jAb ?_)|(apply yE)|(apply yG)|(apply yH)|(apply yJ)|(apply yP)|(apply yN)|(refine jAv ?_)
     |(refine W.cond _ rfl (fun hb=>?_) (fun hb=>?_)<;>((try simp only [hb,zK])<;>(try simp only [zL,zI] at hb)<;>(try (exfalso;omega))))))
    exact ⟨.inl rfl,[],[bV false],rfl,rfl,⟨rfl,trivial⟩,AVle.of_eq rfl,rfl⟩
 ·have hB : BL = D := hfull.2 fun u hu => hk.2 u (by omega)
  rw [decide_eq_true hB]
  clear hrec
  (repeat' (first
   |(apply W.qd;(first
   |(exact zM)|(exact zN)
   |(exact jAj)))|(apply yA)|(apply yB)|(refine jAb ?_)|(apply yE)|(apply yI)|(apply yJ)|(apply yK)|(apply yM)
   |(refine W.cond _ rfl (fun hb=>?_) (fun hb=>?_)<;>((try simp only [hb,zK])<;>(try simp only [zL,zI] at hb)<;>(try (exfalso;omega))))))
  exact ⟨.inl rfl,[],[bV true],rfl,rfl,⟨rfl,trivial⟩,AVle.of_eq rfl,rfl⟩
end
section
theorem mem_havU {us : List (List Nat)} {hv : List Bool} {n : Nat} {x : List Nat} : x ∈ havU us hv n ↔ ∃ i,i < n ∧ hv.getD i false = true ∧ x = us.getD i []:=by
 unfold havU
 rw [List.mem_map]
 constructor
 ·rintro ⟨i, h1, rfl⟩
  obtain ⟨h2,h3⟩:=List.mem_filter.1 h1
  exact ⟨i,List.mem_range.1 h2,h3,rfl⟩
 ·rintro ⟨i, h1, h2, rfl⟩
  exact ⟨i,List.mem_filter.2 ⟨List.mem_range.2 h1,h2⟩,rfl⟩
attribute [local irreducible] Quiet Eff OpOk AWPG ACont ABlock ACalls AGoto
end
section
structure SrcOk (M D : Nat) (ps us : List (List Nat)) (hv : List Bool) : Prop where
 c : CodeOk M D ps
 ul : us.length = D + ps.length
 hl : hv.length = D + ps.length
 len : ∀ i,hv.getD i false = true → (us.getD i []).length = 32
 b : ∀ x ∈ us,isB x ∧ x.length < 9223372036854775808
theorem SrcOk.fit {M D : Nat} {ps us : List (List Nat)} {hv : List Bool} (h : SrcOk M D ps us hv) : fitN M D ps us hv = true:=by
 unfold fitN
 rw [decide_eq_true h.ul,decide_eq_true h.hl,Bool.true_and,Bool.true_and]
 unfold uniB
 rw [List.all_eq_true]
 have key : ∀ x ∈ havU us hv us.length,x.length = 32:=fun x hx=>by
  obtain ⟨i,i1,i2,rfl⟩:=mem_havU.1 hx
  exact h.len i i2
 intro x hx
 have hh : ((havU us hv us.length).headD []).length = 32:=by
  cases hl : havU us hv us.length with
  | nil=>rw [hl] at hx;cases hx
  | cons a l=>exact key a (by rw [hl];simp)
 unfold uniQ
 rw [Bool.and_eq_true,Bool.or_eq_true,decide_eq_true_eq,decide_eq_true_eq,decide_eq_true_eq,hh,key x hx]
 exact ⟨rfl,.inr rfl⟩
end
section
def incB (D : Int) : Int → List Int → Bool
 | _,[]=>true
 | last,u :: r=>decide (last < u) && decide (u < D) && incB D u r
def lastI (live : List Int) (k : Nat) : Int:=if k = 0 then -1 else live.getD (k - 1) 0
theorem incB_drop (D : Int) : ∀ (live : List Int) (last : Int), incB D last live = true ↔ ∀ k, (h : k < live.length) → (if k = 0 then last else live.getD (k - 1) 0) < live[k] ∧ live[k] < D
 | [],last=>by simp [incB]
 | u :: r,last=>by
   unfold incB
   rw [Bool.and_eq_true,Bool.and_eq_true,decide_eq_true_eq,decide_eq_true_eq,incB_drop D r u]
   constructor
   ·rintro ⟨⟨h1, h2⟩, h3⟩ k hk
    cases k with
    | zero=>exact ⟨h1,h2⟩
    | succ k =>
      have:=h3 k (by simpa using hk)
      rw [if_neg (by omega)]
      cases k with
      | zero=>simpa using this
      | succ k=>simpa using this
   ·intro h
    have h0:=h 0 (by simp)
    rw [if_pos rfl] at h0
    refine ⟨h0,fun k hk=>?_⟩
    have:=h (k + 1) (by simpa using hk)
    cases k with
    | zero=>simpa using this
    | succ k=>simpa using this
attribute [local irreducible] Quiet Eff OpOk AWPG ACont ABlock ACalls AGoto
end
section
def letB (c : Nat) : Bool:=decide (97 ≤ c) && decide (c ≤ 122)
def digB (c : Nat) : Bool:=decide (48 ≤ c) && decide (c ≤ 57)
def wordAt (s : List Nat) (k : Nat) : Bool:=letB (s.getD k 0) || (decide (k ≠ 0) && digB (s.getD k 0))
def wordB (s : List Nat) : Bool:=decide (s ≠ []) && (List.range s.length).all (wordAt s)
def minK (l : List Int) : Nat → Int
 | 0=>l.getD 0 0
 | k + 1=>if l.getD (k + 1) 0 < minK l k then l.getD (k + 1) 0 else minK l k
def maxK (l : List Int) : Nat → Int
 | 0=>l.getD 0 0
 | k + 1=>if l.getD (k + 1) 0 > maxK l k then l.getD (k + 1) 0 else maxK l k
theorem minK_spec (l : List Int) : ∀ k, (∀ j, j ≤ k → minK l k ≤ l.getD j 0) ∧ ∃ j, j ≤ k ∧ minK l k = l.getD j 0
 | 0 => ⟨fun j hj => by obtain rfl : j = 0 := by omega
                        exact Int.le_refl _,0,Nat.le_refl _,rfl⟩
 | k + 1=>by
   obtain ⟨h1,j,h2,h3⟩:=minK_spec l k
   unfold minK
   split
   ·refine ⟨fun j hj => ?_, k + 1, Nat.le_refl _, rfl⟩
    by_cases e : j = k + 1
    ·subst e;exact Int.le_refl _
    ·have:=h1 j (by omega);omega
   ·refine ⟨fun j hj => ?_, j, by omega, h3⟩
    by_cases e : j = k + 1
    ·subst e;omega
    ·exact h1 j (by omega)
theorem maxK_spec (l : List Int) : ∀ k, (∀ j, j ≤ k → l.getD j 0 ≤ maxK l k) ∧ ∃ j, j ≤ k ∧ maxK l k = l.getD j 0
 | 0 => ⟨fun j hj => by obtain rfl : j = 0 := by omega
                        exact Int.le_refl _,0,Nat.le_refl _,rfl⟩
 | k + 1=>by
   obtain ⟨h1,j,h2,h3⟩:=maxK_spec l k
   unfold maxK
   split
   ·refine ⟨fun j hj => ?_, k + 1, Nat.le_refl _, rfl⟩
    by_cases e : j = k + 1
    ·subst e;exact Int.le_refl _
    ·have:=h1 j (by omega);omega
   ·refine ⟨fun j hj => ?_, j, by omega, h3⟩
    by_cases e : j = k + 1
    ·subst e;omega
    ·exact h1 j (by omega)
theorem getDI_mem {l : List Int} {j : Nat} (h : j < l.length) : l.getD j 0 ∈ l:=by
 rw [List.getD_eq_getElem?_getD,List.getElem?_eq_getElem h];exact List.getElem_mem h
theorem memI_getD {l : List Int} {x : Int} (h : x ∈ l) : ∃ j,j < l.length ∧ l.getD j 0 = x:=by
 obtain ⟨j,hj,rfl⟩:=List.getElem_of_mem h
 exact ⟨j,hj,by rw [List.getD_eq_getElem?_getD,List.getElem?_eq_getElem hj];rfl⟩
theorem rowOk_min {M D : Int} {r : List Int} (hM : M = 8 ∨ M = 16) (hl : (r.length : Int) = D) (h0 : 0 < r.length) : rowOk M D r = (decide (0 ≤ minK r (r.length - 1)) && (decide (1 ≤ maxK r (r.length - 1)) && decide (maxK r (r.length - 1) < if M = 8 then 256 else 65536))):=by
 obtain ⟨n1,i,n2,n3⟩:=minK_spec r (r.length - 1)
 obtain ⟨x1,j,x2,x3⟩:=maxK_spec r (r.length - 1)
 unfold rowOk
 rw [decide_eq_true hl,Bool.true_and,Bool.eq_iff_iff]
 simp only [Bool.and_eq_true,decide_eq_true_eq,List.all_eq_true,Bool.not_eq_true',List.all_eq_false,allF,inF,List.all_cons,List.all_nil,Bool.and_true]
 constructor
 ·rintro ⟨h1, x, hx, h2⟩
  have hi:=h1 _ (getDI_mem (l:=r) (j:=i) (by omega))
  have hj:=h1 _ (getDI_mem (l:=r) (j:=j) (by omega))
  obtain ⟨q,hq,rfl⟩:=memI_getD hx
  have h3:=(h1 _ hx).2.1
  have h4:=x1 q (by omega)
  refine ⟨by rw [n3];exact hi.2.1,by omega,by rw [x3];exact hj.2.2⟩
 ·rintro ⟨h1, h2, h3⟩
  refine ⟨fun x hx=>?_,r.getD j 0,getDI_mem (by omega),by rw [← x3];omega⟩
  obtain ⟨q,hq,rfl⟩:=memI_getD hx
  have h4:=n1 q (by omega)
  have h5:=x1 q (by omega)
  exact ⟨hM,by omega,by omega⟩
def chkC (nm : List Nat) (M D : Int) (par : List (List Int)) (dom : Int) : Bool :=
 (wordB nm && decide (nm.length ≤ 12)) && (decide (M = 8 ∨ M = 16) && decide (1 ≤ D) && decide (D ≤ 31) && decide (par.length ≠ 0) && decide (D + (par.length : Int) ≤ 32)) && par.all (rowOk M D) && (decide (1 ≤ dom) && decide (dom ≤ D + (par.length : Int)))
theorem chk_valid {nm : List Nat} {M D dom : Int} {par : List (List Int)} (h : chkC nm M D par dom = true) : validC M D par = true:=by
 unfold chkC at h
 simp only [Bool.and_eq_true,decide_eq_true_eq] at h
 obtain ⟨⟨⟨h1,⟨⟨⟨h2,h3⟩,h4⟩,h5⟩,h6⟩,h7⟩,h8⟩:=h
 unfold validC
 simp only [Bool.and_eq_true,decide_eq_true_eq]
 refine ⟨⟨⟨⟨?_,h3⟩,by omega⟩,by omega⟩,h7⟩
 unfold allF
 rw [decide_eq_true h2]
 rcases h2 with rfl | rfl<;>rfl
abbrev cdF (nm : List Nat) (M D : Int) (par : List (List Int)) (dom : Int) : AV:=.agg [bS nm,iV M,iV D,rowsA par,iV dom]
theorem cdF_le {nm : List Nat} {M D dom : Int} {par : List (List Int)} {F : Nat → Prop} {own : List Ent} {κ : List (Option Nat)} {w : World} {u : Value} (h : AV.sat F own κ w (cdF nm M D par dom) u) : AV.sat F own κ w (cdA M D par) u:=by
 rw [AV.sat] at h ⊢
 obtain ⟨us,h1,h2⟩:=h
 refine ⟨us,h1,?_⟩
 generalize us.toList = l at h2
 rcases l with _ | ⟨a,_ | ⟨b,_ | ⟨c,_ | ⟨d,_ | ⟨e,l⟩⟩⟩⟩⟩<;>simp only [AV.satL,and_false,and_assoc] at h2 ⊢
 obtain ⟨h3,h4,h5,h6,h7,h8⟩:=h2
 rw [sat_v] at h3 h7
 subst h3;subst h7
 refine ⟨?_,h4,h5,h6,?_,h8⟩
 ·rw [AV.sat,Dat.sat];rfl
 ·rw [AV.sat,Dat.sat];rfl
theorem ACalls.cdF {P : Program} {f : FuncId} {nm : List Nat} {M D dom : Int} {par : List (List Int)} {l : List AV} {r : AV} {own own' : List Ent} (h : ACalls P f (cdA M D par :: l) own r own') : ACalls P f (cdF nm M D par dom :: l) own r own' :=
 h.le fun F κ w vs=>satL_le1 (fun F own κ w u=>cdF_le) F own κ w vs
attribute [local irreducible] Quiet Eff OpOk AWPG ACont ABlock ACalls AGoto
theorem A_letter (c : Nat) : ACalls Tryz.prog 220 [.d (.v (.int .u8 c))] [] (bV (letB c)) []:=by
 refine acalls_of_body Tryz.func220 rfl (zU rfl) ?_
 unfold letB
 (repeat' (first
  |(apply yFb;exact rfl;exact rfl)
  |(apply W.qd;(first
  |(exact zM)|(exact zN)|(exact q_leq rfl rfl)|(exact q_geq rfl rfl)|(apply (yEb (u:=.d _));exact rfl;exact rfl)
  |(apply (yDb (u:=.d _));exact rfl;exact rfl)))|(refine W.gOff _ _ rfl rfl (by intro h;cases h) ?_)|(apply yA)|(apply yB)|(refine jAb ?_)|(apply yE)|(apply yJ)
  |(refine W.gT _ _ rfl rfl (fun hb=>?_) (fun hb=>?_)<;>((try simp only [hb,zK])<;>(try simp only [zL,zI] at hb)<;>(try (exfalso;omega))))))
 all_goals refine Ends.b rfl ?_
 all_goals first | (rw [Bool.eq_iff_iff];simp;omega) | (simp;omega)
theorem A_digit (c : Nat) : ACalls Tryz.prog 221 [.d (.v (.int .u8 c))] [] (bV (digB c)) []:=by
 refine acalls_of_body Tryz.func221 rfl (zU rfl) ?_
 unfold digB
 (repeat' (first
  |(apply yFb;exact rfl;exact rfl)
  |(apply W.qd;(first
  |(exact zM)|(exact zN)|(exact q_leq rfl rfl)|(exact q_geq rfl rfl)|(apply (yEb (u:=.d _));exact rfl;exact rfl)
  |(apply (yDb (u:=.d _));exact rfl;exact rfl)))|(refine W.gOff _ _ rfl rfl (by intro h;cases h) ?_)|(apply yA)|(apply yB)|(refine jAb ?_)|(apply yE)|(apply yJ)
  |(refine W.gT _ _ rfl rfl (fun hb=>?_) (fun hb=>?_)<;>((try simp only [hb,zK])<;>(try simp only [zL,zI] at hb)<;>(try (exfalso;omega))))))
 all_goals refine Ends.b rfl ?_
 all_goals first | (rw [Bool.eq_iff_iff];simp;omega) | (simp;omega)
theorem A_isField (M : Int) : ACalls Tryz.prog 163 [iV M] [] (bV (decide (M = 8 ∨ M = 16))) []:=by
 refine acalls_of_body Tryz.func163 rfl (zU rfl) ?_
 (repeat' (first
  |(apply yFb;exact rfl;exact rfl)
  |(apply W.qd;(first
  |(exact zM)|(exact zN)|(exact jAu)|(apply (yEb (u:=.d _));exact rfl;exact rfl)
  |(apply (yDb (u:=.d _));exact rfl;exact rfl)))|(refine W.gOff _ _ rfl rfl (by intro h;cases h) ?_)|(apply yA)|(apply yB)|(refine jAb ?_)|(apply yE)|(apply yJ)
  |(refine W.gF _ _ rfl rfl (fun hb=>?_) (fun hb=>?_)<;>((try simp only [hb,zK])<;>(try simp only [zL,zI] at hb)<;>(try (exfalso;omega))))))
 all_goals refine Ends.b rfl ?_
 all_goals first | (rw [Bool.eq_iff_iff];simp;omega) | (simp;omega)
theorem A_isWord {s : List Nat} (hs : isB s) (hl : s.length < 9223372036854775808) : ACalls Tryz.prog 162 [bS s] [] (bV (wordB s)) []:=by
 refine acalls_of_body Tryz.func162 rfl (zU rfl) ?_
 have hL:=A_letter
 have hG:=A_digit
 (repeat' (first
  |(apply W.qd;(first
  |(exact zM)|(exact zN)
  |(exact q_len_bs rfl rfl)))|(apply yA)|(apply yB)|(apply (W.regionS 2);exact rfl;kernel_rfl)|(apply yE)
  |(apply yG)))
 refine AWP.loopW (α:=Nat) (fun k=>k ≤ s.length ∧ ∀ j,j < k → wordAt s j = true) (fun k=>⟨[(6,iV k),(5,iV s.length),(0,bS s)],[]⟩) (fun k=>s.length - k) 0 ⟨Nat.zero_le _,fun j hj=>by omega⟩ ⟨[],rfl,rfl,rfl,by (repeat (first | exact trivial | refine ⟨rfl,?_⟩))⟩ fun k hk=>?_
 by_cases hkl : k < s.length
 ·have eg : s.getD k 0 = s[k] := by rw [List.getD_eq_getElem?_getD, List.getElem?_eq_getElem hkl]; rfl
  have hnext : wordAt s k = true → ∀ j,j < k + 1 → wordAt s j = true:=fun h j hj=>by
   by_cases e : j = k
   ·subst e;exact h
   ·exact hk.2 j (by omega)
  have hbad : wordAt s k = false → wordB s = false:=fun h=>by
   unfold wordB
   rw [Bool.and_eq_false_iff]
   right
   rw [List.all_eq_false]
   exact ⟨k,List.mem_range.2 hkl,by rw [h];decide⟩
  have hwa : wordAt s k = (letB s[k] || (decide (k ≠ 0) && digB s[k])):=by unfold wordAt;rw [eg]
  replace hwa:=Lib.hid hwa
  (repeat' (first
   |(apply yFb;exact rfl;exact rfl)
   |(apply W.qd;(first
   |(exact zW (hL s[k]))|(exact zW (hG s[k]))|(exact zM)|(exact zN)|(exact jAj)|(exact jAu)|(exact jBe)|(exact jAi)|(exact jAo)|(apply (yEb (u:=.d _));exact rfl;exact rfl)
   |(apply (yDb (u:=.d _));exact rfl;exact rfl)))|(refine W.gOff _ _ rfl rfl (by intro h;cases h) ?_)|(apply yA)|(apply yB)|(refine jAb ?_)|(apply yE)|(apply yG)|(apply yH)|(apply yJ)|(apply yP)|(apply yL)|(apply yN)|(refine jAv ?_)|(refine jAy ?_)|(refine W.gT _ _ rfl rfl (fun hb=>?_) (fun hb=>?_)<;>((try simp only [hb,zK])<;>(try simp only [zL,zI] at hb)<;>(try (exfalso;omega))))|(refine W.gF _ _ rfl rfl (fun hb=>?_) (fun hb=>?_)<;>((try simp only [hb,zK])<;>(try simp only [zL,zI] at hb)<;>(try (exfalso;omega))))
   |(refine W.cond _ rfl (fun hb=>?_) (fun hb=>?_)<;>((try simp only [hb,zK])<;>(try simp only [zL,zI] at hb)<;>(try (exfalso;omega))))))
  all_goals first
   |(refine Ends.b rfl (hbad ?_).symm;rw [hwa.out,Bool.or_eq_false_iff,Bool.and_eq_false_iff];exact ⟨by assumption,by first | exact .inl (decide_eq_false (by omega)) | exact .inr (by assumption)⟩)|(refine ⟨k + 1,⟨by omega,hnext ?_⟩,by omega,[],rfl,rfl,rfl,iV_eq (by omega),rfl,rfl,trivial⟩;rw [hwa.out,Bool.or_eq_true,Bool.and_eq_true];first | exact .inl (by assumption) | exact .inr ⟨decide_eq_true (by omega),by assumption⟩)
 ·have hall : (List.range s.length).all (wordAt s) = true:=by
   rw [List.all_eq_true]
   intro j hj
   exact hk.2 j (by have:=List.mem_range.1 hj;omega)
  unfold wordB
  rw [hall,Bool.and_true]
  (repeat' (first
   |(apply W.qd;(first
   |((apply (q_neqS (l':=[]));exact rfl;exact rfl;assumption;exact isB_nil))|(exact zM)|(exact zN)
   |(exact jAj)))|(apply yA)|(apply yB)|(refine jAb ?_)|(apply yE)|(apply yI)|(apply yJ)|(apply yK)|(apply yM)
   |(refine W.cond _ rfl (fun hb=>?_) (fun hb=>?_)<;>((try simp only [hb,zK])<;>(try simp only [zL,zI] at hb)<;>(try (exfalso;omega))))))
  refine Ends.b rfl ?_
  simp
theorem A_minI {l : List Int} (h0 : 0 < l.length) (hl : l.length ≤ 1000000) : ACalls Tryz.prog 164 [ints l] [] (iV (minK l (l.length - 1))) []:=by
 refine acalls_of_body Tryz.func164 rfl (zU rfl) ?_
 have hml : (l.map iD).length = l.length:=List.length_map _
 have e0 : minK l 0 = l[0]:=by show l.getD 0 0 = _;rw [List.getD_eq_getElem?_getD,List.getElem?_eq_getElem h0];rfl
 (repeat' (first
  |(apply W.qd;(first
  |(exact zM)|(exact zN)|(exact jAj)|(exact jAt)|(exact jAc)
  |(exact jA)))|(apply yA)|(apply yB)|(apply (W.regionS 5);exact rfl;kernel_rfl)|(apply yE)|(apply yG)|(apply yH)
  |(refine W.cond _ rfl (fun hb=>?_) (fun hb=>?_)<;>((try simp only [hb,zK])<;>(try simp only [zL,zI] at hb)<;>(try (exfalso;omega))))))
 refine AWP.loopW (α:=Nat) (fun k=>k < l.length) (fun k=>⟨[(4,iV ((k + 1 : Nat) : Int)),(3,iV (minK l k)),(0,ints l)],[]⟩) (fun k=>l.length - k) 0 h0 (by rw [e0];exact ⟨[],rfl,rfl,rfl,by (repeat (first | exact trivial | refine ⟨rfl,?_⟩))⟩) fun k hk=>?_
 by_cases hkl : k + 1 < l.length
 ·have e1 : minK l (k + 1) = if l[k + 1] < minK l k then l[k + 1] else minK l k:=by
   show (if l.getD (k + 1) 0 < minK l k then l.getD (k + 1) 0 else minK l k) = _
   have : l.getD (k + 1) 0 = l[k + 1]:=by rw [List.getD_eq_getElem?_getD,List.getElem?_eq_getElem hkl];rfl
   rw [this]
  replace e1:=Lib.hid e1
  generalize minK l k = a at *
  (repeat' (first
   |(apply W.qd;(first
   |(exact zM)|(exact zN)|(exact jAj)|(exact jAi)|(exact jAt)|(exact jAc)|(exact jA)
   |(exact q_min rfl rfl)))|(apply yA)|(apply yB)|(refine jAb ?_)|(apply yE)|(apply yG)|(apply yH)|(apply yL)
   |(refine W.cond _ rfl (fun hb=>?_) (fun hb=>?_)<;>((try simp only [hb,zK])<;>(try simp only [zL,zI] at hb)<;>(try (exfalso;omega))))))
  refine ⟨k + 1,hkl,by omega,?_⟩
  rw [e1.out]
  exact ⟨[],rfl,rfl,rfl,iV_eq (by omega),rfl,rfl,trivial⟩
 ·have : k = l.length - 1 := by omega
  subst this
  generalize minK l (l.length - 1) = a at *
  (repeat' (first
   |(apply W.qd;(first
   |(exact zM)|(exact zN)|(exact jAj)
   |(exact jAt)))|(apply yA)|(apply yB)|(refine jAb ?_)|(apply yE)|(apply yI)|(apply yJ)|(apply yK)|(apply yM)
   |(refine W.cond _ rfl (fun hb=>?_) (fun hb=>?_)<;>((try simp only [hb,zK])<;>(try simp only [zL,zI] at hb)<;>(try (exfalso;omega))))))
  exact Ends.i rfl rfl
theorem A_maxI {l : List Int} (h0 : 0 < l.length) (hl : l.length ≤ 1000000) : ACalls Tryz.prog 165 [ints l] [] (iV (maxK l (l.length - 1))) []:=by
 refine acalls_of_body Tryz.func165 rfl (zU rfl) ?_
 have hml : (l.map iD).length = l.length:=List.length_map _
 have e0 : maxK l 0 = l[0]:=by show l.getD 0 0 = _;rw [List.getD_eq_getElem?_getD,List.getElem?_eq_getElem h0];rfl
 (repeat' (first
  |(apply W.qd;(first
  |(exact zM)|(exact zN)|(exact jAj)|(exact jAt)|(exact jAc)
  |(exact jA)))|(apply yA)|(apply yB)|(apply (W.regionS 5);exact rfl;kernel_rfl)|(apply yE)|(apply yG)|(apply yH)
  |(refine W.cond _ rfl (fun hb=>?_) (fun hb=>?_)<;>((try simp only [hb,zK])<;>(try simp only [zL,zI] at hb)<;>(try (exfalso;omega))))))
 refine AWP.loopW (α:=Nat) (fun k=>k < l.length) (fun k=>⟨[(4,iV ((k + 1 : Nat) : Int)),(3,iV (maxK l k)),(0,ints l)],[]⟩) (fun k=>l.length - k) 0 h0 (by rw [e0];exact ⟨[],rfl,rfl,rfl,by (repeat (first | exact trivial | refine ⟨rfl,?_⟩))⟩) fun k hk=>?_
 by_cases hkl : k + 1 < l.length
 ·have e1 : maxK l (k + 1) = if l[k + 1] > maxK l k then l[k + 1] else maxK l k:=by
   show (if l.getD (k + 1) 0 > maxK l k then l.getD (k + 1) 0 else maxK l k) = _
   have : l.getD (k + 1) 0 = l[k + 1]:=by rw [List.getD_eq_getElem?_getD,List.getElem?_eq_getElem hkl];rfl
   rw [this]
  replace e1:=Lib.hid e1
  generalize maxK l k = a at *
  (repeat' (first
   |(apply W.qd;(first
   |(exact zM)|(exact zN)|(exact jAj)|(exact jAi)|(exact jAt)|(exact jAc)|(exact jA)
   |(exact q_max rfl rfl)))|(apply yA)|(apply yB)|(refine jAb ?_)|(apply yE)|(apply yG)|(apply yH)|(apply yL)
   |(refine W.cond _ rfl (fun hb=>?_) (fun hb=>?_)<;>((try simp only [hb,zK])<;>(try simp only [zL,zI] at hb)<;>(try (exfalso;omega))))))
  refine ⟨k + 1,hkl,by omega,?_⟩
  rw [e1.out]
  exact ⟨[],rfl,rfl,rfl,iV_eq (by omega),rfl,rfl,trivial⟩
 ·have : k = l.length - 1 := by omega
  subst this
  generalize maxK l (l.length - 1) = a at *
  (repeat' (first
   |(apply W.qd;(first
   |(exact zM)|(exact zN)|(exact jAj)
   |(exact jAt)))|(apply yA)|(apply yB)|(refine jAb ?_)|(apply yE)|(apply yI)|(apply yJ)|(apply yK)|(apply yM)
   |(refine W.cond _ rfl (fun hb=>?_) (fun hb=>?_)<;>((try simp only [hb,zK])<;>(try simp only [zL,zI] at hb)<;>(try (exfalso;omega))))))
  exact Ends.i rfl rfl
end
end Go.Proofs.YtplpgijpmgbaiaaGreatDoor
