import Derived.WalkKit
import Derived.Still
import Derived.Deep.Draws
import Derived.Lib.Hide
import Derived.Deep.LoopGhost
import Derived.Sort.LoopGhostIn
import Derived.OrdersIn
import Derived.RangeFuncCalls
import Derived.Maps.AppendAt
import Derived.RangeFuncRecord
import Derived.RangeFuncLeaves
/- Joined texts: Glb Kern1 Kern2 Kern3 Kern4 Kern5 Kern6 Kern7 Kern8 Kern9 Kern10. -/
set_option linter.unusedVariables false
set_option linter.unusedSimpArgs false
namespace Go.Proofs.YtplpgijpmgbaiaaGreatDoor
open Go.RowKit
set_option maxHeartbeats 4000000
set_option maxRecDepth 100000
section
def glbs : List (Nat × Array Value):=[(1,#[.int .i64 8,.int .i64 285,.int .i64 16,.int .i64 69643])]
end
section
inductive Dat where
 | v (x : Value)
 | any
 | sl (sz : Nat) (elems : List (List Dat))
mutual
def Dat.sat (B : Nat → Prop) (w : World) : Dat → Value → Prop
 | .v x,u=>u = x
 | .any,u=>u.oneCell' = true
 | .sl sz elems,u=>∃ A c,u = .slice A elems.length c ∧ elems.length ≤ c ∧ c ≤ maxLen ∧ (0 < elems.length → ∃ b o,A = some ⟨b,o,none⟩ ∧ b < w.heap.size ∧ ¬ B b ∧ Dat.rowsSat B w b sz o elems)
def Dat.rowSat (B : Nat → Prop) (w : World) (b : Nat) (o : Nat) : List Dat → Prop
 | []=>True
 | x :: xs=>(∃ u,w.cell? ⟨b,o,none⟩ = some u ∧ u.oneCell' = true ∧ Dat.sat B w x u) ∧ Dat.rowSat B w b (o + 1) xs
def Dat.rowsSat (B : Nat → Prop) (w : World) (b sz : Nat) (o : Nat) : List (List Dat) → Prop
 | []=>True
 | e :: es=>(e.length = sz ∧ Dat.rowSat B w b o e) ∧ Dat.rowsSat B w b sz (o + sz) es
end
theorem Dat.rowSat_iff {B : Nat → Prop} {w : World} {b : Nat} : ∀ {l : List Dat} {o : Nat}, Dat.rowSat B w b o l ↔ ∀ j x, l[j]? = some x → ∃ u, w.cell? ⟨b, o + j, none⟩ = some u ∧ u.oneCell' = true ∧ Dat.sat B w x u
 | [],o=>by simp [Dat.rowSat]
 | y :: ys,o=>by
   rw [Dat.rowSat,Dat.rowSat_iff]
   constructor
   ·rintro ⟨h0, h1⟩ j x hj
    cases j with
    | zero => obtain rfl : y = x := by simpa using hj
              exact h0
    | succ j=>rw [show o + (j + 1) = o + 1 + j from by omega];exact h1 j x (by simpa using hj)
   ·intro h
    exact ⟨h 0 y (by simp),fun j x hj=>by rw [show o + 1 + j = o + (j + 1) from by omega];exact h (j + 1) x (by simpa using hj)⟩
theorem Dat.rowsSat_iff {B : Nat → Prop} {w : World} {b sz : Nat} : ∀ {l : List (List Dat)} {o : Nat}, Dat.rowsSat B w b sz o l ↔ ∀ j e, l[j]? = some e → e.length = sz ∧ Dat.rowSat B w b (o + j * sz) e
 | [],o=>by simp [Dat.rowsSat]
 | y :: ys,o=>by
   rw [Dat.rowsSat,Dat.rowsSat_iff]
   constructor
   ·rintro ⟨h0, h1⟩ j x hj
    cases j with
    | zero => obtain rfl : y = x := by simpa using hj
              rw [Nat.zero_mul,Nat.add_zero];exact h0
    | succ j=>rw [show o + (j + 1) * sz = o + sz + j * sz from by rw [Nat.succ_mul];omega];exact h1 j x (by simpa using hj)
   ·intro h
    refine ⟨by simpa using h 0 y (by simp),fun j x hj=>?_⟩
    rw [show o + sz + j * sz = o + (j + 1) * sz from by rw [Nat.succ_mul];omega];exact h (j + 1) x (by simpa using hj)
structure Wide (B B' : Nat → Prop) (w w' : World) : Prop where
 size : w.heap.size ≤ w'.heap.size
 cell : ∀ b o u,b < w.heap.size → ¬ B b → w.cell? ⟨b,o,none⟩ = some u → w'.cell? ⟨b,o,none⟩ = some u
 free : ∀ b,b < w.heap.size → ¬ B b → ¬ B' b
theorem cell_eq {w w' : World} {b : Nat} (h : w'.heap[b]? = w.heap[b]?) (o : Nat) : w'.cell? ⟨b,o,none⟩ = w.cell? ⟨b,o,none⟩:=by simp [World.cell?,h]
theorem Wide.of {B B' : Nat → Prop} {w w' : World} (size : w.heap.size ≤ w'.heap.size) (same : ∀ b,b < w.heap.size → ¬ B b → w'.heap[b]? = w.heap[b]?) (free : ∀ b,b < w.heap.size → ¬ B b → ¬ B' b) : Wide B B' w w' :=
 ⟨size,fun b o u hb hn hc=>by rw [cell_eq (same b hb hn)];exact hc,free⟩
mutual
theorem Dat.sat_wide {B B' : Nat → Prop} {w w' : World} (h : Wide B B' w w') : ∀ (x : Dat) {u : Value}, Dat.sat B w x u → Dat.sat B' w' x u
 | .v x,u,hs=>by simpa [Dat.sat] using hs
 | .any,u,hs=>by simpa [Dat.sat] using hs
 | .sl sz elems,u,hs=>by
   rw [Dat.sat] at hs ⊢
   obtain ⟨A,c,h2,h3,h4,h5⟩:=hs
   refine ⟨A,c,h2,h3,h4,fun hp=>?_⟩
   obtain ⟨b,o,h6,h7,h8,h9⟩:=h5 hp
   exact ⟨b,o,h6,Nat.lt_of_lt_of_le h7 h.size,h.free b h7 h8,Dat.rowsSat_cell h (fun o u=>h.cell b o u h7 h8) elems h9⟩
theorem Dat.rowSat_cell {B B' : Nat → Prop} {w w' : World} (h : Wide B B' w w') {b : Nat} (hb : ∀ o u, w.cell? ⟨b, o, none⟩ = some u → w'.cell? ⟨b, o, none⟩ = some u) : ∀ (l : List Dat) {o : Nat}, Dat.rowSat B w b o l → Dat.rowSat B' w' b o l
 | [],o,hs=>by simp [Dat.rowSat]
 | x :: xs,o,hs=>by
   rw [Dat.rowSat] at hs ⊢
   obtain ⟨⟨u,h1,h2,h3⟩,h4⟩:=hs
   exact ⟨⟨u,hb _ _ h1,h2,Dat.sat_wide h x h3⟩,Dat.rowSat_cell h hb xs h4⟩
theorem Dat.rowsSat_cell {B B' : Nat → Prop} {w w' : World} (h : Wide B B' w w') {b : Nat} (hb : ∀ o u, w.cell? ⟨b, o, none⟩ = some u → w'.cell? ⟨b, o, none⟩ = some u) {sz : Nat} : ∀ (l : List (List Dat)) {o : Nat}, Dat.rowsSat B w b sz o l → Dat.rowsSat B' w' b sz o l
 | [],o,hs=>by simp [Dat.rowsSat]
 | e :: es,o,hs=>by
   rw [Dat.rowsSat] at hs ⊢
   exact ⟨⟨hs.1.1,Dat.rowSat_cell h hb e hs.1.2⟩,Dat.rowsSat_cell h hb es hs.2⟩
end
theorem Dat.rowsSat_wide {B B' : Nat → Prop} {w w' : World} (h : Wide B B' w w') {b : Nat} (hb : w'.heap[b]? = w.heap[b]?) {sz : Nat} (l : List (List Dat)) {o : Nat} (hs : Dat.rowsSat B w b sz o l) : Dat.rowsSat B' w' b sz o l :=
 Dat.rowsSat_cell h (fun o u hc=>by rw [cell_eq hb];exact hc) l hs
theorem Wide.rows {B B' : Nat → Prop} {w w' : World} (h : Wide B B' w w') {b sz o : Nat} (hb : b < w.heap.size) (hn : ¬ B b) (l : List (List Dat)) (hs : Dat.rowsSat B w b sz o l) : Dat.rowsSat B' w' b sz o l :=
 Dat.rowsSat_cell h (fun o u=>h.cell b o u hb hn) l hs
inductive AV where
 | top
 | d (x : Dat)
 | osl (i ver o n : Nat)
 | win (i ver o n : Nat)
 | rpt (i ver j o : Nat)
 | opt (i o : Nat)
 | bsl (i n c : Nat)
 | yl (i : Nat)
 | mp (i : Nat)
 | cl (sz : Nat) (l : List (List Dat))
 | fpt (sz : Nat) (elems : List (List Dat)) (j o : Nat)
 | fn (f : FuncId) (caps : List AV)
 | bd (f : FuncId) (fst : List AV)
 | agg (l : List AV)
 | tup (l : List AV)
 | gh (l : List AV) (vs : List Value)
def mpL (l : List (Int × Value)) : List (Value × Value):=l.map fun p=>(.int .i64 p.1,p.2)
def getIx : List (Int × Value) → Int → Nat → Option (Nat × Value)
 | [],_,_=>none
 | (b,v) :: l,a,i=>if a = b then some (i,v) else getIx l a (i + 1)
def getV (l : List (Int × Value)) (a : Int) (z : Value) : Value:=match getIx l a 0 with | some (_,v)=>v | none=>z
abbrev MapE:=List (Value × Value) ⊕ List AV
def mapE (f : AV → AV) : MapE → MapE
 | .inl ks=>.inl ks
 | .inr l=>.inr (l.map f)
inductive Ent where
 | box (l : List AV)
 | lp (st : LoopState) (pe : Option Code) (ps : Array Tmp) (asn bdy : Code) (l : List AV)
 | row (ver sz : Nat) (e : TypeId) (elems : List (List Dat))
 | mp (ks : MapE)
def Ent.upto (y : Ent) (ver : Nat) : Prop:=match y with | .row v _ _ _=>ver ≤ v | .box _=>False | .lp ..=>False | .mp _=>False
def badK (F : Nat → Prop) (κ : List (Option Nat)) (b : Nat) : Prop:=F b ∨ some b ∈ κ
def OslAt (κ : List (Option Nat)) (w : World) (i sz o c : Nat) (A : Option Addr) : Prop :=
 (∃ g,κ[i]? = some (some g) ∧ A = some ⟨g,o * sz,none⟩ ∧ ∃ cur e fz,w.heap[g]? = some (.cells cur e fz) ∧ (o + c) * sz = cur.size) ∨ (κ[i]? = some none ∧ A = none ∧ c = 0)
def OslAw (κ : List (Option Nat)) (w : World) (i sz o c : Nat) (A : Option Addr) : Prop :=
 (∃ g,κ[i]? = some (some g) ∧ A = some ⟨g,o * sz,none⟩ ∧ ∃ cur e fz,w.heap[g]? = some (.cells cur e fz) ∧ (o + c) * sz ≤ cur.size) ∨ (κ[i]? = some none ∧ A = none ∧ c = 0)
mutual
def AV.sat (F : Nat → Prop) (own : List Ent) (κ : List (Option Nat)) (w : World) : AV → Value → Prop
 | .top,_=>True
 | .d x,u=>x.sat (badK F κ) w u
 | .cl sz l,u=>Dat.sat (badK F κ) w (.sl sz l) u ∧ ∃ A n,u = .slice A n n
 | .osl i ver o n,u=>(∃ y,own[i]? = some y ∧ y.upto ver ∧ u.oneCell' = true) ∧ ∀ sz e cells,own[i]? = some (.row ver sz e cells) → o + n ≤ cells.length ∧ ∃ A c,u = .slice A n c ∧ n ≤ c ∧ c ≤ maxLen ∧ ((0 < n ∨ o = 0) → OslAt κ w i sz o c A)
 | .win i ver o n,u=>(∃ y,own[i]? = some y ∧ y.upto ver ∧ u.oneCell' = true) ∧ ∀ sz e cells,own[i]? = some (.row ver sz e cells) → o + n ≤ cells.length ∧ ∃ A c,u = .slice A n c ∧ n ≤ c ∧ c ≤ maxLen ∧ ((0 < n ∨ o = 0) → OslAw κ w i sz o c A)
 | .rpt i ver j o,u=>(∃ y,own[i]? = some y ∧ y.upto ver ∧ u.oneCell' = true) ∧ ∀ sz e cells,own[i]? = some (.row ver sz e cells) → j < cells.length ∧ ∃ g,κ[i]? = some (some g) ∧ u = .pointer (some ⟨g,j * sz + o,none⟩)
 | .opt i o,u=>∃ g l,own[i]? = some (Ent.box l) ∧ κ[i]? = some (some g) ∧ u = .pointer (some ⟨g,o,none⟩)
 | .bsl i n _,u=>∃ g l,own[i]? = some (Ent.box l) ∧ κ[i]? = some (some g) ∧ ∃ c,n ≤ c ∧ c ≤ maxLen ∧ u = .slice (some ⟨g,0,none⟩) n c
 | .yl i,u=>∃ g st pe ps asn bdy l,own[i]? = some (Ent.lp st pe ps asn bdy l) ∧ κ[i]? = some (some g) ∧ u = .func (.yield g) #[] #[]
 | .mp i,u=>∃ g ks,own[i]? = some (Ent.mp ks) ∧ κ[i]? = some (some g) ∧ u = .map (some g)
 | .fpt sz elems j o,u=>∃ b q,u = .pointer (some ⟨b,q + j * sz + o,none⟩) ∧ b < w.heap.size ∧ ¬ badK F κ b ∧ Dat.rowsSat (badK F κ) w b sz q elems
 | .fn f caps,u=>∃ vs : Array Value,u = .func (.func f) #[] vs ∧ AV.satL F own κ w caps vs.toList
 | .bd f fst,u=>∃ vs : Array Value,u = .func (.func f) vs #[] ∧ AV.satL F own κ w fst vs.toList
 | .agg l,u=>∃ vs : Array Value,u = .agg vs ∧ AV.satL F own κ w l vs.toList
 | .tup l,u=>∃ vs : Array Value,u = .tuple vs ∧ AV.satL F own κ w l vs.toList
 | .gh l vs,_=>AV.satL F own κ w l vs
def AV.satL (F : Nat → Prop) (own : List Ent) (κ : List (Option Nat)) (w : World) : List AV → List Value → Prop
 | [],[]=>True
 | x :: xs,u :: us=>AV.sat F own κ w x u ∧ AV.satL F own κ w xs us
 | _,_=>False
end
def HasC (o : Option Obj) (cur : Array Value) (t : TypeId) : Prop:=∃ tail fz,o = some (.cells (cur ++ tail) t fz) ∧ (fz = (0,0) ∨ (cur ++ tail).size ≤ fz.1)
theorem HasC.all {o : Option Obj} {cur : Array Value} {t : TypeId} (h : o = some (.cells cur t (0,0))) : HasC o cur t:=⟨#[],(0,0),by rw [h];simp,.inl rfl⟩
def MapSat (F : Nat → Prop) (own : List Ent) (κ : List (Option Nat)) (w : World) (es : List MapEntry) : MapE → Prop
 | .inl ks=>es.map (fun e=>(e.key,e.val)) = ks
 | .inr l=>∃ m,es.map (fun e=>(e.key,e.val)) = mpL m ∧ ∀ (j : Nat) (x : AV),l[j]? = some x → AV.sat F own κ w x (getV m (j : Int) (.slice none 0 0)) ∧ (getV m (j : Int) (.slice none 0 0)).oneCell' = true
theorem MapSat.map {F F' : Nat → Prop} {own own' : List Ent} {κ κ' : List (Option Nat)} {w w' : World} {es : List MapEntry} {f : AV → AV} (h : ∀ (x : AV) (u : Value), AV.sat F own κ w x u → AV.sat F' own' κ' w' (f x) u) : ∀ {ks : MapE}, MapSat F own κ w es ks → MapSat F' own' κ' w' es (mapE f ks)
 | .inl _,hs=>hs
 | .inr l,⟨m,h1,h2⟩=>⟨m,h1,fun j x hx=>by
   have hx : (l.map f)[j]? = some x:=hx
   rw [List.getElem?_map] at hx
   cases hq : l[j]? with
   | none=>rw [hq] at hx;cases hx
   | some y =>
     rw [hq] at hx
     obtain rfl : f y = x:=by simpa using hx
     exact ⟨h y _ (h2 j y hq).1,(h2 j y hq).2⟩⟩
theorem mapE_id (ks : MapE) : mapE (fun x=>x) ks = ks:=by
 cases ks with
 | inl=>rfl
 | inr l=>show Sum.inr (l.map fun x=>x) = _;rw [List.map_id']
theorem MapSat.mono {F F' : Nat → Prop} {own own' : List Ent} {κ κ' : List (Option Nat)} {w w' : World} {es : List MapEntry} {ks : MapE} (h : ∀ (x : AV) (u : Value),AV.sat F own κ w x u → AV.sat F' own' κ' w' x u) (hs : MapSat F own κ w es ks) : MapSat F' own' κ' w' es ks:=by
 have:=hs.map (f:=fun x=>x) h
 rwa [mapE_id] at this
def EntSat (F : Nat → Prop) (own : List Ent) (κ : List (Option Nat)) (w : World) (og : Option Nat) : Ent → Prop
 | .box l=>(og = none ∧ l = [.tup []]) ∨ ∃ g,og = some g ∧ ∃ cur t,HasC w.heap[g]? cur t ∧ AV.satL F own κ w l cur.toList ∧ ∀ u ∈ cur.toList,u.oneCell' = true
 | .lp st pe ps asn bdy l=>∃ g,og = some g ∧ ∃ r : Loop,w.heap[g]? = some (.loop r) ∧ (r.state = st ∧ r.pending = pe ∧ r.params = ps ∧ r.assign = asn ∧ r.body = bdy) ∧ AV.satL F own κ w l r.tmps.toList
 | .mp ks=>∃ g,og = some g ∧ ∃ es clock,w.heap[g]? = some (.map es clock) ∧ MapSat F own κ w es.toList ks
 | .row _ sz e cells=>0 < sz ∧ ((og = none ∧ cells = []) ∨ ∃ g,og = some g ∧ ∃ cur,w.heap[g]? = some (.cells cur e (0,0)) ∧ cells.length * sz ≤ cur.size ∧ Dat.rowsSat (badK F κ) w g sz 0 cells)
structure OwnSat (F : Nat → Prop) (own : List Ent) (κ : List (Option Nat)) (w : World) : Prop where
 len : own.length = κ.length
 frame : ∀ b,F b → b < w.heap.size
 lt : ∀ g,some g ∈ κ → g < w.heap.size ∧ ¬ F g
 inj : ∀ (i j g : Nat),κ[i]? = some (some g) → κ[j]? = some (some g) → i = j
 ent : ∀ (i : Nat) (x : Ent),own[i]? = some x → EntSat F own κ w (κ.getD i none) x
 glb : ∀ p ∈ glbs,p.1 < w.heap.size ∧ some p.1 ∉ κ ∧ ∃ t fz,w.heap[p.1]? = some (.cells p.2 t fz)
structure Tr (F : Nat → Prop) (m : Nat) (own : List Ent) (κ : List (Option Nat)) (w : World) (own' : List Ent) (κ' : List (Option Nat)) (w' : World) : Prop where
 os : w'.os = w.os
 tape : w'.tape = w.tape
 output : w'.output = w.output
 size : w.heap.size ≤ w'.heap.size
 old : ∀ b,b < w.heap.size → some b ∉ κ → w'.heap[b]? = w.heap[b]?
 new : ∀ b,some b ∈ κ' → some b ∈ κ ∨ w.heap.size ≤ b
 pre : m ≤ κ.length → m ≤ κ'.length
 keep : ∀ x u,AV.sat F own κ w x u → AV.sat F own' κ' w' x u
theorem Tr.refl (F : Nat → Prop) (m : Nat) (own : List Ent) (κ : List (Option Nat)) (w : World) : Tr F m own κ w own κ w :=
 ⟨rfl,rfl,rfl,Nat.le_refl _,fun _ _ _=>rfl,fun _ h=>.inl h,id,fun _ _ h=>h⟩
theorem Tr.wide {F : Nat → Prop} {κ κ' : List (Option Nat)} {w w' : World} (size : w.heap.size ≤ w'.heap.size) (old : ∀ b, b < w.heap.size → some b ∉ κ → w'.heap[b]? = w.heap[b]?) (new : ∀ b, some b ∈ κ' → some b ∈ κ ∨ w.heap.size ≤ b) :
 Wide (badK F κ) (badK F κ') w w' :=
 .of size (fun b hb h=>old b hb fun hk=>h (.inr hk)) fun b hb h hb'=>by
  rcases hb' with hf | hk
  ·exact h (.inl hf)
  ·rcases new b hk with h1 | h1
   ·exact h (.inr h1)
   ·omega
def Fits (x : Ent) (og : Option Nat) (x' : Ent) (og' : Option Nat) (w w' : World) : Prop :=
 match x,x' with
 | .box _,.box _=>og = none ∨ og' = og
 | .box _,.row ..=>og = none
 | .lp ..,.lp ..=>og' = og
 | .mp _,.mp _=>og' = og
 | .row v s e c,.row v' s' e' c'=>v < v' ∨ (v = v' ∧ s = s' ∧ e = e' ∧ c.length = c'.length ∧ og' = og ∧ ∀ g,og = some g → ∀ cur t fz,w.heap[g]? = some (.cells cur t fz) → ∃ cur' t' fz',w'.heap[g]? = some (.cells cur' t' fz') ∧ cur.size = cur'.size)
 | _,_=>False
structure Stab (F : Nat → Prop) (own : List Ent) (κ : List (Option Nat)) (w : World) (own' : List Ent) (κ' : List (Option Nat)) (w' : World) : Prop where
 wide : Wide (badK F κ) (badK F κ') w w'
 ent : ∀ (i : Nat) (x : Ent) (og : Option Nat),own[i]? = some x → κ[i]? = some og → ∃ x' og',own'[i]? = some x' ∧ κ'[i]? = some og' ∧ Fits x og x' og' w w'
mutual
theorem AV.sat_stab {F : Nat → Prop} {own own' : List Ent} {κ κ' : List (Option Nat)} {w w' : World} (h : Stab F own κ w own' κ' w') (hκ : ∀ (i : Nat) (x : Ent), own[i]? = some x → ∃ og, κ[i]? = some og) : ∀ (x : AV) {u : Value}, AV.sat F own κ w x u → AV.sat F own' κ' w' x u
 | .top,u,hs=>by simp [AV.sat]
 | .d x,u,hs=>by
   rw [AV.sat] at hs ⊢
   exact Dat.sat_wide h.wide x hs
 | .cl sz l,u,hs=>by
   rw [AV.sat] at hs ⊢
   exact ⟨Dat.sat_wide h.wide (.sl sz l) hs.1,hs.2⟩
 | .osl i ver o n,u,hs=>by
   rw [AV.sat] at hs ⊢
   obtain ⟨⟨y,hy,hv,h1c⟩,hs2⟩:=hs
   obtain ⟨og,hog⟩:=hκ i y hy
   obtain ⟨y',og',hy',hog',hf⟩:=h.ent i y og hy hog
   cases y with
   | box l=>exact hv.elim
   | lp=>exact hv.elim
   | mp=>exact hv.elim
   | row v s t c =>
     cases y' with
     | box l=>exact hf.elim
     | lp=>exact hf.elim
     | mp=>exact hf.elim
     | row v' s' t' c' =>
       have hle : ver ≤ v:=hv
       refine ⟨⟨_,hy',?_,h1c⟩,fun sz e cells' hc=>?_⟩
       ·show ver ≤ v'
        rcases hf with h1 | h1
        ·omega
        ·omega
       ·rw [hy'] at hc
        obtain ⟨rfl,rfl,rfl,rfl⟩ : v' = ver ∧ s' = sz ∧ t' = e ∧ c' = cells':=by simpa using hc
        rcases hf with h1 | ⟨rfl,rfl,rfl,h1,rfl,h4⟩
        ·omega
        ·obtain ⟨h5, A, c2, h6, h7, h8, h9⟩ := hs2 _ _ _ hy
         refine ⟨by omega,A,c2,h6,h7,h8,fun hp=>?_⟩
         rcases h9 hp with ⟨g,g1,g2,cur,t,fz,g3,g4⟩ | ⟨g1,g2⟩
         ·obtain rfl : og' = some g := by rw [hog] at g1; simpa using g1
          obtain ⟨cur',t',fz',g5,g6⟩:=h4 g rfl cur t fz g3
          exact .inl ⟨g,hog',g2,cur',t',fz',g5,by omega⟩
         ·obtain rfl : og' = none := by rw [hog] at g1; simpa using g1
          exact .inr ⟨hog',g2⟩
 | .win i ver o n,u,hs=>by
   rw [AV.sat] at hs ⊢
   obtain ⟨⟨y,hy,hv,h1c⟩,hs2⟩:=hs
   obtain ⟨og,hog⟩:=hκ i y hy
   obtain ⟨y',og',hy',hog',hf⟩:=h.ent i y og hy hog
   cases y with
   | box l=>exact hv.elim
   | lp=>exact hv.elim
   | mp=>exact hv.elim
   | row v s t c =>
     cases y' with
     | box l=>exact hf.elim
     | lp=>exact hf.elim
     | mp=>exact hf.elim
     | row v' s' t' c' =>
       have hle : ver ≤ v:=hv
       refine ⟨⟨_,hy',?_,h1c⟩,fun sz e cells' hc=>?_⟩
       ·show ver ≤ v'
        rcases hf with h1 | h1
        ·omega
        ·omega
       ·rw [hy'] at hc
        obtain ⟨rfl,rfl,rfl,rfl⟩ : v' = ver ∧ s' = sz ∧ t' = e ∧ c' = cells':=by simpa using hc
        rcases hf with h1 | ⟨rfl,rfl,rfl,h1,rfl,h4⟩
        ·omega
        ·obtain ⟨h5, A, c2, h6, h7, h8, h9⟩ := hs2 _ _ _ hy
         refine ⟨by omega,A,c2,h6,h7,h8,fun hp=>?_⟩
         rcases h9 hp with ⟨g,g1,g2,cur,t,fz,g3,g4⟩ | ⟨g1,g2⟩
         ·obtain rfl : og' = some g := by rw [hog] at g1; simpa using g1
          obtain ⟨cur',t',fz',g5,g6⟩:=h4 g rfl cur t fz g3
          exact .inl ⟨g,hog',g2,cur',t',fz',g5,by omega⟩
         ·obtain rfl : og' = none := by rw [hog] at g1; simpa using g1
          exact .inr ⟨hog',g2⟩
 | .rpt i ver j o,u,hs=>by
   rw [AV.sat] at hs ⊢
   obtain ⟨⟨y,hy,hv,h1c⟩,hs2⟩:=hs
   obtain ⟨og,hog⟩:=hκ i y hy
   obtain ⟨y',og',hy',hog',hf⟩:=h.ent i y og hy hog
   cases y with
   | box l=>exact hv.elim
   | lp=>exact hv.elim
   | mp=>exact hv.elim
   | row v s t c =>
     cases y' with
     | box l=>exact hf.elim
     | lp=>exact hf.elim
     | mp=>exact hf.elim
     | row v' s' t' c' =>
       have hle : ver ≤ v:=hv
       refine ⟨⟨_,hy',?_,h1c⟩,fun sz e cells' hc=>?_⟩
       ·show ver ≤ v'
        rcases hf with h1 | h1
        ·omega
        ·omega
       ·rw [hy'] at hc
        obtain ⟨rfl,rfl,rfl,rfl⟩ : v' = ver ∧ s' = sz ∧ t' = e ∧ c' = cells':=by simpa using hc
        rcases hf with h1 | ⟨rfl,rfl,rfl,h1,rfl,h4⟩
        ·omega
        ·obtain ⟨h5, g, h6, h7⟩ := hs2 _ _ _ hy
         exact ⟨by omega,g,by rw [hog'] ;rw [hog] at h6;exact h6,h7⟩
 | .opt i o,u,hs=>by
   rw [AV.sat] at hs ⊢
   obtain ⟨g,l,h1,h2,h3⟩:=hs
   obtain ⟨y',og',hy',hog',hf⟩:=h.ent i _ _ h1 h2
   cases y' with
   | box l'=>exact ⟨g,l',hy',by rw [hog'];exact congrArg some (hf.resolve_left (by simp)),h3⟩
   | lp=>exact hf.elim
   | mp=>exact hf.elim
   | row v' s' t' c'=>exact absurd (show some g = none from hf) (by simp)
 | .yl i,u,hs=>by
   rw [AV.sat] at hs ⊢
   obtain ⟨g,st,pe,ps,asn,bdy,l,h1,h2,h3⟩:=hs
   obtain ⟨y',og',hy',hog',hf⟩:=h.ent i _ _ h1 h2
   cases y' with
   | box l'=>exact hf.elim
   | row v' s' t' c'=>exact hf.elim
   | mp=>exact hf.elim
   | lp st' pe' ps' asn' bdy' l'=>exact ⟨g,st',pe',ps',asn',bdy',l',hy',by rw [hog'];exact congrArg some hf,h3⟩
 | .mp i,u,hs=>by
   rw [AV.sat] at hs ⊢
   obtain ⟨g,ks,h1,h2,h3⟩:=hs
   obtain ⟨y',og',hy',hog',hf⟩:=h.ent i _ _ h1 h2
   cases y' with
   | box l'=>exact hf.elim
   | row v' s' t' c'=>exact hf.elim
   | lp=>exact hf.elim
   | mp ks'=>exact ⟨g,ks',hy',by rw [hog'];exact congrArg some hf,h3⟩
 | .bsl i n c,u,hs=>by
   rw [AV.sat] at hs ⊢
   obtain ⟨g,l,h1,h2,h3⟩:=hs
   obtain ⟨y',og',hy',hog',hf⟩:=h.ent i _ _ h1 h2
   cases y' with
   | box l'=>exact ⟨g,l',hy',by rw [hog'];exact congrArg some (hf.resolve_left (by simp)),h3⟩
   | lp=>exact hf.elim
   | mp=>exact hf.elim
   | row v' s' t' c'=>exact absurd (show some g = none from hf) (by simp)
 | .gh l vs,u,hs=>by
   rw [AV.sat] at hs ⊢
   exact AV.satL_stab h hκ l hs
 | .fpt sz elems j o,u,hs=>by
   rw [AV.sat] at hs ⊢
   obtain ⟨b,q,h1,h2,h3,h4⟩:=hs
   exact ⟨b,q,h1,Nat.lt_of_lt_of_le h2 h.wide.size,h.wide.free b h2 h3,h.wide.rows h2 h3 elems h4⟩
 | .fn f caps,u,hs=>by
   rw [AV.sat] at hs ⊢
   obtain ⟨vs,h1,h2⟩:=hs
   exact ⟨vs,h1,AV.satL_stab h hκ caps h2⟩
 | .bd f caps,u,hs=>by
   rw [AV.sat] at hs ⊢
   obtain ⟨vs,h1,h2⟩:=hs
   exact ⟨vs,h1,AV.satL_stab h hκ caps h2⟩
 | .agg l,u,hs=>by
   rw [AV.sat] at hs ⊢
   obtain ⟨vs,h1,h2⟩:=hs
   exact ⟨vs,h1,AV.satL_stab h hκ l h2⟩
 | .tup l,u,hs=>by
   rw [AV.sat] at hs ⊢
   obtain ⟨vs,h1,h2⟩:=hs
   exact ⟨vs,h1,AV.satL_stab h hκ l h2⟩
theorem AV.satL_stab {F : Nat → Prop} {own own' : List Ent} {κ κ' : List (Option Nat)} {w w' : World} (h : Stab F own κ w own' κ' w') (hκ : ∀ (i : Nat) (x : Ent), own[i]? = some x → ∃ og, κ[i]? = some og) : ∀ (l : List AV) {us : List Value}, AV.satL F own κ w l us → AV.satL F own' κ' w' l us
 | [],[],hs=>by simp [AV.satL]
 | x :: xs,u :: us,hs=>by
   rw [AV.satL] at hs ⊢
   exact ⟨AV.sat_stab h hκ x hs.1,AV.satL_stab h hκ xs hs.2⟩
 | [],_ :: _,hs=>by simp [AV.satL] at hs
 | _ :: _,[],hs=>by simp [AV.satL] at hs
end
theorem getD_some {κ : List (Option Nat)} {i g : Nat} (h : κ[i]? = some (some g)) : κ.getD i none = some g:=by simp [List.getD_eq_getElem?_getD,h]
theorem OwnSat.lt' {F : Nat → Prop} {own : List Ent} {κ : List (Option Nat)} {w : World} (h : OwnSat F own κ w) {i g : Nat} (hi : κ[i]? = some (some g)) : g < w.heap.size ∧ ¬ F g:=h.lt g (List.mem_of_getElem? hi)
theorem OwnSat.kap {F : Nat → Prop} {own : List Ent} {κ : List (Option Nat)} {w : World} (h : OwnSat F own κ w) (i : Nat) (x : Ent) (hx : own[i]? = some x) : ∃ og,κ[i]? = some og:=by
 have hlt : i < own.length:=(List.getElem?_eq_some_iff.1 hx).1
 exact ⟨_,List.getElem?_eq_getElem (by rw [← h.len];exact hlt)⟩
theorem Fits.same (x : Ent) (og : Option Nat) {w w' : World} (h : ∀ g,og = some g → w'.heap[g]? = w.heap[g]?) : Fits x og x og w w':=by
 cases x with
 | box l=>exact .inr rfl
 | lp=>exact rfl
 | mp=>exact rfl
 | row v s e c=>exact .inr ⟨rfl,rfl,rfl,rfl,rfl,fun g hg cur t fz hc=>⟨cur,t,fz,by rw [h g hg];exact hc,rfl⟩⟩
theorem EntSat.stab {F : Nat → Prop} {own own' : List Ent} {κ κ' : List (Option Nat)} {w w' : World} (h : Stab F own κ w own' κ' w') (hκ : ∀ (i : Nat) (x : Ent), own[i]? = some x → ∃ og, κ[i]? = some og)
 {og : Option Nat} {x : Ent} (hb : ∀ g,og = some g → w'.heap[g]? = w.heap[g]?) (he : EntSat F own κ w og x) : EntSat F own' κ' w' og x:=by
 cases x with
 | box l =>
   rcases he with he | ⟨g,hg,cur,t,h1,h2,h3⟩
   ·exact .inl he
   ·exact .inr ⟨g,hg,cur,t,by rw [hb g hg];exact h1,AV.satL_stab h hκ l h2,h3⟩
 | lp st pe ps asn bdy l =>
   obtain ⟨g,hg,r,h1,h2,h3⟩:=he
   exact ⟨g,hg,r,by rw [hb g hg];exact h1,h2,AV.satL_stab h hκ l h3⟩
 | mp ks =>
   obtain ⟨g,hg,es,clock,h1,h2⟩:=he
   exact ⟨g,hg,es,clock,by rw [hb g hg];exact h1,h2.mono fun x u hs=>AV.sat_stab h hκ x hs⟩
 | row v s e c =>
   obtain ⟨h0,h1⟩:=he
   refine ⟨h0,h1.imp id ?_⟩
   rintro ⟨g,hg,cur,h2,h3,h4⟩
   exact ⟨g,hg,cur,by rw [hb g hg];exact h2,h3,Dat.rowsSat_wide h.wide (hb g hg) c h4⟩
theorem glb_keep {κ κ' : List (Option Nat)} {w w' : World} (h : ∀ p ∈ glbs, p.1 < w.heap.size ∧ some p.1 ∉ κ ∧ ∃ t fz, w.heap[p.1]? = some (.cells p.2 t fz)) (hsz : w.heap.size ≤ w'.heap.size) (hold : ∀ b, b < w.heap.size → some b ∉ κ → w'.heap[b]? = w.heap[b]?) (hnew : ∀ b, some b ∈ κ' → some b ∈ κ ∨ w.heap.size ≤ b) :
 ∀ p ∈ glbs,p.1 < w'.heap.size ∧ some p.1 ∉ κ' ∧ ∃ t fz,w'.heap[p.1]? = some (.cells p.2 t fz):=fun p hp=>by
 obtain ⟨h1,h2,h3⟩:=h p hp
 refine ⟨by omega,fun hk=>?_,by rw [hold p.1 h1 h2];exact h3⟩
 rcases hnew p.1 hk with h4 | h4
 ·exact h2 h4
 ·omega
section
variable {F : Nat → Prop} {m : Nat} {own : List Ent} {κ : List (Option Nat)} {w w' : World}
theorem step_upd {i : Nat} {x x' : Ent} {og og' : Option Nat} (ho : OwnSat F own κ w) (hi : own[i]? = some x) (hog : κ[i]? = some og)
 (hos : w'.os = w.os) (htp : w'.tape = w.tape) (hout : w'.output = w.output) (hsz : w.heap.size ≤ w'.heap.size)
 (hsame : ∀ b,b < w.heap.size → og ≠ some b → w'.heap[b]? = w.heap[b]?)
 (hog' : og' = og ∨ ∃ g,og' = some g ∧ w.heap.size ≤ g ∧ g < w'.heap.size) (hm : 0 ≤ i ∨ og' = og) (hfit : Fits x og x' og' w w')
 (hent : Stab F own κ w (own.set i x') (κ.set i og') w' → EntSat F (own.set i x') (κ.set i og') w' og' x') :
 OwnSat F (own.set i x') (κ.set i og') w' ∧ Tr F m own κ w (own.set i x') (κ.set i og') w':=by
 have hlo : i < own.length:=(List.getElem?_eq_some_iff.1 hi).1
 have hlk : i < κ.length:=(List.getElem?_eq_some_iff.1 hog).1
 have old : ∀ b,b < w.heap.size → some b ∉ κ → w'.heap[b]? = w.heap[b]?:=fun b hb hk=>hsame b hb fun e=>hk (e ▸ List.mem_of_getElem? hog)
 have new : ∀ b,some b ∈ κ.set i og' → some b ∈ κ ∨ w.heap.size ≤ b:=fun b hb=>by
  rcases List.mem_or_eq_of_mem_set hb with h1 | h1
  ·exact .inl h1
  ·rcases hog' with h2 | ⟨g, h2, h3, h4⟩
   ·exact .inl (by rw [h1,h2];exact List.mem_of_getElem? hog)
   ·rw [h2] at h1; obtain rfl : b = g := by simpa using h1
    exact .inr h3
 have hst : Stab F own κ w (own.set i x') (κ.set i og') w':=⟨Tr.wide hsz old new,fun j y oj hy hoj=>by
  by_cases hji : j = i
  ·subst hji
   obtain rfl : x = y:=by rw [hi] at hy;simpa using hy
   obtain rfl : og = oj:=by rw [hog] at hoj;simpa using hoj
   exact ⟨x',og',by simp [hlo],by simp [hlk],hfit⟩
  ·refine ⟨y, oj, by rw [List.getElem?_set_ne (Ne.symm hji)]; exact hy, by rw [List.getElem?_set_ne (Ne.symm hji)]; exact hoj, Fits.same y oj fun g hg => ?_⟩
   subst hg
   refine hsame g (ho.lt' hoj).1 fun e=>hji ?_
   rw [e] at hog
   exact ho.inj j i g hoj hog⟩
 refine ⟨⟨by simp [ho.len], fun b hb => Nat.lt_of_lt_of_le (ho.frame b hb) hsz, fun g hg => ?_, fun a b g ha hb => ?_, fun j y hy => ?_, glb_keep ho.glb hsz old new⟩,
  ⟨hos,htp,hout,hsz,old,new,?_,fun y u=>AV.sat_stab hst ho.kap y⟩⟩
 ·rcases List.mem_or_eq_of_mem_set hg with h1 | h1
  ·have:=ho.lt g h1;exact ⟨by omega,this.2⟩
  ·rcases hog' with h2 | ⟨g', h2, h3, h4⟩
   ·have:=ho.lt g (by rw [h1,h2];exact List.mem_of_getElem? hog);exact ⟨by omega,this.2⟩
   ·rw [h2] at h1; obtain rfl : g = g' := by simpa using h1
    exact ⟨h4,fun hf=>by have:=ho.frame g hf;omega⟩
 ·have key : ∀ j,(κ.set i og')[j]? = some (some g) → (j = i ∧ og' = some g) ∨ (j ≠ i ∧ κ[j]? = some (some g)):=fun j hj=>by
   by_cases hji : j = i
   ·subst hji;rw [List.getElem?_set_self hlk] at hj;exact .inl ⟨rfl,by simpa using hj⟩
   ·rw [List.getElem?_set_ne (Ne.symm hji)] at hj;exact .inr ⟨hji,hj⟩
  have fresh : ∀ j,j ≠ i → κ[j]? = some (some g) → og' ≠ some g:=fun j hj hk e=>by
   rcases hog' with h2 | ⟨g',h2,h3,h4⟩
   ·rw [← h2,e] at hog;exact hj (ho.inj j i g hk hog)
   ·rw [h2] at e; obtain rfl : g' = g := by simpa using e
    have:=(ho.lt' hk).1;omega
  rcases key a ha with ⟨h1,h2⟩ | ⟨h1,h2⟩<;>rcases key b hb with ⟨h3,h4⟩ | ⟨h3,h4⟩
  ·omega
  ·exact absurd h2 (fresh b h3 h4)
  ·exact absurd h4 (fresh a h1 h2)
  ·exact ho.inj a b g h2 h4
 ·by_cases hji : j = i
  ·subst hji
   rw [List.getElem?_set_self hlo] at hy
   obtain rfl : x' = y:=by simpa using hy
   have : (κ.set j og').getD j none = og':=by simp [List.getD_eq_getElem?_getD,hlk]
   rw [this];exact hent hst
  ·rw [List.getElem?_set_ne (Ne.symm hji)] at hy
   have e1 : (κ.set i og').getD j none = κ.getD j none:=by simp [List.getD_eq_getElem?_getD,List.getElem?_set_ne (Ne.symm hji)]
   rw [e1]
   refine EntSat.stab hst ho.kap (fun g hg=>?_) (ho.ent j y hy)
   obtain ⟨oj,hoj⟩:=ho.kap j y hy
   have : κ.getD j none = oj:=by simp [List.getD_eq_getElem?_getD,hoj]
   rw [this] at hg;subst hg
   refine hsame g (ho.lt' hoj).1 fun e=>hji ?_
   rw [e] at hog
   exact ho.inj j i g hoj hog
 ·rw [List.length_set];exact id
theorem step_push {x : Ent} {og : Option Nat} (hm : m ≤ κ.length) (ho : OwnSat F own κ w) (hos : w'.os = w.os) (htp : w'.tape = w.tape) (hout : w'.output = w.output) (hsz : w.heap.size ≤ w'.heap.size)
 (hsame : ∀ b,b < w.heap.size → w'.heap[b]? = w.heap[b]?) (hog : og = none ∨ ∃ g,og = some g ∧ w.heap.size ≤ g ∧ g < w'.heap.size)
 (hent : Stab F own κ w (own ++ [x]) (κ ++ [og]) w' → EntSat F (own ++ [x]) (κ ++ [og]) w' og x) :
 OwnSat F (own ++ [x]) (κ ++ [og]) w' ∧ Tr F m own κ w (own ++ [x]) (κ ++ [og]) w':=by
 have new : ∀ b,some b ∈ κ ++ [og] → some b ∈ κ ∨ w.heap.size ≤ b:=fun b hb=>by
  rcases List.mem_append.1 hb with h1 | h1
  ·exact .inl h1
  ·have h1 : some b = og := by simpa using h1
   rcases hog with h2 | ⟨g,h2,h3,h4⟩
   ·rw [h2] at h1;cases h1
   ·rw [h2] at h1; obtain rfl : b = g := by simpa using h1
    exact .inr h3
 have hst : Stab F own κ w (own ++ [x]) (κ ++ [og]) w':=⟨Tr.wide hsz (fun b hb _=>hsame b hb) new,fun j y oj hy hoj=>by
  have h1 : j < own.length:=(List.getElem?_eq_some_iff.1 hy).1
  have h2 : j < κ.length:=(List.getElem?_eq_some_iff.1 hoj).1
  refine ⟨y,oj,by rw [List.getElem?_append_left h1];exact hy,by rw [List.getElem?_append_left h2];exact hoj,Fits.same y oj fun g hg=>?_⟩
  subst hg
  exact hsame g (ho.lt' hoj).1⟩
 refine ⟨⟨by simp [ho.len], fun b hb => Nat.lt_of_lt_of_le (ho.frame b hb) hsz, fun g hg => ?_, fun a b g ha hb => ?_, fun j y hy => ?_, glb_keep ho.glb hsz (fun b hb _ => hsame b hb) new⟩,
  ⟨hos,htp,hout,hsz,fun b hb _=>hsame b hb,new,(fun _=>by rw [List.length_append];omega),fun y u=>AV.sat_stab hst ho.kap y⟩⟩
 ·rcases List.mem_append.1 hg with h1 | h1
  ·have:=ho.lt g h1;exact ⟨by omega,this.2⟩
  ·have h1 : some g = og := by simpa using h1
   rcases hog with h2 | ⟨g',h2,h3,h4⟩
   ·rw [h2] at h1;cases h1
   ·rw [h2] at h1; obtain rfl : g = g' := by simpa using h1
    exact ⟨h4,fun hf=>by have:=ho.frame g hf;omega⟩
 ·have key : ∀ j,(κ ++ [og])[j]? = some (some g) → (j = κ.length ∧ og = some g) ∨ κ[j]? = some (some g):=fun j hj=>by
   rcases Nat.lt_trichotomy j κ.length with hlt | rfl | hgt
   ·rw [List.getElem?_append_left hlt] at hj;exact .inr hj
   ·rw [List.getElem?_concat_length] at hj;exact .inl ⟨rfl,by simpa using hj⟩
   ·rw [List.getElem?_eq_none (by simp;omega)] at hj;cases hj
  have fresh : ∀ j,κ[j]? = some (some g) → og ≠ some g:=fun j hk e=>by
   rcases hog with h2 | ⟨g',h2,h3,h4⟩
   ·rw [h2] at e;cases e
   ·rw [h2] at e; obtain rfl : g' = g := by simpa using e
    have:=(ho.lt' hk).1;omega
  rcases key a ha with ⟨h1,h2⟩ | h2<;>rcases key b hb with ⟨h3,h4⟩ | h4
  ·omega
  ·exact absurd h2 (fresh b h4)
  ·exact absurd h4 (fresh a h2)
  ·exact ho.inj a b g h2 h4
 ·rcases Nat.lt_trichotomy j own.length with hlt | rfl | hgt
  ·rw [List.getElem?_append_left hlt] at hy
   have e1 : (κ ++ [og]).getD j none = κ.getD j none:=by simp [List.getD_eq_getElem?_getD,List.getElem?_append_left (ho.len ▸ hlt)]
   rw [e1]
   refine EntSat.stab hst ho.kap (fun g hg=>?_) (ho.ent j y hy)
   obtain ⟨oj,hoj⟩:=ho.kap j y hy
   have : κ.getD j none = oj:=by simp [List.getD_eq_getElem?_getD,hoj]
   rw [this] at hg;subst hg
   exact hsame g (ho.lt' hoj).1
  ·rw [List.getElem?_concat_length] at hy
   obtain rfl : x = y:=by simpa using hy
   have : (κ ++ [og]).getD own.length none = og:=by rw [ho.len];simp [List.getD_eq_getElem?_getD]
   rw [this];exact hent hst
  ·rw [List.getElem?_eq_none (by simp;omega)] at hy;cases hy
theorem step_more (ho : OwnSat F own κ w) (hos : w'.os = w.os) (htp : w'.tape = w.tape) (hout : w'.output = w.output) (hsz : w.heap.size ≤ w'.heap.size)
 (hsame : ∀ b,b < w.heap.size → w'.heap[b]? = w.heap[b]?) : OwnSat F own κ w' ∧ Tr F m own κ w own κ w':=by
 have hst : Stab F own κ w own κ w':=⟨Tr.wide hsz (fun b hb _=>hsame b hb) (fun b hb=>.inl hb),fun j y oj hy hoj=>⟨y,oj,hy,hoj,Fits.same y oj fun g hg=>by
  subst hg;exact hsame g (ho.lt' hoj).1⟩⟩
 refine ⟨⟨ho.len,fun b hb=>Nat.lt_of_lt_of_le (ho.frame b hb) hsz,fun g hg=>?_,ho.inj,fun j y hy=>?_,glb_keep ho.glb hsz (fun b hb _=>hsame b hb) (fun b hb=>.inl hb)⟩,⟨hos,htp,hout,hsz,fun b hb _=>hsame b hb,fun b hb=>.inl hb,id,fun y u=>AV.sat_stab hst ho.kap y⟩⟩
 ·have:=ho.lt g hg;exact ⟨by omega,this.2⟩
 ·refine EntSat.stab hst ho.kap (fun g hg => ?_) (ho.ent j y hy)
  obtain ⟨oj,hoj⟩:=ho.kap j y hy
  have : κ.getD j none = oj:=by simp [List.getD_eq_getElem?_getD,hoj]
  rw [this] at hg;subst hg
  exact hsame g (ho.lt' hoj).1
end
theorem zA : (!true) = false:=rfl
theorem zB : (!false) = true:=rfl
theorem zC {p : Prop} [Decidable p] : (decide p = true) = p:=decide_eq_true_eq
theorem zD {p : Prop} {_ : Decidable p} : (decide p = false) ↔ ¬p:=decide_eq_false_iff_not
theorem zE (b : Bool) : ((!b) = true) = (b = false):=Bool.not_eq_true' b
theorem zF (b : Bool) : ((!b) = false) = (b = true):=Bool.not_eq_false' b
theorem zG {a b : Int} : ¬a < b ↔ b ≤ a:=Int.not_lt
theorem zH {a b : Int} : ¬a ≤ b ↔ b < a:=Int.not_le
theorem zI {α β : Type _} {f : α → β} {l : List α} : (l.map f).length = l.length:=List.length_map f
theorem zJ : (¬True) = False:=not_true_eq_false
theorem zU {a b : Nat} (h : Nat.ble a b = true) : a ≤ b:=Nat.le_of_ble_eq_true h
theorem zK : ((!true) = false) ∧ (!false) = true:=⟨rfl,rfl⟩
theorem zL : (∀ {p : Prop} [Decidable p],(decide p = true) = p) ∧ (∀ {p : Prop} {_ : Decidable p},(decide p = false) ↔ ¬p) ∧ (∀ (b : Bool),((!b) = true) = (b = false)) ∧ (∀ (b : Bool),((!b) = false) = (b = true)) ∧ (∀ {a b : Int},¬a < b ↔ b ≤ a) ∧ (∀ {a b : Int},¬a ≤ b ↔ b < a) ∧ (¬True) = False:=⟨zC,zD,zE,zF,zG,zH,zJ⟩
end
section
def look : List (Nat × AV) → Nat → AV
 | [],_=>.top
 | (s,x) :: rest,t=>if s = t then x else look rest t
def lookO (env : List (Nat × AV)) : Operand → AV
 | .tmp t=>look env t
 | .const v=>.d (.v v)
 | .func f=>.fn f []
 | .global g=>.d (.v (.pointer (some ⟨g,0,none⟩)))
def putE (env : List (Nat × AV)) (dst : Option Tmp) (x : AV) : List (Nat × AV) :=
 match dst with
 | some d=>(d,x) :: env
 | none=>env
def EnvSat (F : Nat → Prop) (own : List Ent) (κ : List (Option Nat)) (w : World) (env : List (Nat × AV)) (a : Act) : Prop:=∀ t,AV.sat F own κ w (look env t) (a.tmps.getD t undef)
theorem EnvSat.eval {F : Nat → Prop} {own : List Ent} {κ : List (Option Nat)} {w : World} {env : List (Nat × AV)} {a : Act} (h : EnvSat F own κ w env a) (x : Operand) : AV.sat F own κ w (lookO env x) (a.eval x):=by
 cases x with
 | tmp t=>exact h t
 | const v=>simp [lookO,Act.eval,AV.sat,Dat.sat]
 | func f=>simp [lookO,Act.eval,AV.sat,AV.satL]
 | global g=>simp [lookO,Act.eval,AV.sat,Dat.sat]
def OutOk (P : Program) (R : Value → World → Prop) : Result Next → Prop
 | .ok (.value v) w'=>R v w'
 | .ok .skip w'=>R undef w'
 | .ok (.enter f args) w'=>Calls P f args w' fun e w''=>∃ v,e = .returned v ∧ R v w''
 | .ok (.round l f tmps asn bdy) w'=>RoundIn Fence.wide 0 P l f tmps asn bdy w' fun e w''=>∃ v,e = .returned v ∧ R v w''
 | _=>False
def OpOk (P : Program) (m : Nat) (o : Oper) (env : List (Nat × AV)) (own : List Ent) (r : AV) (own' : List Ent) : Prop :=
 ∀ (F : Nat → Prop) (κ : List (Option Nat)) (a : Act) (w : World), EnvSat F own κ w env a → OwnSat F own κ w → m ≤ κ.length →
  OutOk P (fun v w'=>∃ κ',AV.sat F own' κ' w' r v ∧ OwnSat F own' κ' w' ∧ Tr F m own κ w own' κ' w') ((execOp a.eval o).run P w)
def seenOf (o : Oper) : List Tmp:=o.op.operands.toList.filterMap fun | .tmp t=>some t | _=>none
def same (l : List Nat) (own own' : List Ent) : Prop:=∀ i ∈ l,own'[i]? = own[i]?
def Quiet (P : Program) (m : Nat) (o : Oper) (env : List (Nat × AV)) (own : List Ent) (fp : List Nat) (r : AV) : Prop :=
 ∀ env' own',(∀ t ∈ (seenOf o),look env' t = look env t) → same fp own own' → OpOk P m o env' own' r own'
def Eff (P : Program) (m : Nat) (o : Oper) (env : List (Nat × AV)) (own : List Ent) (mod : List Nat) (r : AV) (own' : List Ent) : Prop :=
 (∀ env',(∀ t ∈ (seenOf o),look env' t = look env t) → OpOk P m o env' own r own') ∧ ∀ i,i ∉ mod → own'[i]? = own[i]?
def Loc (P : Program) (m : Nat) (o : Oper) (env : List (Nat × AV)) (own : List Ent) (mod fp : List Nat) (r : AV) (own' : List Ent) : Prop :=
 (∀ env' own2,(∀ t ∈ (seenOf o),look env' t = look env t) → same (mod ++ fp) own own2 → ∃ own2',OpOk P m o env' own2 r own2' ∧ (∀ t,t ∈ mod → own2'[t]? = own'[t]?) ∧ ∀ t,t ∉ mod → own2'[t]? = own2[t]?) ∧ ∀ i,i ∉ mod → own'[i]? = own[i]?
theorem lookO_seen {o : Oper} {env env' : List (Nat × AV)} (h : ∀ t ∈ (seenOf o),look env' t = look env t) {x : Operand} (hx : x ∈ o.op.operands) : lookO env' x = lookO env x:=by
 cases x with
 | tmp t=>exact h t (List.mem_filterMap.2 ⟨.tmp t,by simpa using hx,rfl⟩)
 | _=>rfl
inductive Part where
 | off
 | q (fp : List Nat)
 | e (mod : List Nat)
 | l (mod fp : List Nat)
def clash (ops : Array Oper) (x y : Oper) (p q : Part) : Bool :=
 !(x.apart ops y && y.apart ops x) ||
 match p,q with
 | .e _,.e _ | .e _,.l _ _ | .l _ _,.e _=>true
 | .l mod fp,.l mod' fp'=>mod.any (mod' ++ fp').contains || mod'.any (mod ++ fp).contains
 | .q fp,.e mod | .e mod,.q fp | .q fp,.l mod _ | .l mod _,.q fp=>fp.any mod.contains
 | _,_=>false
def anc (ops : Array Oper) : Nat → List Nat → List Nat
 | 0,l=>l
 | k + 1,l=>anc ops k (l ++ (l.flatMap fun i=>((ops.getD i default).after.toList.filter (Region.binds .any)).map (·.on)))
def chkPair (ops : Array Oper) (ps : List Part) (j i : Nat) : Bool:=!clash ops (ops.getD i default) (ops.getD j default) (ps.getD i .off) (ps.getD j .off) || (anc ops ops.size [j]).contains i
def chkOps (ops : Array Oper) (ps : List Part) : Bool :=
 (List.range ops.size).all fun j => (((ops.getD j default).after.toList.filter (Region.binds .any)).all fun e => decide (e.on < j)) && (List.range j).all (chkPair ops ps j) &&
  (match (ops.getD j default).op with | .select _ _=>false | _=>true)
def GuardOn (ops : Array Oper) (o : Oper) (env : List (Nat × AV)) : Prop :=
 match o.guard with
 | none=>True
 | some (j,want)=>∃ d,(ops[j]?).bind (·.dst) = some d ∧ look env d = .d (.v (.bool want))
def GuardOff (ops : Array Oper) (o : Oper) (env : List (Nat × AV)) : Prop :=
 ∃ j want d x,o.guard = some (j,want) ∧ (ops[j]?).bind (·.dst) = some d ∧ look env d = .d (.v x) ∧ x ≠ .bool want
inductive Walk (P : Program) (m : Nat) (ops : Array Oper) (Q : List Part → List (Nat × AV) → List Ent → Prop) : List Part → List Oper → List (Nat × AV) → List Ent → Prop where
 | nil {done : List Part} {env : List (Nat × AV)} {own : List Ent} (h : Q done env own) : Walk P m ops Q done [] env own
 | off {done : List Part} {o : Oper} {rest : List Oper} {env : List (Nat × AV)} {own : List Ent} (hg : GuardOff ops o env) (h : Walk P m ops Q (.off :: done) rest (putE env o.dst (.d (.v undef))) own) : Walk P m ops Q done (o :: rest) env own
 | q {done : List Part} {o : Oper} {rest : List Oper} {env : List (Nat × AV)} {own : List Ent} (fp : List Nat) (r : AV) (hg : GuardOn ops o env) (hq : Quiet P m o env own fp r) (h : Walk P m ops Q (.q fp :: done) rest (putE env o.dst r) own) : Walk P m ops Q done (o :: rest) env own
 | e {done : List Part} {o : Oper} {rest : List Oper} {env : List (Nat × AV)} {own : List Ent} (mod : List Nat) (r : AV) (own' : List Ent) (hg : GuardOn ops o env) (hq : Eff P m o env own mod r own') (h : Walk P m ops Q (.e mod :: done) rest (putE env o.dst r) own') : Walk P m ops Q done (o :: rest) env own
 | l {done : List Part} {o : Oper} {rest : List Oper} {env : List (Nat × AV)} {own : List Ent} (mod fp : List Nat) (r : AV) (own' : List Ent) (hg : GuardOn ops o env) (hq : Loc P m o env own mod fp r own') (h : Walk P m ops Q (.l mod fp :: done) rest (putE env o.dst r) own') : Walk P m ops Q done (o :: rest) env own
def StepOk (P : Program) (m : Nat) (ops : Array Oper) (o : Oper) (env : List (Nat × AV)) (own : List Ent) (r : AV) (own' : List Ent) : Part → Prop
 | .off=>GuardOff ops o env ∧ r = .d (.v undef) ∧ own' = own
 | .q fp=>GuardOn ops o env ∧ Quiet P m o env own fp r ∧ own' = own
 | .e mod=>GuardOn ops o env ∧ Eff P m o env own mod r own'
 | .l mod fp=>GuardOn ops o env ∧ Loc P m o env own mod fp r own'
theorem walk_chain {P : Program} {m : Nat} {ops : Array Oper} {Q : List Part → List (Nat × AV) → List Ent → Prop} {done : List Part} {l : List Oper} {env : List (Nat × AV)} {own : List Ent} (h : Walk P m ops Q done l env own) :
 ∃ (E : Nat → List (Nat × AV)) (O : Nat → List Ent) (r : Nat → AV) (ps : List Part), E 0 = env ∧ O 0 = own ∧ ps.length = l.length ∧
  (∀ k o,l[k]? = some o → E (k + 1) = putE (E k) o.dst (r k) ∧ StepOk P m ops o (E k) (O k) (r k) (O (k + 1)) (ps.getD k .off)) ∧ Q (ps.reverse ++ done) (E l.length) (O l.length):=by
 induction h with
 | @nil done env own h=>exact ⟨fun _=>env,fun _=>own,fun _=>.top,[],rfl,rfl,rfl,fun k o hk=>by simp at hk,by simpa using h⟩
 | @off done o rest env own hg h ih =>
   obtain ⟨E,O,r,ps,h1,h2,h3,h4,h5⟩:=ih
   refine ⟨fun | 0=>env | k + 1=>E k,fun | 0=>own | k + 1=>O k,fun | 0=>.d (.v undef) | k + 1=>r k,.off :: ps,rfl,rfl,by simp [h3],fun k o' hk=>?_,by simpa using h5⟩
   cases k with
   | zero => obtain rfl : o = o' := by simpa using hk
             exact ⟨h1,hg,rfl,h2⟩
   | succ k=>exact h4 k o' (by simpa using hk)
 | @q done o rest env own fp r0 hg hq h ih =>
   obtain ⟨E,O,r,ps,h1,h2,h3,h4,h5⟩:=ih
   refine ⟨fun | 0=>env | k + 1=>E k,fun | 0=>own | k + 1=>O k,fun | 0=>r0 | k + 1=>r k,.q fp :: ps,rfl,rfl,by simp [h3],fun k o' hk=>?_,by simpa using h5⟩
   cases k with
   | zero => obtain rfl : o = o' := by simpa using hk
             exact ⟨h1,hg,hq,h2⟩
   | succ k=>exact h4 k o' (by simpa using hk)
 | @e done o rest env own mod r0 own' hg hq h ih =>
   obtain ⟨E,O,r,ps,h1,h2,h3,h4,h5⟩:=ih
   refine ⟨fun | 0=>env | k + 1=>E k,fun | 0=>own | k + 1=>O k,fun | 0=>r0 | k + 1=>r k,.e mod :: ps,rfl,rfl,by simp [h3],fun k o' hk=>?_,by simpa using h5⟩
   cases k with
   | zero => obtain rfl : o = o' := by simpa using hk
             exact ⟨h1,hg,by simpa [h2] using hq⟩
   | succ k=>exact h4 k o' (by simpa using hk)
 | @l done o rest env own mod fp r0 own' hg hq h ih =>
   obtain ⟨E,O,r,ps,h1,h2,h3,h4,h5⟩:=ih
   refine ⟨fun | 0=>env | k + 1=>E k,fun | 0=>own | k + 1=>O k,fun | 0=>r0 | k + 1=>r k,.l mod fp :: ps,rfl,rfl,by simp [h3],fun k o' hk=>?_,by simpa using h5⟩
   cases k with
   | zero => obtain rfl : o = o' := by simpa using hk
             exact ⟨h1,hg,by simpa [h2] using hq⟩
   | succ k=>exact h4 k o' (by simpa using hk)
theorem wanted_on {ops : Array Oper} {o : Oper} {env : List (Nat × AV)} {F : Nat → Prop} {own : List Ent} {κ : List (Option Nat)} {w : World} {a : Act} (hg : GuardOn ops o env)
 (hs : ∀ t ∈ o.looksAt ops,AV.sat F own κ w (look env t) (a.tmps.getD t undef)) (hsz : ∀ t ∈ o.looksAt ops,t < a.tmps.size) : Region.wanted o (yielded ops a.tmps) = true:=by
 unfold Region.wanted
 cases hgd : o.guard with
 | none=>rfl
 | some gw =>
   obtain ⟨j,want⟩:=gw
   simp only [GuardOn,hgd] at hg
   obtain ⟨d,hd,hl⟩:=hg
   have hm : d ∈ o.looksAt ops:=by simp [Oper.looksAt,hgd,hd]
   have h1:=hs d hm
   rw [hl] at h1
   simp only [AV.sat,Dat.sat] at h1
   have h2:=hsz d hm
   have h3 : a.tmps[d]? = some (.bool want):=by rw [Array.getElem?_eq_getElem h2];simpa [Array.getD_eq_getD_getElem?,Array.getElem?_eq_getElem h2] using h1
   simp [yielded,hd,h3]
theorem wanted_off {ops : Array Oper} {o : Oper} {env : List (Nat × AV)} {F : Nat → Prop} {own : List Ent} {κ : List (Option Nat)} {w : World} {a : Act} (hg : GuardOff ops o env)
 (hs : ∀ t ∈ o.looksAt ops,AV.sat F own κ w (look env t) (a.tmps.getD t undef)) : Region.wanted o (yielded ops a.tmps) = false:=by
 obtain ⟨j,want,d,x,hgd,hd,hl,hx⟩:=hg
 have hm : d ∈ o.looksAt ops:=by simp [Oper.looksAt,hgd,hd]
 have h1:=hs d hm
 rw [hl] at h1
 simp only [AV.sat,Dat.sat] at h1
 unfold Region.wanted
 simp only [hgd]
 have : yielded ops a.tmps j ≠ some want:=by
  unfold yielded
  rw [hd]
  simp only [Option.bind_some]
  intro hy
  cases h3 : a.tmps[d]? with
  | none=>simp [h3] at hy
  | some u =>
    have : u = x:=by simpa [Array.getD_eq_getD_getElem?,h3] using h1
    subst this
    rw [h3] at hy
    cases u<;>simp at hy
    subst hy;exact hx rfl
 simpa using this
def Good (G : Fence) : Prop:=G = Fence.wide ∨ ∃ l,G = Fence.wide.inRound l
theorem Good.fn {G : Fence} (h : Good G) (f : FuncId) : G.fn f:=by rcases h with rfl | ⟨l,rfl⟩<;>trivial
theorem Good.depth {G : Fence} (h : Good G) : G.depth.isSome = true → 1 ≤ 0:=by rcases h with rfl | ⟨l,rfl⟩<;>(intro h;cases h)
theorem Good.calls {G : Fence} {n : Nat} {P : Program} {f : FuncId} {args : Array Value} {w : World} {R : Ending → World → Prop} (h : Good G) (hc : Calls P f args w R) : CallsIn G n P f args w R:=by
 rcases h with rfl | ⟨l,rfl⟩
 ·exact callsIn_wide.2 hc
 ·exact CallsIn.inRound l (callsIn_wide.2 hc)
theorem Good.rounds {G : Fence} {n : Nat} {P : Program} {l : Nat} {f : FuncId} {tmps : Array Value} {asn bdy : Code} {w : World} {R : Ending → World → Prop} (h : Good G) (hc : RoundIn Fence.wide 0 P l f tmps asn bdy w R) : RoundIn G n P l f tmps asn bdy w R:=by
 obtain ⟨h1,h2⟩:=hc
 rcases h with rfl | ⟨l',rfl⟩
 ·exact ⟨trivial,fun c cs hr=>h2 c cs (by simp [Fence.room,Fence.wide])⟩
 ·exact ⟨trivial,fun c cs hr=>h2 c cs (by simp [Fence.room,Fence.wide])⟩
theorem out_no_defer {P : Program} {o : Oper} {a : Act} {w : World} {R : Value → World → Prop} (h : OutOk P R ((execOp a.eval o).run P w)) : ∀ c,o.op ≠ .defer c:=fun c hc=>by
 unfold execOp at h
 rw [hc] at h
 simp only [Sem.run_bind] at h
 generalize (resolve a.eval c o.type).run P w = res at h
 cases res<;>simp [OutOk,Result.andThen] at h
theorem wpIn_of_out {G : Fence} (hG : Good G) {P : Program} {o : Oper} {a : Act} {w : World} {next : Act → World → Prop} {Q : Exit → Act → World → Prop} {R : Value → World → Prop} (h : OutOk P R ((execOp a.eval o).run P w)) (hn : ∀ v w',R v w' → next (a.put o.dst v) w') : o.wpIn G 0 P a w next Q:=by
 refine ⟨fun f _=>hG.fn f,?_⟩
 rw [Oper.semAt_eq _ _ _ (out_no_defer h)]
 generalize (execOp a.eval o).run P w = res at h
 cases res with
 | ok n w' =>
   cases n<;>simp only [OutOk] at h<;>simp only [Oper.uponIn]
   case value v=>exact hn v w' h
   case skip=>exact hn _ w' h
   case enter f args=>exact ⟨hG.depth,(hG.calls h).mono fun e w'' ⟨v,he,hr⟩=>by subst he;exact hn v w'' hr⟩
   case round l f tmps asn bdy=>exact ⟨hG.depth,(hG.rounds h).mono fun e w'' ⟨v,he,hr⟩=>by subst he;exact hn v w'' hr⟩
 | halt x w'=>exact h.elim
theorem look_putE_self (env : List (Nat × AV)) (d : Nat) (x : AV) : look (putE env (some d) x) d = x:=by simp [putE,look]
theorem look_putE_ne (env : List (Nat × AV)) {dst : Option Tmp} {t : Nat} (x : AV) (h : dst ≠ some t) : look (putE env dst x) t = look env t:=by
 cases dst with
 | none=>rfl
 | some d => have : d ≠ t := fun e => h (by rw [e])
             simp [putE,look,this]
theorem put_getD_self {a : Act} {d : Nat} (h : d < a.tmps.size) (v : Value) : (a.put (some d) v).tmps.getD d undef = v:=by simp [Act.put,h]
theorem put_getD_ne {a : Act} {dst : Option Tmp} {t : Nat} (h : dst ≠ some t) (v : Value) : (a.put dst v).tmps.getD t undef = a.tmps.getD t undef:=by
 cases dst with
 | none=>rfl
 | some d => have : d ≠ t := fun e => h (by rw [e])
             simp [Act.put,Array.getElem?_setIfInBounds_ne this]
theorem put_size (a : Act) (dst : Option Tmp) (v : Value) : (a.put dst v).tmps.size = a.tmps.size:=by cases dst<;>simp [Act.put]
theorem put_defs (a : Act) (dst : Option Tmp) (v : Value) : (a.put dst v).defers = a.defers:=by cases dst<;>rfl
/-! ### A region in whatever order -/
theorem Tr.trans {F : Nat → Prop} {m : Nat} {o1 o2 o3 : List Ent} {k1 k2 k3 : List (Option Nat)} {w1 w2 w3 : World} (h : Tr F m o1 k1 w1 o2 k2 w2) (g : Tr F m o2 k2 w2 o3 k3 w3) : Tr F m o1 k1 w1 o3 k3 w3 :=
 ⟨g.os.trans h.os, g.tape.trans h.tape, g.output.trans h.output, Nat.le_trans h.size g.size,
  fun b hb hk=>(g.old b (Nat.lt_of_lt_of_le hb h.size) fun h2=>by
   rcases h.new b h2 with h3 | h3
   ·exact hk h3
   ·omega).trans (h.old b hb hk),
  fun b hb=>by
   rcases g.new b hb with h1 | h1
   ·exact h.new b h1
   ·have:=h.size;exact .inr (by omega),
  fun h0=>g.pre (h.pre h0),fun x u hx=>g.keep x u (h.keep x u hx)⟩
theorem Tr.le {F : Nat → Prop} {m : Nat} {o1 o2 : List Ent} {k1 k2 : List (Option Nat)} {w1 w2 : World} (h : Tr F m o1 k1 w1 o2 k2 w2) (hm : m ≤ k1.length) : m ≤ k2.length:=h.pre hm
def inX (listed : Array Bool) (i : Nat) : Prop:=listed.getD i false = true
section
variable {P : Program} {m n : Nat} {ds : List Deferred} {own0 : List Ent} {κ0 : List (Option Nat)} {w0 : World} {ops : Array Oper} {E : Nat → List (Nat × AV)} {O : Nat → List Ent} {r : Nat → AV} {ps : List Part}
def stepAll (P : Program) (m : Nat) (ops : Array Oper) (E : Nat → List (Nat × AV)) (O : Nat → List Ent) (r : Nat → AV) (ps : List Part) : Prop :=
 ∀ k o,ops[k]? = some o → E (k + 1) = putE (E k) o.dst (r k) ∧ StepOk P m ops o (E k) (O k) (r k) (O (k + 1)) (ps.getD k .off)
def Part.mods : Part → List Nat
 | .e mod | .l mod _=>mod
 | _=>[]
def modsAt (ps : List Part) (k : Nat) : List Nat:=(ps.getD k .off).mods
structure Mid (ds : List Deferred) (F : Nat → Prop) (m : Nat) (own0 : List Ent) (κ0 : List (Option Nat)) (w0 : World) (n : Nat) (ops : Array Oper) (E : Nat → List (Nat × AV)) (O : Nat → List Ent) (ps : List Part) (listed : Array Bool) (a : Act) (κ : List (Option Nat)) (w : World) : Prop where
 size : listed.size = ops.size
 down : ∀ k o,inX listed k → ops[k]? = some o → ∀ e ∈ o.after,Region.binds .any e = true → inX listed e.on
 tm : a.tmps.size = n
 df : a.defers = ds
 cur : ∃ own, (∀ t j, j ≤ ops.size → (∀ i, i < ops.size → t ∈ modsAt ps i → (i < j ↔ inX listed i)) → own[t]? = (O j)[t]?) ∧ OwnSat F own κ w ∧ Tr F m own0 κ0 w0 own κ w ∧
  ∀ t j,j ≤ ops.size → (∀ i o,ops[i]? = some o → o.dst = some t → (i < j ↔ inX listed i)) → AV.sat F own κ w (look (E j) t) (a.tmps.getD t undef)
theorem anc_in {X : Nat → Prop} (hd : ∀ k, X k → ∀ e ∈ (ops.getD k default).after, Region.binds .any e = true → X e.on) : ∀ (f : Nat) (l : List Nat), (∀ i ∈ l, X i) → ∀ i ∈ anc ops f l, X i
 | 0,l,h,i,hi=>h i hi
 | f + 1,l,h,i,hi=>by
   refine anc_in hd f _ (fun i hi=>?_) i hi
   rcases List.mem_append.1 hi with h1 | h1
   ·exact h i h1
   ·obtain ⟨k, hk, h2⟩ := List.mem_flatMap.1 h1
    obtain ⟨e,he,rfl⟩:=List.mem_map.1 h2
    have he:=List.mem_filter.1 he
    exact hd k (h k hk) e (by simpa using he.1) (by simpa using he.2)
theorem getD_of {ops : Array Oper} {i : Nat} {o : Oper} (h : ops[i]? = some o) : ops.getD i default = o:=by
 simp [Array.getD_eq_getD_getElem?,h]
theorem chk_pair (hc : chkOps ops ps = true) {i j : Nat} {x y : Oper} (hi : ops[i]? = some x) (hj : ops[j]? = some y) (hij : i < j) (hcl : clash ops x y (ps.getD i .off) (ps.getD j .off) = true) : i ∈ anc ops ops.size [j]:=by
 have hjl : j < ops.size:=(Array.getElem?_eq_some_iff.1 hj).1
 have h:=List.all_eq_true.1 hc j (by simpa using hjl)
 simp only [Bool.and_eq_true] at h
 have h2:=List.all_eq_true.1 h.1.2 i (by simpa using hij)
 simp only [chkPair,getD_of hi,getD_of hj,hcl,Bool.not_true,Bool.false_or] at h2
 simpa using h2
theorem chk_edge (hc : chkOps ops ps = true) {j : Nat} {y : Oper} (hj : ops[j]? = some y) {e : Edge} (he : e ∈ y.after) (hb : Region.binds .any e = true) : e.on < j:=by
 have hjl : j < ops.size:=(Array.getElem?_eq_some_iff.1 hj).1
 have h:=List.all_eq_true.1 hc j (by simpa using hjl)
 simp only [Bool.and_eq_true,getD_of hj] at h
 have:=List.all_eq_true.1 h.1.1 e (List.mem_filter.2 ⟨by simpa using he,hb⟩)
 simpa using this
theorem clash_before {F : Nat → Prop} {listed : Array Bool} {a : Act} {κ : List (Option Nat)} {w : World} (hc : chkOps ops ps = true) (hM : Mid ds F m own0 κ0 w0 n ops E O ps listed a κ w)
 {j : Nat} {y : Oper} (hj : ops[j]? = some y) (hr : j ∈ Region.ready .any ops listed) {i : Nat} {x : Oper} (hi : ops[i]? = some x) (hne : i ≠ j)
 (hcl : (i < j → clash ops x y (ps.getD i .off) (ps.getD j .off) = true) ∧ (j < i → clash ops y x (ps.getD j .off) (ps.getD i .off) = true)) : i < j ↔ inX listed i:=by
 obtain ⟨h0,y',hy',hall⟩:=mem_ready.1 hr
 obtain rfl : y = y':=by rw [hj] at hy';simpa using hy'
 have hjl : j < ops.size:=(Array.getElem?_eq_some_iff.1 hj).1
 have hnot : ¬ inX listed j:=fun h=>by
  unfold inX at h
  have hjs : j < listed.size:=by rw [hM.size];exact hjl
  simp [Array.getD_eq_getD_getElem?,hjs] at h0 h
  rw [h] at h0;cases h0
 constructor
 ·intro hlt
  have h1:=chk_pair hc hi hj hlt (hcl.1 hlt)
  have h2:=anc_in (ops:=ops) (X:=fun k=>inX listed k ∨ k = j) (fun k hk e he hb=>by
   rcases hk with hk | rfl
   ·cases ho : ops[k]? with
    | none =>
      have : ops.getD k default = default:=by simp [Array.getD_eq_getD_getElem?,ho]
      rw [this] at he
      exact absurd (show e ∈ (#[] : Array Edge) from he) (Array.not_mem_empty e)
    | some o=>rw [getD_of ho] at he;exact .inl (hM.down k o hk ho e he hb)
   ·rw [getD_of hj] at he;exact .inl (hall e he hb)) ops.size [j] (by simp) i h1
  exact h2.resolve_right (by omega)
 ·intro hin
  rcases Nat.lt_trichotomy i j with h | h | h
  ·exact h
  ·exact absurd h hne
  ·have h1 := chk_pair hc hj hi h (hcl.2 h)
   have h2:=anc_in (ops:=ops) (X:=inX listed) (fun k hk e he hb=>by
    cases ho : ops[k]? with
    | none =>
      have : ops.getD k default = default:=by simp [Array.getD_eq_getD_getElem?,ho]
      rw [this] at he
      exact absurd (show e ∈ (#[] : Array Edge) from he) (Array.not_mem_empty e)
    | some o=>rw [getD_of ho] at he;exact hM.down k o hk ho e he hb) ops.size [i] (by simpa using hin) j h1
   exact absurd h2 hnot
theorem clash_apart {x y : Oper} {p q : Part} (h : clash ops x y p q = false) : x.apart ops y = true ∧ y.apart ops x = true:=by
 simp only [clash,Bool.or_eq_false_iff,Bool.not_eq_false',Bool.and_eq_true] at h
 exact h.1
theorem clash_mods {ops : Array Oper} {ps : List Part} {x y : Oper} {i j t : Nat} (hi : t ∈ modsAt ps i) (hj : t ∈ modsAt ps j) : clash ops x y (ps.getD i .off) (ps.getD j .off) = true:=by
 unfold modsAt at hi hj
 cases hp : ps.getD i .off with
 | off=>rw [hp] at hi;cases hi
 | q _=>rw [hp] at hi;cases hi
 | e mod =>
   cases hq : ps.getD j .off with
   | off=>rw [hq] at hj;cases hj
   | q _=>rw [hq] at hj;cases hj
   | e mod'=>simp [clash]
   | l mod' fp'=>simp [clash]
 | l mod fp =>
   cases hq : ps.getD j .off with
   | off=>rw [hq] at hj;cases hj
   | q _=>rw [hq] at hj;cases hj
   | e mod'=>simp [clash]
   | l mod' fp' =>
     rw [hp] at hi;rw [hq] at hj
     have h1 : mod.any (mod' ++ fp').contains = true:=List.any_eq_true.2 ⟨t,hi,List.contains_iff_mem.2 (List.mem_append_left _ hj)⟩
     simp only [clash,h1,Bool.or_true,Bool.true_or]
theorem clash_of_not {x y : Oper} {p q : Part} (h : ¬ (x.apart ops y = true ∧ y.apart ops x = true)) : clash ops x y p q = true:=by
 cases hcl : clash ops x y p q with
 | true=>rfl
 | false=>exact absurd (clash_apart hcl) h
theorem own_same (hs : stepAll P m ops E O r ps) (t : Nat) : ∀ (d a : Nat), a + d ≤ ops.size → (∀ i, a ≤ i → i < a + d → t ∉ modsAt ps i) → (O (a + d))[t]? = (O a)[t]?
 | 0,a,_,_=>rfl
 | d + 1,a,hle,h=>by
   have hlt : a + d < ops.size:=by omega
   have h1:=(hs (a + d) _ (Array.getElem?_eq_getElem hlt)).2
   have h3:=own_same hs t d a (by omega) fun i h4 h5=>h i h4 (by omega)
   have h4:=h (a + d) (by omega) (by omega)
   rw [show a + (d + 1) = a + d + 1 from by omega]
   unfold modsAt at h4
   cases hp : ps.getD (a + d) .off with
   | off=>rw [hp] at h1;rw [h1.2.2];exact h3
   | q fp=>rw [hp] at h1;rw [h1.2.2];exact h3
   | e mod=>rw [hp] at h1 h4;rw [h1.2.2 t h4];exact h3
   | l mod fp=>rw [hp] at h1 h4;rw [h1.2.2 t h4];exact h3
theorem seen_looks {o : Oper} {t : Nat} (h : t ∈ (seenOf o)) : t ∈ o.looksAt ops:=List.mem_append_left _ h
theorem mid_step {G : Fence} (hG : Good G) {F : Nat → Prop} {listed : Array Bool} {a : Act} {κ : List (Option Nat)} {w : World} (hc : chkOps ops ps = true) (hs : stepAll P m ops E O r ps)
 (hdst : ∀ (i : Nat) (o : Oper),ops[i]? = some o → (∀ d,o.dst = some d → d < n) ∧ ∀ t ∈ o.looksAt ops,t < n) (hm0 : m ≤ κ0.length) (hM : Mid ds F m own0 κ0 w0 n ops E O ps listed a κ w)
 {j : Nat} (hr : j ∈ Region.ready .any ops listed) {K : Act → World → Prop} {Q : Exit → Act → World → Prop}
 (hK : ∀ a' κ' w',Mid ds F m own0 κ0 w0 n ops E O ps (listed.setIfInBounds j true) a' κ' w' → K a' w') : wpOpIn G 0 P ops Q j K a w:=by
 obtain ⟨h0,y,hy,hall⟩:=mem_ready.1 hr
 have hjl : j < ops.size:=(Array.getElem?_eq_some_iff.1 hy).1
 have hjs : j < listed.size:=by rw [hM.size];exact hjl
 have hnot : ¬ inX listed j:=fun h=>by
  unfold inX at h
  simp [Array.getD_eq_getD_getElem?,hjs] at h0 h
  rw [h] at h0;cases h0
 obtain ⟨ownC,hC,hown,htr0,henv⟩:=hM.cur
 have hm:=htr0.le hm0
 have hset : ∀ i,inX (listed.setIfInBounds j true) i ↔ inX listed i ∨ i = j:=fun i=>by
  unfold inX
  by_cases hij : j = i
  ·subst hij;simp [Array.getD_eq_getD_getElem?,hjs]
  ·rw [getD_set_ne false hij]; constructor
   ·exact .inl
   ·rintro (h | h)
    ·exact h
    ·exact absurd h.symm hij
 -- what the operation looks at is as in the lexical order
 have hlook : ∀ t ∈ y.looksAt ops,AV.sat F ownC κ w (look (E j) t) (a.tmps.getD t undef):=fun t ht=>by
  refine henv t j (by omega) fun i o hi hd=>?_
  by_cases hij : i = j
  ·subst hij; constructor
   ·intro h;omega
   ·intro h;exact absurd h hnot
  ·refine clash_before hc hM hy hr hi hij ⟨fun _ => clash_of_not fun h => ?_, fun _ => clash_of_not fun h => ?_⟩
   ·exact (Oper.apart_spec h.1).1 t hd ht
   ·exact (Oper.apart_spec h.2).1 t hd ht
 have hlsz : ∀ t ∈ y.looksAt ops,t < a.tmps.size:=fun t ht=>by rw [hM.tm];exact (hdst j y hy).2 t ht
 obtain ⟨hE,hst⟩:=hs j y hy
 -- the frame behind it
 have next : ∀ (own' : List Ent) (κ' : List (Option Nat)) (v : Value) (w' : World), (∀ t, t ∈ modsAt ps j → own'[t]? = (O (j + 1))[t]?) → (∀ t, t ∉ modsAt ps j → own'[t]? = ownC[t]?) →
  AV.sat F own' κ' w' (r j) v → OwnSat F own' κ' w' → Tr F m ownC κ w own' κ' w' → K (a.put y.dst v) w':=fun own' κ' v w' hmod hnmod hrv hown' htr=>by
  refine hK _ κ' w' ⟨by simp [hM.size],fun i o hi ho e he hb=>?_,by rw [put_size];exact hM.tm,by rw [put_defs];exact hM.df,own',fun t i hi hcur=>?_,hown',htr0.trans htr,fun t i hi hcur=>?_⟩
  ·rw [hset] at hi ⊢
   rcases hi with hi | rfl
   ·exact .inl (hM.down i o hi ho e he hb)
   ·obtain rfl : y = o := by rw [hy] at ho; simpa using ho
    exact .inl (hall e he hb)
  ·by_cases ht : t ∈ modsAt ps j
   ·rw [hmod t ht]
    have hji : j < i:=(hcur j hjl ht).2 ((hset j).2 (.inr rfl))
    have:=own_same hs t (i - (j + 1)) (j + 1) (by omega) fun i' h1 h2 hti=>by
     have hil : i' < ops.size:=by omega
     have h3:=(hset _).1 ((hcur i' hil hti).1 (by omega))
     have h4:=clash_before hc hM hy hr (Array.getElem?_eq_getElem hil) (by omega) ⟨fun h=>by omega,fun _=>clash_mods ht hti⟩
     have:=h4.2 (h3.resolve_right (by omega))
     omega
    rw [show j + 1 + (i - (j + 1)) = i from by omega] at this
    exact this.symm
   ·rw [hnmod t ht]
    refine hC t i hi fun i' hi' hti=>?_
    rw [hcur i' hi' hti,hset]
    have : i' ≠ j:=fun e=>by subst e;exact ht hti
    simp [this]
  ·by_cases hd : y.dst = some t
   ·have hji : j < i := (hcur j y hy hd).2 ((hset j).2 (.inr rfl))
    have hval : look (E i) t = r j:=by
     have : ∀ d,j + 1 + d ≤ i → look (E (j + 1 + d)) t = r j:=fun d=>by
      induction d with
      | zero=>intro _;rw [Nat.add_zero,hE,hd,look_putE_self]
      | succ d ih =>
        intro hle
        have hlt : j + 1 + d < ops.size:=by omega
        have ho:=Array.getElem?_eq_getElem hlt
        rw [show j + 1 + (d + 1) = j + 1 + d + 1 from by omega,(hs _ _ ho).1,look_putE_ne _ _ ?_]
        ·exact ih (by omega)
        ·intro hdt
         have h1:=(hset _).1 ((hcur _ _ ho hdt).1 (by omega))
         have h2:=clash_before hc hM hy hr ho (by omega) ⟨fun h=>by omega,fun _=>clash_of_not fun h=>(Oper.apart_spec h.1).2.1 t hd hdt⟩
         have:=h2.2 (h1.resolve_right (by omega))
         omega
     have:=this (i - (j + 1)) (by omega)
     rwa [show j + 1 + (i - (j + 1)) = i from by omega] at this
    rw [hval]
    have : t < a.tmps.size:=by rw [hM.tm];exact (hdst j y hy).1 t hd
    rw [hd,put_getD_self this];exact hrv
   ·rw [put_getD_ne hd]
    refine htr.keep _ _ (henv t i hi fun x o hx hxd=>?_)
    rw [hcur x o hx hxd,hset]
    have : x ≠ j := fun e => by subst e; rw [hy] at hx; obtain rfl : y = o := by simpa using hx
                                exact hd hxd
    simp [this]
 -- an entry that clashes is as in the lexical order
 have hent : ∀ t,(∀ i,i < ops.size → i ≠ j → t ∈ modsAt ps i → clash ops (ops.getD i default) y (ps.getD i .off) (ps.getD j .off) = true ∧ clash ops y (ops.getD i default) (ps.getD j .off) (ps.getD i .off) = true) → ownC[t]? = (O j)[t]?:=fun t h=>by
  refine hC t j (by omega) fun i hi ht=>?_
  by_cases hij : i = j
  ·subst hij; constructor
   ·intro h;omega
   ·intro h;exact absurd h hnot
  ·obtain ⟨h1, h2⟩ := h i hi hij ht
   rw [getD_of (Array.getElem?_eq_getElem hi)] at h1 h2
   exact clash_before hc hM hy hr (Array.getElem?_eq_getElem hi) hij ⟨fun _=>h1,fun _=>h2⟩
 unfold wpOpIn
 simp only [hy]
 -- the frame that the step asks: what it sees,no more
 have hmini : ∀ own κ w,EnvSat F own κ w ((seenOf y).map fun t=>(t,look (E j) t)) a ↔ ∀ t ∈ (seenOf y),AV.sat F own κ w (look (E j) t) (a.tmps.getD t undef):=fun own κ w=>by
  have hl : ∀ (l : List Nat) t,look (l.map fun t=>(t,look (E j) t)) t = if t ∈ l then look (E j) t else .top:=fun l t=>by
   induction l with
   | nil=>rfl
   | cons x xs ih =>
     simp only [List.map_cons,look,ih]
     by_cases h : x = t
     ·subst h;simp
     ·simp [h,Ne.symm h]
  constructor
  ·intro h t ht;have:=h t;rw [hl,if_pos ht] at this;exact this
  ·intro h t; rw [hl]; split
   ·exact h t ‹_›
   ·simp [AV.sat]
 have hagree : ∀ t ∈ (seenOf y),look ((seenOf y).map fun t=>(t,look (E j) t)) t = look (E j) t:=fun t ht=>by
  have hl : ∀ (l : List Nat),t ∈ l → look (l.map fun t=>(t,look (E j) t)) t = look (E j) t:=fun l=>by
   induction l with
   | nil=>intro h;cases h
   | cons x xs ih =>
     intro h
     simp only [List.map_cons,look]
     by_cases hx : x = t
     ·subst hx;simp
     ·rw [if_neg hx];exact ih ((List.mem_cons.1 h).resolve_left (Ne.symm hx))
  exact hl _ ht
 cases hp : ps.getD j .off with
 | off =>
   rw [hp] at hst
   obtain ⟨hg,hrj,hO⟩:=hst
   rw [wanted_off hg hlook]
   simp only [Bool.false_eq_true,if_false]
   refine ⟨fun f _=>hG.fn f,?_⟩
   exact next ownC κ undef w (fun t ht=>by unfold modsAt at ht;rw [hp] at ht;cases ht) (fun _ _=>rfl) (by rw [hrj];simp [AV.sat,Dat.sat]) hown (Tr.refl _ _ _ _ _)
 | q fp =>
   rw [hp] at hst
   obtain ⟨hg,hq,hO⟩:=hst
   rw [wanted_on hg hlook hlsz]
   simp only [if_true]
   have hsame : same fp (O j) ownC:=fun t ht=>hent t fun i hi hij hti=>by
    rw [hp]
    unfold modsAt at hti
    cases hpi : ps.getD i .off with
    | off=>rw [hpi] at hti;cases hti
    | q _=>rw [hpi] at hti;cases hti
    | e mod => rw [hpi] at hti
               have h1 : fp.any mod.contains = true:=List.any_eq_true.2 ⟨t,ht,List.contains_iff_mem.2 hti⟩
               simp only [clash,h1,Bool.or_true,and_self]
    | l mod fp' => rw [hpi] at hti
                   have h1 : fp.any mod.contains = true:=List.any_eq_true.2 ⟨t,ht,List.contains_iff_mem.2 hti⟩
                   simp only [clash,h1,Bool.or_true,and_self]
   have h1:=hq _ ownC hagree hsame F κ a w ((hmini _ _ _).2 fun t ht=>hlook t (seen_looks ht)) hown hm
   exact wpIn_of_out hG h1 fun v w' ⟨κ',h2,h3,h4⟩=>next ownC κ' v w' (fun t ht=>by unfold modsAt at ht;rw [hp] at ht;cases ht) (fun _ _=>rfl) h2 h3 h4
 | e mod =>
   rw [hp] at hst
   obtain ⟨hg,hq⟩:=hst
   rw [wanted_on hg hlook hlsz]
   simp only [if_true]
   have hOk : ownC = O j:=List.ext_getElem? fun t=>hent t fun i hi hij hti=>by
    rw [hp]
    unfold modsAt at hti
    cases hpi : ps.getD i .off with
    | off=>rw [hpi] at hti;cases hti
    | q _=>rw [hpi] at hti;cases hti
    | e mod=>simp [clash]
    | l mod fp'=>simp [clash]
   have h1:=hq.1 _ hagree F κ a w ((hmini _ _ _).2 fun t ht=>by rw [← hOk];exact hlook t (seen_looks ht)) (by rw [← hOk];exact hown) hm
   refine wpIn_of_out hG h1 fun v w' ⟨κ',h2,h3,h4⟩=>next (O (j + 1)) κ' v w' (fun _ _=>rfl) (fun t ht=>?_) h2 h3 (by rw [hOk];exact h4)
   rw [hOk]
   unfold modsAt at ht;rw [hp] at ht
   exact hq.2 t ht
 | l mod fp =>
   rw [hp] at hst
   obtain ⟨hg,hq⟩:=hst
   rw [wanted_on hg hlook hlsz]
   simp only [if_true]
   have hsame : same (mod ++ fp) (O j) ownC:=fun t ht=>hent t fun i hi hij hti=>by
    rw [hp]
    unfold modsAt at hti
    cases hpi : ps.getD i .off with
    | off=>rw [hpi] at hti;cases hti
    | q _=>rw [hpi] at hti;cases hti
    | e mod=>simp [clash]
    | l mod' fp' => rw [hpi] at hti
                    have h1 : mod'.any (mod ++ fp).contains = true:=List.any_eq_true.2 ⟨t,hti,List.contains_iff_mem.2 ht⟩
                    simp only [clash,h1,Bool.or_true,Bool.true_or,and_self]
   obtain ⟨own2',h0,h5,h6⟩:=hq.1 _ ownC hagree hsame
   have h1:=h0 F κ a w ((hmini _ _ _).2 fun t ht=>hlook t (seen_looks ht)) hown hm
   exact wpIn_of_out hG h1 fun v w' ⟨κ',h2,h3,h4⟩=>next own2' κ' v w' (fun t ht=>by unfold modsAt at ht;rw [hp] at ht;exact h5 t ht) (fun t ht=>by unfold modsAt at ht;rw [hp] at ht;exact h6 t ht) h2 h3 h4
end
section
variable {P : Program} {m n : Nat} {ds : List Deferred} {own0 : List Ent} {κ0 : List (Option Nat)} {w0 : World} {ops : Array Oper} {E : Nat → List (Nat × AV)} {O : Nat → List Ent} {r : Nat → AV} {ps : List Part}
def openOps (ops : Array Oper) (listed : Array Bool) : List Nat:=(List.range ops.size).filter fun i=>!listed.getD i false
theorem ready_nil {F : Nat → Prop} {listed : Array Bool} {a : Act} {κ : List (Option Nat)} {w : World} (hc : chkOps ops ps = true) (hM : Mid ds F m own0 κ0 w0 n ops E O ps listed a κ w) (h : Region.ready .any ops listed = []) : ∀ i,i < ops.size → inX listed i:=by
 intro i
 induction i using Nat.strongRecOn with
 | _ i ih =>
   intro hi
   cases hx : listed.getD i false with
   | true=>exact hx
   | false =>
     have his : i < listed.size:=by rw [hM.size];exact hi
     have : i ∈ Region.ready .any ops listed:=mem_ready.2 ⟨by simpa [Array.getD_eq_getD_getElem?,his] using hx,_,Array.getElem?_eq_getElem hi,fun e he hb=>by
      have hlt:=chk_edge hc (Array.getElem?_eq_getElem hi) he hb
      exact ih e.on hlt (by omega)⟩
     rw [h] at this;cases this
theorem open_lt {listed : Array Bool} {j : Nat} (hj : j ∈ Region.ready .any ops listed) (hsz : listed.size = ops.size) : (openOps ops (listed.setIfInBounds j true)).length < (openOps ops listed).length:=by
 obtain ⟨h0,y,hy,_⟩:=mem_ready.1 hj
 have hjl : j < ops.size:=(Array.getElem?_eq_some_iff.1 hy).1
 have hjs : j < listed.size:=by omega
 have h0' : listed.getD j false = false:=by simp [Array.getD_eq_getD_getElem?,hjs] at h0 ⊢;exact h0
 have e : openOps ops (listed.setIfInBounds j true) = (openOps ops listed).filter fun i=>!(listed.setIfInBounds j true).getD i false:=by
  unfold openOps
  rw [List.filter_filter]
  congr 1
  funext i
  by_cases hij : j = i
  ·subst hij;simp [Array.getD_eq_getD_getElem?,hjs]
  ·rw [getD_set_ne false hij];simp
 rw [e]
 refine List.length_filter_lt_length_iff_exists.2 ⟨j,?_,?_⟩
 ·unfold openOps;exact List.mem_filter.2 ⟨by simpa using hjl,by rw [h0'];rfl⟩
 ·simp [Array.getD_eq_getD_getElem?,hjs]
theorem wpAny_of_mid {G : Fence} (hG : Good G) {Q : Exit → Act → World → Prop} {F : Nat → Prop} (hc : chkOps ops ps = true) (hs : stepAll P m ops E O r ps)
 (hdst : ∀ (i : Nat) (o : Oper),ops[i]? = some o → (∀ d,o.dst = some d → d < n) ∧ ∀ t ∈ o.looksAt ops,t < n) (hm : m ≤ κ0.length)
 (hQ : ∀ a κ w,a.tmps.size = n → a.defers = ds → OwnSat F (O ops.size) κ w → EnvSat F (O ops.size) κ w (E ops.size) a → Tr F m own0 κ0 w0 (O ops.size) κ w → Q .normal a w) :
 ∀ (fuel : Nat) (listed : Array Bool) (a : Act) (κ : List (Option Nat)) (w : World),(openOps ops listed).length ≤ fuel → Mid ds F m own0 κ0 w0 n ops E O ps listed a κ w → wpAnyIn G 0 P .any ops Q fuel listed a w:=by
 have fin : ∀ listed a κ w,Mid ds F m own0 κ0 w0 n ops E O ps listed a κ w → (∀ i,i < ops.size → inX listed i) → Q .normal a w:=fun listed a κ w hM hall=>by
  obtain ⟨ownC,hC,hown,htr,henv⟩:=hM.cur
  have hO : O ops.size = ownC:=(List.ext_getElem? fun t=>hC t ops.size (Nat.le_refl _) fun i hi _=>⟨fun _=>hall i hi,fun _=>hi⟩).symm
  refine hQ a κ w hM.tm hM.df (by rw [hO];exact hown) (fun t=>?_) (by rw [hO];exact htr)
  rw [hO]
  refine henv t ops.size (Nat.le_refl _) fun i o hi _=>?_
  have hil : i < ops.size:=(Array.getElem?_eq_some_iff.1 hi).1
  exact ⟨fun _=>hall i hil,fun _=>hil⟩
 intro fuel
 induction fuel with
 | zero =>
   intro listed a κ w hf hM
   have hnil : openOps ops listed = []:=List.eq_nil_of_length_eq_zero (by omega)
   have hall : ∀ i,i < ops.size → inX listed i:=fun i hi=>by
    cases hx : listed.getD i false with
    | true=>exact hx
    | false =>
      have : i ∈ openOps ops listed:=List.mem_filter.2 ⟨by simpa using hi,by rw [hx];rfl⟩
      rw [hnil] at this;cases this
   refine ⟨?_,fin listed a κ w hM hall⟩
   cases hr : Region.ready .any ops listed with
   | nil=>rfl
   | cons x xs =>
     have hx : x ∈ Region.ready .any ops listed:=by rw [hr];simp
     have:=open_lt hx hM.size
     omega
 | succ fuel ih =>
   intro listed a κ w hf hM
   refine ⟨fun h=>fin listed a κ w hM (ready_nil hc hM h),fun j hj=>?_⟩
   refine mid_step hG hc hs hdst hm hM hj fun a' κ' w' hM'=>ih _ a' κ' w' ?_ hM'
   have:=open_lt hj hM.size
   omega
end
/-! ### States and statements -/
structure St where
 env : List (Nat × AV)
 own : List Ent
structure Root where
 w : World
 own : List Ent
def mark (D : Nat) : Deferred:={ target:=.collected D,args:=#[] }
def Marks (W : Root) (κ : List (Option Nat)) (w : World) (ds : List Deferred) : Prop :=
 ∃ Ds : List Nat,ds = Ds.map mark ∧ Ds.Nodup ∧ ∀ D ∈ Ds,W.w.heap.size ≤ D ∧ some D ∉ κ ∧ w.heap[D]? = some (.deferred (some []))
theorem Marks.nil {W : Root} {κ : List (Option Nat)} {w : World} : Marks W κ w []:=⟨[],rfl,List.nodup_nil,fun D h=>by cases h⟩
theorem Marks.keep {W : Root} {κ κ' : List (Option Nat)} {w w' : World} {ds : List Deferred} (h : Marks W κ w ds) (hold : ∀ b,b < w.heap.size → some b ∉ κ → w'.heap[b]? = w.heap[b]?) (hnew : ∀ b,some b ∈ κ' → some b ∈ κ ∨ w.heap.size ≤ b) : Marks W κ' w' ds:=by
 obtain ⟨Ds,h1,h2,h3⟩:=h
 refine ⟨Ds,h1,h2,fun D hD=>?_⟩
 obtain ⟨h4,h5,h6⟩:=h3 D hD
 have hlt : D < w.heap.size:=(Array.getElem?_eq_some_iff.1 h6).1
 refine ⟨h4,fun hk=>?_,(hold D hlt h5).trans h6⟩
 rcases hnew D hk with h7 | h7
 ·exact h5 h7
 ·omega
theorem Marks.step {F : Nat → Prop} {m : Nat} {W : Root} {own own' : List Ent} {κ κ' : List (Option Nat)} {w w' : World} {ds : List Deferred} (h : Marks W κ w ds) (ht : Tr F m own κ w own' κ' w') : Marks W κ' w' ds:=h.keep ht.old ht.new
structure Sim (F : Nat → Prop) (W : Root) (κ0 : List (Option Nat)) (n : Nat) (s : St) (a : Act) (κ : List (Option Nat)) (w : World) : Prop where
 tm : a.tmps.size = n
 df : Marks W κ w a.defers
 env : EnvSat F s.own κ w s.env a
 own : OwnSat F s.own κ w
 pre : κ0.length ≤ κ.length
 os : w.os = W.w.os
 tape : w.tape = W.w.tape
 output : w.output = W.w.output
 size : W.w.heap.size ≤ w.heap.size
 old : ∀ b,b < W.w.heap.size → some b ∉ κ0 → w.heap[b]? = W.w.heap[b]?
 new : ∀ b,some b ∈ κ → some b ∈ κ0 ∨ W.w.heap.size ≤ b
 len : W.own.length = κ0.length
 keep : ∀ x u,AV.sat F W.own κ0 W.w x u → AV.sat F s.own κ w x u
structure Ctx where
 G : Fence
 H : (Nat → Prop) → Root → List (Option Nat) → Prop
 good : Good G
def Ctx.plain : Ctx:=⟨Fence.wide,fun _ _ _=>True,.inl rfl⟩
def AWPG (Γ : Ctx) (P : Program) (n m : Nat) (c : Code) (Q : Exit → St → Prop) (s : St) : Prop :=
 ∀ (F : Nat → Prop) (W : Root) (κ0 : List (Option Nat)) (a : Act) (κ : List (Option Nat)) (w : World),Γ.H F W κ0 → κ0.length = m → Sim F W κ0 n s a κ w → c.wpIn Γ.G 0 P (fun e a' w'=>∃ s' κ',Q e s' ∧ Sim F W κ0 n s' a' κ' w') a w
abbrev AWP:=AWPG Ctx.plain
theorem AWP.wp {P : Program} {n m : Nat} {c : Code} {Q : Exit → St → Prop} {s : St} (h : AWP P n m c Q s) (F : Nat → Prop) (W : Root) (κ0 : List (Option Nat)) (a : Act) (κ : List (Option Nat)) (w : World) (hm : κ0.length = m) (hs : Sim F W κ0 n s a κ w) : c.wp P (fun e a' w'=>∃ s' κ',Q e s' ∧ Sim F W κ0 n s' a' κ' w') a w :=
 wpIn_wide.1 (h F W κ0 a κ w trivial hm hs)
def ACont (P : Program) (n m : Nat) (K : St → Prop) (Q : Exit → St → Prop) : Exit → St → Prop
 | .normal,s=>K s
 | e,s=>Q e s
def ABlock (id : Nat) (Q : Exit → St → Prop) : Exit → St → Prop
 | .exit id',s=>if id' = id then Q .normal s else Q (.exit id') s
 | e,s=>Q e s
section
variable {Γ : Ctx} {P : Program} {n m : Nat} {Q : Exit → St → Prop} {s : St}
theorem AWP.skip (h : Q .normal s) : AWPG Γ P n m .skip Q s:=fun F W κ0 a κ w hH hm hs=>wpIn_skip ⟨s,κ,h,hs⟩
theorem AWP.exit {id : Nat} (h : Q (.exit id) s) : AWPG Γ P n m (.exit id) Q s:=fun F W κ0 a κ w hH hm hs=>wpIn_exit ⟨s,κ,h,hs⟩
theorem AWP.ret (h : Q .ret s) : AWPG Γ P n m .ret Q s:=fun F W κ0 a κ w hH hm hs=>wpIn_ret ⟨s,κ,h,hs⟩
theorem AWP.seq {x y : Code} (h : AWPG Γ P n m x (ACont P n m (AWPG Γ P n m y Q) Q) s) : AWPG Γ P n m (.seq x y) Q s:=fun F W κ0 a κ w hH hm hs=>by
 refine wpIn_seq (wpIn_mono (h F W κ0 a κ w hH hm hs) fun e a' w' he=>?_)
 obtain ⟨s',κ',hq,hs'⟩:=he
 cases e with
 | normal=>exact hq F W κ0 a' κ' w' hH hm hs'
 | _=>exact ⟨s',κ',hq,hs'⟩
theorem AWP.block {id : Nat} {x : Code} (h : AWPG Γ P n m x (ABlock id Q) s) : AWPG Γ P n m (.block id x) Q s:=fun F W κ0 a κ w hH hm hs=>by
 refine wpIn_block (wpIn_mono (h F W κ0 a κ w hH hm hs) fun e a' w' he=>?_)
 obtain ⟨s',κ',hq,hs'⟩:=he
 cases e with
 | exit id' =>
   simp only [Exit.inBlock]
   simp only [ABlock] at hq
   split
   ·rename_i h1;rw [if_pos h1] at hq;exact ⟨s',κ',hq,hs'⟩
   ·rename_i h1;rw [if_neg h1] at hq;exact ⟨s',κ',hq,hs'⟩
 | _=>exact ⟨s',κ',hq,hs'⟩
theorem AWP.mono {c : Code} {Q' : Exit → St → Prop} (h : AWPG Γ P n m c Q s) (hq : ∀ e s,Q e s → Q' e s) : AWPG Γ P n m c Q' s:=fun F W κ0 a κ w hH hm hs =>
 wpIn_mono (h F W κ0 a κ w hH hm hs) fun e a' w' ⟨s',κ',h1,h2⟩=>⟨s',κ',hq _ _ h1,h2⟩
theorem AWP.cond {c : Operand} {x y : Code} (b : Bool) (hc : lookO s.env c = .d (.v (.bool b))) (ht : b = true → AWPG Γ P n m x Q s) (hf : b = false → AWPG Γ P n m y Q s) : AWPG Γ P n m (.cond c x y) Q s:=fun F W κ0 a κ w hH hm hs=>by
 have h1:=hs.env.eval c
 rw [hc] at h1
 simp only [AV.sat,Dat.sat] at h1
 exact wpIn_cond_split h1 (fun h=>ht h F W κ0 a κ w hH hm hs) (fun h=>hf h F W κ0 a κ w hH hm hs)
theorem AWP.loop {body : Code} {α : Type} (pre : α → Prop) (st : α → St) (μ : α → Nat) (x0 : α) (h0 : pre x0) (hs0 : s = st x0)
 (hr : ∀ x,pre x → AWPG Γ P n m body (ACont P n m (fun s'=>∃ x',pre x' ∧ μ x' < μ x ∧ s' = st x') Q) (st x)) : AWPG Γ P n m (.loop body) Q s:=fun F W κ0 a κ w hH hm hs=>by
 subst hs0
 refine wpIn_loop_ghost (fun k a w=>∃ x κ,pre x ∧ μ x = k ∧ Sim F W κ0 n (st x) a κ w) (μ x0) ⟨x0,κ,h0,rfl,hs⟩ fun k a w ⟨x,κ,hp,hk,hs⟩=>?_
 refine wpIn_mono (hr x hp F W κ0 a κ w hH hm hs) fun e a' w' ⟨s',κ',hq,hs'⟩=>?_
 cases e with
 | normal =>
   obtain ⟨x',h1,h2,rfl⟩:=hq
   exact ⟨μ x',by omega,x',κ',h1,rfl,hs'⟩
 | _=>exact ⟨s',κ',hq,hs'⟩
theorem Sim.step {F : Nat → Prop} {W : Root} {κ0 : List (Option Nat)} {s : St} {a a' : Act} {κ κ' : List (Option Nat)} {w w' : World} {env' : List (Nat × AV)} {own' : List Ent} (hm : κ0.length = m) (hs : Sim F W κ0 n s a κ w)
 (ht : Tr F m s.own κ w own' κ' w') (htm : a'.tmps.size = n) (hdf : a'.defers = a.defers) (he : EnvSat F own' κ' w' env' a') (ho : OwnSat F own' κ' w') : Sim F W κ0 n ⟨env',own'⟩ a' κ' w':=by
 refine ⟨htm,hdf ▸ hs.df.step ht,he,ho,?_,ht.os.trans hs.os,ht.tape.trans hs.tape,ht.output.trans hs.output,Nat.le_trans hs.size ht.size,fun b hb hk=>?_,fun b hb=>?_,hs.len,fun x u hx=>ht.keep x u (hs.keep x u hx)⟩
 ·have := ht.pre (by rw [← hm]; exact hs.pre)
  rw [hm];exact this
 ·refine (ht.old b (Nat.lt_of_lt_of_le hb hs.size) fun h2 => ?_).trans (hs.old b hb hk)
  rcases hs.new b h2 with h3 | h3
  ·exact hk h3
  ·omega
 ·rcases ht.new b hb with h1 | h1
  ·exact hs.new b h1
  ·have:=hs.size;exact .inr (by omega)
end
def fitsB (n : Nat) (ops : Array Oper) : Bool:=ops.all fun o=>(match o.dst with | some d=>decide (d < n) | none=>true) && (o.looksAt ops).all fun t=>decide (t < n)
theorem fitsB_spec {n : Nat} {ops : Array Oper} (h : fitsB n ops = true) : ∀ (i : Nat) (o : Oper),ops[i]? = some o → (∀ d,o.dst = some d → d < n) ∧ ∀ t ∈ o.looksAt ops,t < n:=fun i o hi=>by
 have:=Array.all_eq_true_iff_forall_mem.1 h o (Array.mem_of_getElem? hi)
 simp only [Bool.and_eq_true] at this
 refine ⟨fun d hd=>?_,fun t ht=>?_⟩
 ·rw [hd] at this;simpa using this.1
 ·simpa using List.all_eq_true.1 this.2 t ht
theorem seq_of_chain {G : Fence} (hG : Good G) {P : Program} {m n : Nat} {ds : List Deferred} {own0 : List Ent} {κ0 : List (Option Nat)} {w0 : World} {ops : Array Oper} {E : Nat → List (Nat × AV)} {O : Nat → List Ent} {r : Nat → AV} {ps : List Part} {F : Nat → Prop} {Q : Exit → Act → World → Prop}
 (hs : stepAll P m ops E O r ps) (hdst : ∀ (i : Nat) (o : Oper),ops[i]? = some o → (∀ d,o.dst = some d → d < n) ∧ ∀ t ∈ o.looksAt ops,t < n) (hm : m ≤ κ0.length)
 (hQ : ∀ a κ w,a.tmps.size = n → a.defers = ds → OwnSat F (O ops.size) κ w → EnvSat F (O ops.size) κ w (E ops.size) a → Tr F m own0 κ0 w0 (O ops.size) κ w → Q .normal a w) :
 ∀ (d k : Nat) (a : Act) (κ : List (Option Nat)) (w : World),k + d = ops.size → a.tmps.size = n → a.defers = ds → OwnSat F (O k) κ w → EnvSat F (O k) κ w (E k) a → Tr F m own0 κ0 w0 (O k) κ w → wpOpsIn G 0 P ops Q (List.range' k d) a w:=by
 intro d
 induction d with
 | zero =>
   intro k a κ w hk htm hdf ho he ht
   obtain rfl : k = ops.size:=by omega
   exact hQ a κ w htm hdf ho he ht
 | succ d ih =>
   intro k a κ w hk htm hdf ho he ht
   have hlt : k < ops.size:=by omega
   have hy:=Array.getElem?_eq_getElem hlt
   generalize ops[k] = y at hy
   obtain ⟨hE,hst⟩:=hs k y hy
   rw [List.range'_succ,wpOpsIn_cons]
   unfold wpOpIn
   simp only [hy]
   have next : ∀ (κ' : List (Option Nat)) (v : Value) (w' : World),AV.sat F (O (k + 1)) κ' w' (r k) v → OwnSat F (O (k + 1)) κ' w' → Tr F m (O k) κ w (O (k + 1)) κ' w' → wpOpsIn G 0 P ops Q (List.range' (k + 1) d) (a.put y.dst v) w':=fun κ' v w' hrv hown' htr=>by
    refine ih (k + 1) _ κ' w' (by omega) (by rw [put_size];exact htm) (by rw [put_defs];exact hdf) hown' (fun t=>?_) (ht.trans htr)
    rw [hE]
    by_cases hd : y.dst = some t
    ·rw [hd,look_putE_self,put_getD_self (by rw [htm];exact (hdst k y hy).1 t hd)];exact hrv
    ·rw [look_putE_ne _ _ hd,put_getD_ne hd];exact htr.keep _ _ (he t)
   cases hp : ps.getD k .off with
   | off =>
     rw [hp] at hst
     obtain ⟨hg,hrj,hO⟩:=hst
     rw [wanted_off hg fun t _=>he t]
     simp only [Bool.false_eq_true,if_false]
     refine ⟨fun f _=>hG.fn f,?_⟩
     refine next κ undef w ?_ (by rw [hO];exact ho) (by rw [hO];exact Tr.refl _ _ _ _ _)
     rw [hrj];simp [AV.sat,Dat.sat]
   | q fp =>
     rw [hp] at hst
     obtain ⟨hg,hq,hO⟩:=hst
     rw [wanted_on hg (fun t _=>he t) fun t ht=>by rw [htm];exact (hdst k y hy).2 t ht]
     simp only [if_true]
     have h1:=hq (E k) (O k) (fun _ _=>rfl) (fun _ _=>rfl) F κ a w he ho (ht.le hm)
     exact (wpIn_of_out hG h1 fun v w' ⟨κ',h2,h3,h4⟩=>next κ' v w' (by rw [hO];exact h2) (by rw [hO];exact h3) (by rw [hO];exact h4))
   | e mod =>
     rw [hp] at hst
     obtain ⟨hg,hq⟩:=hst
     rw [wanted_on hg (fun t _=>he t) fun t ht=>by rw [htm];exact (hdst k y hy).2 t ht]
     simp only [if_true]
     have h1:=hq.1 (E k) (fun _ _=>rfl) F κ a w he ho (ht.le hm)
     exact (wpIn_of_out hG h1 fun v w' ⟨κ',h2,h3,h4⟩=>next κ' v w' h2 h3 h4)
   | l mod fp =>
     rw [hp] at hst
     obtain ⟨hg,hq⟩:=hst
     rw [wanted_on hg (fun t _=>he t) fun t ht=>by rw [htm];exact (hdst k y hy).2 t ht]
     simp only [if_true]
     obtain ⟨own2',h0,h5,h6⟩:=hq.1 (E k) (O k) (fun _ _=>rfl) (fun _ _=>rfl)
     have e2 : own2' = O (k + 1):=List.ext_getElem? fun t=>by
      by_cases ht : t ∈ mod
      ·exact h5 t ht
      ·rw [h6 t ht,hq.2 t ht]
     subst e2
     have h1:=h0 F κ a w he ho (ht.le hm)
     exact (wpIn_of_out hG h1 fun v w' ⟨κ',h2,h3,h4⟩=>next κ' v w' h2 h3 h4)
theorem OwnSat.drawn {F : Nat → Prop} {own : List Ent} {κ : List (Option Nat)} {w : World} (h : OwnSat F own κ w) (m k : Nat) : OwnSat F own κ { w with drawn:=k } ∧ Tr F m own κ w own κ { w with drawn:=k } :=
 step_more (w':={ w with drawn:=k }) h rfl rfl rfl (Nat.le_refl _) fun _ _=>rfl
section
variable {Γ : Ctx} {P : Program} {n m : Nat} {Q : Exit → St → Prop} {s : St}
theorem AWP.region {id : Nat} {ops : Array Oper} (hf : fitsB n ops = true) (h : Walk P m ops (fun _ env own=>Q .normal ⟨env,own⟩) [] ops.toList s.env s.own) : AWPG Γ P n m (.region id ops false) Q s:=fun F W κ0 a κ w hH hm hs=>by
 obtain ⟨E,O,r,ps,h1,h2,h3,h4,h5⟩:=walk_chain h
 have hle : m ≤ κ.length:=by rw [← hm];exact hs.pre
 refine wpIn_region ?_
 rw [List.range_eq_range']
 refine seq_of_chain Γ.good (own0:=s.own) (κ0:=κ) (w0:=w) (E:=E) (O:=O) (r:=r) (ps:=ps) (fun k o hk=>h4 k o (by simpa using hk)) (fitsB_spec hf) hle (fun a' κ' w' htm hdf ho he ht=>?_) ops.size 0 a κ w (by omega) hs.tm rfl (by rw [h2];exact hs.own) (by rw [h1,h2];exact hs.env) (by rw [h2];exact Tr.refl _ _ _ _ _)
 simp only [Array.length_toList] at h5
 exact ⟨_,κ',h5,hs.step hm ht htm hdf he ho⟩
theorem AWP.regionD {id : Nat} {ops : Array Oper} (hmo : P.follows .mixedOrders = true) (hf : fitsB n ops = true) (h : Walk P m ops (fun done env own=>chkOps ops done.reverse = true ∧ Q .normal ⟨env,own⟩) [] ops.toList s.env s.own) : AWPG Γ P n m (.region id ops true) Q s:=fun F W κ0 a κ w hH hm hs=>by
 obtain ⟨E,O,r,ps,h1,h2,h3,h4,h5,h6⟩:=walk_chain h
 have hle : m ≤ κ.length:=by rw [← hm];exact hs.pre
 obtain ⟨hd1,hd2⟩:=hs.own.drawn m (w.drawn + 1)
 refine wpIn_region_any hmo ?_
 simp only [Array.length_toList] at h6
 have hc : chkOps ops ps = true:=by simpa using h5
 refine wpAny_of_mid Γ.good (own0 := s.own) (κ0 := κ) (w0 := w) (F := F) (E := E) (O := O) (r := r) (ps := ps) hc (fun k o hk => h4 k o (by simpa using hk)) (fitsB_spec hf) hle (fun a' κ' w' htm hdf ho he ht => ?_) ops.size _ a κ _ ?_
  ⟨by simp,fun k o hk=>?_,hs.tm,rfl,O 0,fun t j hj hcur=>?_,by rw [h2];exact hd1,by rw [h2];exact hd2,fun t j hj hcur=>?_⟩
 ·exact ⟨_,κ',h6,hs.step hm ht htm hdf he ho⟩
 ·unfold openOps;exact Nat.le_trans (List.length_filter_le _ _) (by simp)
 ·unfold inX at hk
  by_cases hlt : k < ops.size<;>simp [Array.getD_eq_getD_getElem?,hlt] at hk
 ·have:=own_same (E:=E) (r:=r) (ps:=ps) (P:=P) (m:=m) (ops:=ops) (O:=O) (fun k o hk=>h4 k o (by simpa using hk)) t j 0 (by omega) fun i _ hi2 hti=>by
   have hlt : i < ops.size:=by omega
   have:=(hcur i hlt hti).1 (by omega)
   unfold inX at this
   simp [Array.getD_eq_getD_getElem?,hlt] at this
  rw [Nat.zero_add] at this
  exact this.symm
 ·rw [h2]
  have : look (E j) t = look (E 0) t:=by
   have hgo : ∀ d,d ≤ j → look (E d) t = look (E 0) t:=fun d=>by
    induction d with
    | zero=>intro _;rfl
    | succ d ih =>
      intro hd
      have hlt : d < ops.size:=by omega
      have hy:=Array.getElem?_eq_getElem hlt
      rw [(h4 d ops[d] (by rw [Array.getElem?_toList];exact hy)).1,look_putE_ne _ _ ?_]
      ·exact ih (by omega)
      ·intro hdt
       have:=(hcur d _ hy hdt).1 (by omega)
       unfold inX at this
       simp [Array.getD_eq_getD_getElem?,hlt] at this
   exact hgo j (Nat.le_refl _)
  rw [this,h1]
  exact hd2.keep _ _ (hs.env t)
end
end
section
/-! ### How a rule is shown -/
theorem exec_v {P : Program} {s : Sem Value} {w w' : World} {v : Value} (h : s.run P w = .ok v w') : (do pure (Next.value (← s)) : Sem Next).run P w = .ok (.value v) w':=by
 simp [h]
theorem exec_u {P : Program} {s : Sem Unit} {w w' : World} (h : s.run P w = .ok () w') : (do s;pure Next.skip : Sem Next).run P w = .ok .skip w':=by
 simp [h]
section
variable {P : Program} {m : Nat} {env : List (Nat × AV)} {own : List Ent} {o : Oper} {fp : List Nat} {r : AV}
theorem Quiet.mk (h : ∀ (F : Nat → Prop) (own' : List Ent) (κ : List (Option Nat)) (a : Act) (w : World), (∀ x ∈ o.op.operands, AV.sat F own' κ w (lookO env x) (a.eval x)) → OwnSat F own' κ w → same fp own own' → m ≤ κ.length →
 OutOk P (fun v w'=>AV.sat F own' κ w' r v ∧ OwnSat F own' κ w' ∧ Tr F m own' κ w own' κ w') ((execOp a.eval o).run P w)) : Quiet P m o env own fp r:=by
 intro env' own' hag hsame F κ a w he ho hm
 have h1:=h F own' κ a w (fun x hx=>by rw [← lookO_seen hag hx];exact he.eval x) ho hsame hm
 generalize (execOp a.eval o).run P w = res at h1
 cases res with
 | ok n w' =>
   cases n<;>simp only [OutOk] at h1 ⊢
   case value v=>exact ⟨κ,h1⟩
   case skip=>exact ⟨κ,h1⟩
   case enter f args=>exact h1.mono fun e w'' ⟨v,he,h2⟩=>⟨v,he,κ,h2⟩
   case round l f tmps asn bdy=>exact RoundIn.mono h1 fun e w'' ⟨v,he,h2⟩=>⟨v,he,κ,h2⟩
 | halt x w'=>exact h1.elim
theorem Quiet.val (h : ∀ (F : Nat → Prop) (own' : List Ent) (κ : List (Option Nat)) (a : Act) (w : World), (∀ x ∈ o.op.operands, AV.sat F own' κ w (lookO env x) (a.eval x)) → OwnSat F own' κ w → same fp own own' → m ≤ κ.length →
 ∃ v,(execOp a.eval o).run P w = .ok (.value v) w ∧ AV.sat F own' κ w r v) : Quiet P m o env own fp r :=
 Quiet.mk fun F own' κ a w hx ho hs hm=>by
  obtain ⟨v,h1,h2⟩:=h F own' κ a w hx ho hs hm
  rw [h1]
  exact ⟨h2,ho,Tr.refl _ _ _ _ _⟩
theorem Quiet.more (h : ∀ (F : Nat → Prop) (own' : List Ent) (κ : List (Option Nat)) (a : Act) (w : World), (∀ x ∈ o.op.operands, AV.sat F own' κ w (lookO env x) (a.eval x)) → OwnSat F own' κ w → same fp own own' → m ≤ κ.length →
 ∃ v w',(execOp a.eval o).run P w = .ok (.value v) w' ∧ AV.sat F own' κ w' r v ∧ w'.os = w.os ∧ w'.tape = w.tape ∧ w'.output = w.output ∧ w.heap.size ≤ w'.heap.size ∧ ∀ b,b < w.heap.size → w'.heap[b]? = w.heap[b]?) : Quiet P m o env own fp r :=
 Quiet.mk fun F own' κ a w hx ho hs hm=>by
  obtain ⟨v,w',h1,h2,h3,h4,h5,h6,h7⟩:=h F own' κ a w hx ho hs hm
  rw [h1]
  obtain ⟨h8,h9⟩:=step_more (m:=m) ho h3 h4 h5 h6 h7
  exact ⟨h2,h8,h9⟩
theorem Eff.mk {own' : List Ent} {mod : List Nat} (hf : ∀ i, i ∉ mod → own'[i]? = own[i]?) (h : ∀ (F : Nat → Prop) (κ : List (Option Nat)) (a : Act) (w : World), (∀ x ∈ o.op.operands, AV.sat F own κ w (lookO env x) (a.eval x)) → OwnSat F own κ w → m ≤ κ.length →
 OutOk P (fun v w'=>∃ κ',AV.sat F own' κ' w' r v ∧ OwnSat F own' κ' w' ∧ Tr F m own κ w own' κ' w') ((execOp a.eval o).run P w)) : Eff P m o env own mod r own' :=
 ⟨fun env' hag F κ a w he ho hm=>h F κ a w (fun x hx=>by rw [← lookO_seen hag hx];exact he.eval x) ho hm,hf⟩
end
theorem sat_v {F : Nat → Prop} {own : List Ent} {κ : List (Option Nat)} {w : World} {x u : Value} : AV.sat F own κ w (.d (.v x)) u ↔ u = x:=by simp [AV.sat,Dat.sat]
theorem satL_length {F : Nat → Prop} {own : List Ent} {κ : List (Option Nat)} {w : World} : ∀ {l : List AV} {us : List Value}, AV.satL F own κ w l us → l.length = us.length
 | [],[],_=>rfl
 | x :: xs,u :: us,h=>by rw [AV.satL] at h;simp [satL_length h.2]
 | [],_ :: _,h=>by simp [AV.satL] at h
 | _ :: _,[],h=>by simp [AV.satL] at h
theorem satL_get {F : Nat → Prop} {own : List Ent} {κ : List (Option Nat)} {w : World} : ∀ {l : List AV} {us : List Value}, AV.satL F own κ w l us → ∀ (j : Nat) (x : AV), l[j]? = some x → ∃ u, us[j]? = some u ∧ AV.sat F own κ w x u
 | [],[],_,j,x,hx=>by simp at hx
 | y :: xs,u :: us,h,j,x,hx=>by
   rw [AV.satL] at h
   cases j with
   | zero => obtain rfl : y = x := by simpa using hx
             exact ⟨u,by simp,h.1⟩
   | succ j=>simpa using satL_get h.2 j x (by simpa using hx)
 | [],_ :: _,h,_,_,_=>by simp [AV.satL] at h
 | _ :: _,[],h,_,_,_=>by simp [AV.satL] at h
theorem satL_of {F : Nat → Prop} {own : List Ent} {κ : List (Option Nat)} {w : World} : ∀ {l : List AV} {us : List Value}, l.length = us.length → (∀ (j : Nat) (x : AV), l[j]? = some x → ∃ u, us[j]? = some u ∧ AV.sat F own κ w x u) → AV.satL F own κ w l us
 | [],[],_,_=>by simp [AV.satL]
 | y :: xs,u :: us,hl,h=>by
   rw [AV.satL]
   refine ⟨?_,satL_of (by simpa using hl) fun j x hx=>by simpa using h (j + 1) x (by simpa using hx)⟩
   obtain ⟨u',h1,h2⟩:=h 0 y (by simp)
   obtain rfl : u = u':=by simpa using h1
   exact h2
 | [],_ :: _,h,_=>by simp at h
 | _ :: _,[],h,_=>by simp at h
abbrev iV (n : Int) : AV:=.d (.v (.int .i64 n))
abbrev bV (b : Bool) : AV:=.d (.v (.bool b))
section
variable {P : Program} {m : Nat} {env : List (Nat × AV)} {own : List Ent} {dst : Option Tmp} {ty : TypeId} {pos : String} {af : Array Edge} {gd : Option (Nat × Bool)}
theorem q_move (x : Operand) : Quiet P m ⟨dst,.move x,ty,pos,af,gd⟩ env own [] (lookO env x) :=
 Quiet.val fun F own' κ a w hx _ _ _=>⟨a.eval x,rfl,hx x (by simp [Op.operands])⟩
theorem q_assign (x : Operand) : Quiet P m ⟨dst,.assign x,ty,pos,af,gd⟩ env own [] (lookO env x) :=
 Quiet.val fun F own' κ a w hx _ _ _=>⟨a.eval x,rfl,hx x (by simp [Op.operands])⟩
theorem q_bin {op : BinOp} {t t' : TypeId} {x y : Operand} {u1 u2 v : Value} (hx : lookO env x = .d (.v u1)) (hy : lookO env y = .d (.v u2))
 (hr : ∀ w : World,(do eqGuard op t x y u1 u2;binOp op t u1 u2 : Sem Value).run P w = .ok v w) : Quiet P m ⟨dst,.binOp op t x y t',ty,pos,af,gd⟩ env own [] (.d (.v v)) :=
 Quiet.val fun F own' κ a w hs _ _ _=>by
  have h1:=hs x (by simp [Op.operands]);rw [hx,sat_v] at h1
  have h2:=hs y (by simp [Op.operands]);rw [hy,sat_v] at h2
  refine ⟨v,exec_v ?_,sat_v.2 rfl⟩
  rw [h1,h2];exact hr w
theorem wrap_in {z : Int} (h : -9223372036854775808 ≤ z ∧ z < 9223372036854775808) : IntKind.i64.wrap z = z:=Go.IntWalk.i64_in z (by omega)
theorem beq_int (a b : Int) : (a == b) = decide (a = b):=by rw [Bool.eq_iff_iff];simp
theorem q_add {t t' : TypeId} {x y : Operand} {a b : Int} (hx : lookO env x = iV a) (hy : lookO env y = iV b) (h : -9223372036854775808 ≤ a + b ∧ a + b < 9223372036854775808) :
 Quiet P m ⟨dst,.binOp .add t x y t',ty,pos,af,gd⟩ env own [] (iV (a + b)):=q_bin hx hy fun w=>by
 simp [eqGuard,binOp,Op.intArith,wrap_in h]
theorem q_sub {t t' : TypeId} {x y : Operand} {a b : Int} (hx : lookO env x = iV a) (hy : lookO env y = iV b) (h : -9223372036854775808 ≤ a - b ∧ a - b < 9223372036854775808) :
 Quiet P m ⟨dst,.binOp .sub t x y t',ty,pos,af,gd⟩ env own [] (iV (a - b)):=q_bin hx hy fun w=>by
 simp [eqGuard,binOp,Op.intArith,wrap_in h]
theorem q_mul {t t' : TypeId} {x y : Operand} {a b : Int} (hx : lookO env x = iV a) (hy : lookO env y = iV b) (h : -9223372036854775808 ≤ a * b ∧ a * b < 9223372036854775808) :
 Quiet P m ⟨dst,.binOp .mul t x y t',ty,pos,af,gd⟩ env own [] (iV (a * b)):=q_bin hx hy fun w=>by
 simp [eqGuard,binOp,Op.intArith,wrap_in h]
theorem q_addw {t t' : TypeId} {x y : Operand} {k : IntKind} {a b : Int} (hx : lookO env x = .d (.v (.int k a))) (hy : lookO env y = .d (.v (.int k b))) :
 Quiet P m ⟨dst,.binOp .add t x y t',ty,pos,af,gd⟩ env own [] (.d (.v (.int k (k.wrap (a + b))))):=q_bin hx hy fun w=>by simp [eqGuard,binOp,Op.intArith]
theorem q_quo {t t' : TypeId} {x y : Operand} {a b : Int} (hx : lookO env x = iV a) (hy : lookO env y = iV b) (ha : 0 ≤ a) (hb : 0 < b) (hi : a < 9223372036854775808) :
 Quiet P m ⟨dst,.binOp .quo t x y t',ty,pos,af,gd⟩ env own [] (iV (a / b)):=q_bin hx hy fun w=>by
 have h0 : b ≠ 0:=by omega
 have h1 : a.tdiv b = a / b:=Int.tdiv_eq_ediv_of_nonneg ha
 have h2 : 0 ≤ a / b:=Int.ediv_nonneg ha (by omega)
 have h3 : a / b ≤ a:=Int.ediv_le_self _ ha
 simp [eqGuard,binOp,Op.intDiv,h0,h1,wrap_in (show -9223372036854775808 ≤ a / b ∧ a / b < 9223372036854775808 by omega)]
theorem q_rem {t t' : TypeId} {x y : Operand} {a b : Int} (hx : lookO env x = iV a) (hy : lookO env y = iV b) (ha : 0 ≤ a) (hb : 0 < b) :
 Quiet P m ⟨dst,.binOp .rem t x y t',ty,pos,af,gd⟩ env own [] (iV (a % b)):=q_bin hx hy fun w=>by
 have h0 : b ≠ 0:=by omega
 have h1 : a.tmod b = a % b:=Int.tmod_eq_emod_of_nonneg ha
 simp [eqGuard,binOp,Op.intDiv,h0,h1]
theorem q_lss {t t' : TypeId} {x y : Operand} {k : IntKind} {a b : Int} (hx : lookO env x = .d (.v (.int k a))) (hy : lookO env y = .d (.v (.int k b))) :
 Quiet P m ⟨dst,.binOp .lss t x y t',ty,pos,af,gd⟩ env own [] (bV (decide (a < b))):=q_bin hx hy fun w=>by simp [eqGuard,binOp,Op.intCmp]
theorem q_leq {t t' : TypeId} {x y : Operand} {k : IntKind} {a b : Int} (hx : lookO env x = .d (.v (.int k a))) (hy : lookO env y = .d (.v (.int k b))) :
 Quiet P m ⟨dst,.binOp .leq t x y t',ty,pos,af,gd⟩ env own [] (bV (decide (a ≤ b))):=q_bin hx hy fun w=>by simp [eqGuard,binOp,Op.intCmp]
theorem q_gtr {t t' : TypeId} {x y : Operand} {k : IntKind} {a b : Int} (hx : lookO env x = .d (.v (.int k a))) (hy : lookO env y = .d (.v (.int k b))) :
 Quiet P m ⟨dst,.binOp .gtr t x y t',ty,pos,af,gd⟩ env own [] (bV (decide (b < a))):=q_bin hx hy fun w=>by simp [eqGuard,binOp,Op.intCmp]
theorem q_geq {t t' : TypeId} {x y : Operand} {k : IntKind} {a b : Int} (hx : lookO env x = .d (.v (.int k a))) (hy : lookO env y = .d (.v (.int k b))) :
 Quiet P m ⟨dst,.binOp .geq t x y t',ty,pos,af,gd⟩ env own [] (bV (decide (b ≤ a))):=q_bin hx hy fun w=>by simp [eqGuard,binOp,Op.intCmp]
theorem q_eql {t t' : TypeId} {x y : Operand} {k : IntKind} {a b : Int} (hx : lookO env x = .d (.v (.int k a))) (hy : lookO env y = .d (.v (.int k b))) :
 Quiet P m ⟨dst,.binOp .eql t x y t',ty,pos,af,gd⟩ env own [] (bV (decide (a = b))):=q_bin hx hy fun w=>by
 simp [eqGuard,binOp,Op.intCmp,beq_int]
theorem q_neq {t t' : TypeId} {x y : Operand} {k : IntKind} {a b : Int} (hx : lookO env x = .d (.v (.int k a))) (hy : lookO env y = .d (.v (.int k b))) :
 Quiet P m ⟨dst,.binOp .neq t x y t',ty,pos,af,gd⟩ env own [] (bV (!decide (a = b))):=q_bin hx hy fun w=>by
 simp [eqGuard,binOp,Op.intCmp,bne,beq_int]
theorem q_un {op : UnOp} {t : TypeId} {x : Operand} {u v : Value} (hx : lookO env x = .d (.v u)) (hr : ∀ w : World, (Op.unary op u).run P w = .ok v w) :
 Quiet P m ⟨dst,.unOp op t x,ty,pos,af,gd⟩ env own [] (.d (.v v)) :=
 Quiet.val fun F own' κ a w hs _ _ _=>by
  have h1:=hs x (by simp [Op.operands]);rw [hx,sat_v] at h1
  refine ⟨v,exec_v ?_,sat_v.2 rfl⟩
  rw [h1];exact hr w
theorem q_not {t : TypeId} {x : Operand} {b : Bool} (hx : lookO env x = bV b) : Quiet P m ⟨dst,.unOp .not t x,ty,pos,af,gd⟩ env own [] (bV (!b)):=q_un hx fun w=>by simp [Op.unary]
theorem q_neg {t : TypeId} {x : Operand} {a : Int} (hx : lookO env x = iV a) (h : -9223372036854775808 < a ∧ a < 9223372036854775808) : Quiet P m ⟨dst,.unOp .neg t x,ty,pos,af,gd⟩ env own [] (iV (-a)):=q_un hx fun w=>by
 simp [Op.unary,Op.intArith,wrap_in (show -9223372036854775808 ≤ -a ∧ -a < 9223372036854775808 by omega)]
def isInt (P : Program) (t : TypeId) (k : IntKind) : Bool:=match P.underlying t with | some (.int j)=>j == k | _=>false
theorem q_conv {src dst' : TypeId} {x : Operand} {k : IntKind} (k' : IntKind) {n : Int} (hs : (P.underlying src).isSome = true) (hd : isInt P dst' k' = true) (hx : lookO env x = .d (.v (.int k n))) :
 Quiet P m ⟨dst,.convert src dst' x,ty,pos,af,gd⟩ env own [] (.d (.v (.int k' (k'.wrap n)))) :=
 Quiet.val fun F own' κ a w hsat _ _ _=>by
  have h1:=hsat x (by simp [Op.operands]);rw [hx,sat_v] at h1
  obtain ⟨d,hd1⟩:=Option.isSome_iff_exists.1 hs
  have hd2 : P.underlying dst' = some (.int k'):=by
   unfold isInt at hd
   cases h : P.underlying dst' with
   | none=>simp [h] at hd
   | some d => cases d <;> simp [h] at hd
               subst hd;rfl
  refine ⟨_,exec_v ?_,sat_v.2 rfl⟩
  rw [h1]
  simp [convert,run_underlying hd1,run_underlying hd2,Conv.intToInt]
theorem q_extract {x : Operand} {l : List AV} {ix : Nat} {y : AV} (hx : lookO env x = .tup l) (hy : l[ix]? = some y) : Quiet P m ⟨dst,.extract x ix,ty,pos,af,gd⟩ env own [] y :=
 Quiet.val fun F own' κ a w hs _ _ _=>by
  have h1:=hs x (by simp [Op.operands]);rw [hx,AV.sat] at h1
  obtain ⟨vs,h2,h3⟩:=h1
  obtain ⟨u,h4,h5⟩:=satL_get h3 ix y hy
  refine ⟨u,exec_v ?_,h5⟩
  rw [h2]
  have : vs[ix]? = some u:=by simpa using h4
  simp [Instr.extract,this]
end
section
variable {P : Program} {m : Nat} {env : List (Nat × AV)} {own : List Ent} {dst : Option Tmp} {ty : TypeId} {pos : String} {af : Array Edge} {gd : Option (Nat × Bool)}
theorem jAi {t t' : TypeId} {x y : Operand} {a b : Int} (hx : lookO env x = iV a:=by exact rfl) (hy : lookO env y = iV b:=by exact rfl) (h : -9223372036854775808 ≤ a + b ∧ a + b < 9223372036854775808:=by omega) : Quiet P m ⟨dst,.binOp .add t x y t',ty,pos,af,gd⟩ env own [] (iV (a + b)):=q_add hx hy h
end
section
variable {P : Program} {m : Nat} {env : List (Nat × AV)} {own : List Ent} {dst : Option Tmp} {ty : TypeId} {pos : String} {af : Array Edge} {gd : Option (Nat × Bool)}
theorem jAj {t t' : TypeId} {x y : Operand} {k : IntKind} {a b : Int} (hx : lookO env x = .d (.v (.int k a)):=by exact rfl) (hy : lookO env y = .d (.v (.int k b)):=by exact rfl) : Quiet P m ⟨dst,.binOp .lss t x y t',ty,pos,af,gd⟩ env own [] (bV (decide (a < b))):=q_lss hx hy
end
section
variable {P : Program} {m : Nat} {env : List (Nat × AV)} {own : List Ent} {dst : Option Tmp} {ty : TypeId} {pos : String} {af : Array Edge} {gd : Option (Nat × Bool)}
theorem jAu {t t' : TypeId} {x y : Operand} {k : IntKind} {a b : Int} (hx : lookO env x = .d (.v (.int k a)):=by exact rfl) (hy : lookO env y = .d (.v (.int k b)):=by exact rfl) : Quiet P m ⟨dst,.binOp .eql t x y t',ty,pos,af,gd⟩ env own [] (bV (decide (a = b))):=q_eql hx hy
end
section
variable {P : Program} {m : Nat} {env : List (Nat × AV)} {own : List Ent} {dst : Option Tmp} {ty : TypeId} {pos : String} {af : Array Edge} {gd : Option (Nat × Bool)}
theorem jBb {t t' : TypeId} {x y : Operand} {k : IntKind} {a b : Int} (hx : lookO env x = .d (.v (.int k a)):=by exact rfl) (hy : lookO env y = .d (.v (.int k b)):=by exact rfl) : Quiet P m ⟨dst,.binOp .neq t x y t',ty,pos,af,gd⟩ env own [] (bV (!decide (a = b))):=q_neq hx hy
end
section
variable {P : Program} {m : Nat} {env : List (Nat × AV)} {own : List Ent} {dst : Option Tmp} {ty : TypeId} {pos : String} {af : Array Edge} {gd : Option (Nat × Bool)}
theorem jBe {t : TypeId} {x : Operand} {b : Bool} (hx : lookO env x = bV b:=by exact rfl) : Quiet P m ⟨dst,.unOp .not t x,ty,pos,af,gd⟩ env own [] (bV (!b)):=q_not hx
end
section
variable {P : Program} {m : Nat} {env : List (Nat × AV)} {own : List Ent} {dst : Option Tmp} {ty : TypeId} {pos : String} {af : Array Edge} {gd : Option (Nat × Bool)}
theorem jBf {t t' : TypeId} {x y : Operand} {k : IntKind} {a b : Int} (hx : lookO env x = .d (.v (.int k a)):=by exact rfl) (hy : lookO env y = .d (.v (.int k b)):=by exact rfl) : Quiet P m ⟨dst,.binOp .gtr t x y t',ty,pos,af,gd⟩ env own [] (bV (decide (b < a))):=q_gtr hx hy
end
end
section
/-! ### What a type's rows say -/
def slInfo (P : Program) (t : TypeId) : Option (TypeId × Nat × Nat × Value) :=
 match P.underlying t with
 | some (.slice e) => match P.info? e with
   | some i => match i.zero with
     | some z=>some (e,i.size,i.bytes,z)
     | none=>none
   | none=>none
 | _=>none
theorem slInfo_spec {P : Program} {t e : TypeId} {sz by' : Nat} {z : Value} (h : slInfo P t = some (e,sz,by',z)) : P.underlying t = some (.slice e) ∧ ∃ i,P.info? e = some i ∧ i.size = sz ∧ i.bytes = by' ∧ i.zero = some z:=by
 unfold slInfo at h
 split at h
 ·rename_i e' he
  split at h
  ·rename_i i hi
   split at h
   ·rename_i z' hz
    simp only [Option.some.injEq,Prod.mk.injEq] at h
    obtain ⟨rfl,h2,h3,rfl⟩:=h
    exact ⟨he,i,hi,h2,h3,hz⟩
   ·cases h
  ·cases h
 ·cases h
def tyInfo (P : Program) (t : TypeId) : Option (Bool × Nat) :=
 match P.underlying t,P.info? t with
 | some (.struct _),some i=>some (true,i.size)
 | some (.array _ _),some i=>some (true,i.size)
 | some _,some i=>some (false,i.size)
 | _,_=>none
theorem tyInfo_spec {P : Program} {t : TypeId} {b : Bool} {n : Nat} (h : tyInfo P t = some (b,n)) : (∀ w,(isAgg t).run P w = .ok b w) ∧ ∃ i,P.info? t = some i ∧ i.size = n:=by
 unfold tyInfo at h
 split at h
 ·rename_i fs i h1 h2
  simp only [Option.some.injEq,Prod.mk.injEq] at h
  obtain ⟨rfl,h3⟩:=h
  exact ⟨fun w=>by simp [isAgg,run_underlying h1],i,h2,h3⟩
 ·rename_i k e i h1 h2
  simp only [Option.some.injEq,Prod.mk.injEq] at h
  obtain ⟨rfl,h3⟩:=h
  exact ⟨fun w=>by simp [isAgg,run_underlying h1],i,h2,h3⟩
 ·rename_i d i h0 h1 h2 h3
  simp only [Option.some.injEq,Prod.mk.injEq] at h
  obtain ⟨rfl,h4⟩:=h
  refine ⟨fun w=>?_,i,h3,h4⟩
  unfold isAgg
  rw [Sem.run_bind,run_underlying h2]
  simp only [Result.andThen_ok]
  rfl
 ·cases h
def fldInfo (P : Program) (s f : Nat) : Option (Nat × TypeId) :=
 match P.underlying s with
 | some (.struct fields) => match fields[f]? with
   | some fl => match P.info? fl.type with
     | some i=>if i.size = 0 then none else some (fl.offset,fl.type)
     | none=>none
   | none=>none
 | _=>none
theorem fldInfo_spec {P : Program} {s f off : Nat} {t : TypeId} (h : fldInfo P s f = some (off,t)) : ∃ fields fl i,P.underlying s = some (.struct fields) ∧ fields[f]? = some fl ∧ P.info? fl.type = some i ∧ i.size ≠ 0 ∧ fl.offset = off ∧ fl.type = t:=by
 unfold fldInfo at h
 split at h
 ·rename_i fields h1
  split at h
  ·rename_i fl h2
   split at h
   ·rename_i i h3
    split at h
    ·cases h
    ·rename_i h4
     simp only [Option.some.injEq,Prod.mk.injEq] at h
     exact ⟨fields,fl,i,h1,h2,h3,h4,h.1,h.2⟩
   ·cases h
  ·cases h
 ·cases h
section
variable {P : Program} {m : Nat} {env : List (Nat × AV)} {own : List Ent} {dst : Option Tmp} {ty : TypeId} {pos : String} {af : Array Edge} {gd : Option (Nat × Bool)}
theorem exec_builtin {a : Act} {b : Builtin} {args : Array Operand} {ts : Array TypeId} {w : World} :
 (execOp a.eval ⟨dst,.call ⟨.builtin b,args,ts⟩,ty,pos,af,gd⟩).run P w = (builtin b ts ty (args.map fun | .const _=>true | _=>false) (args.map a.eval)).run P w:=by
 simp [execOp,resolve,invoke]
 rfl
def isSl (P : Program) (t : TypeId) : Bool:=match P.underlying t with | some (.slice _)=>true | _=>false
theorem isSl_spec {t : TypeId} (h : isSl P t = true) : ∃ e,P.underlying t = some (.slice e):=by
 unfold isSl at h
 split at h
 ·rename_i e he;exact ⟨e,he⟩
 ·cases h
theorem run_len_sl {t : TypeId} (h : isSl P t = true) (A : Option Addr) (n c : Nat) (w : World) : (Builtin.len_ #[t] ty #[.slice A n c]).run P w = .ok (.int .i64 n) w:=by
 obtain ⟨e,he⟩:=isSl_spec h
 simp [Builtin.len_,run_underlying he,goInt]
theorem q_len_sl {t : TypeId} {x : Operand} {sz : Nat} {l : List (List Dat)} (ht : isSl P t = true) (hx : lookO env x = .d (.sl sz l)) :
 Quiet P m ⟨dst,.call ⟨.builtin .len,#[x],#[t]⟩,ty,pos,af,gd⟩ env own [] (iV l.length) :=
 Quiet.val fun F own' κ a w hs _ _ _=>by
  have h1:=hs x (by simp [Op.operands,Call.operands]);rw [hx,AV.sat,Dat.sat] at h1
  obtain ⟨A,c,h2,_⟩:=h1
  refine ⟨.int .i64 l.length,?_,sat_v.2 rfl⟩
  rw [exec_builtin]
  simp only [builtin]
  exact exec_v (by simp only [List.map_toArray,List.map_cons,List.map_nil,h2];exact run_len_sl ht A _ c w)
theorem q_len_osl {t : TypeId} {x : Operand} {i ver j n sz : Nat} {e : TypeId} {l : List (List Dat)} (ht : isSl P t = true) (hx : lookO env x = .osl i ver j n) (hi : own[i]? = some (.row ver sz e l)) :
 Quiet P m ⟨dst,.call ⟨.builtin .len,#[x],#[t]⟩,ty,pos,af,gd⟩ env own [i] (iV n) :=
 Quiet.val fun F own' κ a w hs _ hsame _=>by
  have h1:=hs x (by simp [Op.operands,Call.operands]);rw [hx,AV.sat] at h1
  obtain ⟨_,A,c,h2,_⟩:=h1.2 sz e l (by rw [hsame i (by simp)];exact hi)
  refine ⟨.int .i64 n,?_,sat_v.2 rfl⟩
  rw [exec_builtin]
  simp only [builtin]
  exact exec_v (by simp only [List.map_toArray,List.map_cons,List.map_nil,h2];exact run_len_sl ht A _ c w)
theorem q_len_nil {t : TypeId} {x : Operand} {A : Option Addr} {n c : Nat} (ht : isSl P t = true) (hx : lookO env x = .d (.v (.slice A n c))) :
 Quiet P m ⟨dst,.call ⟨.builtin .len,#[x],#[t]⟩,ty,pos,af,gd⟩ env own [] (iV n) :=
 Quiet.val fun F own' κ a w hs _ hsame _=>by
  have h1:=hs x (by simp [Op.operands,Call.operands]);rw [hx,sat_v] at h1
  refine ⟨.int .i64 n,?_,sat_v.2 rfl⟩
  rw [exec_builtin]
  simp only [builtin]
  exact exec_v (by simp only [List.map_toArray,List.map_cons,List.map_nil,h1];exact run_len_sl ht A _ c w)
theorem q_len_str {t : TypeId} {x : Operand} {s : ByteArray} (ht : P.underlying t = some .string) (hx : lookO env x = .d (.v (.string s))) :
 Quiet P m ⟨dst,.call ⟨.builtin .len,#[x],#[t]⟩,ty,pos,af,gd⟩ env own [] (iV s.size) :=
 Quiet.val fun F own' κ a w hs _ hsame _=>by
  have h1:=hs x (by simp [Op.operands,Call.operands]);rw [hx,sat_v] at h1
  refine ⟨.int .i64 s.size,?_,sat_v.2 rfl⟩
  rw [exec_builtin]
  simp only [builtin]
  exact exec_v (by simp [h1,Builtin.len_,run_underlying ht,goInt])
theorem q_min {x y : Operand} {ts : Array TypeId} {k : IntKind} {a b : Int} (hx : lookO env x = .d (.v (.int k a))) (hy : lookO env y = .d (.v (.int k b))) :
 Quiet P m ⟨dst,.call ⟨.builtin .min,#[x,y],ts⟩,ty,pos,af,gd⟩ env own [] (.d (.v (.int k (if b < a then b else a)))) :=
 Quiet.val fun F own' κ ac w hs _ hsame _=>by
  have h1:=hs x (by simp [Op.operands,Call.operands]);rw [hx,sat_v] at h1
  have h2:=hs y (by simp [Op.operands,Call.operands]);rw [hy,sat_v] at h2
  refine ⟨.int k (if b < a then b else a),?_,sat_v.2 rfl⟩
  rw [exec_builtin]
  simp only [builtin]
  refine exec_v ?_
  simp [h1,h2,Builtin.min_,Builtin.min2]
  try (split<;>rfl)
theorem q_max {x y : Operand} {ts : Array TypeId} {k : IntKind} {a b : Int} (hx : lookO env x = .d (.v (.int k a))) (hy : lookO env y = .d (.v (.int k b))) :
 Quiet P m ⟨dst,.call ⟨.builtin .max,#[x,y],ts⟩,ty,pos,af,gd⟩ env own [] (.d (.v (.int k (if b > a then b else a)))) :=
 Quiet.val fun F own' κ ac w hs _ hsame _=>by
  have h1:=hs x (by simp [Op.operands,Call.operands]);rw [hx,sat_v] at h1
  have h2:=hs y (by simp [Op.operands,Call.operands]);rw [hy,sat_v] at h2
  refine ⟨.int k (if b > a then b else a),?_,sat_v.2 rfl⟩
  rw [exec_builtin]
  simp only [builtin]
  refine exec_v ?_
  simp [h1,h2,Builtin.max_,Builtin.max2]
  try (split<;>rfl)
/-! ### Addresses -/
theorem add_none (b o n : Nat) : (⟨b,o,none⟩ : Addr).add n = ⟨b,o + n,none⟩:=by unfold Addr.add;split<;>simp_all
theorem run_indexAt {t e : TypeId} {sz by' : Nat} {z : Value} (ht : slInfo P t = some (e, sz, by', z)) (b o n c : Nat) (k : IntKind) (j : Nat) (hj : j < n) (w : World) :
 (Instr.indexAt t (.slice (some ⟨b,o,none⟩) n c) (.int k (j : Int))).run P w = .ok (.pointer (some ⟨b,o + j * sz,none⟩)) w:=by
 obtain ⟨h1,i,h2,rfl,_,_⟩:=slInfo_spec ht
 simp [Instr.indexAt,asIntOf,run_underlying h1,sizeOf,typeInfo,h2,hj,add_none]
theorem q_ix_sl {t e : TypeId} {sz by' : Nat} {z : Value} {x y : Operand} {l : List (List Dat)} {k : IntKind} (i : Int) (j : Nat) (ht : slInfo P t = some (e, sz, by', z)) (hx : lookO env x = .d (.sl sz l)) (hy : lookO env y = .d (.v (.int k i))) (hij : i = j) (hj : j < l.length) :
 Quiet P m ⟨dst,.indexAddr t x y,ty,pos,af,gd⟩ env own [] (.fpt sz l j 0) :=
 Quiet.val fun F own' κ a w hs _ _ _=>by
  have h1:=hs x (by simp [Op.operands]);rw [hx,AV.sat,Dat.sat] at h1
  have h2:=hs y (by simp [Op.operands]);rw [hy,sat_v] at h2
  obtain ⟨A,c,h3,h4,h5,h6⟩:=h1
  obtain ⟨b,o,rfl,h7,h8,h9⟩:=h6 (by omega)
  refine ⟨.pointer (some ⟨b,o + j * sz,none⟩),exec_v ?_,?_⟩
  ·rw [h3,h2,hij];exact run_indexAt ht b o _ c k j hj w
  ·rw [AV.sat];exact ⟨b,o,by simp,h7,h8,h9⟩
theorem q_ix_osl {t e e' : TypeId} {sz by' : Nat} {z : Value} {x y : Operand} {p ver q n : Nat} {l : List (List Dat)} {k : IntKind} (i : Int) (j : Nat) (ht : slInfo P t = some (e, sz, by', z)) (hx : lookO env x = .osl p ver q n) (hp : own[p]? = some (.row ver sz e' l)) (hy : lookO env y = .d (.v (.int k i))) (hij : i = j) (hj : j < n) :
 Quiet P m ⟨dst,.indexAddr t x y,ty,pos,af,gd⟩ env own [p] (.rpt p ver (q + j) 0) :=
 Quiet.val fun F own' κ a w hs _ hsame _=>by
  have h1:=hs x (by simp [Op.operands]);rw [hx,AV.sat] at h1
  have h2:=hs y (by simp [Op.operands]);rw [hy,sat_v] at h2
  have hp' : own'[p]? = some (.row ver sz e' l):=by rw [hsame p (by simp)];exact hp
  obtain ⟨h3,A,c,h4,h5,h6,h7⟩:=h1.2 sz e' l hp'
  rcases h7 (.inl (by omega)) with ⟨g,g1,g2,_⟩ | ⟨_,_,rfl⟩
  ·refine ⟨.pointer (some ⟨g, q * sz + j * sz, none⟩), exec_v ?_, ?_⟩
   ·rw [h4,h2,hij,g2];exact run_indexAt ht g _ _ c k j hj w
   ·rw [AV.sat]
    refine ⟨by obtain ⟨y1,y2,y3,_⟩:=h1.1;exact ⟨y1,y2,y3,rfl⟩,fun sz2 e2 c2 hc=>?_⟩
    rw [hp'] at hc
    obtain ⟨rfl,rfl,rfl⟩ : sz = sz2 ∧ e' = e2 ∧ l = c2:=by simpa using hc
    exact ⟨by omega,g,g1,by rw [Nat.add_mul];simp⟩
  ·omega
theorem run_fieldAt {s f off : Nat} {t : TypeId} (h : fldInfo P s f = some (off,t)) (b o : Nat) (w : World) : (Instr.fieldAt s (.pointer (some ⟨b,o,none⟩)) f).run P w = .ok (.pointer (some ⟨b,o + off,none⟩)) w:=by
 obtain ⟨fields,fl,i,h1,h2,h3,h4,rfl,rfl⟩:=fldInfo_spec h
 simp [Instr.fieldAt,run_underlying h1,h2,Instr.sureAddr,fieldPlace,sizeOf,typeInfo,h3,h4,add_none]
theorem q_fld_opt {s f off : Nat} {t : TypeId} {x : Operand} {i o : Nat} (h : fldInfo P s f = some (off,t)) (hx : lookO env x = .opt i o) : Quiet P m ⟨dst,.fieldAddr s x f,ty,pos,af,gd⟩ env own [] (.opt i (o + off)) :=
 Quiet.val fun F own' κ a w hs _ _ _=>by
  have h1:=hs x (by simp [Op.operands]);rw [hx,AV.sat] at h1
  obtain ⟨g,l,h2,h3,h4⟩:=h1
  refine ⟨_,exec_v (by rw [h4];exact run_fieldAt h g o w),?_⟩
  rw [AV.sat];exact ⟨g,l,h2,h3,rfl⟩
theorem q_fld_fpt {s f off : Nat} {t : TypeId} {x : Operand} {sz j o : Nat} {l : List (List Dat)} (h : fldInfo P s f = some (off,t)) (hx : lookO env x = .fpt sz l j o) : Quiet P m ⟨dst,.fieldAddr s x f,ty,pos,af,gd⟩ env own [] (.fpt sz l j (o + off)) :=
 Quiet.val fun F own' κ a w hs _ _ _=>by
  have h1:=hs x (by simp [Op.operands]);rw [hx,AV.sat] at h1
  obtain ⟨b,q,h2,h3,h4,h5⟩:=h1
  refine ⟨_,exec_v (by rw [h2];exact run_fieldAt h b _ w),?_⟩
  rw [AV.sat];exact ⟨b,q,by rw [show q + j * sz + (o + off) = q + j * sz + o + off from by omega],h3,h4,h5⟩
theorem q_fld_rpt {s f off : Nat} {t : TypeId} {x : Operand} {i ver j o : Nat} (h : fldInfo P s f = some (off,t)) (hx : lookO env x = .rpt i ver j o) {sz : Nat} {e : TypeId} {l : List (List Dat)} (hi : own[i]? = some (.row ver sz e l)) : Quiet P m ⟨dst,.fieldAddr s x f,ty,pos,af,gd⟩ env own [i] (.rpt i ver j (o + off)) :=
 Quiet.val fun F own' κ a w hs _ hsame _=>by
  have h1:=hs x (by simp [Op.operands]);rw [hx,AV.sat] at h1
  have hp' : own'[i]? = some (.row ver sz e l):=by rw [hsame i (by simp)];exact hi
  obtain ⟨h2,g,h3,h4⟩:=h1.2 sz e l hp'
  refine ⟨_,exec_v (by rw [h4];exact run_fieldAt h g _ w),?_⟩
  rw [AV.sat]
  refine ⟨by obtain ⟨y1,y2,y3,_⟩:=h1.1;exact ⟨y1,y2,y3,rfl⟩,fun sz2 e2 c2 hc=>?_⟩
  rw [hp'] at hc
  obtain ⟨rfl,rfl,rfl⟩ : sz = sz2 ∧ e = e2 ∧ l = c2:=by simpa using hc
  exact ⟨h2,g,h3,by rw [show j * sz + (o + off) = j * sz + o + off from by omega]⟩
/-! ### Loads -/
theorem run_loadAt_one {t : TypeId} {n : Nat} (ht : tyInfo P t = some (false,n)) {b o : Nat} {w : World} {u : Value} (hc : w.cell? ⟨b,o,none⟩ = some u) : (Instr.loadAt t (.pointer (some ⟨b,o,none⟩))).run P w = .ok u w:=by
 obtain ⟨h1,i,h2,h3⟩:=tyInfo_spec ht
 simp [Instr.loadAt,Instr.sureAddr,loadVar,h1 w,run_load,hc]
theorem run_loadAt_agg {t : TypeId} {n : Nat} (ht : tyInfo P t = some (true,n)) {b o : Nat} {w : World} (us : List Value) (hl : us.length = n) (hc : ∀ j u,us[j]? = some u → w.cell? ⟨b,o + j,none⟩ = some u) : (Instr.loadAt t (.pointer (some ⟨b,o,none⟩))).run P w = .ok (.agg us.toArray) w:=by
 obtain ⟨h1,i,h2,h3⟩:=tyInfo_spec ht
 have hq:=run_loadCells_list (P:=P) w ⟨b,o,none⟩ us (fun j u hu=>by rw [add_none];exact hc j u hu)
 simp [Instr.loadAt,Instr.sureAddr,loadVar,h1 w,sizeOf,typeInfo,h2,h3,← hl,hq]
theorem q_ld_fpt {t : TypeId} {k : Nat} {x : Operand} {sz j o : Nat} {l : List (List Dat)} {e : List Dat} {y : Dat} (ht : tyInfo P t = some (false, k)) (hx : lookO env x = .fpt sz l j o) (he : l[j]? = some e) (hy : e[o]? = some y) :
 Quiet P m ⟨dst,.load t x,ty,pos,af,gd⟩ env own [] (.d y) :=
 Quiet.val fun F own' κ a w hs _ _ _=>by
  have h1:=hs x (by simp [Op.operands]);rw [hx,AV.sat] at h1
  obtain ⟨b,q,h2,h3,h4,h5⟩:=h1
  obtain ⟨h6,h7⟩:=Dat.rowsSat_iff.1 h5 j e he
  obtain ⟨u,h8,h9,h10⟩:=Dat.rowSat_iff.1 h7 o y hy
  exact ⟨u,exec_v (by rw [h2];exact run_loadAt_one ht h8),by rw [AV.sat];exact h10⟩
theorem q_ld_fpts {t : TypeId} {k : Nat} {x : Operand} {sz j : Nat} {l : List (List Dat)} {e : List Dat} (ht : tyInfo P t = some (true, k)) (hx : lookO env x = .fpt sz l j 0) (hk : k = sz) (he : l[j]? = some e) :
 Quiet P m ⟨dst,.load t x,ty,pos,af,gd⟩ env own [] (.agg (e.map .d)) :=
 Quiet.val fun F own' κ a w hs _ _ _=>by
  have h1:=hs x (by simp [Op.operands]);rw [hx,AV.sat] at h1
  obtain ⟨b,q,h2,h3,h4,h5⟩:=h1
  obtain ⟨h6,h7⟩:=Dat.rowsSat_iff.1 h5 j e he
  have h7:=Dat.rowSat_iff.1 h7
  let us:=(List.range e.length).map fun i=>((w.cell? ⟨b,q + j * sz + i,none⟩).getD undef)
  have hus : ∀ (i : Nat) (y : Dat),e[i]? = some y → ∃ u,us[i]? = some u ∧ w.cell? ⟨b,q + j * sz + i,none⟩ = some u ∧ Dat.sat (badK F κ) w y u:=fun i y hy=>by
   obtain ⟨u,h8,h9,h10⟩:=h7 i y hy
   have hlt : i < e.length:=(List.getElem?_eq_some_iff.1 hy).1
   exact ⟨u,by simp [us,hlt,h8],h8,h10⟩
  have hrun : (Instr.loadAt t (.pointer (some ⟨b,q + j * sz + 0,none⟩))).run P w = .ok (.agg us.toArray) w:=by
   refine run_loadAt_agg ht us (by simp [us,h6,hk]) fun i u hu=>?_
   have hlt : i < e.length:=by have:=(List.getElem?_eq_some_iff.1 hu).1;simpa [us] using this
   obtain ⟨u',h8,h9,_⟩:=hus i _ (List.getElem?_eq_getElem hlt)
   rw [hu] at h8;obtain rfl : u = u':=by simpa using h8
   rw [Nat.add_zero];exact h9
  refine ⟨.agg us.toArray,exec_v (by rw [h2];exact hrun),?_⟩
  ·rw [AV.sat]
   refine ⟨_,rfl,satL_of (by simp [us]) fun i y hy=>?_⟩
   rw [List.getElem?_map] at hy
   cases he' : e[i]? with
   | none=>simp [he'] at hy
   | some d =>
     obtain rfl : AV.d d = y:=by simpa [he'] using hy
     obtain ⟨u,h8,_,h9⟩:=hus i d he'
     exact ⟨u,by simpa using h8,by rw [AV.sat];exact h9⟩
theorem HasC.cell {w : World} {g o : Nat} {cur : Array Value} {t : TypeId} {u : Value} (h : HasC w.heap[g]? cur t) (hu : cur[o]? = some u) : w.cell? ⟨g,o,none⟩ = some u:=by
 obtain ⟨tail,fz,h,_⟩:=h
 rw [cell_of_row w g o _ t fz h]
 obtain ⟨ho,h2⟩:=Array.getElem?_eq_some_iff.1 hu
 rw [Array.getElem?_append_left ho];exact hu
theorem box_block {F : Nat → Prop} {own' : List Ent} {κ : List (Option Nat)} {w : World} (ho : OwnSat F own' κ w) {i g : Nat} {l l' : List AV} (hl : own'[i]? = some (.box l)) (hg : κ[i]? = some (some g)) :
 ∃ cur t,HasC w.heap[g]? cur t ∧ AV.satL F own' κ w l cur.toList ∧ ∀ u ∈ cur.toList,u.oneCell' = true:=by
 obtain ⟨g',hg',cur,t,h1,h2,h3⟩:=(ho.ent i _ hl).resolve_left fun h=>by rw [getD_some hg] at h;cases h.1
 rw [getD_some hg] at hg'
 obtain rfl : g = g':=by simpa using hg'
 exact ⟨cur,t,h1,h2,h3⟩
theorem q_ld_box {t : TypeId} {k : Nat} {x : Operand} {i o : Nat} {l : List AV} {y : AV} (ht : tyInfo P t = some (false, k)) (hx : lookO env x = .opt i o) (hl : own[i]? = some (.box l)) (hy : l[o]? = some y) :
 Quiet P m ⟨dst,.load t x,ty,pos,af,gd⟩ env own [i] y :=
 Quiet.val fun F own' κ a w hs ho hsame _=>by
  have h1:=hs x (by simp [Op.operands]);rw [hx,AV.sat] at h1
  have hl' : own'[i]? = some (.box l):=by rw [hsame i (by simp)];exact hl
  obtain ⟨g,l2,h2,h3,h4⟩:=h1
  obtain ⟨cur,t2,h5,h6,h7⟩:=box_block (l':=l) ho hl' h3
  obtain ⟨u,h8,h9⟩:=satL_get h6 o y hy
  have hc : w.cell? ⟨g,o,none⟩ = some u:=h5.cell (by simpa using h8)
  exact ⟨u,exec_v (by rw [h4];exact run_loadAt_one ht hc),h9⟩
theorem q_ld_boxs {t : TypeId} {k : Nat} {x : Operand} {i o : Nat} {l : List AV} (ht : tyInfo P t = some (true, k)) (hx : lookO env x = .opt i o) (hl : own[i]? = some (.box l)) (hk : o + k ≤ l.length) :
 Quiet P m ⟨dst,.load t x,ty,pos,af,gd⟩ env own [i] (.agg ((l.drop o).take k)) :=
 Quiet.val fun F own' κ a w hs ho hsame _=>by
  have h1:=hs x (by simp [Op.operands]);rw [hx,AV.sat] at h1
  have hl' : own'[i]? = some (.box l):=by rw [hsame i (by simp)];exact hl
  obtain ⟨g,l2,h2,h3,h4⟩:=h1
  obtain ⟨cur,t2,h5,h6,h7⟩:=box_block (l':=l) ho hl' h3
  have hcl:=satL_length h6
  have hrun : (Instr.loadAt t (.pointer (some ⟨g,o,none⟩))).run P w = .ok (.agg ((cur.toList.drop o).take k).toArray) w:=by
   refine run_loadAt_agg ht _ (by simp;simp at hcl;omega) fun j u hu=>?_
   refine h5.cell ?_
   rw [List.getElem?_take] at hu
   split at hu
   ·rw [List.getElem?_drop] at hu;simpa using hu
   ·cases hu
  refine ⟨.agg ((cur.toList.drop o).take k).toArray,exec_v (by rw [h4];exact hrun),?_⟩
  rw [AV.sat]
  refine ⟨_,rfl,satL_of (by simp;simp at hcl;omega) fun j y hy=>?_⟩
  rw [List.getElem?_take] at hy
  split at hy
  ·rename_i hlt
   rw [List.getElem?_drop] at hy
   obtain ⟨u,h8,h9⟩:=satL_get h6 _ y hy
   refine ⟨u,?_,h9⟩
   rw [List.getElem?_take,if_pos hlt,List.getElem?_drop];exact h8
  ·cases hy
theorem q_ld_rpt {t : TypeId} {k : Nat} {x : Operand} {i ver j o sz : Nat} {e : TypeId} {l : List (List Dat)} {c : List Dat} {y : Dat} (ht : tyInfo P t = some (false, k)) (hx : lookO env x = .rpt i ver j o) (hi : own[i]? = some (.row ver sz e l)) (hc : l[j]? = some c) (hy : c[o]? = some y) :
 Quiet P m ⟨dst,.load t x,ty,pos,af,gd⟩ env own [i] (.d y) :=
 Quiet.val fun F own' κ a w hs ho hsame _=>by
  have h1:=hs x (by simp [Op.operands]);rw [hx,AV.sat] at h1
  have hp' : own'[i]? = some (.row ver sz e l):=by rw [hsame i (by simp)];exact hi
  obtain ⟨h2,g,h3,h4⟩:=h1.2 sz e l hp'
  obtain ⟨h0,h5⟩:=ho.ent i _ hp'
  rw [getD_some h3] at h5
  rcases h5 with ⟨h5,_⟩ | ⟨g',h5,cur,h6,h7,h8⟩
  ·cases h5
  ·obtain rfl : g = g' := by simpa using h5
   obtain ⟨h9,h10⟩:=Dat.rowsSat_iff.1 h8 j c hc
   obtain ⟨u,h11,h12,h13⟩:=Dat.rowSat_iff.1 h10 o y hy
   refine ⟨u,exec_v (by rw [h4];exact run_loadAt_one ht (by rw [Nat.zero_add] at h11;exact h11)),by rw [AV.sat];exact h13⟩
end
section
variable {P : Program} {m : Nat} {env : List (Nat × AV)} {own : List Ent} {dst : Option Tmp} {ty : TypeId} {pos : String} {af : Array Edge} {gd : Option (Nat × Bool)}
theorem jAg {t : TypeId} {k : Nat} {x : Operand} {i o : Nat} {l : List AV} {y : AV} (ht : tyInfo P t = some (false,k):=by exact rfl) (hx : lookO env x = .opt i o:=by exact rfl) (hl : own[i]? = some (.box l):=by exact rfl) (hy : l[o]? = some y:=by exact rfl) : Quiet P m ⟨dst,.load t x,ty,pos,af,gd⟩ env own [i] y:=q_ld_box ht hx hl hy
end
section
variable {P : Program} {m : Nat} {env : List (Nat × AV)} {own : List Ent} {dst : Option Tmp} {ty : TypeId} {pos : String} {af : Array Edge} {gd : Option (Nat × Bool)}
theorem jAt {t : TypeId} {x : Operand} {sz : Nat} {l : List (List Dat)} (ht : isSl P t = true:=by exact rfl) (hx : lookO env x = .d (.sl sz l):=by exact rfl) : Quiet P m ⟨dst,.call ⟨.builtin .len,#[x],#[t]⟩,ty,pos,af,gd⟩ env own [] (iV l.length):=q_len_sl ht hx
end
end
section
def bnd (env : List (Nat × AV)) (y : Option Operand) (d v : Nat) : Prop :=
 match y with
 | none=>v = d
 | some y=>∃ k i,lookO env y = .d (.v (.int k i)) ∧ i = (v : Int)
def cellsA : AV → Option (List AV)
 | .agg l=>some l
 | .top | .tup _ | .gh _ _=>none
 | x=>some [x]
def oneA : AV → Bool
 | .d (.v u)=>u.oneCell'
 | .top | .agg _ | .tup _ | .gh _ _=>false
 | _=>true
def datOf : AV → Option Dat
 | .d x=>some x
 | _=>none
def cellsD : AV → Option (List Dat)
 | .d (.v u)=>if u.oneCell' then some [.v u] else none
 | .d x=>some [x]
 | .agg l=>l.mapM datOf
 | _=>none
section
variable {P : Program} {m : Nat} {env : List (Nat × AV)} {own : List Ent} {dst : Option Tmp} {ty : TypeId} {pos : String} {af : Array Edge} {gd : Option (Nat × Bool)}
theorem run_bound {F : Nat → Prop} {own' : List Ent} {κ : List (Option Nat)} {w : World} {a : Act} {y : Operand} {d v : Nat} (h : bnd env (some y) d v) (hs : AV.sat F own' κ w (lookO env y) (a.eval y)) {top : Nat} (hle : v ≤ top) (code : BoundsCode) :
 (Instr.sliceBound (a.eval y) top code).run P w = .ok v w:=by
 obtain ⟨k,i,h1,h2⟩:=h
 rw [h1,sat_v] at hs
 rw [hs,h2]
 simp [Instr.sliceBound,asIntOf,hle]
theorem run_bounds {F : Nat → Prop} {own' : List Ent} {κ : List (Option Nat)} {w : World} {a : Act} {lo hi mx : Option Operand} {n c va vb vm : Nat} (isS : Bool) (hsat : ∀ y, y ∈ lo ∨ y ∈ hi ∨ y ∈ mx → AV.sat F own' κ w (lookO env y) (a.eval y))
 (h1 : bnd env lo 0 va) (h2 : bnd env hi n vb) (h3 : bnd env mx c vm) (hab : va ≤ vb) (hbm : vb ≤ vm) (hmc : vm ≤ c) (hmx : mx = none ∨ hi.isSome = true) :
 (Instr.sliceBounds isS n c (lo.map a.eval) (hi.map a.eval) (mx.map a.eval)).run P w = .ok (va,vb,vm) w:=by
 have e1 : ∀ code,(match lo.map a.eval with | some v=>Instr.sliceBound v vb code | none=>pure 0 : Sem Nat).run P w = .ok va w:=fun code=>by
  cases lo with
  | none=>simp [bnd] at h1;subst h1;rfl
  | some y=>exact run_bound h1 (hsat y (by simp)) hab code
 cases mx with
 | none =>
   simp only [bnd] at h3;subst h3
   cases hi with
   | none =>
     simp only [bnd] at h2;subst h2
     have:=e1 .sliceB
     cases lo with
     | none=>simp [bnd] at h1;subst h1;simp [Instr.sliceBounds]
     | some y =>
       simp only [Option.map_some] at this
       simp [Instr.sliceBounds,this]
   | some z =>
     have e2:=fun code=>run_bound (P:=P) h2 (hsat z (by simp)) hbm code
     have:=e1 .sliceB
     cases lo with
     | none=>simp [bnd] at h1;subst h1;simp [Instr.sliceBounds,e2]
     | some y =>
       simp only [Option.map_some] at this
       simp [Instr.sliceBounds,this,e2]
 | some x =>
   have e3:=fun code=>run_bound (P:=P) h3 (hsat x (by simp)) hmc code
   cases hi with
   | none=>simp at hmx
   | some z =>
     have e2:=fun code=>run_bound (P:=P) h2 (hsat z (by simp)) hbm code
     have:=e1 .slice3C
     cases lo with
     | none=>simp [bnd] at h1;subst h1;simp [Instr.sliceBounds,e2,e3]
     | some y =>
       simp only [Option.map_some] at this
       simp [Instr.sliceBounds,this,e2,e3]
theorem mem_slice {x : Operand} {t : TypeId} {lo hi mx : Option Operand} {y : Operand} (h : y ∈ lo ∨ y ∈ hi ∨ y ∈ mx) : y ∈ (Op.slice t x lo hi mx).operands:=by
 simp only [Op.operands,Array.mem_append]
 rcases h with h | h | h<;>simp_all
theorem q_slc_sl {t e : TypeId} {sz by' : Nat} {z : Value} {x : Operand} {lo hi mx : Option Operand} {l : List (List Dat)} (va vb : Nat) (ht : slInfo P t = some (e, sz, by', z)) (hx : lookO env x = .d (.sl sz l))
 (h1 : bnd env lo 0 va) (h2 : bnd env hi l.length vb) (hab : va ≤ vb) (hbn : vb ≤ l.length) (h3 : mx = none ∨ (mx.isSome = true ∧ hi.isSome = true ∧ ∃ vm,bnd env mx 0 vm ∧ vb ≤ vm ∧ vm ≤ l.length)) :
 Quiet P m ⟨dst,.slice t x lo hi mx,ty,pos,af,gd⟩ env own [] (.d (.sl sz ((l.drop va).take (vb - va)))) :=
 Quiet.val fun F own' κ a w hs _ _ _=>by
  have hh:=hs x (by simp [Op.operands]);rw [hx,AV.sat,Dat.sat] at hh
  obtain ⟨A,c,h4,h5,h6,h7⟩:=hh
  obtain ⟨he,i,hi1,hi2,_,_⟩:=slInfo_spec ht
  obtain ⟨vm,h8,h9,h10,h11⟩ : ∃ vm,bnd env mx c vm ∧ vb ≤ vm ∧ vm ≤ c ∧ (mx = none ∨ hi.isSome = true):=by
   rcases h3 with rfl | ⟨h0,h11,vm,h8,h9,h10⟩
   ·exact ⟨c,rfl,by omega,Nat.le_refl _,.inl rfl⟩
   ·refine ⟨vm, ?_, h9, by omega, .inr h11⟩
    cases mx with
    | none=>simp at h0
    | some _=>exact h8
  have hb:=run_bounds (P:=P) (a:=a) true (fun y hy=>hs y (mem_slice hy)) h1 h2 h8 hab h9 h10 h11
  refine ⟨.slice (if vm = va then A else A.map (·.add (va * sz))) (vb - va) (vm - va),exec_v ?_,?_⟩
  ·simp [h4,Instr.sliceAt,run_underlying he,Instr.slice,hb,sizeOf,typeInfo,hi1,hi2]
  ·rw [AV.sat, Dat.sat]
   have hlen : ((l.drop va).take (vb - va)).length = vb - va:=by simp;omega
   refine ⟨_,vm - va,by rw [hlen],by omega,by omega,fun hp=>?_⟩
   obtain ⟨b,o,rfl,h12,h13,h14⟩:=h7 (by omega)
   rw [if_neg (by omega)]
   refine ⟨b,o + va * sz,by simp [add_none],h12,h13,?_⟩
   rw [Dat.rowsSat_iff] at h14 ⊢
   intro j e' hj
   rw [List.getElem?_take] at hj
   split at hj
   ·rw [List.getElem?_drop] at hj
    have:=h14 _ e' hj
    rwa [show o + va * sz + j * sz = o + (va + j) * sz from by rw [Nat.add_mul];omega]
   ·cases hj
theorem q_slc_osl {t e e' : TypeId} {sz by' : Nat} {z : Value} {x : Operand} {lo hi : Option Operand} {p ver q n : Nat} {l : List (List Dat)} (va vb : Nat) (ht : slInfo P t = some (e, sz, by', z)) (hx : lookO env x = .osl p ver q n) (hp : own[p]? = some (.row ver sz e' l))
 (h1 : bnd env lo 0 va) (h2 : bnd env hi n vb) (hab : va ≤ vb) (hbn : vb ≤ n) : Quiet P m ⟨dst,.slice t x lo hi none,ty,pos,af,gd⟩ env own [p] (.osl p ver (q + va) (vb - va)) :=
 Quiet.val fun F own' κ a w hs _ hsame _=>by
  have hh:=hs x (by simp [Op.operands]);rw [hx,AV.sat] at hh
  have hp' : own'[p]? = some (.row ver sz e' l):=by rw [hsame p (by simp)];exact hp
  obtain ⟨h3,A,c,h4,h5,h6,h7⟩:=hh.2 sz e' l hp'
  obtain ⟨he,i,hi1,hi2,_,_⟩:=slInfo_spec ht
  have hb:=run_bounds (P:=P) (a:=a) (mx:=none) true (fun y hy=>hs y (mem_slice (x:=x) (t:=t) hy)) h1 h2 (show bnd env none c c from rfl) hab (by omega) (Nat.le_refl _) (.inl rfl)
  refine ⟨.slice (if c = va then A else A.map (·.add (va * sz))) (vb - va) (c - va),exec_v ?_,?_⟩
  ·simp only [Option.map_none] at hb
   simp [h4,Instr.sliceAt,run_underlying he,Instr.slice,hb,sizeOf,typeInfo,hi1,hi2]
  ·rw [AV.sat]
   refine ⟨by obtain ⟨y1,y2,y3,_⟩:=hh.1;exact ⟨y1,y2,y3,rfl⟩,fun sz2 e2 c2 hc=>?_⟩
   rw [hp'] at hc
   obtain ⟨rfl,rfl,rfl⟩ : sz = sz2 ∧ e' = e2 ∧ l = c2:=by simpa using hc
   refine ⟨by omega,_,c - va,rfl,by omega,by omega,fun hpos=>?_⟩
   have hcond : 0 < n ∨ q = 0:=by omega
   rcases h7 hcond with ⟨g,g1,rfl,cur,e3,fz,g3,g4⟩ | ⟨g1,rfl,rfl⟩
   ·refine .inl ⟨g, g1, ?_, cur, e3, fz, g3, by rwa [show q + va + (c - va) = q + c from by omega]⟩
    split
    ·have : va = 0 := by omega
     subst this;rfl
    ·simp [add_none,Nat.add_mul]
   ·refine .inr ⟨g1, ?_, by omega⟩
    split<;>simp
theorem q_index_str {t : TypeId} {x y : Operand} {s : ByteArray} {k : IntKind} (i : Int) (j : Nat) (ht : P.underlying t = some .string) (hx : lookO env x = .d (.v (.string s))) (hy : lookO env y = .d (.v (.int k i))) (hij : i = j) (hj : j < s.size) :
 Quiet P m ⟨dst,.index t x y,ty,pos,af,gd⟩ env own [] (.d (.v (.int .u8 (s[j]'hj).toNat))) :=
 Quiet.val fun F own' κ a w hs _ _ _=>by
  have h1:=hs x (by simp [Op.operands]);rw [hx,sat_v] at h1
  have h2:=hs y (by simp [Op.operands]);rw [hy,sat_v] at h2
  refine ⟨.int .u8 (s[j]'hj).toNat,exec_v ?_,sat_v.2 rfl⟩
  have : s[j]? = some s[j]:=by simp [hj]
  simp [h1,h2,hij,Instr.index,asIntOf,run_underlying ht,this]
theorem q_pick {c x y : Operand} {b : Bool} (hc : lookO env c = bV b) : Quiet P m ⟨dst,.pick c x y,ty,pos,af,gd⟩ env own [] (if b then lookO env x else lookO env y) :=
 Quiet.val fun F own' κ a w hs _ _ _=>by
  have h1:=hs c (by simp [Op.operands]);rw [hc,sat_v] at h1
  have h2:=hs x (by simp [Op.operands])
  have h3:=hs y (by simp [Op.operands])
  refine ⟨if b then a.eval x else a.eval y,?_,?_⟩
  ·simp [execOp,h1,asBool]
  ·cases b
   ·exact h3
   ·exact h2
theorem q_nil_opt {x : Operand} {i o : Nat} (hx : lookO env x = .opt i o) : Quiet P m ⟨dst,.nilCheck x,ty,pos,af,gd⟩ env own [] (.opt i o) :=
 Quiet.val fun F own' κ a w hs _ _ _=>by
  have h1:=hs x (by simp [Op.operands]);rw [hx] at h1
  have h2:=h1
  rw [AV.sat] at h1
  obtain ⟨g,l,_,_,h4⟩:=h1
  refine ⟨a.eval x,?_,h2⟩
  simp only [execOp]
  rw [h4]
  rfl
theorem q_makeFunc {f : FuncId} {caps : Array Operand} : Quiet P m ⟨dst,.makeFunc (.func f) #[] caps,ty,pos,af,gd⟩ env own [] (.fn f (caps.toList.map (lookO env))) :=
 Quiet.val fun F own' κ a w hs _ _ _=>by
  refine ⟨.func (.func f) #[] (caps.map a.eval),exec_v ?_,?_⟩
  ·simp [Instr.makeFunc]
  ·rw [AV.sat]
   refine ⟨_,rfl,satL_of (by simp) fun j y hy=>?_⟩
   rw [List.getElem?_map] at hy
   cases h : caps.toList[j]? with
   | none=>simp [h] at hy
   | some c =>
     obtain rfl : lookO env c = y:=by simpa [h] using hy
     have hmem : c ∈ caps:=by have:=List.mem_of_getElem? h;simpa using this
     refine ⟨a.eval c,?_,hs c (by simp [Op.operands,hmem])⟩
     have : caps[j]? = some c:=by simpa using h
     simp [this]
theorem q_field {s f off k : Nat} {t : TypeId} {x : Operand} {l : List AV} {y : AV} (h : fldInfo P s f = some (off,t)) (ht : tyInfo P t = some (false,k)) (hx : lookO env x = .agg l) (hy : l[off]? = some y) : Quiet P m ⟨dst,.field s x f,ty,pos,af,gd⟩ env own [] y :=
 Quiet.val fun F own' κ a w hs _ _ _=>by
  have h1:=hs x (by simp [Op.operands]);rw [hx,AV.sat] at h1
  obtain ⟨vs,h2,h3⟩:=h1
  obtain ⟨u,h4,h5⟩:=satL_get h3 off y hy
  obtain ⟨fields,fl,i,g1,g2,g3,g4,g5,g6⟩:=fldInfo_spec h
  obtain ⟨h6,i',h7,h8⟩:=tyInfo_spec ht
  have h4' : vs[off]? = some u:=by simpa using h4
  refine ⟨u,exec_v ?_,h5⟩
  rw [← g6] at h6
  simp [h2,Instr.field,run_underlying g1,g2,asAgg,part,h6 w,g5,h4']
end
end
section
def bldInfo (P : Program) (t : TypeId) : Option (List (Nat × Nat) × List Value) :=
 match P.underlying t with
 | some (.struct fields) => match (P.info? t).bind (·.zero), fields.toList.mapM (fun f => (P.info? f.type).map fun i => (f.offset, i.size)) with
   | some z,some pl=>some (pl,z.cells.toList)
   | _,_=>none
 | _=>none
theorem run_places {P : Program} {w : World} : ∀ (l : List Field) (pl : List (Nat × Nat)), l.mapM (fun f => (P.info? f.type).map fun i => (f.offset, i.size)) = some pl → (l.mapM (m := Sem) fun f => do pure (f.offset, ← sizeOf f.type)).run P w = .ok pl w
 | [],pl,h=>by simp at h;subst h;rfl
 | f :: fs,pl,h=>by
   rw [List.mapM_cons] at h
   simp only [Option.bind_eq_bind,Option.bind_eq_some_iff,Option.pure_def,Option.some.injEq,Option.map_eq_some_iff] at h
   obtain ⟨p,⟨i,hi,rfl⟩,ps,hps,rfl⟩:=h
   have ih:=run_places (w:=w) fs ps hps
   rw [List.mapM_cons]
   simp only [Sem.run_bind,sizeOf,typeInfo,run_program,Result.andThen_ok,hi,Sem.run_pure] at ih ⊢
   rw [ih]
   rfl
def fillA (pl : List (Nat × Nat)) (cells : List AV) : List (Nat × AV) → Option (List AV)
 | []=>some cells
 | (i, x) :: rest => match pl[i]?, cellsA x with
   | some (off,sz),some cs=>if cs.length = sz ∧ off + cs.length ≤ cells.length then fillA pl (cells.take off ++ cs ++ cells.drop (off + cs.length)) rest else none
   | _,_=>none
theorem cellsA_sat {F : Nat → Prop} {own : List Ent} {κ : List (Option Nat)} {w : World} {x : AV} {cs : List AV} {u : Value} (hc : cellsA x = some cs) (hs : AV.sat F own κ w x u) (h1 : ∀ y,x = .d (.v y) → y.oneCell' = true) : AV.satL F own κ w cs u.cells.toList:=by
 have one : ∀ y : AV,some [y] = some cs → AV.sat F own κ w y u → u.oneCell' = true → AV.satL F own κ w cs u.cells.toList:=fun y hy hsy hu=>by
  obtain rfl : [y] = cs:=by simpa using hy
  have : u.cells = #[u]:=by cases u<;>first | rfl | simp [Value.oneCell'] at hu
  rw [this];simp [AV.satL,hsy]
 cases x with
 | top=>simp [cellsA] at hc
 | tup l=>simp [cellsA] at hc
 | agg l =>
   obtain rfl : l = cs:=by simpa [cellsA] using hc
   rw [AV.sat] at hs
   obtain ⟨vs,rfl,h2⟩:=hs
   exact h2
 | d x =>
   refine one _ hc hs ?_
   rw [AV.sat] at hs
   cases x with
   | v y=>rw [Dat.sat] at hs;subst hs;exact h1 u rfl
   | any=>rw [Dat.sat] at hs;exact hs
   | sl sz l=>rw [Dat.sat] at hs;obtain ⟨A,c,rfl,_⟩:=hs;rfl
 | osl i ver o n =>
   have hs':=hs
   rw [AV.sat] at hs'
   obtain ⟨⟨_,_,_,h2⟩,_⟩:=hs'
   exact one _ hc hs h2
 | win i ver o n =>
   have hs':=hs
   rw [AV.sat] at hs'
   obtain ⟨⟨_,_,_,h2⟩,_⟩:=hs'
   exact one _ hc hs h2
 | rpt i ver j o =>
   have hs':=hs
   rw [AV.sat] at hs'
   obtain ⟨⟨_,_,_,h2⟩,_⟩:=hs'
   exact one _ hc hs h2
 | opt i o=>rw [AV.sat] at hs;have hs':=hs;obtain ⟨g,l,_,_,rfl⟩:=hs';exact one _ hc (by rw [AV.sat];exact hs) rfl
 | bsl i n c=>rw [AV.sat] at hs;have hs':=hs;obtain ⟨g,l,_,_,_,_,_,rfl⟩:=hs';exact one _ hc (by rw [AV.sat];exact hs) rfl
 | yl i=>rw [AV.sat] at hs;have hs':=hs;obtain ⟨g,st,pe,ps,asn,bdy,l,_,_,rfl⟩:=hs';exact one _ hc (by rw [AV.sat];exact hs) rfl
 | mp i=>rw [AV.sat] at hs;have hs':=hs;obtain ⟨g,ks,_,_,rfl⟩:=hs';exact one _ hc (by rw [AV.sat];exact hs) rfl
 | cl sz l=>rw [AV.sat] at hs;have hs':=hs;obtain ⟨_,A,n,rfl⟩:=hs';exact one _ hc (by rw [AV.sat];exact hs) rfl
 | gh l vs=>simp [cellsA] at hc
 | fpt sz l j o=>rw [AV.sat] at hs;have hs':=hs;obtain ⟨b,q,rfl,_⟩:=hs';exact one _ hc (by rw [AV.sat];exact hs) rfl
 | fn f l=>rw [AV.sat] at hs;have hs':=hs;obtain ⟨vs,rfl,_⟩:=hs';exact one _ hc (by rw [AV.sat];exact hs) rfl
 | bd f l=>rw [AV.sat] at hs;have hs':=hs;obtain ⟨vs,rfl,_⟩:=hs';exact one _ hc (by rw [AV.sat];exact hs) rfl
theorem foldl_set (cs : List Value) : ∀ (us : List Value) (off : Nat) (xs : Array Value), off + us.length ≤ xs.size →
 ((us.zipIdx).foldl (fun cs (p : Value × Nat)=>cs.setIfInBounds (off + p.2) p.1) xs).toList = xs.toList.take off ++ us ++ xs.toList.drop (off + us.length):=by
 have key : ∀ (us : List Value) (k off : Nat) (xs : Array Value), off + k + us.length ≤ xs.size →
  ((us.zipIdx k).foldl (fun cs (p : Value × Nat)=>cs.setIfInBounds (off + p.2) p.1) xs).toList = xs.toList.take (off + k) ++ us ++ xs.toList.drop (off + k + us.length):=fun us=>by
  induction us with
  | nil=>intro k off xs h;simp
  | cons u us ih =>
    intro k off xs h
    simp only [List.length_cons] at h
    rw [List.zipIdx_cons,List.foldl_cons]
    have:=ih (k + 1) off (xs.setIfInBounds (off + k) u) (by simp;omega)
    rw [this]
    have e:=list_seg_step xs.toList (off + k) u us (by simp;omega)
    simpa [Array.toList_setIfInBounds,Nat.add_assoc] using e
 intro us off xs h
 exact key us 0 off xs (by simpa using h)
theorem satL_append {F : Nat → Prop} {own : List Ent} {κ : List (Option Nat)} {w : World} : ∀ {l l' : List AV} {us us' : List Value}, AV.satL F own κ w l us → AV.satL F own κ w l' us' → AV.satL F own κ w (l ++ l') (us ++ us')
 | [],l',[],us',_,h=>by simpa using h
 | x :: xs,l',u :: us,us',h1,h=>by rw [AV.satL] at h1;rw [List.cons_append,List.cons_append,AV.satL];exact ⟨h1.1,satL_append h1.2 h⟩
 | [],_,_ :: _,_,h,_=>by simp [AV.satL] at h
 | _ :: _,_,[],_,h,_=>by simp [AV.satL] at h
theorem satL_take {F : Nat → Prop} {own : List Ent} {κ : List (Option Nat)} {w : World} : ∀ {l : List AV} {us : List Value} (n : Nat), AV.satL F own κ w l us → AV.satL F own κ w (l.take n) (us.take n)
 | [],[],n,h=>by simpa using h
 | x :: xs,u :: us,0,h=>by simp [AV.satL]
 | x :: xs,u :: us,n + 1,h=>by rw [AV.satL] at h;rw [List.take_succ_cons,List.take_succ_cons,AV.satL];exact ⟨h.1,satL_take n h.2⟩
 | [],_ :: _,_,h=>by simp [AV.satL] at h
 | _ :: _,[],_,h=>by simp [AV.satL] at h
theorem satL_drop {F : Nat → Prop} {own : List Ent} {κ : List (Option Nat)} {w : World} : ∀ {l : List AV} {us : List Value} (n : Nat), AV.satL F own κ w l us → AV.satL F own κ w (l.drop n) (us.drop n)
 | [],[],n,h=>by simpa using h
 | x :: xs,u :: us,0,h=>by simpa using h
 | x :: xs,u :: us,n + 1,h=>by rw [AV.satL] at h;rw [List.drop_succ_cons,List.drop_succ_cons];exact satL_drop n h.2
 | [],_ :: _,_,h=>by simp [AV.satL] at h
 | _ :: _,[],_,h=>by simp [AV.satL] at h
def okPart (x : AV) : Bool:=match x with | .d (.v y)=>y.oneCell' | _=>true
theorem okPart_spec {x : AV} (h : okPart x = true) : ∀ y,x = .d (.v y) → y.oneCell' = true:=fun y e=>by subst e;exact h
section
variable {P : Program} {m : Nat} {env : List (Nat × AV)} {own : List Ent} {dst : Option Tmp} {ty : TypeId} {pos : String} {af : Array Edge} {gd : Option (Nat × Bool)}
theorem fill_sat {F : Nat → Prop} {own' : List Ent} {κ : List (Option Nat)} {w : World} {a : Act} {pl : List (Nat × Nat)} : ∀ (ps : List (Nat × Operand)) (cells : List AV) (cs : Array Value) (r : List AV), AV.satL F own' κ w cells cs.toList →
 (∀ p ∈ ps,AV.sat F own' κ w (lookO env p.2) (a.eval p.2)) → (ps.all fun p=>okPart (lookO env p.2)) = true → fillA pl cells (ps.map fun p=>(p.1,lookO env p.2)) = some r →
 ∃ rs,Instr.fill (fun i=>pl[i]?) cs (ps.map fun p=>(p.1,a.eval p.2)) = some rs ∧ AV.satL F own' κ w r rs.toList
 | [],cells,cs,r,h,_,_,hr=>by
   simp only [List.map_nil,fillA,Option.some.injEq] at hr
   subst hr
   exact ⟨cs,rfl,h⟩
 | (i,x) :: ps,cells,cs,r,h,hs,hok,hr=>by
   simp only [List.map_cons,fillA] at hr
   have hx:=hs (i,x) (by simp)
   simp only [List.all_cons,Bool.and_eq_true] at hok
   cases hp : pl[i]? with
   | none=>simp [hp] at hr
   | some p =>
     obtain ⟨off,sz⟩:=p
     cases hc : cellsA (lookO env x) with
     | none=>simp [hp,hc] at hr
     | some xs =>
       simp only [hp,hc] at hr
       split at hr
       ·rename_i hcond
        have hxs:=cellsA_sat hc hx (okPart_spec hok.1)
        have hlx:=satL_length hxs
        have hlc:=satL_length h
        obtain ⟨rs,h1,h2⟩:=fill_sat ps _ ((((a.eval x).cells).zipIdx).foldl (fun cs (p : Value × Nat)=>cs.setIfInBounds (off + p.2) p.1) cs) r (by
         have : ((((a.eval x).cells).zipIdx).foldl (fun cs (p : Value × Nat)=>cs.setIfInBounds (off + p.2) p.1) cs) = (((a.eval x).cells.toList.zipIdx).foldl (fun cs (p : Value × Nat)=>cs.setIfInBounds (off + p.2) p.1) cs):=by
          rw [← Array.foldl_toList];simp
         rw [this,foldl_set []]
         ·rw [← hlx]
          exact satL_append (satL_append (satL_take _ h) hxs) (satL_drop _ h)
         ·rw [← hlx];simp at hlc;omega) (fun p hp=>hs p (by simp [hp])) hok.2 hr
        refine ⟨rs,?_,h2⟩
        simp only [List.map_cons,Instr.fill,hp]
        simp only [Array.length_toList] at hlx hlc
        rw [if_neg]
        ·exact h1
        ·simp only [Bool.or_eq_true, bne_iff_ne, ne_eq, decide_eq_true_eq, not_or]
         exact ⟨by omega,by omega⟩
       ·cases hr
theorem q_build {t : TypeId} {parts : Array (Nat × Operand)} {pl : List (Nat × Nat)} {zs : List Value} {r : List AV} (ht : bldInfo P t = some (pl, zs)) (hok : (parts.toList.all fun p => okPart (lookO env p.2)) = true)
 (hr : fillA pl (zs.map fun z=>.d (.v z)) (parts.toList.map fun p=>(p.1,lookO env p.2)) = some r) : Quiet P m ⟨dst,.build t parts,ty,pos,af,gd⟩ env own [] (.agg r) :=
 Quiet.val fun F own' κ a w hs _ _ _=>by
  unfold bldInfo at ht
  cases hu : P.underlying t with
  | none=>simp [hu] at ht
  | some d =>
    cases d<;>simp only [hu] at ht<;>first | (cases ht;done) | skip
    rename_i fields
    cases hz : (P.info? t).bind (·.zero) with
    | none=>simp [hz] at ht
    | some z =>
      cases hm : fields.toList.mapM (fun f=>(P.info? f.type).map fun i=>(f.offset,i.size)) with
      | none=>simp [hz,hm] at ht
      | some pl' =>
        simp only [hz,hm,Option.some.injEq,Prod.mk.injEq] at ht
        obtain ⟨rfl,rfl⟩:=ht
        have hpl:=run_places (P:=P) (w:=w) _ _ hm
        obtain ⟨rs,h1,h2⟩:=fill_sat (F:=F) (own':=own') (κ:=κ) (w:=w) (a:=a) (env:=env) parts.toList _ z.cells r (by
         refine satL_of (by simp) fun j y hy=>?_
         rw [List.getElem?_map] at hy
         cases hj : z.cells.toList[j]? with
         | none=>rw [hj] at hy;cases hy
         | some u => rw [hj] at hy; obtain rfl : AV.d (.v u) = y := by simpa using hy
                     exact ⟨u,rfl,sat_v.2 rfl⟩) (fun p hp=>hs p.2 (by
           simp only [Op.operands]
           simp only [List.mem_toArray,List.mem_map]
           exact ⟨p,by simpa using hp,rfl⟩)) hok hr
        cases hi : P.info? t with
        | none=>simp [hi] at hz
        | some i =>
          have hzz : i.zero = some z:=by simpa [hi] using hz
          refine ⟨.agg rs,exec_v ?_,?_⟩
          ·have e : (fields.mapM (m:=Sem) fun f=>do pure (f.offset,← sizeOf f.type)).run P w = .ok pl'.toArray w:=by
            rw [Array.mapM_eq_mapM_toList,Sem.run_map,hpl]
            rfl
           have e2 : (parts.map fun (p : Nat × Operand)=>(p.1,a.eval p.2)).toList = parts.toList.map fun p=>(p.1,a.eval p.2):=by simp
           have e3 : (fun (i : Nat)=>pl'.toArray[i]?) = fun (i : Nat)=>pl'[i]?:=by funext i;simp
           simp only [Instr.build]
           simp only [Sem.run_bind,zeroValue,typeInfo,run_program,Result.andThen_ok,hi,Sem.run_pure,hzz,run_underlying hu,e]
           rw [e2,e3,h1]
           rfl
          ·rw [AV.sat];exact ⟨rs,rfl,h2⟩
end
end
section
theorem cellsD_A {x : AV} {ds : List Dat} (h : cellsD x = some ds) : cellsA x = some (ds.map .d) ∧ ∀ y,x = .d (.v y) → y.oneCell' = true:=by
 cases x with
 | d y =>
   cases y with
   | v u =>
     simp only [cellsD] at h
     split at h
     ·rename_i hu
      obtain rfl : [Dat.v u] = ds:=by simpa using h
      exact ⟨rfl,fun z hz=>by cases hz;exact hu⟩
     ·cases h
   | any => obtain rfl : [Dat.any] = ds := by simpa [cellsD] using h
            exact ⟨rfl,fun z hz=>by cases hz⟩
   | sl sz l => obtain rfl : [Dat.sl sz l] = ds := by simpa [cellsD] using h
                exact ⟨rfl,fun z hz=>by cases hz⟩
 | agg l =>
   refine ⟨?_,fun z hz=>by cases hz⟩
   have : ∀ (l : List AV) (ds : List Dat),l.mapM datOf = some ds → l = ds.map .d:=fun l=>by
    induction l with
    | nil=>intro ds h;simp at h;subst h;rfl
    | cons x xs ih =>
      intro ds h
      rw [List.mapM_cons] at h
      simp only [Option.bind_eq_bind,Option.bind_eq_some_iff,Option.pure_def,Option.some.injEq] at h
      obtain ⟨p,hp,ps,hps,rfl⟩:=h
      have h1 : x = .d p:=by
       cases x<;>simp [datOf] at hp
       rw [hp]
      rw [h1,ih ps hps];rfl
   exact congrArg some (this l ds (by simpa [cellsD] using h))
 | _=>simp [cellsD] at h
theorem one_of_cellsA {F : Nat → Prop} {own : List Ent} {κ : List (Option Nat)} {w : World} {x : AV} {u : Value} (hx : oneA x = true) (hs : AV.sat F own κ w x u) : u.oneCell' = true:=by
 cases x with
 | top=>simp [oneA] at hx
 | tup l=>simp [oneA] at hx
 | agg l=>simp [oneA] at hx
 | d x =>
   rw [AV.sat] at hs
   cases x with
   | v y=>rw [Dat.sat] at hs;subst hs;exact hx
   | any=>rw [Dat.sat] at hs;exact hs
   | sl sz l=>rw [Dat.sat] at hs;obtain ⟨A,c,rfl,_⟩:=hs;rfl
 | osl i ver o n=>rw [AV.sat] at hs;obtain ⟨⟨_,_,_,h2⟩,_⟩:=hs;exact h2
 | win i ver o n=>rw [AV.sat] at hs;obtain ⟨⟨_,_,_,h2⟩,_⟩:=hs;exact h2
 | rpt i ver j o=>rw [AV.sat] at hs;obtain ⟨⟨_,_,_,h2⟩,_⟩:=hs;exact h2
 | opt i o=>rw [AV.sat] at hs;obtain ⟨g,l,_,_,rfl⟩:=hs;rfl
 | bsl i n c=>rw [AV.sat] at hs;obtain ⟨g,l,_,_,_,_,_,rfl⟩:=hs;rfl
 | yl i=>rw [AV.sat] at hs;obtain ⟨g,st,pe,ps,asn,bdy,l,_,_,rfl⟩:=hs;rfl
 | mp i=>rw [AV.sat] at hs;obtain ⟨g,ks,_,_,rfl⟩:=hs;rfl
 | cl sz l=>rw [AV.sat] at hs;obtain ⟨_,A,n,rfl⟩:=hs;rfl
 | gh l vs=>simp [oneA] at hx
 | fpt sz l j o=>rw [AV.sat] at hs;obtain ⟨b,q,rfl,_⟩:=hs;rfl
 | fn f l=>rw [AV.sat] at hs;obtain ⟨vs,rfl,_⟩:=hs;rfl
 | bd f l=>rw [AV.sat] at hs;obtain ⟨vs,rfl,_⟩:=hs;rfl
theorem oneL_sat {F : Nat → Prop} {own : List Ent} {κ : List (Option Nat)} {w : World} : ∀ {l : List AV} {us : List Value}, l.all oneA = true → AV.satL F own κ w l us → ∀ u ∈ us, u.oneCell' = true
 | [],[],_,_,u,hu=>by cases hu
 | x :: xs,y :: us,h,hs,u,hu=>by
   rw [AV.satL] at hs
   simp only [List.all_cons,Bool.and_eq_true] at h
   rcases List.mem_cons.1 hu with rfl | hu
   ·exact one_of_cellsA h.1 hs.1
   ·exact oneL_sat h.2 hs.2 u hu
 | [],_ :: _,_,hs,_,_=>by simp [AV.satL] at hs
 | _ :: _,[],_,hs,_,_=>by simp [AV.satL] at hs
section
variable {P : Program} {m : Nat} {env : List (Nat × AV)} {own : List Ent} {dst : Option Tmp} {ty : TypeId} {pos : String} {af : Array Edge} {gd : Option (Nat × Bool)}
theorem e_box {t : TypeId} {x : Operand} {l : List AV} (hc : cellsA (lookO env x) = some l) (hok : okPart (lookO env x) = true) (h1 : l.all oneA = true) :
 Eff P m ⟨dst,.box t x,ty,pos,af,gd⟩ env own [own.length] (.opt own.length 0) (own ++ [.box l]) :=
 Eff.mk (fun i hi=>by
  rcases Nat.lt_trichotomy i own.length with h | h | h
  ·rw [List.getElem?_append_left h]
  ·exact absurd (by simp [h]) hi
  ·rw [List.getElem?_eq_none (by simp;omega),List.getElem?_eq_none (by omega)]) fun F κ a w hs ho hm=>by
  have hx:=hs x (by simp [Op.operands])
  have hl:=cellsA_sat hc hx (okPart_spec hok)
  have hrun : (execOp a.eval ⟨dst,.box t x,ty,pos,af,gd⟩).run P w = .ok (.value (.pointer (some ⟨w.heap.size,0,none⟩))) (w.alloc (.cells (a.eval x).cells t)):=exec_v (by simp [Instr.box,newVar,newRow])
  rw [hrun]
  obtain ⟨g1,g2⟩:=step_push (x:=.box l) (og:=some w.heap.size) (w':=w.alloc (.cells (a.eval x).cells t)) hm ho rfl rfl rfl (by simp) (fun b hb=>Below.heap_alloc _ _ _ hb) (.inr ⟨_,rfl,Nat.le_refl _,by simp⟩) (fun hst =>
   .inr ⟨w.heap.size,rfl,(a.eval x).cells,t,HasC.all (heap_alloc_new _ _),AV.satL_stab hst ho.kap l hl,oneL_sat h1 hl⟩)
  refine ⟨κ ++ [some w.heap.size],?_,g1,g2⟩
  rw [AV.sat]
  exact ⟨w.heap.size,l,by simp,by rw [ho.len];simp,rfl⟩
def zeroInfo (P : Program) (t : TypeId) : Option (List Value):=((P.info? t).bind (·.zero)).map (·.cells.toList)
theorem e_alloc {t : TypeId} {zs : List Value} (hz : zeroInfo P t = some zs) (h1 : (zs.all (·.oneCell')) = true) :
 Eff P m ⟨dst,.alloc t,ty,pos,af,gd⟩ env own [own.length] (.opt own.length 0) (own ++ [.box (zs.map fun z=>.d (.v z))]) :=
 Eff.mk (fun i hi=>by
  rcases Nat.lt_trichotomy i own.length with h | h | h
  ·rw [List.getElem?_append_left h]
  ·exact absurd (by simp [h]) hi
  ·rw [List.getElem?_eq_none (by simp;omega),List.getElem?_eq_none (by omega)]) fun F κ a w hs ho hm=>by
  unfold zeroInfo at hz
  cases hi : P.info? t with
  | none=>simp [hi] at hz
  | some i =>
    cases hzz : i.zero with
    | none=>simp [hi,hzz] at hz
    | some z =>
      obtain rfl : z.cells.toList = zs:=by simpa [hi,hzz] using hz
      have hrun : (execOp a.eval ⟨dst,.alloc t,ty,pos,af,gd⟩).run P w = .ok (.value (.pointer (some ⟨w.heap.size,0,none⟩))) (w.alloc (.cells z.cells t)):=exec_v (by simp [Instr.alloc,zeroValue,typeInfo,hi,hzz,newVar,newRow])
      rw [hrun]
      obtain ⟨g1,g2⟩:=step_push (x:=.box (z.cells.toList.map fun z=>.d (.v z))) (og:=some w.heap.size) (w':=w.alloc (.cells z.cells t)) hm ho rfl rfl rfl (by simp) (fun b hb=>Below.heap_alloc _ _ _ hb) (.inr ⟨_,rfl,Nat.le_refl _,by simp⟩) (fun hst =>
       .inr ⟨w.heap.size,rfl,z.cells,t,HasC.all (heap_alloc_new _ _),satL_of (by simp) (fun j y hy=>by
        rw [List.getElem?_map] at hy
        cases hj : z.cells.toList[j]? with
        | none=>rw [hj] at hy;cases hy
        | some u => rw [hj] at hy; obtain rfl : AV.d (.v u) = y := by simpa using hy
                    exact ⟨u,rfl,sat_v.2 rfl⟩),fun u hu=>by simpa using List.all_eq_true.1 h1 u hu⟩)
      refine ⟨κ ++ [some w.heap.size],?_,g1,g2⟩
      rw [AV.sat]
      exact ⟨w.heap.size,z.cells.toList.map fun z=>.d (.v z),by simp,by rw [ho.len];simp,rfl⟩
theorem run_cells_fz (g o : Nat) (t : TypeId) (fz : Nat × Nat) : ∀ (vs : List Value) (i : Nat) (cur : Array Value) (w : World), w.heap[g]? = some (.cells cur t fz) → (fz = (0, 0) ∨ cur.size ≤ fz.1) → o + i + vs.length ≤ cur.size → (∀ v ∈ vs, v.oneCell' = true) →
 (storeCells ⟨g,o,none⟩ vs i).run P w = .ok () (w.setRow g (cur.toList.take (o + i) ++ vs ++ cur.toList.drop (o + i + vs.length)).toArray)
 | [],i,cur,w,hg,_,_,_=>by
   simp only [storeCells,List.append_nil,List.length_nil,Nat.add_zero,List.take_append_drop,Array.toArray_toList]
   rw [setRow_self w g cur t fz hg]
   rfl
 | v :: vs,i,cur,w,hg,hfz,hl,h1=>by
   rw [List.length_cons] at hl
   have hi : o + i < cur.size:=by omega
   have hadd : (⟨g,o,none⟩ : Addr).add i = ⟨g,o + i,none⟩:=add_none ..
   have hfro : w.frozen? ⟨g,o + i,none⟩ = false:=by
    rcases hfz with rfl | hfz
    ·simp [World.frozen?,hg]
    ·simp only [World.frozen?, hg, Bool.and_eq_false_iff, decide_eq_false_iff_not]
     left;omega
   have hst : (store ((⟨g,o,none⟩ : Addr).add i) v).run P w = .ok () (w.setRow g (cur.setIfInBounds (o + i) v)):=by
    rw [hadd,run_store P w _ v _ (h1 v (by simp)),cell_of_row w g _ cur t fz hg,Array.getElem?_eq_getElem hi]
    simp [hfro,setCell_eq_setRow w g (o + i) cur t fz v hg]
   have ih:=run_cells_fz g o t fz vs (i + 1) (cur.setIfInBounds (o + i) v) (w.setRow g (cur.setIfInBounds (o + i) v)) (setRow_heap w g cur _ t _ hg) (hfz.imp id fun h=>by simpa using h) (by simp;omega) (fun x hx=>h1 x (by simp [hx]))
   simp only [storeCells,Sem.run_bind,hst,Result.andThen_ok,ih,setRow_setRow]
   congr 3
   have e:=list_seg_step cur.toList (o + i) v vs (by simp;omega)
   simpa [Array.toList_setIfInBounds,Nat.add_assoc] using e
theorem run_storeAt {t : TypeId} {n : Nat} {b : Bool} (ht : tyInfo P t = some (b, n)) {g o : Nat} {cur : Array Value} {t2 : TypeId} {fz : Nat × Nat} {w : World} (hg : w.heap[g]? = some (.cells cur t2 fz)) (hfz : fz = (0, 0) ∨ cur.size ≤ fz.1) {v : Value} (hn : v.cells.size = n) (hfit : o + v.cells.size ≤ cur.size) (h1 : ∀ u ∈ v.cells.toList, u.oneCell' = true) :
 (Instr.storeAt t (.pointer (some ⟨g,o,none⟩)) v).run P w = .ok () (w.setRow g (cur.toList.take o ++ v.cells.toList ++ cur.toList.drop (o + v.cells.toList.length)).toArray):=by
 obtain ⟨_,i,h2,h3⟩:=tyInfo_spec ht
 have hst:=run_cells_fz (P:=P) g o t2 fz v.cells.toList 0 cur w hg hfz (by simpa using hfit) h1
 simp only [Nat.add_zero] at hst
 simp [Instr.storeAt,Instr.sureAddr,storeVar,sizeOf,typeInfo,h2,h3,hn,hst]
theorem e_st_box {t : TypeId} {n : Nat} {b : Bool} {x y : Operand} {i o : Nat} {l cs : List AV} (ht : tyInfo P t = some (b, n)) (hx : lookO env x = .opt i o) (hl : own[i]? = some (.box l)) (hc : cellsA (lookO env y) = some cs) (hok : okPart (lookO env y) = true) (h1 : cs.all oneA = true) (hn : cs.length = n) (hfit : o + n ≤ l.length) :
 Eff P m ⟨dst,.store t x y,ty,pos,af,gd⟩ env own [i] (.d (.v undef)) (own.set i (.box (l.take o ++ cs ++ l.drop (o + cs.length)))) :=
 Eff.mk (fun j hj=>by rw [List.getElem?_set_ne (by simpa using Ne.symm (by simpa using hj))]) fun F κ a w hs ho hm=>by
  have hx1:=hs x (by simp [Op.operands]);rw [hx,AV.sat] at hx1
  have hy1:=hs y (by simp [Op.operands])
  have hcs:=cellsA_sat hc hy1 (okPart_spec hok)
  have hcl:=satL_length hcs
  obtain ⟨g,l2,h2,h3,h4⟩:=hx1
  obtain ⟨cur,t2,⟨tail,fz,h5,hfz⟩,h6,h7⟩:=box_block (l':=l) ho hl h3
  have hll:=satL_length h6
  simp only [Array.length_toList] at hll hcl
  have hvn : (a.eval y).cells.size = n:=by omega
  have hrun : (execOp a.eval ⟨dst,.store t x y,ty,pos,af,gd⟩).run P w = .ok .skip (w.setRow g ((cur ++ tail).toList.take o ++ (a.eval y).cells.toList ++ (cur ++ tail).toList.drop (o + (a.eval y).cells.toList.length)).toArray) :=
   exec_u (by rw [h4];exact run_storeAt ht h5 hfz hvn (by simp;omega) (oneL_sat h1 hcs))
  have hrowT : ((cur ++ tail).toList.take o ++ (a.eval y).cells.toList ++ (cur ++ tail).toList.drop (o + (a.eval y).cells.toList.length)).toArray = (cur.toList.take o ++ (a.eval y).cells.toList ++ cur.toList.drop (o + (a.eval y).cells.toList.length)).toArray ++ tail:=by
   apply Array.ext'
   rw [Array.toList_append,Array.toList_append,List.take_append_of_le_length (by simp;omega),List.drop_append_of_le_length (by simp;omega)]
   simp
  rw [hrun,hrowT]
  generalize hrow : (cur.toList.take o ++ (a.eval y).cells.toList ++ cur.toList.drop (o + (a.eval y).cells.toList.length)).toArray = row
  have hrs : AV.satL F own κ w (l.take o ++ cs ++ l.drop (o + cs.length)) row.toList:=by
   rw [← hrow,hcl]
   simp only [Array.length_toList]
   exact satL_append (satL_append (satL_take _ h6) hcs) (satL_drop _ h6)
  have hone : ∀ u ∈ row.toList,u.oneCell' = true:=fun u hu=>by
   rw [← hrow] at hu
   simp only [List.append_assoc,List.mem_append] at hu
   rcases hu with hu | hu | hu
   ·exact h7 u (List.mem_of_mem_take hu)
   ·exact oneL_sat h1 hcs u hu
   ·exact h7 u (List.mem_of_mem_drop hu)
  have hgl:=(ho.lt' h3).1
  have hrsz : row.size = cur.size:=by
   have:=satL_length hrs
   simp only [List.length_append,List.length_take,List.length_drop,Array.length_toList] at this
   omega
  obtain ⟨g1,g2⟩:=step_upd (m:=m) (x':=.box (l.take o ++ cs ++ l.drop (o + cs.length))) (og:=some g) (og':=some g) (w':=w.setRow g (row ++ tail)) ho hl h3 rfl rfl rfl (by simp [World.setRow]) (fun b hb hne=>by
   simp only [World.setRow,Array.getElem?_modify]
   rw [if_neg (fun e=>hne (by rw [e]))]) (.inl rfl) (.inr rfl) (.inr rfl) (fun hst=>.inr ⟨g,rfl,row,t2,⟨tail,fz,setRow_heap w g (cur ++ tail) (row ++ tail) t2 fz h5,hfz.imp id fun h=>by rw [Array.size_append] at h ⊢;rw [hrsz];exact h⟩,AV.satL_stab hst ho.kap _ hrs,hone⟩)
  exact ⟨_,sat_v.2 rfl,g1,g2⟩
end
end
section
def frzSl (own : List Ent) (i ver o n : Nat) : AV :=
 match own[i]? with
 | some (.row v sz _ l)=>if v = ver then .d (.sl sz ((l.drop o).take n)) else .top
 | _=>.top
def plc : List Nat → Nat → Option Nat
 | [],_=>none
 | j :: js,i=>if j = i then some 0 else match plc js i with | some k=>some (k + 1) | none=>none
mutual
def AV.frz (own : List Ent) (js : List Nat) : AV → AV
 | .osl i ver o n=>match plc js i with | some k=>.osl k ver o n | none=>frzSl own i ver o n
 | .win i ver o n=>match plc js i with | some k=>.win k ver o n | none=>frzSl own i ver o n
 | .rpt i ver j o=>match plc js i with | some k=>.rpt k ver j o | none=>.top
 | .opt i o=>match plc js i with | some k=>.opt k o | none=>.top
 | .bsl i n c=>match plc js i with | some k=>.bsl k n c | none=>.top
 | .yl i=>match plc js i with | some k=>.yl k | none=>.top
 | .mp i=>match plc js i with | some k=>.mp k | none=>.top
 | .fn f l=>.fn f (AV.frzL own js l)
 | .bd f l=>.bd f (AV.frzL own js l)
 | .agg l=>.agg (AV.frzL own js l)
 | .tup l=>.tup (AV.frzL own js l)
 | .gh l vs=>.gh (AV.frzL own js l) vs
 | .top=>.top
 | .d x=>.d x
 | .cl sz l=>.cl sz l
 | .fpt sz l j o=>.fpt sz l j o
def AV.frzL (own : List Ent) (js : List Nat) : List AV → List AV
 | []=>[]
 | x :: xs=>AV.frz own js x :: AV.frzL own js xs
end
def Ent.frz (own : List Ent) (js : List Nat) : Option Ent → Ent
 | some (.box l)=>.box (AV.frzL own js l)
 | some (.lp st pe ps asn bdy l)=>.lp st pe ps asn bdy (AV.frzL own js l)
 | some (.row v s e c)=>.row v s e c
 | some (.mp ks)=>.mp (mapE (AV.frz own js) ks)
 | none=>.box []
def selOwn (own : List Ent) (js : List Nat) : List Ent:=js.map fun i=>Ent.frz own js own[i]?
def nodupB : List Nat → Bool
 | []=>true
 | j :: js=>!js.contains j && nodupB js
def selOk (own : List Ent) (js : List Nat) : Bool:=(js.all fun j=>decide (j < own.length)) && nodupB js
theorem plc_spec : ∀ {js : List Nat} {i k : Nat}, plc js i = some k → js[k]? = some i
 | [],i,k,h=>by simp [plc] at h
 | j :: js,i,k,h=>by
   simp only [plc] at h
   split at h
   ·rename_i e; obtain rfl : 0 = k := by simpa using h
    simp [e]
   ·cases hp : plc js i with
    | none=>simp [hp] at h
    | some k' => obtain rfl : k' + 1 = k := by simpa [hp] using h
                 simpa using plc_spec hp
theorem nodup_inj : ∀ {js : List Nat}, nodupB js = true → ∀ {a b : Nat} {i : Nat}, js[a]? = some i → js[b]? = some i → a = b
 | [],_,a,b,i,h,_=>by simp at h
 | j :: js,hn,a,b,i,h1,h2=>by
   simp only [nodupB,Bool.and_eq_true,Bool.not_eq_true'] at hn
   cases a with
   | zero =>
     cases b with
     | zero=>rfl
     | succ b =>
       obtain rfl : j = i:=by simpa using h1
       have : j ∈ js:=List.mem_of_getElem? (by simpa using h2)
       have:=hn.1
       simp_all
   | succ a =>
     cases b with
     | zero =>
       obtain rfl : j = i:=by simpa using h2
       have : j ∈ js:=List.mem_of_getElem? (by simpa using h1)
       have:=hn.1
       simp_all
     | succ b=>rw [nodup_inj hn.2 (a:=a) (b:=b) (i:=i) (by simpa using h1) (by simpa using h2)]
section
variable {F : Nat → Prop} {own : List Ent} {κ : List (Option Nat)} {w : World} {js : List Nat}
def selK (κ : List (Option Nat)) (js : List Nat) : List (Option Nat):=js.map fun i=>κ.getD i none
theorem sel_bad {b : Nat} (h : ¬ badK F κ b) : ¬ badK F (selK κ js) b:=fun hb=>by
 rcases hb with hb | hb
 ·exact h (.inl hb)
 ·obtain ⟨i, hi, he⟩ := List.mem_map.1 hb
  have : κ[i]? = some (some b):=by
   rw [List.getD_eq_getElem?_getD] at he
   cases hk : κ[i]? with
   | none=>rw [hk] at he;cases he
   | some og=>rw [hk] at he;simp at he;rw [he]
  exact h (.inr (List.mem_of_getElem? this))
theorem sel_wide : Wide (badK F κ) (badK F (selK κ js)) w w:=(Wide.of (Nat.le_refl _) (fun _ _ _=>rfl) (fun b _ hb=>sel_bad hb))
theorem selK_get {k i : Nat} (h : js[k]? = some i) : (selK κ js)[k]? = some (κ.getD i none):=by simp [selK,h]
theorem selOwn_get {k i : Nat} (h : js[k]? = some i) : (selOwn own js)[k]? = some (Ent.frz own js own[i]?):=by simp [selOwn,h]
theorem frzSl_sat (ho : OwnSat F own κ w) {i ver o n : Nat} {u : Value} (hplc : plc js i = none) (hk : ∀ k : Nat,js[k]? ≠ some i) (hs : AV.sat F own κ w (.osl i ver o n) u) : AV.sat F (selOwn own js) (selK κ js) w (frzSl own i ver o n) u:=by
 unfold frzSl
 rw [AV.sat] at hs
 obtain ⟨⟨y,hy,hv,h1c⟩,hs2⟩:=hs
 rw [hy]
 cases y with
 | box l=>exact hv.elim
 | lp=>exact hv.elim
 | mp=>exact hv.elim
 | row v sz e l =>
   dsimp only
   split
   ·rename_i e1; subst e1
    obtain ⟨h1,A,c,h2,h3,h4,h5⟩:=hs2 sz e l hy
    rw [AV.sat,Dat.sat]
    have hlen : ((l.drop o).take n).length = n:=by simp;omega
    refine ⟨A,c,by rw [hlen];exact h2,by rw [hlen];exact h3,h4,fun hp=>?_⟩
    rw [hlen] at hp
    rcases h5 (.inl hp) with ⟨g,g1,rfl,cur,t,fz,g3,g4⟩ | ⟨_,_,rfl⟩
    ·obtain ⟨hsz, hrow⟩ := ho.ent i _ hy
     rw [getD_some g1] at hrow
     rcases hrow with ⟨hx,_⟩ | ⟨g',hg',cur',g5,g6,g7⟩
     ·cases hx
     ·obtain rfl : g = g' := by simpa using hg'
      have hlt:=ho.lt' g1
      refine ⟨g,o * sz,rfl,hlt.1,?_,?_⟩
      ·intro hb
       rcases hb with hb | hb
       ·exact hlt.2 hb
       ·obtain ⟨i2, hi2, he2⟩ := List.mem_map.1 hb
        obtain ⟨k2,hk2⟩:=List.mem_iff_getElem?.1 hi2
        have h8 : κ[i2]? = some (some g):=by
         rw [List.getD_eq_getElem?_getD] at he2
         cases h9 : κ[i2]? with
         | none=>rw [h9] at he2;cases he2
         | some og=>rw [h9] at he2;simp at he2;rw [he2]
        obtain rfl:=ho.inj i i2 g g1 h8
        exact hk k2 hk2
      ·have g8 := Dat.rowsSat_wide (sel_wide (js := js)) rfl l g7
       rw [Dat.rowsSat_iff] at g8 ⊢
       intro j e' hj
       rw [List.getElem?_take] at hj
       split at hj
       ·rw [List.getElem?_drop] at hj
        have:=g8 _ e' hj
        rwa [Nat.zero_add,Nat.add_mul] at this
       ·cases hj
    ·omega
   ·simp [AV.sat]
theorem frzSl_satW (ho : OwnSat F own κ w) {i ver o n : Nat} {u : Value} (hplc : plc js i = none) (hk : ∀ k : Nat,js[k]? ≠ some i) (hs : AV.sat F own κ w (.win i ver o n) u) : AV.sat F (selOwn own js) (selK κ js) w (frzSl own i ver o n) u:=by
 unfold frzSl
 rw [AV.sat] at hs
 obtain ⟨⟨y,hy,hv,h1c⟩,hs2⟩:=hs
 rw [hy]
 cases y with
 | box l=>exact hv.elim
 | lp=>exact hv.elim
 | mp=>exact hv.elim
 | row v sz e l =>
   dsimp only
   split
   ·rename_i e1; subst e1
    obtain ⟨h1,A,c,h2,h3,h4,h5⟩:=hs2 sz e l hy
    rw [AV.sat,Dat.sat]
    have hlen : ((l.drop o).take n).length = n:=by simp;omega
    refine ⟨A,c,by rw [hlen];exact h2,by rw [hlen];exact h3,h4,fun hp=>?_⟩
    rw [hlen] at hp
    rcases h5 (.inl hp) with ⟨g,g1,rfl,cur,t,fz,g3,g4⟩ | ⟨_,_,rfl⟩
    ·obtain ⟨hsz, hrow⟩ := ho.ent i _ hy
     rw [getD_some g1] at hrow
     rcases hrow with ⟨hx,_⟩ | ⟨g',hg',cur',g5,g6,g7⟩
     ·cases hx
     ·obtain rfl : g = g' := by simpa using hg'
      have hlt:=ho.lt' g1
      refine ⟨g,o * sz,rfl,hlt.1,?_,?_⟩
      ·intro hb
       rcases hb with hb | hb
       ·exact hlt.2 hb
       ·obtain ⟨i2, hi2, he2⟩ := List.mem_map.1 hb
        obtain ⟨k2,hk2⟩:=List.mem_iff_getElem?.1 hi2
        have h8 : κ[i2]? = some (some g):=by
         rw [List.getD_eq_getElem?_getD] at he2
         cases h9 : κ[i2]? with
         | none=>rw [h9] at he2;cases he2
         | some og=>rw [h9] at he2;simp at he2;rw [he2]
        obtain rfl:=ho.inj i i2 g g1 h8
        exact hk k2 hk2
      ·have g8 := Dat.rowsSat_wide (sel_wide (js := js)) rfl l g7
       rw [Dat.rowsSat_iff] at g8 ⊢
       intro j e' hj
       rw [List.getElem?_take] at hj
       split at hj
       ·rw [List.getElem?_drop] at hj
        have:=g8 _ e' hj
        rwa [Nat.zero_add,Nat.add_mul] at this
       ·cases hj
    ·omega
   ·simp [AV.sat]
theorem plc_none : ∀ {js : List Nat} {i : Nat}, plc js i = none → ∀ k : Nat, js[k]? ≠ some i
 | [],i,_,k=>by simp
 | j :: js,i,h,k=>by
   simp only [plc] at h
   split at h
   ·cases h
   ·rename_i hne
    cases hp : plc js i with
    | some k'=>simp [hp] at h
    | none =>
      cases k with
      | zero=>simpa using hne
      | succ k=>simpa using plc_none hp k
mutual
theorem AV.frz_sat (ho : OwnSat F own κ w) : ∀ (x : AV) {u : Value}, AV.sat F own κ w x u → AV.sat F (selOwn own js) (selK κ js) w (AV.frz own js x) u
 | .top,u,hs=>by simp [AV.frz,AV.sat]
 | .d x,u,hs=>by
   rw [AV.frz];rw [AV.sat] at hs ⊢
   exact Dat.sat_wide sel_wide x hs
 | .cl sz l,u,hs=>by
   rw [AV.frz];rw [AV.sat] at hs ⊢
   exact ⟨Dat.sat_wide sel_wide (.sl sz l) hs.1,hs.2⟩
 | .fpt sz l j o,u,hs=>by
   rw [AV.frz];rw [AV.sat] at hs ⊢
   obtain ⟨b,q,h1,h2,h3,h4⟩:=hs
   exact ⟨b,q,h1,h2,sel_bad h3,Dat.rowsSat_wide sel_wide rfl l h4⟩
 | .osl i ver o n,u,hs=>by
   rw [AV.frz]
   cases hp : plc js i with
   | none=>exact frzSl_sat ho hp (plc_none hp) hs
   | some k =>
     have hk:=plc_spec hp
     rw [AV.sat] at hs
     obtain ⟨⟨y,hy,hv,h1c⟩,hs2⟩:=hs
     cases y with
     | box l=>exact hv.elim
     | lp=>exact hv.elim
     | mp=>exact hv.elim
     | row v sz e l =>
       show AV.sat F (selOwn own js) (selK κ js) w (.osl k ver o n) u
       have hown : (selOwn own js)[k]? = some (.row v sz e l):=by rw [selOwn_get hk,hy];rfl
       rw [AV.sat]
       refine ⟨⟨_,hown,hv,h1c⟩,fun sz2 e2 c2 hc=>?_⟩
       rw [hown] at hc
       obtain ⟨rfl,rfl,rfl,rfl⟩ : v = ver ∧ sz = sz2 ∧ e = e2 ∧ l = c2:=by simpa using hc
       obtain ⟨h1,A,c,h2,h3,h4,h5⟩:=hs2 sz e l hy
       refine ⟨h1,A,c,h2,h3,h4,fun hpos=>?_⟩
       rcases h5 hpos with ⟨g,g1,g2,g3⟩ | ⟨g1,g2⟩
       ·exact .inl ⟨g,by rw [selK_get hk,getD_some g1],g2,g3⟩
       ·refine .inr ⟨by rw [selK_get hk];simp [List.getD_eq_getElem?_getD,g1],g2⟩
 | .win i ver o n,u,hs=>by
   rw [AV.frz]
   cases hp : plc js i with
   | none=>exact frzSl_satW ho hp (plc_none hp) hs
   | some k =>
     have hk:=plc_spec hp
     rw [AV.sat] at hs
     obtain ⟨⟨y,hy,hv,h1c⟩,hs2⟩:=hs
     cases y with
     | box l=>exact hv.elim
     | lp=>exact hv.elim
     | mp=>exact hv.elim
     | row v sz e l =>
       show AV.sat F (selOwn own js) (selK κ js) w (.win k ver o n) u
       have hown : (selOwn own js)[k]? = some (.row v sz e l):=by rw [selOwn_get hk,hy];rfl
       rw [AV.sat]
       refine ⟨⟨_,hown,hv,h1c⟩,fun sz2 e2 c2 hc=>?_⟩
       rw [hown] at hc
       obtain ⟨rfl,rfl,rfl,rfl⟩ : v = ver ∧ sz = sz2 ∧ e = e2 ∧ l = c2:=by simpa using hc
       obtain ⟨h1,A,c,h2,h3,h4,h5⟩:=hs2 sz e l hy
       refine ⟨h1,A,c,h2,h3,h4,fun hpos=>?_⟩
       rcases h5 hpos with ⟨g,g1,g2,g3⟩ | ⟨g1,g2⟩
       ·exact .inl ⟨g,by rw [selK_get hk,getD_some g1],g2,g3⟩
       ·refine .inr ⟨by rw [selK_get hk];simp [List.getD_eq_getElem?_getD,g1],g2⟩
 | .rpt i ver j o,u,hs=>by
   rw [AV.frz]
   cases hp : plc js i with
   | none=>simp [AV.sat]
   | some k =>
     have hk:=plc_spec hp
     rw [AV.sat] at hs
     obtain ⟨⟨y,hy,hv,h1c⟩,hs2⟩:=hs
     cases y with
     | box l=>exact hv.elim
     | lp=>exact hv.elim
     | mp=>exact hv.elim
     | row v sz e l =>
       show AV.sat F (selOwn own js) (selK κ js) w (.rpt k ver j o) u
       have hown : (selOwn own js)[k]? = some (.row v sz e l):=by rw [selOwn_get hk,hy];rfl
       rw [AV.sat]
       refine ⟨⟨_,hown,hv,h1c⟩,fun sz2 e2 c2 hc=>?_⟩
       rw [hown] at hc
       obtain ⟨rfl,rfl,rfl,rfl⟩ : v = ver ∧ sz = sz2 ∧ e = e2 ∧ l = c2:=by simpa using hc
       obtain ⟨h1,g,g1,g2⟩:=hs2 sz e l hy
       exact ⟨h1,g,by rw [selK_get hk,getD_some g1],g2⟩
 | .opt i o,u,hs=>by
   rw [AV.frz]
   cases hp : plc js i with
   | none=>simp [AV.sat]
   | some k =>
     have hk:=plc_spec hp
     rw [AV.sat] at hs
     obtain ⟨g,l,h1,h2,h3⟩:=hs
     show AV.sat F (selOwn own js) (selK κ js) w (.opt k o) u
     rw [AV.sat]
     exact ⟨g,_,by rw [selOwn_get hk,h1];rfl,by rw [selK_get hk,getD_some h2],h3⟩
 | .bsl i n c,u,hs=>by
   rw [AV.frz]
   cases hp : plc js i with
   | none=>simp [AV.sat]
   | some k =>
     have hk:=plc_spec hp
     rw [AV.sat] at hs
     obtain ⟨g,l,h1,h2,h3⟩:=hs
     show AV.sat F (selOwn own js) (selK κ js) w (.bsl k n c) u
     rw [AV.sat]
     exact ⟨g,_,by rw [selOwn_get hk,h1];rfl,by rw [selK_get hk,getD_some h2],h3⟩
 | .yl i,u,hs=>by
   rw [AV.frz]
   cases hp : plc js i with
   | none=>simp [AV.sat]
   | some k =>
     have hk:=plc_spec hp
     rw [AV.sat] at hs
     obtain ⟨g,st,pe,ps,asn,bdy,l,h1,h2,h3⟩:=hs
     show AV.sat F (selOwn own js) (selK κ js) w (.yl k) u
     rw [AV.sat]
     exact ⟨g,_,_,_,_,_,_,by rw [selOwn_get hk,h1];rfl,by rw [selK_get hk,getD_some h2],h3⟩
 | .mp i,u,hs=>by
   rw [AV.frz]
   cases hp : plc js i with
   | none=>simp [AV.sat]
   | some k =>
     have hk:=plc_spec hp
     rw [AV.sat] at hs
     obtain ⟨g,ks,h1,h2,h3⟩:=hs
     show AV.sat F (selOwn own js) (selK κ js) w (.mp k) u
     rw [AV.sat]
     exact ⟨g,_,by rw [selOwn_get hk,h1];rfl,by rw [selK_get hk,getD_some h2],h3⟩
 | .gh l vs,u,hs=>by
   rw [AV.frz];rw [AV.sat] at hs ⊢
   exact AV.frzL_sat ho l hs
 | .fn f l,u,hs=>by
   rw [AV.frz];rw [AV.sat] at hs ⊢
   obtain ⟨vs,h1,h2⟩:=hs
   exact ⟨vs,h1,AV.frzL_sat ho l h2⟩
 | .bd f l,u,hs=>by
   rw [AV.frz];rw [AV.sat] at hs ⊢
   obtain ⟨vs,h1,h2⟩:=hs
   exact ⟨vs,h1,AV.frzL_sat ho l h2⟩
 | .agg l,u,hs=>by
   rw [AV.frz];rw [AV.sat] at hs ⊢
   obtain ⟨vs,h1,h2⟩:=hs
   exact ⟨vs,h1,AV.frzL_sat ho l h2⟩
 | .tup l,u,hs=>by
   rw [AV.frz];rw [AV.sat] at hs ⊢
   obtain ⟨vs,h1,h2⟩:=hs
   exact ⟨vs,h1,AV.frzL_sat ho l h2⟩
theorem AV.frzL_sat (ho : OwnSat F own κ w) : ∀ (l : List AV) {us : List Value}, AV.satL F own κ w l us → AV.satL F (selOwn own js) (selK κ js) w (AV.frzL own js l) us
 | [],[],hs=>by simp [AV.frzL,AV.satL]
 | x :: xs,u :: us,hs=>by
   rw [AV.satL] at hs
   rw [AV.frzL,AV.satL]
   exact ⟨AV.frz_sat ho x hs.1,AV.frzL_sat ho xs hs.2⟩
 | [],_ :: _,hs=>by simp [AV.satL] at hs
 | _ :: _,[],hs=>by simp [AV.satL] at hs
end
theorem sel_own (ho : OwnSat F own κ w) (hj : selOk own js = true) : OwnSat F (selOwn own js) (selK κ js) w:=by
 simp only [selOk,Bool.and_eq_true] at hj
 have hlt : ∀ k i : Nat,js[k]? = some i → i < own.length:=fun k i h=>by
  have:=List.all_eq_true.1 hj.1 i (List.mem_of_getElem? h)
  simpa using this
 have back : ∀ (k g : Nat),(selK κ js)[k]? = some (some g) → ∃ i : Nat,js[k]? = some i ∧ κ[i]? = some (some g):=fun k g h=>by
  unfold selK at h
  rw [List.getElem?_map] at h
  cases hk : js[k]? with
  | none=>rw [hk] at h;cases h
  | some i =>
    rw [hk] at h
    have h : κ.getD i none = some g:=by simpa using h
    refine ⟨i,rfl,?_⟩
    rw [List.getD_eq_getElem?_getD] at h
    cases h9 : κ[i]? with
    | none=>rw [h9] at h;cases h
    | some og=>rw [h9] at h;simp at h;rw [h]
 refine ⟨by simp [selOwn,selK],ho.frame,fun g hg=>?_,fun a b g ha hb=>?_,fun k y hy=>?_,glb_keep ho.glb (Nat.le_refl _) (fun _ _ _=>rfl) fun b hb=>.inl (by
  obtain ⟨k,hk⟩:=List.mem_iff_getElem?.1 hb
  obtain ⟨i,_,h2⟩:=back k b hk
  exact List.mem_of_getElem? h2)⟩
 ·obtain ⟨k, hk⟩ := List.mem_iff_getElem?.1 hg
  obtain ⟨i,_,h2⟩:=back k g hk
  exact ho.lt' h2
 ·obtain ⟨i, h1, h2⟩ := back a g ha
  obtain ⟨i',h3,h4⟩:=back b g hb
  obtain rfl:=ho.inj i i' g h2 h4
  exact nodup_inj hj.2 h1 h3
 ·cases hk : js[k]? with
  | none=>unfold selOwn at hy;rw [List.getElem?_map,hk] at hy;cases hy
  | some i =>
    rw [selOwn_get hk] at hy
    have hi:=hlt k i hk
    have hoi:=List.getElem?_eq_getElem hi
    have hent:=ho.ent i _ hoi
    have e1 : (selK κ js).getD k none = κ.getD i none:=by simp [List.getD_eq_getElem?_getD,selK_get hk]
    rw [e1]
    rw [hoi] at hy
    generalize own[i] = x at hy hent
    cases x with
    | box l =>
      obtain rfl : Ent.box (AV.frzL own js l) = y:=by simpa [Ent.frz] using hy
      rcases hent with ⟨hn1,rfl⟩ | ⟨g,hg,cur,t,h1,h2,h3⟩
      ·exact .inl ⟨hn1,rfl⟩
      ·exact .inr ⟨g,hg,cur,t,h1,AV.frzL_sat ho l h2,h3⟩
    | lp st pe ps asn bdy l =>
      obtain rfl : Ent.lp st pe ps asn bdy (AV.frzL own js l) = y:=by simpa [Ent.frz] using hy
      obtain ⟨g,hg,r,h1,h2,h3⟩:=hent
      exact ⟨g,hg,r,h1,h2,AV.frzL_sat ho l h3⟩
    | mp ks =>
      obtain rfl : Ent.mp (mapE (AV.frz own js) ks) = y:=by simpa [Ent.frz] using hy
      obtain ⟨g,hg,es,clock,h1,h2⟩:=hent
      exact ⟨g,hg,es,clock,h1,h2.map fun x u hs=>AV.frz_sat ho x hs⟩
    | row v s e c =>
      obtain rfl : Ent.row v s e c = y:=by simpa [Ent.frz] using hy
      obtain ⟨h0,h1⟩:=hent
      refine ⟨h0,h1.imp id ?_⟩
      rintro ⟨g,hg,cur,h2,h3,h4⟩
      exact ⟨g,hg,cur,h2,h3,Dat.rowsSat_wide sel_wide rfl c h4⟩
end
def EnvWk (own : List Ent) (js : List Nat) (env : List (Nat × AV)) : List (Nat × AV) → Prop
 | []=>True
 | (t,x) :: rest=>x = AV.frz own js (look env t) ∧ EnvWk own js env rest
def Wk (m : Nat) (s s' : St) : Prop:=∃ js,selOk s.own js = true ∧ js.take m = List.range m ∧ s'.own = selOwn s.own js ∧ EnvWk s.own js s.env s'.env
theorem EnvWk.look {own : List Ent} {js : List Nat} {env : List (Nat × AV)} : ∀ {env' : List (Nat × AV)}, EnvWk own js env env' → ∀ t, look env' t = .top ∨ look env' t = AV.frz own js (look env t)
 | [],_,t=>.inl rfl
 | (s,x) :: rest,h,t=>by
   simp only [Go.Proofs.YtplpgijpmgbaiaaGreatDoor.look]
   by_cases e : s = t
   ·rw [if_pos e,← e];exact .inr h.1
   ·rw [if_neg e];exact EnvWk.look h.2 t
mutual
theorem frz_root {F : Nat → Prop} {own0 own : List Ent} {κ0 : List (Option Nat)} {w : World} {js : List Nat} (hid : ∀ i, i < own0.length → plc js i = some i) : ∀ (x : AV) {u : Value}, AV.sat F own0 κ0 w x u → AV.frz own js x = x
 | .top,u,hs=>rfl
 | .d x,u,hs=>rfl
 | .cl sz l,u,hs=>rfl
 | .fpt sz l j o,u,hs=>rfl
 | .osl i ver o n,u,hs=>by
   rw [AV.sat] at hs
   obtain ⟨⟨y,hy,_⟩,_⟩:=hs
   rw [AV.frz,hid i (List.getElem?_eq_some_iff.1 hy).1]
 | .win i ver o n,u,hs=>by
   rw [AV.sat] at hs
   obtain ⟨⟨y,hy,_⟩,_⟩:=hs
   rw [AV.frz,hid i (List.getElem?_eq_some_iff.1 hy).1]
 | .rpt i ver j o,u,hs=>by
   rw [AV.sat] at hs
   obtain ⟨⟨y,hy,_⟩,_⟩:=hs
   rw [AV.frz,hid i (List.getElem?_eq_some_iff.1 hy).1]
 | .opt i o,u,hs=>by
   rw [AV.sat] at hs
   obtain ⟨g,l,hy,_⟩:=hs
   rw [AV.frz,hid i (List.getElem?_eq_some_iff.1 hy).1]
 | .bsl i n c,u,hs=>by
   rw [AV.sat] at hs
   obtain ⟨g,l,hy,_⟩:=hs
   rw [AV.frz,hid i (List.getElem?_eq_some_iff.1 hy).1]
 | .yl i,u,hs=>by
   rw [AV.sat] at hs
   obtain ⟨g,st,pe,ps,asn,bdy,l,hy,_⟩:=hs
   rw [AV.frz,hid i (List.getElem?_eq_some_iff.1 hy).1]
 | .mp i,u,hs=>by
   rw [AV.sat] at hs
   obtain ⟨g,ks,hy,_⟩:=hs
   rw [AV.frz,hid i (List.getElem?_eq_some_iff.1 hy).1]
 | .gh l vs,u,hs=>by
   rw [AV.sat] at hs
   rw [AV.frz,frz_rootL hid l hs]
 | .fn f l,u,hs=>by
   rw [AV.sat] at hs
   obtain ⟨vs,_,h2⟩:=hs
   rw [AV.frz,frz_rootL hid l h2]
 | .bd f l,u,hs=>by
   rw [AV.sat] at hs
   obtain ⟨vs,_,h2⟩:=hs
   rw [AV.frz,frz_rootL hid l h2]
 | .agg l,u,hs=>by
   rw [AV.sat] at hs
   obtain ⟨vs,_,h2⟩:=hs
   rw [AV.frz,frz_rootL hid l h2]
 | .tup l,u,hs=>by
   rw [AV.sat] at hs
   obtain ⟨vs,_,h2⟩:=hs
   rw [AV.frz,frz_rootL hid l h2]
theorem frz_rootL {F : Nat → Prop} {own0 own : List Ent} {κ0 : List (Option Nat)} {w : World} {js : List Nat} (hid : ∀ i, i < own0.length → plc js i = some i) : ∀ (l : List AV) {us : List Value}, AV.satL F own0 κ0 w l us → AV.frzL own js l = l
 | [],us,_=>rfl
 | x :: xs,u :: us,hs=>by
   rw [AV.satL] at hs
   rw [AV.frzL,frz_root hid x hs.1,frz_rootL hid xs hs.2]
 | _ :: _,[],hs=>by simp [AV.satL] at hs
end
theorem plc_hit : ∀ {js : List Nat}, nodupB js = true → ∀ {k i : Nat}, js[k]? = some i → plc js i = some k
 | [],_,k,i,h=>by simp at h
 | j :: js,hn,k,i,h=>by
   simp only [nodupB,Bool.and_eq_true,Bool.not_eq_true'] at hn
   cases k with
   | zero => obtain rfl : j = i := by simpa using h
             simp [plc]
   | succ k =>
     have h' : js[k]? = some i:=by simpa using h
     have : j ≠ i:=fun e=>by
      have hm : i ∈ js:=List.mem_of_getElem? h'
      rw [e] at hn
      have:=hn.1
      simp_all
     simp only [plc,if_neg this,plc_hit hn.2 h']
theorem plc_range {js : List Nat} {m : Nat} (hn : nodupB js = true) (h : js.take m = List.range m) (i : Nat) (hi : i < m) : plc js i = some i:=by
 refine plc_hit hn ?_
 have : (js.take m)[i]? = some i:=by rw [h];simp [hi]
 rw [List.getElem?_take,if_pos hi] at this
 exact this
theorem Sim.wkK {F : Nat → Prop} {W : Root} {κ0 : List (Option Nat)} {n m : Nat} {s s' : St} {a : Act} {κ : List (Option Nat)} {w : World} (hm : κ0.length = m) (hs : Sim F W κ0 n s a κ w) {js : List Nat} (h1 : selOk s.own js = true) (h2 : js.take m = List.range m) (h3 : s'.own = selOwn s.own js) (h4 : EnvWk s.own js s.env s'.env) : Sim F W κ0 n s' a (selK κ js) w:=by
 have hsub : ∀ b,some b ∈ selK κ js → some b ∈ κ:=fun b hb=>by
  obtain ⟨i,hi,he⟩:=List.mem_map.1 hb
  rw [List.getD_eq_getElem?_getD] at he
  cases h9 : κ[i]? with
  | none=>rw [h9] at he;cases he
  | some og=>rw [h9] at he;simp at he;rw [he] at h9;exact List.mem_of_getElem? h9
 refine ⟨hs.tm,hs.df.keep (fun _ _ _=>rfl) (fun b hb=>.inl (hsub b hb)),fun t=>?_,by rw [h3];exact sel_own hs.own h1,?_,hs.os,hs.tape,hs.output,hs.size,hs.old,fun b hb=>?_,hs.len,fun x u hx=>?_⟩
 ·rw [h3]
  rcases EnvWk.look h4 t with h | h
  ·rw [h];simp [AV.sat]
  ·rw [h];exact AV.frz_sat hs.own _ (hs.env t)
 ·have h9 := congrArg List.length h2
  simp only [List.length_take,List.length_range] at h9
  rw [hm]
  show m ≤ (selK κ js).length
  unfold selK
  rw [List.length_map]
  omega
 ·obtain ⟨i, hi, he⟩ := List.mem_map.1 hb
  refine hs.new b ?_
  rw [List.getD_eq_getElem?_getD] at he
  cases h9 : κ[i]? with
  | none=>rw [h9] at he;cases he
  | some og=>rw [h9] at he;simp at he;rw [he] at h9;exact List.mem_of_getElem? h9
 ·rw [h3]
  have hj:=h1
  simp only [selOk,Bool.and_eq_true] at hj
  have:=AV.frz_sat (js:=js) hs.own x (hs.keep x u hx)
  rwa [frz_root (own:=s.own) (fun i hi=>plc_range hj.2 h2 i (by rw [hs.len,hm] at hi;exact hi)) x hx] at this
theorem Sim.wk {F : Nat → Prop} {W : Root} {κ0 : List (Option Nat)} {n m : Nat} {s s' : St} {a : Act} {κ : List (Option Nat)} {w : World} (hm : κ0.length = m) (hs : Sim F W κ0 n s a κ w) (h : Wk m s s') : ∃ κ',Sim F W κ0 n s' a κ' w:=by
 obtain ⟨js,h1,h2,h3,h4⟩:=h
 exact ⟨_,hs.wkK hm h1 h2 h3 h4⟩
section
variable {Γ : Ctx} {P : Program} {n m : Nat} {Q : Exit → St → Prop} {s : St}
theorem AWP.wk {c : Code} (s' : St) (h : Wk m s s') (hc : AWPG Γ P n m c Q s') : AWPG Γ P n m c Q s:=fun F W κ0 a κ w hH hm hs=>by
 obtain ⟨κ',hs'⟩:=hs.wk hm h
 exact hc F W κ0 a κ' w hH hm hs'
theorem AWP.loopW {body : Code} {α : Type} (pre : α → Prop) (st : α → St) (μ : α → Nat) (x0 : α) (h0 : pre x0) (hs0 : Wk m s (st x0))
 (hr : ∀ x,pre x → AWPG Γ P n m body (ACont P n m (fun s'=>∃ x',pre x' ∧ μ x' < μ x ∧ Wk m s' (st x')) Q) (st x)) : AWPG Γ P n m (.loop body) Q s:=by
 refine AWP.wk (st x0) hs0 fun F W κ0 a κ w hH hm hs=>?_
 refine wpIn_loop_ghost (fun k a w=>∃ x κ,pre x ∧ μ x = k ∧ Sim F W κ0 n (st x) a κ w) (μ x0) ⟨x0,κ,h0,rfl,hs⟩ fun k a w ⟨x,κ,hp,hk,hs⟩=>?_
 refine wpIn_mono (hr x hp F W κ0 a κ w hH hm hs) fun e a' w' ⟨s',κ',hq,hs'⟩=>?_
 cases e with
 | normal =>
   obtain ⟨x',h1,h2,h3⟩:=hq
   obtain ⟨κ2,hs2⟩:=hs'.wk hm h3
   exact ⟨μ x',by omega,x',κ2,h1,rfl,hs2⟩
 | _=>exact ⟨s',κ',hq,hs'⟩
end
end
section
def ACalls (P : Program) (f : FuncId) (args : List AV) (own : List Ent) (r : AV) (own' : List Ent) : Prop :=
 ∀ (F : Nat → Prop) (κ : List (Option Nat)) (w : World) (vs : List Value), OwnSat F own κ w → AV.satL F own κ w args vs →
  Calls P f vs.toArray w fun e w'=>∃ v κ',e = .returned v ∧ AV.sat F own' κ' w' r v ∧ OwnSat F own' κ' w' ∧ Tr F own.length own κ w own' κ' w'
mutual
def AV.pure : AV → Bool
 | .osl _ _ _ _=>false
 | .win _ _ _ _=>false
 | .rpt _ _ _ _=>false
 | .opt _ _=>false
 | .bsl _ _ _=>false
 | .yl _=>false
 | .mp _=>false
 | .gh l _=>AV.pureL l
 | .fn _ l=>AV.pureL l
 | .bd _ l=>AV.pureL l
 | .agg l=>AV.pureL l
 | .tup l=>AV.pureL l
 | .top=>true
 | .d _=>true
 | .cl _ _=>true
 | .fpt _ _ _ _=>true
def AV.pureL : List AV → Bool
 | []=>true
 | x :: xs=>AV.pure x && AV.pureL xs
end
mutual
theorem AV.pure_sat {F F' : Nat → Prop} {own own' : List Ent} {κ κ' : List (Option Nat)} {w : World} (hb : ∀ b, ¬ badK F κ b → ¬ badK F' κ' b) : ∀ (x : AV) {u : Value}, AV.pure x = true → AV.sat F own κ w x u → AV.sat F' own' κ' w x u
 | .top,u,_,hs=>by simp [AV.sat]
 | .d x,u,_,hs=>by
   rw [AV.sat] at hs ⊢
   exact Dat.sat_wide (Wide.of (Nat.le_refl _) (fun _ _ _=>rfl) (fun b _ h=>hb b h)) x hs
 | .cl sz l,u,_,hs=>by
   rw [AV.sat] at hs ⊢
   exact ⟨Dat.sat_wide (Wide.of (Nat.le_refl _) (fun _ _ _=>rfl) (fun b _ h=>hb b h)) (.sl sz l) hs.1,hs.2⟩
 | .fpt sz l j o,u,_,hs=>by
   rw [AV.sat] at hs ⊢
   obtain ⟨b,q,h1,h2,h3,h4⟩:=hs
   exact ⟨b,q,h1,h2,hb b h3,Dat.rowsSat_wide (Wide.of (Nat.le_refl _) (fun _ _ _=>rfl) (fun b _ h=>hb b h)) rfl l h4⟩
 | .osl _ _ _ _,u,h,hs=>by simp [AV.pure] at h
 | .win _ _ _ _,u,h,hs=>by simp [AV.pure] at h
 | .rpt _ _ _ _,u,h,hs=>by simp [AV.pure] at h
 | .opt _ _,u,h,hs=>by simp [AV.pure] at h
 | .bsl _ _ _,u,h,hs=>by simp [AV.pure] at h
 | .yl _,u,h,hs=>by simp [AV.pure] at h
 | .mp _,u,h,hs=>by simp [AV.pure] at h
 | .gh l vs,u,h,hs=>by
   rw [AV.sat] at hs ⊢
   exact AV.pureL_sat hb l (by simpa [AV.pure] using h) hs
 | .fn f l,u,h,hs=>by
   rw [AV.sat] at hs ⊢
   obtain ⟨vs,h1,h2⟩:=hs
   exact ⟨vs,h1,AV.pureL_sat hb l (by simpa [AV.pure] using h) h2⟩
 | .bd f l,u,h,hs=>by
   rw [AV.sat] at hs ⊢
   obtain ⟨vs,h1,h2⟩:=hs
   exact ⟨vs,h1,AV.pureL_sat hb l (by simpa [AV.pure] using h) h2⟩
 | .agg l,u,h,hs=>by
   rw [AV.sat] at hs ⊢
   obtain ⟨vs,h1,h2⟩:=hs
   exact ⟨vs,h1,AV.pureL_sat hb l (by simpa [AV.pure] using h) h2⟩
 | .tup l,u,h,hs=>by
   rw [AV.sat] at hs ⊢
   obtain ⟨vs,h1,h2⟩:=hs
   exact ⟨vs,h1,AV.pureL_sat hb l (by simpa [AV.pure] using h) h2⟩
theorem AV.pureL_sat {F F' : Nat → Prop} {own own' : List Ent} {κ κ' : List (Option Nat)} {w : World} (hb : ∀ b, ¬ badK F κ b → ¬ badK F' κ' b) : ∀ (l : List AV) {us : List Value}, AV.pureL l = true → AV.satL F own κ w l us → AV.satL F' own' κ' w l us
 | [],[],_,hs=>by simp [AV.satL]
 | x :: xs,u :: us,h,hs=>by
   rw [AV.satL] at hs ⊢
   simp only [AV.pureL,Bool.and_eq_true] at h
   exact ⟨AV.pure_sat hb x h.1 hs.1,AV.pureL_sat hb xs h.2 hs.2⟩
 | [],_ :: _,_,hs=>by simp [AV.satL] at hs
 | _ :: _,[],_,hs=>by simp [AV.satL] at hs
end
def isFn (P : Program) (f : FuncId) : Bool :=
 match P.funcs[f]? with
 | some fn => !(fn.name == "runtime.NumGoroutine") && fn.body.isSome
 | none=>false
theorem run_callFunc {P : Program} {f : FuncId} (h : isFn P f = true) (args : Array Value) (w : World) : (callFunc f args).run P w = .ok (.enter f args) w:=by
 unfold isFn at h
 cases hf : P.funcs[f]? with
 | none=>simp [hf] at h
 | some fn =>
   simp only [hf,Bool.and_eq_true,Bool.not_eq_true'] at h
   obtain ⟨h1,h2⟩:=h
   have h1' : ¬ fn.name = "runtime.NumGoroutine" := by simpa using h1
   have h2' : ¬ fn.body = none:=by intro e;rw [e] at h2;cases h2
   simp [callFunc,hf,h1',h2']
theorem OwnSat.away {F : Nat → Prop} {own : List Ent} {κ : List (Option Nat)} {w : World} (h : OwnSat F own κ w) : OwnSat (badK F κ) [] [] w :=
 ⟨rfl,(fun b hb=>by
  rcases hb with hb | hb
  ·exact h.frame b hb
  ·exact (h.lt b hb).1),(fun g hg=>by cases hg),(fun i j g hi=>by simp at hi),(fun i x hx=>by simp at hx),glb_keep h.glb (Nat.le_refl _) (fun _ _ _=>rfl) (fun b hb=>by cases hb)⟩
theorem bad_away {F : Nat → Prop} {κ : List (Option Nat)} : (∀ b,¬ badK F κ b → ¬ badK (badK F κ) [] b) ∧ ∀ b,¬ badK (badK F κ) [] b → ¬ badK F κ b:=by
 constructor
 ·intro b h hb
  rcases hb with hb | hb
  ·exact h hb
  ·cases hb
 ·intro b h hb
  exact h (.inl hb)
section
variable {P : Program} {m : Nat} {env : List (Nat × AV)} {own : List Ent} {dst : Option Tmp} {ty : TypeId} {pos : String} {af : Array Edge} {gd : Option (Nat × Bool)}
theorem exec_call {F : Nat → Prop} {own' : List Ent} {κ : List (Option Nat)} {w : World} {a : Act} {fo : Operand} {args : Array Operand} {ts : Array TypeId} {f : FuncId} {caps : List AV} (hf : isFn P f = true)
 (hfo : lookO env fo = .fn f caps) (hs : ∀ x ∈ (Op.call ⟨.value fo,args,ts⟩).operands,AV.sat F own' κ w (lookO env x) (a.eval x)) :
 ∃ vs : List Value,(execOp a.eval ⟨dst,.call ⟨.value fo,args,ts⟩,ty,pos,af,gd⟩).run P w = .ok (.enter f vs.toArray) w ∧ AV.satL F own' κ w (args.toList.map (lookO env) ++ caps) vs:=by
 have h1:=hs fo (by simp [Op.operands,Call.operands])
 rw [hfo,AV.sat] at h1
 obtain ⟨cs,h2,h3⟩:=h1
 refine ⟨args.toList.map a.eval ++ cs.toList,?_,satL_append (satL_of (by simp) fun j y hy=>?_) h3⟩
 ·have e : (args.toList.map a.eval ++ cs.toList).toArray = #[] ++ args.map a.eval ++ cs := by simp
  rw [e]
  simp only [execOp,resolve,h2,Deferred.ofValue,Sem.run_bind,Sem.run_pure,Result.andThen_ok,invoke]
  exact run_callFunc hf _ w
 ·rw [List.getElem?_map] at hy
  cases h : args.toList[j]? with
  | none=>simp [h] at hy
  | some c =>
    obtain rfl : lookO env c = y:=by simpa [h] using hy
    have hmem : c ∈ args:=by have:=List.mem_of_getElem? h;simpa using this
    refine ⟨a.eval c,by rw [List.getElem?_map,h];rfl,hs c (by simp [Op.operands,Call.operands,hmem])⟩
theorem q_call {fo : Operand} {args : Array Operand} {ts : Array TypeId} {f : FuncId} {caps : List AV} {r : AV} (hf : isFn P f = true) (hfo : lookO env fo = .fn f caps)
 (hc : ACalls P f (args.toList.map (lookO env) ++ caps) [] r []) (hp : AV.pureL (args.toList.map (lookO env) ++ caps) = true) (hr : AV.pure r = true) :
 Quiet P m ⟨dst,.call ⟨.value fo,args,ts⟩,ty,pos,af,gd⟩ env own [] r :=
 Quiet.mk fun F own' κ a w hs ho _ hm=>by
  obtain ⟨vs,h1,h2⟩:=exec_call (P:=P) (dst:=dst) (ty:=ty) (pos:=pos) (af:=af) (gd:=gd) hf hfo hs
  rw [h1]
  refine (hc (badK F κ) [] w vs ho.away (AV.pureL_sat bad_away.1 _ hp h2)).mono ?_
  rintro e w' ⟨v,κ',he,h3,h4,h5⟩
  have hk : κ' = []:=List.eq_nil_of_length_eq_zero (by simpa using h4.len.symm)
  subst hk
  obtain ⟨g1,g2⟩:=step_more (m:=m) ho h5.os h5.tape h5.output h5.size (fun b hb=>h5.old b hb (by simp))
  exact ⟨v,he,AV.pure_sat bad_away.2 r hr h3,g1,g2⟩
end
/-! ### From the body to the call -/
def env0 : Nat → List AV → List (Nat × AV)
 | _,[]=>[]
 | k,x :: xs=>(k,x) :: env0 (k + 1) xs
theorem look_env0 : ∀ (l : List AV) (k t : Nat), look (env0 k l) t = if k ≤ t then (l[t - k]?).getD .top else .top
 | [],k,t=>by simp [env0,look]
 | x :: xs,k,t=>by
   simp only [env0,look,look_env0 xs (k + 1) t]
   by_cases h : k = t
   ·subst h;simp
   ·rw [if_neg h]
    by_cases h2 : k ≤ t
    ·rw [if_pos (by omega),if_pos h2,show t - k = t - (k + 1) + 1 from by omega,List.getElem?_cons_succ]
    ·rw [if_neg (by omega),if_neg h2]
def ResV (P : Program) (s : St) : ResultVar → AV → Prop
 | .tmp t,x=>look s.env t = x
 | .cell p ty,x=>∃ i l b,look s.env p = .opt i 0 ∧ s.own[i]? = some (.box l) ∧ tyInfo P ty = some (b,l.length) ∧ (if b then x = .agg l else l = [x])
def ResL (P : Program) (s : St) : List ResultVar → List AV → Prop
 | [],[]=>True
 | r :: rs,x :: xs=>ResV P s r x ∧ ResL P s rs xs
 | _,_=>False
def tupA : List AV → AV
 | [x]=>x
 | l=>.tup l
def resOne (a : Act) : ResultVar → Sem Value
 | .tmp t=>pure (a.tmps.getD t undef)
 | .cell c t=>do loadVar t (← asAddr (a.tmps.getD c undef))
theorem results_eq (fn : Func) (a : Act) : results fn a.tmps = (do let vs ← fn.results.mapM (resOne a);pure (if h : vs.size = 1 then vs[0] else .tuple vs)):=rfl
theorem run_results {P : Program} {F : Nat → Prop} {s : St} {κ : List (Option Nat)} {w : World} {a : Act} (he : EnvSat F s.own κ w s.env a) (ho : OwnSat F s.own κ w) : ∀ (rs : List ResultVar) (xs : List AV), ResL P s rs xs →
 ∃ vs : List Value,(rs.mapM (resOne a)).run P w = .ok vs w ∧ AV.satL F s.own κ w xs vs
 | [],[],_=>⟨[],rfl,by simp [AV.satL]⟩
 | r :: rs,x :: xs,h=>by
   obtain ⟨h1,h2⟩:=h
   obtain ⟨vs,h3,h4⟩:=run_results he ho rs xs h2
   have one : ∃ v,(resOne a r).run P w = .ok v w ∧ AV.sat F s.own κ w x v:=by
    cases r with
    | tmp t=>exact ⟨a.tmps.getD t undef,rfl,by have:=he t;rw [h1] at this;exact this⟩
    | cell p ty =>
      obtain ⟨i,l,b,g1,g2,g3,g4⟩:=h1
      have hp:=he p
      rw [g1,AV.sat] at hp
      obtain ⟨g,l2,g5,g6,g7⟩:=hp
      obtain ⟨cur,t2,g8,g9,g10⟩:=box_block (l':=l) ho g2 g6
      have hll:=satL_length g9
      obtain ⟨g11,i',g12,g13⟩:=tyInfo_spec g3
      have e : (do loadVar ty (← asAddr (a.tmps.getD p undef)) : Sem Value).run P w = (Instr.loadAt ty (.pointer (some ⟨g,0,none⟩))).run P w:=by
       rw [g7];simp [asAddr,Instr.loadAt,Instr.sureAddr]
      cases b with
      | true =>
        simp only [if_true] at g4
        refine ⟨.agg cur,?_,by rw [g4,AV.sat];exact ⟨cur,rfl,g9⟩⟩
        show (do loadVar ty (← asAddr (a.tmps.getD p undef)) : Sem Value).run P w = _
        rw [e]
        have:=run_loadAt_agg (P:=P) (b:=g) (o:=0) (w:=w) g3 cur.toList hll.symm fun j u hu=>by
         rw [Nat.zero_add];exact g8.cell (by simpa using hu)
        simpa using this
      | false =>
        simp only [Bool.false_eq_true,if_false] at g4
        subst g4
        obtain ⟨u,g14,g15⟩:=satL_get g9 0 x (by simp)
        refine ⟨u,?_,g15⟩
        show (do loadVar ty (← asAddr (a.tmps.getD p undef)) : Sem Value).run P w = _
        rw [e]
        exact run_loadAt_one g3 (g8.cell (by simpa using g14))
   obtain ⟨v,h5,h6⟩:=one
   refine ⟨v :: vs,?_,by rw [AV.satL];exact ⟨h6,h4⟩⟩
   rw [List.mapM_cons,Sem.run_bind]
   rw [h5]
   simp only [Result.andThen_ok,Sem.run_bind,h3,Sem.run_pure]
 | [],_ :: _,h=>h.elim
 | _ :: _,[],h=>h.elim
def AVle (x y : AV) : Prop:=∀ (F : Nat → Prop) (own : List Ent) (κ : List (Option Nat)) (w : World) (u : Value),AV.sat F own κ w x u → AV.sat F own κ w y u
theorem AVle.refl (x : AV) : AVle x x:=fun _ _ _ _ _ h=>h
theorem AVle.of_eq {x y : AV} (h : x = y) : AVle x y:=h ▸ AVle.refl x
theorem AVle.nil (sz : Nat) : AVle (.d (.v (.slice none 0 0))) (.d (.sl sz [])):=fun F own κ w u h=>by
 rw [AV.sat,Dat.sat] at h
 subst h
 rw [AV.sat,Dat.sat]
 exact ⟨none,0,rfl,by simp,by simp [maxLen],fun h=>by simp at h⟩
def AVleL : List AV → List AV → Prop
 | [],[]=>True
 | x :: xs,y :: ys=>AVle x y ∧ AVleL xs ys
 | _,_=>False
theorem AVleL.sat : ∀ {xs ys : List AV}, AVleL xs ys → ∀ (F : Nat → Prop) (own : List Ent) (κ : List (Option Nat)) (w : World) (us : List Value), AV.satL F own κ w xs us → AV.satL F own κ w ys us
 | [],[],_,F,own,κ,w,us,h=>h
 | x :: xs,y :: ys,hl,F,own,κ,w,u :: us,h=>by
   rw [AV.satL] at h ⊢
   exact ⟨hl.1 _ _ _ _ _ h.1,hl.2.sat _ _ _ _ _ h.2⟩
 | x :: xs,y :: ys,hl,F,own,κ,w,[],h=>by simp [AV.satL] at h
 | [],_ :: _,hl,_,_,_,_,_,_=>hl.elim
 | _ :: _,[],hl,_,_,_,_,_,_=>hl.elim
theorem AVle.tup {xs ys : List AV} (h : AVleL xs ys) : AVle (.tup xs) (.tup ys):=fun F own κ w u hs=>by
 rw [AV.sat] at hs ⊢
 obtain ⟨vs,h1,h2⟩:=hs
 exact ⟨vs,h1,h.sat _ _ _ _ _ h2⟩
theorem AVle.agg {xs ys : List AV} (h : AVleL xs ys) : AVle (.agg xs) (.agg ys):=fun F own κ w u hs=>by
 rw [AV.sat] at hs ⊢
 obtain ⟨vs,h1,h2⟩:=hs
 exact ⟨vs,h1,h.sat _ _ _ _ _ h2⟩
def Ends (P : Program) (rs : List ResultVar) (r : AV) (own' : List Ent) (e : Exit) (s : St) : Prop :=
 (e = .ret ∨ e = .normal) ∧ ∃ js xs,selOk s.own js = true ∧ ResL P s rs xs ∧ AVle (AV.frz s.own js (tupA xs)) r ∧ selOwn s.own js = own'
theorem Sim.close {F : Nat → Prop} {W : Root} {κ0 : List (Option Nat)} {n : Nat} {s : St} {a : Act} {κ : List (Option Nat)} {w : World} {D : Nat} {ds : List Deferred} (hs : Sim F W κ0 n s a κ w) (hd : a.defers = mark D :: ds) :
 (∃ w',(∀ P : Program,(Instr.takeDeferred D).run P w = .ok [] w') ∧ Sim F W κ0 n s { a with defers:=ds } κ w'):=by
 obtain ⟨Ds,h1,h2,h3⟩:=hs.df
 rw [hd] at h1
 cases Ds with
 | nil=>cases h1
 | cons D' Ds =>
   rw [List.map_cons] at h1
   obtain ⟨e1,e2⟩:=List.cons.inj h1
   obtain rfl : D = D':=by simpa [mark] using e1
   obtain ⟨hW,hk,hD⟩:=h3 D (by simp)
   refine ⟨_,fun P=>run_takeDeferred hD,?_⟩
   have hsame : ∀ b,b ≠ D → (w.putObj D (.deferred none)).heap[b]? = w.heap[b]?:=fun b hb=>World.putObj_heap_other hb
   have hne : ∀ g,some g ∈ κ → g ≠ D:=fun g hg e=>hk (e ▸ hg)
   have hst : Stab F s.own κ w s.own κ (w.putObj D (.deferred none)):=⟨⟨by simp,fun b o u hb hn hc=>by
    by_cases e : b = D
    ·subst e
     simp [World.cell?,hD] at hc
    ·rw [cell_eq (hsame b e)];exact hc,fun b _ h=>h⟩,fun i x og hx hog=>⟨x,og,hx,hog,Fits.same x og fun g hg=>hsame g (hne g (hg ▸ List.mem_of_getElem? hog))⟩⟩
   have ho:=hs.own
   have keep : ∀ x u,AV.sat F s.own κ w x u → AV.sat F s.own κ (w.putObj D (.deferred none)) x u:=fun x u=>AV.sat_stab hst ho.kap x
   refine ⟨hs.tm,⟨Ds,e2,(List.nodup_cons.1 h2).2,fun D' hD'=>?_⟩,fun t=>keep _ _ (hs.env t),⟨ho.len,fun b hb=>by simpa using ho.frame b hb,fun g hg=>by simpa using ho.lt g hg,ho.inj,fun i x hx=>?_,fun p hp=>?_⟩,hs.pre,hs.os,hs.tape,hs.output,by simpa using hs.size,fun b hb hkb=>?_,hs.new,hs.len,fun x u hx=>keep x u (hs.keep x u hx)⟩
   ·obtain ⟨h4, h5, h6⟩ := h3 D' (by simp [hD'])
    refine ⟨h4,h5,?_⟩
    rw [hsame D' fun e=>(List.nodup_cons.1 h2).1 (e ▸ hD')]
    exact h6
   ·refine EntSat.stab hst ho.kap (fun g hg => ?_) (ho.ent i x hx)
    obtain ⟨og,hog⟩:=ho.kap i x hx
    have e : κ.getD i none = og:=by simp [List.getD_eq_getElem?_getD,hog]
    rw [e] at hg
    subst hg
    exact hsame g (hne g (List.mem_of_getElem? hog))
   ·obtain ⟨h4, h5, t, fz, h6⟩ := ho.glb p hp
    refine ⟨by simpa using h4,h5,t,fz,?_⟩
    rw [hsame,h6]
    intro e
    rw [e,hD] at h6
    cases h6
   ·rw [hsame b (by omega)]
    exact hs.old b hb hkb
theorem Sim.leaves {P : Program} {fn : Func} {F : Nat → Prop} {W : Root} {κ0 : List (Option Nat)} {n : Nat} {s : St} {κ : List (Option Nat)} {R : Ending → World → Prop} {tmps : Array Value} : ∀ {ds : List Deferred} {w : World}, Sim F W κ0 n s { tmps := tmps, defers := ds } κ w →
 (∀ (a : Act) (w' : World),a.tmps = tmps → Sim F W κ0 n s a κ w' → ∃ v,(results fn a.tmps).run P w' = .ok v w' ∧ R (.returned v) w') → LeavesInM Fence.wide 0 P fn tmps R ds .returning w
 | [],w,hs,h=>by
   obtain ⟨v,h1,h2⟩:=h _ _ rfl hs
   exact ⟨v,h1,h2⟩
 | d :: ds,w,hs,h=>by
   obtain ⟨Ds,h1,h2,h3⟩:=hs.df
   cases Ds with
   | nil=>cases h1
   | cons D Ds =>
     obtain ⟨e1,e2⟩:=List.cons.inj h1
     obtain rfl : d = mark D:=e1
     obtain ⟨w',h4,h5⟩:=hs.close (D:=D) (ds:=ds) rfl
     exact ⟨by simp,.inl ⟨D,w',rfl,h4 P,Sim.leaves h5 h⟩⟩
theorem acalls_of_body {P : Program} {f : FuncId} {fn : Func} {c : Code} {args : List AV} {r : AV} {own' : List Ent} (hf : P.funcs[f]? = some fn) (hb : fn.body = some c) (hn : args.length ≤ fn.ntmps)
 (h : AWP P fn.ntmps 0 c (Ends P fn.results.toList r own') ⟨env0 0 args,[]⟩) : ACalls P f args [] r own':=fun F κ w vs ho hsat=>by
 have hk : κ = []:=List.eq_nil_of_length_eq_zero (by simpa using ho.len.symm)
 subst hk
 have hlen:=satL_length hsat
 refine callsIn_wide.1 (callsIn_of_wp_marks (F:=Fence.wide) (n:=0) hf hb trivial ?_)
 refine wpIn_mono (h F ⟨w,[]⟩ [] { tmps:=vs.toArray ++ Array.replicate (fn.ntmps - vs.toArray.size) undef,defers:=[] } [] w trivial rfl ⟨by simp;omega,Marks.nil,fun t=>?_,ho,Nat.le_refl _,rfl,rfl,rfl,Nat.le_refl _,fun _ _ _=>rfl,(fun b hb=>by cases hb),rfl,fun _ _ h=>h⟩) ?_
 ·rw [look_env0, if_pos (Nat.zero_le _), Nat.sub_zero]
  cases ht : args[t]? with
  | none=>simp [AV.sat]
  | some x =>
    obtain ⟨u,h1,h2⟩:=satL_get hsat t x ht
    have hlt : t < vs.length:=(List.getElem?_eq_some_iff.1 h1).1
    have : (vs.toArray ++ Array.replicate (fn.ntmps - vs.toArray.size) undef).getD t undef = u:=by
     have : (vs.toArray ++ Array.replicate (fn.ntmps - vs.toArray.size) undef)[t]? = some u:=by
      rw [Array.getElem?_append_left (by simpa using hlt)];simpa using h1
     rw [Array.getD_eq_getD_getElem?,this];rfl
    rw [this]
    exact h2
 ·rintro e a0 w0 ⟨s, κ', ⟨he, js, xs, h1, h2, h3, h4⟩, hs0⟩
  suffices hL : LeavesInM Fence.wide 0 P fn a0.tmps _ a0.defers .returning w0 by
   rcases he with rfl | rfl
   ·exact hL
   ·exact hL
  refine Sim.leaves hs0 fun a' w' _ hs=>?_
  obtain ⟨us,h5,h6⟩:=run_results hs.env hs.own fn.results.toList xs h2
  have hfin : ∃ v,(results fn a'.tmps).run P w' = .ok v w' ∧ AV.sat F s.own κ' w' (tupA xs) v:=by
   have hmap : (fn.results.mapM (resOne a')).run P w' = .ok us.toArray w':=by
    rw [Array.mapM_eq_mapM_toList,Sem.run_map,h5];rfl
   rw [results_eq,Sem.run_bind,hmap]
   simp only [Result.andThen_ok,Sem.run_pure]
   have hl2:=satL_length h6
   match xs,us,h6,hl2 with
   | [x],[u],h6,_=>exact ⟨u,rfl,by rw [AV.satL] at h6;exact h6.1⟩
   | [],[],h6,_ =>
     refine ⟨.tuple #[],rfl,?_⟩
     show AV.sat F s.own κ' w' (.tup []) _
     rw [AV.sat];exact ⟨#[],rfl,h6⟩
   | x :: y :: xs,u :: v :: us,h6,_ =>
     refine ⟨.tuple (u :: v :: us).toArray,by simp,?_⟩
     show AV.sat F s.own κ' w' (.tup (x :: y :: xs)) _
     rw [AV.sat];exact ⟨_,rfl,h6⟩
  obtain ⟨v,h7,h8⟩:=hfin
  have hsel:=sel_own (js:=js) hs.own h1
  have hfz:=AV.frz_sat (js:=js) hs.own _ h8
  have hfz:=h3 _ _ _ _ _ hfz
  rw [h4] at hfz hsel
  have hnew : ∀ b,some b ∈ selK κ' js → some b ∈ ([] : List (Option Nat)) ∨ w.heap.size ≤ b:=fun b hb=>by
   obtain ⟨i,hi,he⟩:=List.mem_map.1 hb
   rw [List.getD_eq_getElem?_getD] at he
   cases h9 : κ'[i]? with
   | none=>rw [h9] at he;cases he
   | some og => rw [h9] at he; simp at he; rw [he] at h9
                exact hs.new b (List.mem_of_getElem? h9)
  have hst : Stab F [] [] w own' (selK κ' js) w':=⟨Tr.wide hs.size hs.old hnew,fun i x og hx=>by simp at hx⟩
  have htr : Tr F 0 [] [] w own' (selK κ' js) w':=⟨hs.os,hs.tape,hs.output,hs.size,hs.old,hnew,fun _=>Nat.zero_le _,fun x u=>AV.sat_stab hst (fun i x hx=>by simp at hx) x⟩
  exact ⟨v,h7,v,_,rfl,hfz,hsel,htr⟩
end
section
section
variable {Γ : Ctx} {P : Program} {n m : Nat} {Q : Exit → St → Prop} {env : List (Nat × AV)} {own : List Ent}
theorem W.region {id : Nat} {l : List Oper} (hf : fitsB n ⟨l⟩ = true) (h : Walk P m ⟨l⟩ (fun _ env own=>Q .normal ⟨env,own⟩) [] l env own) : AWPG Γ P n m (.region id ⟨l⟩ false) Q ⟨env,own⟩:=AWP.region hf h
theorem W.regionD {id : Nat} {l : List Oper} (hmo : P.follows .mixedOrders = true) (hf : fitsB n ⟨l⟩ = true) (h : Walk P m ⟨l⟩ (fun done env own=>chkOps ⟨l⟩ done.reverse = true ∧ Q .normal ⟨env,own⟩) [] l env own) : AWPG Γ P n m (.region id ⟨l⟩ true) Q ⟨env,own⟩:=AWP.regionD hmo hf h
theorem W.cond {c : Operand} {x y : Code} (b : Bool) (hc : lookO env c = .d (.v (.bool b))) (ht : b = true → AWPG Γ P n m x Q ⟨env,own⟩) (hf : b = false → AWPG Γ P n m y Q ⟨env,own⟩) : AWPG Γ P n m (.cond c x y) Q ⟨env,own⟩:=AWP.cond b hc ht hf
theorem W.condT {c : Operand} {x y : Code} (hc : lookO env c = .d (.v (.bool true))) (ht : AWPG Γ P n m x Q ⟨env,own⟩) : AWPG Γ P n m (.cond c x y) Q ⟨env,own⟩:=AWP.cond true hc (fun _=>ht) (fun h=>by cases h)
theorem W.condF {c : Operand} {x y : Code} (hc : lookO env c = .d (.v (.bool false))) (hf : AWPG Γ P n m y Q ⟨env,own⟩) : AWPG Γ P n m (.cond c x y) Q ⟨env,own⟩:=AWP.cond false hc (fun h=>by cases h) (fun _=>hf)
theorem W.chk {ops : Array Oper} {l : List Part} {R : Prop} (h : chkOps ops l = true) (hr : R) : chkOps ops l = true ∧ R:=⟨h,hr⟩
theorem ACont_normal {K : St → Prop} {s : St} (h : K s) : ACont P n m K Q .normal s:=h
theorem ACont_exit {K : St → Prop} {s : St} {id : Nat} (h : Q (.exit id) s) : ACont P n m K Q (.exit id) s:=h
theorem ACont_ret {K : St → Prop} {s : St} (h : Q .ret s) : ACont P n m K Q .ret s:=h
theorem ABlock_normal {s : St} {id : Nat} (h : Q .normal s) : ABlock id Q .normal s:=h
theorem ABlock_exit {s : St} {id : Nat} (h : Q .normal s) : ABlock id Q (.exit id) s:=by simp only [ABlock,if_true];exact h
theorem ABlock_exit' {s : St} {id id' : Nat} (hn : (id' == id) = false) (h : Q (.exit id') s) : ABlock id Q (.exit id') s:=by
 have : ¬ id' = id:=by simpa using hn
 simp only [ABlock,if_neg this];exact h
theorem ABlock_ret {s : St} {id : Nat} (h : Q .ret s) : ABlock id Q .ret s:=h
end
section
variable {P : Program} {m : Nat} {ops : Array Oper} {Q : List Part → List (Nat × AV) → List Ent → Prop} {done : List Part} {dst : Option Tmp} {op : Op} {ty : TypeId} {pos : String} {af : Array Edge} {rest : List Oper} {env : List (Nat × AV)} {own : List Ent} {fp : List Nat} {r : AV}
theorem W.q (hq : Quiet P m ⟨dst,op,ty,pos,af,none⟩ env own fp r) (h : Walk P m ops Q (.q fp :: done) rest (putE env dst r) own) : Walk P m ops Q done (⟨dst,op,ty,pos,af,none⟩ :: rest) env own:=Walk.q fp r trivial hq h
theorem W.e {mod : List Nat} {own' : List Ent} (hq : Eff P m ⟨dst,op,ty,pos,af,none⟩ env own mod r own') (h : Walk P m ops Q (.e mod :: done) rest (putE env dst r) own') : Walk P m ops Q done (⟨dst,op,ty,pos,af,none⟩ :: rest) env own:=Walk.e mod r own' trivial hq h
theorem Quiet.gd {gd gd' : Option (Nat × Bool)} (h : Quiet P m ⟨dst,op,ty,pos,af,gd⟩ env own fp r) : Quiet P m ⟨dst,op,ty,pos,af,gd'⟩ env own fp r:=h
theorem W.qd {d : Nat} (hq : Quiet P m ⟨some d,op,ty,pos,af,none⟩ env own fp r) (h : Walk P m ops Q (.q fp :: done) rest ((d,r) :: env) own) : Walk P m ops Q done (⟨some d,op,ty,pos,af,none⟩ :: rest) env own:=Walk.q fp r trivial hq h
theorem W.ed {d : Nat} {mod : List Nat} {own' : List Ent} (hq : Eff P m ⟨some d,op,ty,pos,af,none⟩ env own mod r own') (h : Walk P m ops Q (.e mod :: done) rest ((d,r) :: env) own') : Walk P m ops Q done (⟨some d,op,ty,pos,af,none⟩ :: rest) env own:=Walk.e mod r own' trivial hq h
theorem W.ld {d : Nat} {mod fp : List Nat} {own' : List Ent} (hq : Loc P m ⟨some d,op,ty,pos,af,none⟩ env own mod fp r own') (h : Walk P m ops Q (.l mod fp :: done) rest ((d,r) :: env) own') : Walk P m ops Q done (⟨some d,op,ty,pos,af,none⟩ :: rest) env own:=Walk.l mod fp r own' trivial hq h
theorem W.en {mod : List Nat} {own' : List Ent} (hq : Eff P m ⟨none,op,ty,pos,af,none⟩ env own mod r own') (h : Walk P m ops Q (.e mod :: done) rest env own') : Walk P m ops Q done (⟨none,op,ty,pos,af,none⟩ :: rest) env own:=Walk.e mod r own' trivial hq h
theorem W.g {d g : Nat} {want : Bool} (b : Bool) (dg : Nat) (hdg : (ops[g]?).bind (·.dst) = some dg) (hb : look env dg = .d (.v (.bool b)))
 (hon : b = want → Walk P m ops Q done (⟨some d,op,ty,pos,af,none⟩ :: rest) env own)
 (hoff : b = !want → Walk P m ops Q (.off :: done) rest ((d,.d (.v undef)) :: env) own) : Walk P m ops Q done (⟨some d,op,ty,pos,af,some (g,want)⟩ :: rest) env own:=by
 by_cases h : b = want
 ·have h1 := hon h
  cases h1 with
  | off hg h2=>obtain ⟨j,w,dd,x,e,_⟩:=hg;cases e
  | q fp r hg hq h2=>exact Walk.q fp r (show GuardOn ops _ env from ⟨dg,hdg,by rw [hb,h]⟩) hq h2
  | e mod r own' hg hq h2=>exact Walk.e mod r own' (show GuardOn ops _ env from ⟨dg,hdg,by rw [hb,h]⟩) hq h2
  | l mod fp r own' hg hq h2=>exact Walk.l mod fp r own' (show GuardOn ops _ env from ⟨dg,hdg,by rw [hb,h]⟩) hq h2
 ·refine Walk.off ⟨g, want, dg, .bool b, rfl, hdg, hb, fun e => h (by simpa using e)⟩ (hoff ?_)
  cases b<;>cases want<;>simp_all
theorem W.gOn {d g : Nat} {want : Bool} (dg : Nat) (hdg : (ops[g]?).bind (·.dst) = some dg) (hb : look env dg = .d (.v (.bool want)))
 (hon : Walk P m ops Q done (⟨some d,op,ty,pos,af,none⟩ :: rest) env own) : Walk P m ops Q done (⟨some d,op,ty,pos,af,some (g,want)⟩ :: rest) env own :=
 W.g want dg hdg hb (fun _=>hon) fun h=>by cases want<;>cases h
theorem W.gOff {d g : Nat} {want : Bool} (x : Value) (dg : Nat) (hdg : (ops[g]?).bind (·.dst) = some dg) (hb : look env dg = .d (.v x)) (hx : x ≠ .bool want)
 (hoff : Walk P m ops Q (.off :: done) rest ((d,.d (.v undef)) :: env) own) : Walk P m ops Q done (⟨some d,op,ty,pos,af,some (g,want)⟩ :: rest) env own :=
 Walk.off ⟨g,want,dg,x,rfl,hdg,hb,hx⟩ hoff
theorem W.gT {d g : Nat} (b : Bool) (dg : Nat) (hdg : (ops[g]?).bind (·.dst) = some dg) (hb : look env dg = .d (.v (.bool b)))
 (hon : b = true → Walk P m ops Q done (⟨some d,op,ty,pos,af,none⟩ :: rest) env own)
 (hoff : b = false → Walk P m ops Q (.off :: done) rest ((d,.d (.v undef)) :: env) own) : Walk P m ops Q done (⟨some d,op,ty,pos,af,some (g,true)⟩ :: rest) env own:=W.g b dg hdg hb hon hoff
theorem W.gF {d g : Nat} (b : Bool) (dg : Nat) (hdg : (ops[g]?).bind (·.dst) = some dg) (hb : look env dg = .d (.v (.bool b)))
 (hon : b = false → Walk P m ops Q done (⟨some d,op,ty,pos,af,none⟩ :: rest) env own)
 (hoff : b = true → Walk P m ops Q (.off :: done) rest ((d,.d (.v undef)) :: env) own) : Walk P m ops Q done (⟨some d,op,ty,pos,af,some (g,false)⟩ :: rest) env own:=W.g b dg hdg hb hon hoff
theorem q_pickT {c x y : Operand} {u : AV} (hc : lookO env c = bV true) (hx : lookO env x = u) : Quiet P m ⟨dst,.pick c x y,ty,pos,af,none⟩ env own [] u:=hx ▸ q_pick hc
theorem q_pickF {c x y : Operand} {u : AV} (hc : lookO env c = bV false) (hy : lookO env y = u) : Quiet P m ⟨dst,.pick c x y,ty,pos,af,none⟩ env own [] u:=hy ▸ q_pick hc
theorem q_ld_map {α : Type} {f : α → List Dat} {l : List α} {t : TypeId} {k : Nat} {x : Operand} {sz j o : Nat} {y : Dat} (ht : tyInfo P t = some (false, k)) (hx : lookO env x = .fpt sz (l.map f) j o) (hj : j < l.length) (hy : (f (l[j]'hj))[o]? = some y) :
 Quiet P m ⟨dst,.load t x,ty,pos,af,none⟩ env own [] (.d y):=q_ld_fpt ht hx (by rw [List.getElem?_map,List.getElem?_eq_getElem hj];rfl) hy
theorem q_ld_maps {α : Type} {f : α → List Dat} {l : List α} {t : TypeId} {k : Nat} {x : Operand} {sz j : Nat} (ht : tyInfo P t = some (true, k)) (hx : lookO env x = .fpt sz (l.map f) j 0) (hk : k = sz) (hj : j < l.length) :
 Quiet P m ⟨dst,.load t x,ty,pos,af,none⟩ env own [] (.agg ((f (l[j]'hj)).map .d)):=q_ld_fpts ht hx hk (by rw [List.getElem?_map,List.getElem?_eq_getElem hj];rfl)
theorem q_slc_map {α : Type} {f : α → List Dat} {l : List α} {t e : TypeId} {sz by' : Nat} {z : Value} {x : Operand} {lo hi mx : Option Operand} (va vb : Nat) (ht : slInfo P t = some (e, sz, by', z)) (hx : lookO env x = .d (.sl sz (l.map f)))
 (h1 : bnd env lo 0 va) (h2 : bnd env hi l.length vb) (hab : va ≤ vb) (hbn : vb ≤ l.length) (h3 : mx = none ∨ (mx.isSome = true ∧ hi.isSome = true ∧ ∃ vm,bnd env mx 0 vm ∧ vb ≤ vm ∧ vm ≤ l.length)) :
 Quiet P m ⟨dst,.slice t x lo hi mx,ty,pos,af,none⟩ env own [] (.d (.sl sz (((l.drop va).take (vb - va)).map f))):=by
 have:=q_slc_sl (P:=P) (m:=m) (own:=own) (dst:=dst) (ty:=ty) (pos:=pos) (af:=af) (gd:=none) va vb ht hx h1 (by simpa using h2) hab (by simpa using hbn) (by simpa using h3)
 rwa [← List.map_drop,← List.map_take] at this
theorem q_as {x : Operand} {y : AV} (hx : lookO env x = y) : Quiet P m ⟨dst,.assign x,ty,pos,af,none⟩ env own [] y:=hx ▸ q_assign x
theorem q_mv {x : Operand} {y : AV} (hx : lookO env x = y) : Quiet P m ⟨dst,.move x,ty,pos,af,none⟩ env own [] y:=hx ▸ q_move x
end
/-! ### Structs that are compared -/
def valA : AV → Option Value
 | .d (.v x)=>some x
 | _=>none
theorem valA_sat {F : Nat → Prop} {own : List Ent} {κ : List (Option Nat)} {w : World} {x : AV} {v u : Value} (h : valA x = some v) (hs : AV.sat F own κ w x u) : u = v:=by
 cases x with
 | d x => cases x with
   | v y => obtain rfl : y = v := by simpa [valA] using h
            exact sat_v.1 hs
   | _=>simp [valA] at h
 | _=>simp [valA] at h
theorem valAL_sat {F : Nat → Prop} {own : List Ent} {κ : List (Option Nat)} {w : World} : ∀ {l : List AV} {vs us : List Value}, l.mapM valA = some vs → AV.satL F own κ w l us → us = vs
 | [],vs,[],h,_=>by simp at h;exact h.symm ▸ rfl
 | x :: xs,vs,u :: us,h,hs=>by
   rw [List.mapM_cons] at h
   simp only [Option.bind_eq_bind,Option.bind_eq_some_iff,Option.pure_def,Option.some.injEq] at h
   obtain ⟨p,hp,ps,hps,rfl⟩:=h
   rw [AV.satL] at hs
   rw [valA_sat hp hs.1,valAL_sat hps hs.2]
 | [],_,_ :: _,_,hs=>by simp [AV.satL] at hs
 | _ :: _,_,[],_,hs=>by simp [AV.satL] at hs
section
variable {P : Program} {m : Nat} {dst : Option Tmp} {ty : TypeId} {pos : String} {af : Array Edge} {env : List (Nat × AV)} {own : List Ent}
end
/-! ### Results -/
section
variable {P : Program} {env : List (Nat × AV)} {own : List Ent} {t : Nat} {e : Exit}
theorem Ends.le {x r : AV} (hx : look env t = x) (hr : AVle (AV.frz own [] x) r) : Ends P [.tmp t] r [] .ret ⟨env,own⟩:=⟨.inl rfl,[],[x],rfl,⟨hx,trivial⟩,hr,rfl⟩
theorem Ends.d {y : Dat} {r : AV} (hx : look env t = .d y) (hr : AV.d y = r) : Ends P [.tmp t] r [] .ret ⟨env,own⟩:=Ends.le hx (AVle.of_eq hr)
theorem Ends.b {b b' : Bool} (hx : look env t = bV b) (h : b = b') : Ends P [.tmp t] (bV b') [] .ret ⟨env,own⟩:=Ends.d hx (by rw [h])
theorem Ends.i {k : IntKind} {n n' : Int} (hx : look env t = .d (.v (.int k n))) (h : n = n') : Ends P [.tmp t] (.d (.v (.int k n'))) [] .ret ⟨env,own⟩:=Ends.d hx (by rw [h])
theorem Ends.sl {sz : Nat} {l l' : List (List Dat)} (hx : look env t = .d (.sl sz l)) (h : l = l') : Ends P [.tmp t] (.d (.sl sz l')) [] .ret ⟨env,own⟩:=Ends.d hx (by rw [h])
theorem Ends.nil {sz : Nat} {l : List (List Dat)} (hx : look env t = .d (.v (.slice none 0 0))) (hl : l = []) : Ends P [.tmp t] (.d (.sl sz l)) [] .ret ⟨env,own⟩:=Ends.le hx (by rw [hl];exact AVle.nil sz)
theorem Ends.cell2 {p i : Nat} {tyc : TypeId} {l : List AV} {y r : AV} (hx : look env p = .opt i 0) (ho : own[i]? = some (.box l)) (ht : tyInfo P tyc = some (true,l.length)) (hy : look env t = y) (hr : AV.frz own [] (.tup [.agg l,y]) = r) : Ends P [.cell p tyc,.tmp t] r [] .ret ⟨env,own⟩ :=
 ⟨.inl rfl,[],[.agg l,y],rfl,⟨⟨i,l,true,hx,ho,ht,rfl⟩,hy,trivial⟩,AVle.of_eq hr,rfl⟩
theorem Ends.osl {i ver n sz : Nat} {e : TypeId} {l l' : List (List Dat)} (hx : look env t = .osl i ver 0 n) (ho : own[i]? = some (.row ver sz e l)) (hn : n = l.length) (hr : l = l') : Ends P [.tmp t] (.d (.sl sz l')) [] .ret ⟨env,own⟩ :=
 Ends.le hx (AVle.of_eq (by simp [AV.frz,plc,frzSl,ho,hn,hr]))
end
section
variable {Γ : Ctx} {P : Program} {n m : Nat} {Q : Exit → St → Prop} {env : List (Nat × AV)} {own : List Ent} {c : Code}
theorem AWP.nilRow (t sz : Nat) (e : TypeId) (h : look env t = .d (.v (.slice none 0 0))) (hs : 0 < sz) (hc : AWPG Γ P n m c Q ⟨(t,.osl own.length 0 0 0) :: env,own ++ [.row 0 sz e []]⟩) : AWPG Γ P n m c Q ⟨env,own⟩:=fun F W κ0 a κ w hH hm hsim=>by
 have hle : m ≤ κ.length:=by rw [← hm];exact hsim.pre
 obtain ⟨g1,g2⟩:=step_push (m:=m) (x:=.row 0 sz e []) (og:=none) (w':=w) hle hsim.own rfl rfl rfl (Nat.le_refl _) (fun _ _=>rfl) (.inl rfl) (fun hst=>⟨hs,.inl ⟨rfl,rfl⟩⟩)
 refine hc F W κ0 a (κ ++ [none]) w hH hm (hsim.step hm g2 hsim.tm rfl (fun u=>?_) g1)
 simp only [look]
 by_cases hu : t = u
 ·subst hu
  rw [if_pos rfl]
  have:=hsim.env t
  rw [h,sat_v] at this
  rw [this,AV.sat]
  refine ⟨⟨.row 0 sz e [],by rw [List.getElem?_concat_length],Nat.le_refl _,rfl⟩,fun sz2 e2 c2 hcc=>?_⟩
  rw [List.getElem?_concat_length] at hcc
  obtain ⟨rfl,rfl,rfl⟩ : sz = sz2 ∧ e = e2 ∧ [] = c2:=by simpa using hcc
  refine ⟨by simp,none,0,rfl,Nat.le_refl _,by simp [maxLen],fun _=>.inr ⟨?_,rfl,rfl⟩⟩
  have hl : own.length = κ.length:=hsim.own.len
  rw [hl,List.getElem?_concat_length]
 ·rw [if_neg hu];exact g2.keep _ _ (hsim.env u)
theorem AWP.le (t : Nat) (y : AV) {x : AV} (h : look env t = x) (hl : AVle x y) (hc : AWPG Γ P n m c Q ⟨(t,y) :: env,own⟩) : AWPG Γ P n m c Q ⟨env,own⟩:=fun F W κ0 a κ w hH hm hsim=>by
 refine hc F W κ0 a κ w hH hm ⟨hsim.tm,hsim.df,fun u=>?_,hsim.own,hsim.pre,hsim.os,hsim.tape,hsim.output,hsim.size,hsim.old,hsim.new,hsim.len,hsim.keep⟩
 simp only [look]
 by_cases hu : t = u
 ·subst hu;rw [if_pos rfl];exact hl _ _ _ _ _ (h ▸ hsim.env t)
 ·rw [if_neg hu];exact hsim.env u
end
/-! ### Contracts of another making -/
def valO : AV → Option Value
 | .d (.v x)=>some x
 | .agg l=>(l.mapM valA).map fun vs=>.agg vs.toArray
 | _=>none
theorem valO_sat {F : Nat → Prop} {own : List Ent} {κ : List (Option Nat)} {w : World} {x : AV} {v u : Value} (h : valO x = some v) (hs : AV.sat F own κ w x u) : u = v:=by
 cases x with
 | d x => cases x with
   | v y => obtain rfl : y = v := by simpa [valO] using h
            exact sat_v.1 hs
   | _=>simp [valO] at h
 | agg l =>
   rw [AV.sat] at hs
   obtain ⟨vs,rfl,h2⟩:=hs
   simp only [valO,Option.map_eq_some_iff] at h
   obtain ⟨ws,h3,rfl⟩:=h
   rw [← valAL_sat h3 h2]
 | _=>simp [valO] at h
theorem valOL_sat {F : Nat → Prop} {own : List Ent} {κ : List (Option Nat)} {w : World} : ∀ {l : List AV} {vs us : List Value}, l.mapM valO = some vs → AV.satL F own κ w l us → us = vs
 | [],vs,[],h,_=>by simp at h;exact h.symm ▸ rfl
 | x :: xs,vs,u :: us,h,hs=>by
   rw [List.mapM_cons] at h
   simp only [Option.bind_eq_bind,Option.bind_eq_some_iff,Option.pure_def,Option.some.injEq] at h
   obtain ⟨p,hp,ps,hps,rfl⟩:=h
   rw [AV.satL] at hs
   rw [valO_sat hp hs.1,valOL_sat hps hs.2]
 | [],_,_ :: _,_,hs=>by simp [AV.satL] at hs
 | _ :: _,_,[],_,hs=>by simp [AV.satL] at hs
theorem tr_of_below {F : Nat → Prop} {w w' : World} (hb : Below w.heap.size w w') : Tr F 0 [] [] w [] [] w':=by
 have hnew : ∀ b,some b ∈ ([] : List (Option Nat)) → some b ∈ ([] : List (Option Nat)) ∨ w.heap.size ≤ b:=fun b h=>by cases h
 have hst : Stab F [] [] w [] [] w':=⟨Tr.wide hb.size (fun b h _=>hb.block b h) hnew,fun i x og hx=>by simp at hx⟩
 exact ⟨hb.os,hb.tape,hb.output,hb.size,fun b h _=>hb.block b h,hnew,id,fun x u=>AV.sat_stab hst (fun i x hx=>by simp at hx) x⟩
theorem own_nil {F : Nat → Prop} {w w' : World} (h : OwnSat F [] [] w) (hb : Below w.heap.size w w') : OwnSat F [] [] w' :=
 ⟨rfl,(fun b hf=>Nat.lt_of_lt_of_le (h.frame b hf) hb.size),(fun g hg=>by cases hg),(fun i j g hi=>by simp at hi),(fun i x hx=>by simp at hx),glb_keep h.glb hb.size (fun b hlt _=>hb.block b hlt) (fun b hb=>by cases hb)⟩
theorem acalls_of_val {P : Program} {f : FuncId} {args : List AV} {vs : List Value} {r : AV} (hv : args.mapM valO = some vs)
 (h : ∀ w,Calls P f vs.toArray w fun e w'=>∃ v,e = .returned v ∧ Below w.heap.size w w' ∧ ∀ F,OwnSat F [] [] w → AV.sat F [] [] w' r v) : ACalls P f args [] r []:=fun F κ w us ho hs=>by
 have hk : κ = []:=List.eq_nil_of_length_eq_zero (by simpa using ho.len.symm)
 subst hk
 rw [valOL_sat hv hs]
 refine (h w).mono ?_
 rintro e w' ⟨v,he,hb,hr⟩
 exact ⟨v,[],he,hr F ho,own_nil ho hb,tr_of_below hb⟩
theorem acalls_of_exact {P : Program} {f : FuncId} {args : List AV} {vs : List Value} {v : Value} (hv : args.mapM valO = some vs)
 (h : ∀ w,Calls P f vs.toArray w fun e w'=>e = .returned v ∧ Below w.heap.size w w') : ACalls P f args [] (.d (.v v)) [] :=
 acalls_of_val hv fun w=>(h w).mono fun e w' ⟨he,hb⟩=>⟨v,he,hb,fun _ _=>sat_v.2 rfl⟩
section
variable {Γ : Ctx} {P : Program} {n m : Nat} {Q : Exit → St → Prop} {env : List (Nat × AV)} {own : List Ent}
theorem jAb {id : Nat} {l : List Oper} (h : Walk P m ⟨l⟩ (fun _ env own=>Q .normal ⟨env,own⟩) [] l env own) (hf : fitsB n ⟨l⟩ = true:=by kernel_rfl) : AWPG Γ P n m (.region id ⟨l⟩ false) Q ⟨env,own⟩:=W.region hf h
end
section
variable {P : Program} {m : Nat} {ops : Array Oper} {Q : List Part → List (Nat × AV) → List Ent → Prop} {done : List Part} {dst : Option Tmp} {op : Op} {ty : TypeId} {pos : String} {af : Array Edge} {rest : List Oper} {env : List (Nat × AV)} {own : List Ent} {fp : List Nat} {r : AV}
theorem jAc {α : Type} {f : α → List Dat} {l : List α} {t : TypeId} {k : Nat} {x : Operand} {sz j o : Nat} {y : Dat} (ht : tyInfo P t = some (false,k):=by exact rfl) (hx : lookO env x = .fpt sz (l.map f) j o:=by exact rfl) (hj : j < l.length:=by first | omega | (focus (simp;done))) (hy : (f (l[j]'hj))[o]? = some y:=by exact rfl) : Quiet P m ⟨dst,.load t x,ty,pos,af,none⟩ env own [] (.d y):=q_ld_map ht hx hj hy
end
section
variable {P : Program} {m : Nat} {ops : Array Oper} {Q : List Part → List (Nat × AV) → List Ent → Prop} {done : List Part} {dst : Option Tmp} {op : Op} {ty : TypeId} {pos : String} {af : Array Edge} {rest : List Oper} {env : List (Nat × AV)} {own : List Ent} {fp : List Nat} {r : AV}
theorem jAk {α : Type} {f : α → List Dat} {l : List α} {t : TypeId} {k : Nat} {x : Operand} {sz j : Nat} (ht : tyInfo P t = some (true,k):=by exact rfl) (hx : lookO env x = .fpt sz (l.map f) j 0:=by exact rfl) (hk : k = sz:=by exact rfl) (hj : j < l.length:=by first | omega | (focus (simp;done))) : Quiet P m ⟨dst,.load t x,ty,pos,af,none⟩ env own [] (.agg ((f (l[j]'hj)).map .d)):=q_ld_maps ht hx hk hj
end
section
variable {Γ : Ctx} {P : Program} {n m : Nat} {Q : Exit → St → Prop} {env : List (Nat × AV)} {own : List Ent}
theorem jAr {id : Nat} {l : List Oper} (h : Walk P m ⟨l⟩ (fun done env own=>chkOps ⟨l⟩ done.reverse = true ∧ Q .normal ⟨env,own⟩) [] l env own) (hmo : P.follows .mixedOrders = true:=by exact rfl) (hf : fitsB n ⟨l⟩ = true:=by kernel_rfl) : AWPG Γ P n m (.region id ⟨l⟩ true) Q ⟨env,own⟩:=W.regionD hmo hf h
end
section
variable {Γ : Ctx} {P : Program} {n m : Nat} {Q : Exit → St → Prop} {env : List (Nat × AV)} {own : List Ent}
theorem jAv {c : Operand} {x y : Code} (ht : AWPG Γ P n m x Q ⟨env,own⟩) (hc : lookO env c = .d (.v (.bool true)):=by exact rfl) : AWPG Γ P n m (.cond c x y) Q ⟨env,own⟩:=W.condT hc ht
end
section
variable {Γ : Ctx} {P : Program} {n m : Nat} {Q : Exit → St → Prop} {env : List (Nat × AV)} {own : List Ent}
theorem jAx {ops : Array Oper} {l : List Part} {R : Prop} (hr : R) (h : chkOps ops l = true:=by kernel_rfl) : chkOps ops l = true ∧ R:=W.chk h hr
end
section
variable {Γ : Ctx} {P : Program} {n m : Nat} {Q : Exit → St → Prop} {env : List (Nat × AV)} {own : List Ent}
theorem jAy {c : Operand} {x y : Code} (hf : AWPG Γ P n m y Q ⟨env,own⟩) (hc : lookO env c = .d (.v (.bool false)):=by exact rfl) : AWPG Γ P n m (.cond c x y) Q ⟨env,own⟩:=W.condF hc hf
end
end
end Go.Proofs.YtplpgijpmgbaiaaGreatDoor
