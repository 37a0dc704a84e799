import Derived.Test.YtplpgijpmgbaiaaGreatDoorMScrubLocates5
import Derived.Lib.AppendStr
import Derived.Lib.AppendZerosOnto
import Derived.Shelf.Pu.Clone
/- Joined texts: Kern54 Kern55 Kern56 Kern57 Kern58 Kern59 Sc1 Sc2 Sc3 Sc4 Sc5 Sc6 Sc7 Sc8 Sc9 Sc10 Sc11 Sc12 Sc14 Sc15 Sc19. -/
set_option linter.unusedVariables false
set_option linter.unusedSimpArgs false
namespace Go.Proofs.YtplpgijpmgbaiaaGreatDoor
open Go.RowKit
set_option maxHeartbeats 4000000
set_option maxRecDepth 100000
section
open Go.RowKit Go.Lib
theorem wrapU {k : IntKind} (hs : k.signed = false) (n : Nat) : k.wrap (n : Int) = ((n % 2 ^ k.bits : Nat) : Int) := by
 unfold IntKind.wrap
 rw [hs]
 simp
section
variable {P : Program} {m : Nat} {env : List (Nat × AV)} {own : List Ent} {dst : Option Tmp} {ty : TypeId} {pos : String} {af : Array Edge} {gd : Option (Nat × Bool)}
theorem run_builtin_append2 {a : Act} {x y : Operand} {t u : TypeId} {w w' : World} {v : Value} (h : (Builtin.append_ #[t, u] ty #[a.eval x, a.eval y]).run P w = .ok v w') :
 (execOp a.eval ⟨dst,.call ⟨.builtin .append,#[x,y],#[t,u]⟩,ty,pos,af,gd⟩).run P w = .ok (.value v) w' := by
 rw [exec_builtin]
 simp only [builtin,List.map_toArray,List.map_cons,List.map_nil]
 exact exec_v h
theorem q_xorU {t t' : TypeId} {x y : Operand} {k : IntKind} {a b : Int} {xn yn v : Nat} (hx : lookO env x = .d (.v (.int k a))) (hy : lookO env y = .d (.v (.int k b))) (ha : a = (xn : Int)) (hb : b = (yn : Int)) (hs : k.signed = false) (h1 : xn < 2 ^ k.bits) (h2 : yn < 2 ^ k.bits) (hv : xn ^^^ yn = v) :
 Quiet P m ⟨dst,.binOp .xor t x y t',ty,pos,af,gd⟩ env own [] (.d (.v (.int k (v : Int)))) := q_bin hx hy fun w => by
 subst ha;subst hb;subst hv
 simp [eqGuard,binOp,Op.intBits,Nat.mod_eq_of_lt h1,Nat.mod_eq_of_lt h2,wrapU hs,Nat.mod_eq_of_lt (Nat.xor_lt_two_pow h1 h2)]
theorem q_andU {t t' : TypeId} {x y : Operand} {k : IntKind} {a b : Int} {xn yn v : Nat} (hx : lookO env x = .d (.v (.int k a))) (hy : lookO env y = .d (.v (.int k b))) (ha : a = (xn : Int)) (hb : b = (yn : Int)) (hs : k.signed = false) (h1 : xn < 2 ^ k.bits) (h2 : yn < 2 ^ k.bits) (hv : xn &&& yn = v) :
 Quiet P m ⟨dst,.binOp .and t x y t',ty,pos,af,gd⟩ env own [] (.d (.v (.int k (v : Int)))) := q_bin hx hy fun w => by
 subst ha;subst hb;subst hv
 have h3 : xn &&& yn < 2 ^ k.bits := Nat.lt_of_le_of_lt Nat.and_le_left h1
 simp [eqGuard,binOp,Op.intBits,Nat.mod_eq_of_lt h1,Nat.mod_eq_of_lt h2,wrapU hs,Nat.mod_eq_of_lt h3]
theorem q_shrU {t t' : TypeId} {x y : Operand} {k k' : IntKind} {a b : Int} {xn n v : Nat} (hx : lookO env x = .d (.v (.int k a))) (hy : lookO env y = .d (.v (.int k' b))) (ha : a = (xn : Int)) (hb : b = (n : Int)) (h1 : n ≤ k.bits) (hv : xn >>> n = v) :
 Quiet P m ⟨dst,.binOp .shr t x y t',ty,pos,af,gd⟩ env own [] (.d (.v (.int k (v : Int)))) := by
 subst hv;exact q_shrN hx hy ha hb h1
theorem q_negU {t : TypeId} {x : Operand} {k : IntKind} {a : Int} {xn v : Nat} (hx : lookO env x = .d (.v (.int k a))) (ha : a = (xn : Int)) (hs : k.signed = false) (h1 : xn < 2 ^ k.bits) (hv : (2 ^ k.bits - xn) % 2 ^ k.bits = v) :
 Quiet P m ⟨dst,.unOp .neg t x,ty,pos,af,gd⟩ env own [] (.d (.v (.int k (v : Int)))) := q_un hx fun w => by
 subst ha;subst hv
 have e : k.wrap (-(xn : Int)) = (((2 ^ k.bits - xn) % 2 ^ k.bits : Nat) : Int) := by
  have h2 : k.wrap (-(xn : Int)) = k.wrap ((2 ^ k.bits - xn : Nat) : Int) := by
   unfold IntKind.wrap
   have h3 : (-(xn : Int)) % (2 ^ k.bits : Int) = ((2 ^ k.bits - xn : Nat) : Int) % (2 ^ k.bits : Int) := by
    have h4 : ((2 ^ k.bits - xn : Nat) : Int) = -(xn : Int) + (2 ^ k.bits : Int) := by
     have : ((2 ^ k.bits - xn : Nat) : Int) = ((2 ^ k.bits : Nat) : Int) - (xn : Int) := by omega
     rw [this];simp;omega
    rw [h4,Int.add_emod_right]
   rw [h3]
  rw [h2,wrapU hs]
 simp [Op.unary,Op.intArith,e]
theorem q_cplU {t : TypeId} {x : Operand} {k : IntKind} {a : Int} {xn mx v : Nat} (hx : lookO env x = .d (.v (.int k a))) (ha : a = (xn : Int)) (hs : k.signed = false) (hm : k.max = (mx : Int)) (h1 : xn < 2 ^ k.bits) (h2 : mx < 2 ^ k.bits) (hv : mx ^^^ xn = v) :
 Quiet P m ⟨dst,.unOp .xor t x,ty,pos,af,gd⟩ env own [] (.d (.v (.int k (v : Int)))) := q_un hx fun w => by
 subst ha;subst hv
 simp [Op.unary,hs,hm,Op.intBits,Nat.mod_eq_of_lt h1,Nat.mod_eq_of_lt h2,wrapU hs,Nat.mod_eq_of_lt (Nat.xor_lt_two_pow h2 h1)]
theorem q_convN {src dst' : TypeId} {x : Operand} {k k' : IntKind} {n : Int} {xn v : Nat} (hx : lookO env x = .d (.v (.int k n))) (hs : (P.underlying src).isSome = true) (hd : isInt P dst' k' = true) (hn : n = (xn : Int)) (hk : k'.signed = false) (hv : xn % 2 ^ k'.bits = v) :
 Quiet P m ⟨dst,.convert src dst' x,ty,pos,af,gd⟩ env own [] (.d (.v (.int k' (v : Int)))) := by
 have := q_conv (P := P) (m := m) (env := env) (own := own) (dst := dst) (ty := ty) (pos := pos) (af := af) (gd := gd) (src := src) k' hs hd hx
 rwa [hn,wrapU hk,hv] at this
theorem strCells_bytes {l : List Nat} (hb : isB l) : strCells (bytesOf l) = l.map fun n : Nat => Value.int .u8 (n : Int) := by
 unfold strCells bytesOf
 simp only [List.toList_toArray,List.map_map]
 apply List.map_congr_left
 intro x hx
 simp [Nat.mod_eq_of_lt (hb x hx)]
theorem valsSat_bytes {B : Nat → Prop} {w : World} : ∀ l : List Nat,valsSat B w (l.map nD).flatten (l.map fun n : Nat => Value.int .u8 (n : Int)) := fun l => by
 have e : (l.map nD).flatten = l.map fun n : Nat => Dat.v (.int .u8 (n : Int)) := by
  induction l with
  | nil => rfl
  | cons a l ih => rw [List.map_cons,List.flatten_cons,ih];rfl
 rw [e]
 refine ⟨by simp,fun j x hj => ?_⟩
 rw [List.getElem?_map] at hj
 cases h : l[j]? with
 | none => rw [h] at hj;cases hj
 | some n =>
   rw [h] at hj
   obtain rfl : Dat.v (.int .u8 (n : Int)) = x := by simpa using hj
   exact ⟨.int .u8 (n : Int),by rw [List.getElem?_map,h];rfl,rfl,by rw [Dat.sat]⟩
theorem e_appStr {t u e : TypeId} {z : Value} {x y : Operand} {p ver n q : Nat} {l l2 : List Nat} {own' : List Ent} (hx : lookO env x = .osl p ver 0 n) (hp : own[p]? = some (.row ver 1 e (l.map nD))) (hy : lookO env y = bS l2) (ho' : setF own p (.row (ver + 1) 1 e ((l ++ l2).map nD)) = some own') (ht : slInfo P t = some (e, 1, 1, z)) (hu : P.underlying u = some .string) (hz : z = .int .u8 0) (hn : n = l.length) (hq : q = l.length + l2.length) (hb2 : isB l2)
 (hb : l.length + l2.length ≤ 1000000000) :
 Eff P m ⟨dst,.call ⟨.builtin .append,#[x,y],#[t,u]⟩,ty,pos,af,gd⟩ env own [p] (.osl p (ver + 1) 0 q) own' := by
 rw [setF_spec ho',List.map_append]
 refine Eff.mk (set_same _ p) fun F κ a w hs ho hmk => ?_
 subst hn
 subst hq
 subst hz
 have hx1 := hs x (by simp [Op.operands,Call.operands]);rw [hx] at hx1
 have hy1 := hs y (by simp [Op.operands,Call.operands]);rw [hy,sat_v] at hy1
 obtain ⟨he,inf,hi1,hi2,hib,hzz⟩ := slInfo_spec ht
 rcases Nat.eq_zero_or_pos l2.length with h0 | hpos
 ·obtain rfl := List.eq_nil_of_length_eq_zero h0
  have hx2 := hx1
  rw [AV.sat] at hx2
  obtain ⟨h3,A,c,h4,h5,h6,h7⟩ := hx2.2 1 e _ hp
  have hf : (Builtin.firstCells inf.size 0 (.string (bytesOf []))).run P w = .ok #[] w := run_firstCells_string (P := P) w inf.size (bytesOf [])
  have hsz : (bytesOf []).size = 0 := rfl
  rw [run_builtin_append2 (dst := dst) (pos := pos) (af := af) (gd := gd) (v := .slice A l.length c) (w' := w) (by
   rw [h4,hy1]
   cases A <;> simp [Builtin.append_,run_underlying he,run_underlying hu,sizeOf,typeInfo,hi1,Builtin.lenOf,h5,hf,hsz,storeCells])]
  obtain ⟨og,hog⟩ := ho.kap p _ hp
  have hκ := setK_same hog
  have hent := ho.ent p _ hp
  have hgd : κ.getD p none = og := by simp [List.getD_eq_getElem?_getD,hog]
  rw [hgd] at hent
  have hpl : p < own.length := (List.getElem?_eq_some_iff.1 hp).1
  obtain ⟨g1,g2⟩ := step_upd (m := m) (x' := .row (ver + 1) 1 e (l.map nD ++ [])) (og' := og) (w' := w) ho hp hog rfl rfl rfl (Nat.le_refl _) (fun _ _ _ => rfl) (.inl rfl) (.inr rfl) (.inl (Nat.lt_succ_self ver)) (fun hst => by
   rw [hκ]
   unfold EntSat at hent ⊢
   rw [List.append_nil]
   exact hent)
  refine ⟨_,?_,g1,g2⟩
  rw [AV.sat]
  have hself : (own.set p (.row (ver + 1) 1 e (l.map nD ++ [])))[p]? = some (.row (ver + 1) 1 e (l.map nD ++ [])) := by rw [List.getElem?_set_self hpl]
  refine ⟨⟨_,hself,Nat.le_refl _,rfl⟩,fun sz2 e2 c2 hc => ?_⟩
  have hc : (own.set p (.row (ver + 1) 1 e (l.map nD ++ [])))[p]? = some (.row (ver + 1) sz2 e2 c2) := hc
  rw [hself] at hc
  obtain ⟨rfl,rfl,rfl⟩ : 1 = sz2 ∧ e = e2 ∧ l.map nD ++ [] = c2 := by simpa using hc
  rw [hκ]
  exact ⟨by simp,A,c,by simp,by simpa using h5,h6,fun _ => h7 (.inr rfl)⟩
 obtain ⟨h0,hl1,og,xs,hog,hvo,hxs,hown⟩ := row_owns ho hp (by simp) hx1
 have hsz : (bytesOf l2).size = l2.length := bytesOf_size l2
 have hcap : l.length + (bytesOf l2).size ≤ 140737488355328 := by omega
 obtain ⟨v',w',h2,h3,h4,_⟩ := run_append_own_string (P := P) (w := w) 0 t u ty e inf he hu hi1 hzz hi2 hib (a.eval x) l.length xs hown (bytesOf l2) (by unfold maxLen;omega) hcap (Nat.zero_le _)
 have h5 : v'.ownBlock = (a.eval x).ownBlock ∨ v'.ownBlock = some w.heap.size := by
  rcases hown.2 with ⟨hv0,hn0⟩ | ⟨g,cap,cur,hv0,hbg,hg,hnc,hcm,hcs,htake⟩
  ·rw [hv0] at h2
   have := run_append_nil_string (P := P) w t u ty e inf (.int .u8 0) he hu hi1 hzz (bytesOf l2) (by omega) (by omega) (by rw [hib];omega)
   rw [this] at h2
   obtain ⟨rfl,rfl⟩ : _ = v' ∧ _ = w' := by simpa using h2
   exact .inr rfl
  ·rw [hv0] at h2 ⊢
   by_cases hroom : l.length + (bytesOf l2).size ≤ cap
   ·rw [run_append_room_string (P := P) w t u ty e inf he hu hi1 hi2 g l.length cap cur hg (bytesOf l2) hroom (by omega)] at h2
    obtain ⟨rfl,rfl⟩ : _ = v' ∧ _ = w' := by simpa using h2
    exact .inl rfl
   ·have holds : ∀ j u,xs[j]? = some u → w.cell? ((⟨g,0,none⟩ : Addr).add j) = some u := by
     rw [hv0] at hown
     exact hown.cells (g := g) rfl
    rw [run_append_grow_string (P := P) w t u ty e inf (.int .u8 0) he hu hi1 hzz ⟨g,0,none⟩ l.length cap xs (by rw [hi2];exact hown.1) holds (bytesOf l2) (by omega) (by omega) (by rw [hib];exact growslice_fits (by omega) (by omega))] at h2
    obtain ⟨rfl,rfl⟩ : _ = v' ∧ _ = w' := by simpa using h2
    exact .inr rfl
 rw [run_builtin_append2 (dst := dst) (pos := pos) (af := af) (gd := gd) (v := v') (w' := w') (by rw [hy1];exact h2)]
 have hnv : valsSat (badK F κ) w (l2.map nD).flatten (strCells (bytesOf l2)) := by rw [strCells_bytes hb2];exact valsSat_bytes l2
 rw [hsz] at h3
 exact append_fin (k := l2.length) ho (Nat.zero_le _) hp hog (by decide) (by simp) (by simp) hpos (fun el he => by obtain ⟨x,_,rfl⟩ := List.mem_map.1 he;rfl) hl1 hxs hnv hvo h3 h4 h5
end
end
section
open Go.RowKit Go.Lib
def cB (n : Nat) : AV := .d (.v (.int .u8 (n : Int)))
section
variable {P : Program} {m : Nat} {env : List (Nat × AV)} {own : List Ent} {dst : Option Tmp} {ty : TypeId} {pos : String} {af : Array Edge} {gd : Option (Nat × Bool)}
theorem e_bytesB {src dst' : TypeId} {x : Operand} {l : List Nat} {q : Nat} {own' : List Ent} (hx : lookO env x = bS l) (hs : P.underlying src = some .string) (hd : isByteSl P dst' = true) (hb : isB l) (hl : l.length ≤ 9223372036854775807) (hq : lenF own 0 = some q) (ho' : pushF own (.box (l.map cB)) = some own') :
 Eff P m ⟨dst,.convert src dst' x,ty,pos,af,gd⟩ env own [q] (.bsl q l.length 0) own' := by
 have e1 := lenF_spec hq
 rw [Nat.add_zero] at e1
 rw [pushF_spec ho',e1]
 refine Eff.mk (push_same _) fun F κ a w hsat ho hm => ?_
 have h1 := hsat x (by simp [Op.operands]);rw [hx,sat_v] at h1
 obtain ⟨e,he1,he2⟩ := isByteSl_spec hd
 have hrun := run_bytes_of_string (P := P) w src dst' e (bytesOf l) hs he1 he2
 have hG := grownCap_ge w (bytesOf l).size 0 e
 have hG2 := grownCap_le_maxLen w (bytesOf l).size 0 e (by rw [bytesOf_size];unfold maxLen;omega)
 have hsz := bytesOf_size l
 generalize grownCap w (bytesOf l).size 0 e = G at *
 have hrun2 : (execOp a.eval ⟨dst,.convert src dst' x,ty,pos,af,gd⟩).run P w = .ok (.value (.slice (some ⟨w.heap.size,0,none⟩) (bytesOf l).size G)) (w.drew.alloc (.cells (bytesRow (bytesOf l) G) e ((bytesRow (bytesOf l) G).size,(bytesRow (bytesOf l) G).size + 1))) := exec_v (by rw [h1];exact hrun)
 rw [hrun2]
 have hh : (w.drew.alloc (.cells (bytesRow (bytesOf l) G) e ((bytesRow (bytesOf l) G).size,(bytesRow (bytesOf l) G).size + 1))).heap[w.heap.size]? = some (.cells (bytesRow (bytesOf l) G) e ((bytesRow (bytesOf l) G).size,(bytesRow (bytesOf l) G).size + 1)) := World.alloc_heap_new w.drew _
 have hrow : bytesRow (bytesOf l) G = (l.map fun n : Nat => Value.int .u8 (n : Int)).toArray ++ Array.replicate (G - (bytesOf l).size) (.int .u8 0) := by
  unfold bytesRow
  congr 1
  apply Array.ext'
  have := strCells_bytes hb
  unfold strCells at this
  simpa using this
 generalize hW : w.drew.alloc (.cells (bytesRow (bytesOf l) G) e ((bytesRow (bytesOf l) G).size,(bytesRow (bytesOf l) G).size + 1)) = W at *
 have hlt : w.heap.size < W.heap.size := (Array.getElem?_eq_some_iff.1 hh).1
 obtain ⟨g1,g2⟩ := step_push (x := .box (l.map cB)) (og := some w.heap.size) (w' := W) hm ho (by rw [← hW];rfl) (by rw [← hW];rfl) (by rw [← hW];rfl) (Nat.le_of_lt hlt) (fun b hb => by rw [← hW];exact Below.heap_alloc w.drew _ _ hb) (.inr ⟨_,rfl,Nat.le_refl _,hlt⟩) (fun hst => by
  refine .inr ⟨w.heap.size,rfl,(l.map fun n : Nat => Value.int .u8 (n : Int)).toArray,e,⟨_,_,by rw [hh,hrow],.inr (Nat.le_refl _)⟩,satL_of (by simp) (fun j y hy => ?_),fun u hu => ?_⟩
  ·rw [List.getElem?_map] at hy
   cases hj : l[j]? with
   | none => rw [hj] at hy;cases hy
   | some n =>
     rw [hj] at hy
     obtain rfl : cB n = y := by simpa using hy
     exact ⟨.int .u8 (n : Int),by simp [hj],sat_v.2 rfl⟩
  ·obtain ⟨n, _, rfl⟩ := List.mem_map.1 (by simpa using hu)
   rfl)
 refine ⟨κ ++ [some w.heap.size],?_,g1,g2⟩
 rw [AV.sat]
 exact ⟨w.heap.size,_,by rw [List.getElem?_concat_length],by rw [ho.len,List.getElem?_concat_length],G,by omega,hG2,by rw [hsz]⟩
theorem q_str_bsl {src dst' : TypeId} {x : Operand} {i c n : Nat} {l : List Nat} (hx : lookO env x = .bsl i n c) (hi : own[i]? = some (.box (l.map cB))) (hs : isByteSl P src = true) (hd : P.underlying dst' = some .string) (hn : n = l.length) (hb : isB l) :
 Quiet P m ⟨dst,.convert src dst' x,ty,pos,af,gd⟩ env own [i] (bS l) :=
 Quiet.val fun F own' κ a w hsat ho hsame _ => by
  subst hn
  obtain ⟨e,he1,he2⟩ := isByteSl_spec hs
  have h1 := hsat x (by simp [Op.operands]);rw [hx,AV.sat] at h1
  have hi' : own'[i]? = some (.box (l.map cB)) := by rw [hsame i (by simp)];exact hi
  obtain ⟨g,l2,h2,h3,c',h4,h5,h6⟩ := h1
  obtain ⟨cur,t2,k1,k2,k3⟩ := box_block (l' := l.map cB) ho hi' h3
  refine ⟨.string (bytesOf l),exec_v ?_,sat_v.2 rfl⟩
  rw [h6]
  refine run_str hb he1 he2 hd fun h0 => ⟨g,0,rfl,fun j hj => ?_⟩
  obtain ⟨u,q1,q2⟩ := satL_get k2 j (cB l[j]) (by rw [List.getElem?_map,List.getElem?_eq_getElem hj];rfl)
  obtain rfl := sat_v.1 q2
  rw [Nat.zero_add]
  exact k1.cell (by simpa using q1)
end
end
section
open Go.RowKit Go.Lib
theorem zeroCells8 (k : Nat) : Builtin.zeroCells (Value.int .u8 0).cells k = (List.replicate k (Value.int .u8 0)).toArray := by
 apply Array.ext
 ·simp [Builtin.zeroCells,Value.cells]
 ·intro i h1 h2
  have : (Value.int IntKind.u8 0).cells.size = 1 := rfl
  simp [Builtin.zeroCells,Value.cells,Nat.mod_one]
section
variable {P : Program} {w : World} {e : TypeId} {xs news : List Value} {n k : Nat}
theorem owns_new (hx : xs.length = n) (hn : news.length = k) (old : Nat) (h63 : n + k ≤ maxLen) (row : Option Nat) :
 (w.drew.alloc (.cells (xs.toArray ++ news.toArray ++ Builtin.zeroCells (Value.int .u8 0).cells (grownCap w (n + k) old e - (n + k))) e)).ownsRow 0 e 1 (.slice (some ⟨w.heap.size, 0, none⟩) (n + k) (grownCap w (n + k) old e)) (n + k) (xs ++ news) ∧
  w.grownBy (w.drew.alloc (.cells (xs.toArray ++ news.toArray ++ Builtin.zeroCells (Value.int .u8 0).cells (grownCap w (n + k) old e - (n + k))) e)) row := by
 have hge := grownCap_ge w (n + k) old e
 have hcm := grownCap_le_maxLen w (n + k) old e h63
 have hl : (xs ++ news).length = n + k := by rw [List.length_append,hx,hn]
 refine ⟨⟨by rw [hl,Nat.mul_one],.inr ⟨w.heap.size,_,_,rfl,Nat.zero_le _,heap_alloc_new w.drew _,hge,hcm,?_,?_⟩⟩,⟨rfl,rfl,rfl,by simp,fun b hb _ => Below.heap_alloc w.drew _ _ hb⟩⟩
 ·rw [zeroCells8]
  simp only [Array.size_append,List.size_toArray,List.length_replicate,hx,hn]
  omega
 ·rw [Nat.mul_one]
  simp only [Array.toList_append]
  rw [← hl,List.take_left]
end
section
variable {P : Program} {m : Nat} {env : List (Nat × AV)} {own : List Ent} {dst : Option Tmp} {ty : TypeId} {pos : String} {af : Array Edge} {gd : Option (Nat × Bool)}
theorem e_apzO {t u e : TypeId} {z : Value} {x y : Operand} {p ver n k q : Nat} {ku : IntKind} {i : Int} {l : List Nat} {own' : List Ent} (hx : lookO env x = .osl p ver 0 n) (hp : own[p]? = some (.row ver 1 e (l.map nD))) (hy : lookO env y = .d (.v (.int ku i))) (hi : i = (k : Int)) (ho' : setF own p (.row (ver + 1) 1 e ((l ++ List.replicate k 0).map nD)) = some own') (ht : slInfo P t = some (e, 1, 1, z)) (hu : isIntT P u = true) (hz : z = .int .u8 0) (hn : n = l.length) (hq : q = l.length + k) (hk : 0 < k)
 (hb : l.length + k ≤ 1000000000) :
 Eff P m ⟨dst,.call ⟨.builtin .append,#[x,y],#[t,u]⟩,ty,pos,af,gd⟩ env own [p] (.osl p (ver + 1) 0 q) own' := by
 rw [setF_spec ho',List.map_append]
 refine Eff.mk (set_same _ p) fun F κ a w hs ho hmk => ?_
 subst hn
 subst hq
 subst hz
 subst hi
 have hx1 := hs x (by simp [Op.operands,Call.operands]);rw [hx] at hx1
 have hy1 := hs y (by simp [Op.operands,Call.operands]);rw [hy,sat_v] at hy1
 obtain ⟨he,inf,hi1,hi2,hib,hzz⟩ := slInfo_spec ht
 obtain ⟨kn,hkn⟩ := isIntT_spec hu
 obtain ⟨h0,hl1,og,xs,hog,hvo,hxs,hown⟩ := row_owns ho hp (by simp) hx1
 have hcap : l.length + k ≤ 140737488355328 := by omega
 have hxl : xs.length = l.length := by simpa using hown.1
 have hnl : (List.replicate k (Value.int .u8 0)).length = k := List.length_replicate
 have hml : l.length + k ≤ maxLen := by unfold maxLen;omega
 have key : ∃ v' w',(Builtin.append_ #[t,u] ty #[a.eval x,.int ku k]).run P w = .ok v' w' ∧ w'.ownsRow 0 e 1 v' (l.length + k) (xs ++ List.replicate k (Value.int .u8 0)) ∧ w.grownBy w' (a.eval x).ownBlock ∧ (v'.ownBlock = (a.eval x).ownBlock ∨ v'.ownBlock = some w.heap.size) := by
  rcases hown.2 with ⟨hv0,hn0⟩ | ⟨g,cap,cur,hv0,hbg,hg,hnc,hcm,hcs,htake⟩
  ·have hx0 : xs = [] := List.eq_nil_of_length_eq_zero (by omega)
   have hr := run_append_grow_zeros (P := P) w t u ty e inf (.int .u8 0) ku kn he hkn hi1 hzz none l.length 0 xs (by
    rw [hx0,show l.length = 0 by omega]
    exact run_firstCells_none w.drew inf.size 0 0 0) k hk (by omega) (by omega) (by omega) (by rw [hib];omega) (by rw [hib];exact growslice_fits (by omega) (by omega))
   obtain ⟨g1,g2⟩ := owns_new (w := w) (e := e) hxl hnl 0 hml (a.eval x).ownBlock
   rw [← zeroCells8] at g1 g2
   rw [hv0] at g2 ⊢
   rw [show l.length = 0 by omega] at hr g1 g2 ⊢
   exact ⟨_,_,hr,g1,g2,.inr rfl⟩
  ·by_cases hroom : l.length + k ≤ cap
   ·have hcs' : cur.size = cap := by simpa using hcs
    have hst := run_cells_fz (P := P) g l.length e (0,0) (List.replicate k (Value.int .u8 0)) 0 cur w hg (.inl rfl) (by rw [hnl];omega) (fun v hv => by rw [(List.mem_replicate.1 hv).2];rfl)
    rw [Nat.add_zero,hnl] at hst
    refine ⟨.slice (some ⟨g,0,none⟩) (l.length + k) cap,w.setRow g (cur.toList.take l.length ++ List.replicate k (Value.int .u8 0) ++ cur.toList.drop (l.length + k)).toArray,?_,?_,?_,.inl (by rw [hv0];rfl)⟩
    ·rw [hv0]
     have hw : IntKind.i64.wrap (k : Int) = k := by rw [IntKind.wrap_i64];omega
     have hneg : ¬ ((k : Int) < 0) := by omega
     have h48 : ¬ ((281474976710656 : Int) < (k : Int) * ((1 : Nat) : Int)) := by omega
     have hk0 : k ≠ 0 := by omega
     simp [Builtin.append_,run_underlying he,run_underlying hkn,sizeOf,typeInfo,zeroValue,hi1,hi2,hib,hzz,asInt,asIntOf,hw,hneg,hroom,hk0,zeroCells8,add_none,hst]
     omega
    ·refine ⟨by rw [List.length_append, hxl, hnl, Nat.mul_one], .inr ⟨g, cap, _, rfl, hbg, setRow_heap w g cur _ e _ hg, hroom, hcm, ?_, ?_⟩⟩
     ·simp only [List.size_toArray, List.length_append, List.length_take, List.length_drop, Array.length_toList, List.length_replicate]
      omega
     ·have ht' : cur.toList.take l.length = xs := by simpa using htake
      rw [ht',Nat.mul_one]
      have : (xs ++ List.replicate k (Value.int .u8 0)).length = l.length + k := by rw [List.length_append,hxl,hnl]
      rw [← this]
      exact List.take_left
    ·exact ⟨rfl,rfl,rfl,by simp,fun b _ hb => setRow_other w g b _ (fun e => hb (by rw [hv0,e];rfl))⟩
   ·have holds : ∀ j u,xs[j]? = some u → w.drew.cell? ((⟨g,0,none⟩ : Addr).add j) = some u := by
     rw [hv0] at hown
     exact hown.cells (g := g) rfl
    have hr := run_append_grow_zeros (P := P) w t u ty e inf (.int .u8 0) ku kn he hkn hi1 hzz (some ⟨g,0,none⟩) l.length cap xs (run_firstCells_some w.drew inf.size l.length _ l.length cap xs (by rw [hi2];exact hown.1) holds) k hk (by omega) (by omega) (by omega) (by rw [hib];omega) (by rw [hib];exact growslice_fits (by omega) (by omega))
    obtain ⟨g1,g2⟩ := owns_new (w := w) (e := e) hxl hnl cap hml (a.eval x).ownBlock
    rw [← zeroCells8] at g1 g2
    rw [hv0] at g2 ⊢
    exact ⟨_,_,hr,g1,g2,.inr rfl⟩
 obtain ⟨v',w',h2,h3,h4,h5⟩ := key
 rw [run_builtin_append2 (dst := dst) (pos := pos) (af := af) (gd := gd) (v := v') (w' := w') (by rw [hy1];exact h2)]
 have hnv : valsSat (badK F κ) w ((List.replicate k 0).map nD).flatten (List.replicate k (Value.int .u8 0)) := by
  have := valsSat_bytes (B := badK F κ) (w := w) (List.replicate k 0)
  rwa [List.map_replicate (f := fun n : Nat => Value.int .u8 (n : Int))] at this
 exact append_fin (k := k) ho (Nat.zero_le _) hp hog (by decide) (by simp) (by simp) hk (fun el he => by obtain ⟨x,_,rfl⟩ := List.mem_map.1 he;rfl) hl1 hxs hnv hvo h3 h4 h5
end
end
section
section
variable {P : Program} {m : Nat} {env : List (Nat × AV)} {own : List Ent} {dst : Option Tmp} {ty : TypeId} {pos : String} {af : Array Edge} {gd : Option (Nat × Bool)}
theorem bytesOf_app (a b : List Nat) : bytesOf a ++ bytesOf b = bytesOf (a ++ b) := by
 apply ByteArray.ext
 simp [bytesOf,ByteArray.data_append]
theorem q_cat {t t' : TypeId} {x y : Operand} {a b v : List Nat} (hx : lookO env x = bS a) (hy : lookO env y = bS b) (hv : a ++ b = v) (hl : a.length + b.length ≤ 9223372036854775807) :
 Quiet P m ⟨dst,.binOp .add t x y t',ty,pos,af,gd⟩ env own [] (bS v) := q_bin hx hy fun w => by
 subst hv
 have h1 : ¬ ((((bytesOf a).size + (bytesOf b).size : Nat) : Int) > IntKind.i64.max) := by
  rw [bytesOf_size,bytesOf_size]
  have : IntKind.i64.max = 9223372036854775807 := rfl
  omega
 simp only [eqGuard,binOp,Op.stringOp,if_neg h1,bytesOf_app]
 rfl
theorem q_str_dat {src dst' : TypeId} {x : Operand} {l : List Nat} (hx : lookO env x = .d (.sl 1 (l.map nD))) (hs : isByteSl P src = true) (hd : P.underlying dst' = some .string) (hb : isB l) :
 Quiet P m ⟨dst,.convert src dst' x,ty,pos,af,gd⟩ env own [] (bS l) :=
 Quiet.val fun F own' κ a w hsat ho hsame _ => by
  obtain ⟨e,he1,he2⟩ := isByteSl_spec hs
  have h1 := hsat x (by simp [Op.operands]);rw [hx,AV.sat,Dat.sat] at h1
  obtain ⟨A,c,h2,h3,h4,h5⟩ := h1
  rw [List.length_map] at h2 h5
  refine ⟨.string (bytesOf l),exec_v ?_,sat_v.2 rfl⟩
  rw [h2]
  refine run_str hb he1 he2 hd fun h0 => ?_
  obtain ⟨b,o,rfl,_,_,h6⟩ := h5 h0
  refine ⟨b,o,rfl,fun j hj => ?_⟩
  obtain ⟨_,h10⟩ := Dat.rowsSat_iff.1 h6 j (nD l[j]) (by simp [hj])
  obtain ⟨u,h11,_,h12⟩ := Dat.rowSat_iff.1 h10 0 (.v (.int .u8 ((l[j] : Nat) : Int))) rfl
  rw [Dat.sat] at h12
  rw [← h12,← h11,Nat.mul_one,Nat.add_zero]
theorem e_appRm {α : Type} {f : α → List Dat} {l l2 : List α} {t e e2 : TypeId} {sz by' : Nat} {z : Value} {x y : Operand} {p ver i vi n n2 q : Nat} {own' : List Ent} (hx : lookO env x = .osl p ver 0 n) (hp : own[p]? = some (.row ver sz e (l.map f))) (hy : lookO env y = .osl i vi 0 n2) (hi : own[i]? = some (.row vi sz e2 (l2.map f))) (ho' : setF own p (.row (ver + 1) sz e ((l ++ l2).map f)) = some own') (ht : slInfo P t = some (e, sz, by', z)) (hz : z.cells.size = sz) (hby : Nat.ble by' 1024 = true) (hn : n = l.length) (hn2 : n2 = l2.length) (hq : q = l.length + l2.length) (hpos : 0 < l2.length) (hb : l.length + l2.length ≤ 1000000000) :
 Eff P m ⟨dst,.call ⟨.builtin .append,#[x,y],#[t,t]⟩,ty,pos,af,gd⟩ env own [p] (.osl p (ver + 1) 0 q) own' := by
 rw [List.map_append] at ho'
 exact e_appR hx hp hy hi ho' ht hz hby (by rw [List.length_map];exact hn) (by rw [List.length_map];exact hn2) (by rw [List.length_map,List.length_map];exact hq) (by rw [List.length_map];exact hpos) (by rw [List.length_map,List.length_map];exact hb)
theorem e_appDm {α : Type} {f : α → List Dat} {l l2 : List α} {t e : TypeId} {sz by' : Nat} {z : Value} {x y : Operand} {p ver n q : Nat} {own' : List Ent} (hx : lookO env x = .osl p ver 0 n) (hp : own[p]? = some (.row ver sz e (l.map f))) (hy : lookO env y = .d (.sl sz (l2.map f))) (ho' : setF own p (.row (ver + 1) sz e ((l ++ l2).map f)) = some own') (ht : slInfo P t = some (e, sz, by', z)) (hz : z.cells.size = sz) (hby : Nat.ble by' 1024 = true) (hn : n = l.length) (hq : q = l.length + l2.length) (hb : l.length + l2.length ≤ 1000000000) :
 Eff P m ⟨dst,.call ⟨.builtin .append,#[x,y],#[t,t]⟩,ty,pos,af,gd⟩ env own [p] (.osl p (ver + 1) 0 q) own' := by
 rw [List.map_append] at ho'
 have := e_appE (m := m) (dst := dst) (ty := ty) (pos := pos) (af := af) (gd := gd) hx hp hy ho' ht hz hby rfl (by rw [List.length_map];exact hn) (by rw [List.length_map,List.length_map];exact hb)
 rwa [List.length_map,List.length_map,← hq] at this
theorem q_neqSV {t t' : TypeId} {x y : Operand} {l l' : List Nat} {v : Bool} (hx : lookO env x = bS l) (hy : lookO env y = bS l') (h1 : isB l) (h2 : isB l') (hv : (!decide (l = l')) = v) :
 Quiet P m ⟨dst,.binOp .neq t x y t',ty,pos,af,gd⟩ env own [] (bV v) := by
 subst hv;exact q_neqS hx hy h1 h2
end
section
variable {P : Program} {env : List (Nat × AV)} {own : List Ent} {t t' : Nat}
theorem Ends.cells3 {p p' i i' : Nat} {tyc tyc' : TypeId} {l l' : List AV} {y r : AV} (hx : look env p = .opt i 0) (ho : own[i]? = some (.box l)) (ht : tyInfo P tyc = some (true,l.length)) (hx' : look env p' = .opt i' 0) (ho' : own[i']? = some (.box l')) (ht' : tyInfo P tyc' = some (true,l'.length)) (hy : look env t = y) (hr : AV.frz own [] (.tup [.agg l,.agg l',y]) = r) : Ends P [.cell p tyc,.cell p' tyc',.tmp t] r [] .ret ⟨env,own⟩ :=
 ⟨.inl rfl,[],[.agg l,.agg l',y],rfl,⟨⟨i,l,true,hx,ho,ht,rfl⟩,⟨i',l',true,hx',ho',ht',rfl⟩,hy,trivial⟩,AVle.of_eq hr,rfl⟩
theorem Ends.cell12 {p i : Nat} {tyc : TypeId} {l : List AV} {y z r : AV} (hx : look env p = .opt i 0) (ho : own[i]? = some (.box l)) (ht : tyInfo P tyc = some (true,l.length)) (hy : look env t = y) (hz : look env t' = z) (hr : AV.frz own [] (.tup [.agg l,y,z]) = r) : Ends P [.cell p tyc,.tmp t,.tmp t'] r [] .ret ⟨env,own⟩ :=
 ⟨.inl rfl,[],[.agg l,y,z],rfl,⟨⟨i,l,true,hx,ho,ht,rfl⟩,hy,hz,trivial⟩,AVle.of_eq hr,rfl⟩
theorem Ends.three {t'' : Nat} {x y z r : AV} (hx : look env t = x) (hy : look env t' = y) (hz : look env t'' = z) (hr : AV.frz own [] (.tup [x,y,z]) = r) : Ends P [.tmp t,.tmp t',.tmp t''] r [] .ret ⟨env,own⟩ := ⟨.inl rfl,[],[x,y,z],rfl,⟨hx,hy,hz,trivial⟩,AVle.of_eq hr,rfl⟩
end
end
section
section
variable {Γ : Ctx} {P : Program} {n m : Nat} {Q : Exit → St → Prop} {env : List (Nat × AV)} {own own2 : List Ent} {c : Code}
theorem AWP.leBox {l l' : List AV} {x : AV} (i k : Nat) (y : AV) (hi : own[i]? = some (.box l)) (hk : l[k]? = some x) (hle : AVle x y) (hl : l.set k y = l') (hne : l ≠ [.tup []]) (h2 : setF own i (.box l') = some own2) (hc : AWPG Γ P n m c Q ⟨env,own2⟩) : AWPG Γ P n m c Q ⟨env,own⟩ := fun F W κ0 a κ w hH hm hsim => by
 have e2 := setF_spec h2
 subst e2;subst hl
 obtain ⟨og,hog⟩ := hsim.own.kap i _ hi
 have hent := hsim.own.ent i _ hi
 have e4 : κ.getD i none = og := by simp [List.getD_eq_getElem?_getD,hog]
 rw [e4] at hent
 rcases hent with ⟨_,h5⟩ | ⟨g,hg,cur,t,h5,h6,h7⟩
 ·exact absurd h5 hne
 have hlen := satL_length h6
 have hl6 : AV.satL F own κ w (l.set k y) cur.toList := by
  refine satL_of (by rw [List.length_set];exact hlen) fun j z hz => ?_
  rw [List.getElem?_set] at hz
  by_cases hjk : k = j
  ·subst hjk
   rw [if_pos rfl] at hz
   split at hz
   ·obtain rfl : y = z := by simpa using hz
    obtain ⟨u,h8,h9⟩ := satL_get h6 k _ hk
    exact ⟨u,h8,hle F own κ w u h9⟩
   ·cases hz
  ·rw [if_neg hjk] at hz
   exact satL_get h6 j z hz
 obtain ⟨g3,g4⟩ := step_upd (m := m) (x' := .box (l.set k y)) (og := og) (og' := og) (w' := w) hsim.own hi hog rfl rfl rfl (Nat.le_refl _) (fun _ _ _ => rfl) (.inl rfl) (.inr rfl) (.inr rfl) (fun hst => .inr ⟨g,hg,cur,t,h5,AV.satL_stab hst hsim.own.kap _ hl6,h7⟩)
 exact hc F W κ0 a _ w hH hm (hsim.step hm g4 hsim.tm rfl (fun u => g4.keep _ _ (hsim.env u)) g3)
end
end
section
section
variable {P : Program} {m : Nat} {env : List (Nat × AV)} {own : List Ent} {dst : Option Tmp} {ty : TypeId} {pos : String} {af : Array Edge} {gd : Option (Nat × Bool)}
theorem q_makeBd {f : FuncId} {fst : Array Operand} {l : List AV} (hl : fst.toList.map (lookO env) = l) : Quiet P m ⟨dst,.makeFunc (.func f) fst #[],ty,pos,af,gd⟩ env own [] (.bd f l) :=
 Quiet.val fun F own' κ a w hs _ _ _ => by
  subst hl
  refine ⟨.func (.func f) (fst.map a.eval) #[],exec_v ?_,?_⟩
  ·simp [Instr.makeFunc]
  ·rw [AV.sat]
   refine ⟨_,rfl,satL_of (by simp) fun j y hy => ?_⟩
   rw [List.getElem?_map] at hy
   cases h : fst.toList[j]? with
   | none => simp [h] at hy
   | some c =>
     obtain rfl : lookO env c = y := by simpa [h] using hy
     have hmem : c ∈ fst := by have := List.mem_of_getElem? h;simpa using this
     refine ⟨a.eval c,?_,hs c (by simp [Op.operands,hmem])⟩
     simp [h]
theorem exec_callB {F : Nat → Prop} {own' : List Ent} {κ : List (Option Nat)} {w : World} {a : Act} {fo : Operand} {args : Array Operand} {ts : Array TypeId} {f : FuncId} {fst : List AV} (hf : isFn P f = true)
 (hfo : lookO env fo = .bd f fst) (hs : ∀ x ∈ (Op.call ⟨.value fo,args,ts⟩).operands,AV.sat F own' κ w (lookO env x) (a.eval x)) :
 ∃ vs : List Value,(execOp a.eval ⟨dst,.call ⟨.value fo,args,ts⟩,ty,pos,af,gd⟩).run P w = .ok (.enter f vs.toArray) w ∧ AV.satL F own' κ w (fst ++ args.toList.map (lookO env)) vs := by
 have h1 := hs fo (by simp [Op.operands,Call.operands])
 rw [hfo,AV.sat] at h1
 obtain ⟨cs,h2,h3⟩ := h1
 refine ⟨cs.toList ++ args.toList.map a.eval,?_,satL_append h3 (satL_of (by simp) fun j y hy => ?_)⟩
 ·have e : (cs.toList ++ args.toList.map a.eval).toArray = cs ++ args.map a.eval ++ #[] := by simp
  rw [e]
  simp only [execOp,resolve,h2,Deferred.ofValue,Sem.run_bind,Sem.run_pure,Result.andThen_ok,invoke]
  exact run_callFunc hf _ w
 ·rw [List.getElem?_map] at hy
  cases h : args.toList[j]? with
  | none => simp [h] at hy
  | some c =>
    obtain rfl : lookO env c = y := by simpa [h] using hy
    have hmem : c ∈ args := by have := List.mem_of_getElem? h;simpa using this
    refine ⟨a.eval c,by rw [List.getElem?_map,h];rfl,hs c (by simp [Op.operands,Call.operands,hmem])⟩
theorem q_callBd {fo : Operand} {args : Array Operand} {ts : Array TypeId} {f : FuncId} {fst l : List AV} {r : AV} (hc : ACalls P f l [] r []) (hfo : lookO env fo = .bd f fst)
 (ha : fst ++ args.toList.map (lookO env) = l) (hp : AV.pureL l = true) (hr : AV.pure r = true) (hf : isFn P f = true) :
 Quiet P m ⟨dst,.call ⟨.value fo,args,ts⟩,ty,pos,af,gd⟩ env own [] r :=
 Quiet.mk fun F own' κ a w hs ho _ hm => by
  obtain ⟨vs,h1,h2⟩ := exec_callB (P := P) (dst := dst) (ty := ty) (pos := pos) (af := af) (gd := gd) hf hfo hs
  rw [h1]
  rw [ha] at h2
  refine (hc (badK F κ) [] w vs ho.away (AV.pureL_sat bad_away.1 _ hp h2)).mono ?_
  rintro e w' ⟨v,κ',he,h3,h4,h5⟩
  have hk : κ' = [] := List.eq_nil_of_length_eq_zero (by simpa using h4.len.symm)
  subst hk
  obtain ⟨g1,g2⟩ := step_more (m := m) ho h5.os h5.tape h5.output h5.size (fun b hb => h5.old b hb (by simp))
  exact ⟨v,he,AV.pure_sat bad_away.2 r hr h3,g1,g2⟩
end
end
section
def stp (r : Nat) : Nat := r >>> 1 ^^^ (if r % 2 = 1 then 2197175160 else 0)
def stpN : Nat → Nat → Nat
 | 0,r => r
 | n + 1,r => stp (stpN n r)
theorem xor4 (a p b q : Nat) : (a ^^^ p) ^^^ (b ^^^ q) = (a ^^^ b) ^^^ (p ^^^ q) := by
 rw [Nat.xor_assoc,← Nat.xor_assoc p,Nat.xor_comm p b,Nat.xor_assoc b,← Nat.xor_assoc]
theorem shr_lt {r n k : Nat} (h : r < n) : r >>> k < n := by
 rw [Nat.shiftRight_eq_div_pow]
 exact Nat.lt_of_le_of_lt (Nat.div_le_self _ _) h
theorem stp_lt {r : Nat} (h : r < 4294967296) : stp r < 4294967296 := by
 unfold stp
 refine Nat.xor_lt_two_pow (n := 32) (shr_lt h) ?_
 split <;> decide
theorem stpN_lt : ∀ (n : Nat) {r : Nat}, r < 4294967296 → stpN n r < 4294967296
 | 0,_,h => h
 | n + 1,_,h => stp_lt (stpN_lt n h)
theorem stp_xor (a b : Nat) : stp (a ^^^ b) = stp a ^^^ stp b := by
 unfold stp
 rw [Nat.shiftRight_xor_distrib,xor4]
 congr 1
 have h : (a ^^^ b) % 2 = (a % 2) ^^^ (b % 2) := Nat.xor_mod_two_pow (n := 1)
 rw [h]
 rcases Nat.mod_two_eq_zero_or_one a with ha | ha <;> rcases Nat.mod_two_eq_zero_or_one b with hb | hb <;> rw [ha,hb] <;> rfl
theorem stpN_xor (a b : Nat) : ∀ n, stpN n (a ^^^ b) = stpN n a ^^^ stpN n b
 | 0 => rfl
 | n + 1 => by rw [stpN,stpN,stpN,stpN_xor a b n,stp_xor]
theorem stp_two (y : Nat) : stp (2 * y) = y := by
 unfold stp
 rw [if_neg (by omega),Nat.xor_zero,Nat.shiftRight_eq_div_pow]
 omega
theorem stpN_shl : ∀ (k y : Nat), stpN k (y <<< k) = y
 | 0,_ => rfl
 | k + 1,y => by rw [stpN,Nat.shiftLeft_succ_inside,stpN_shl k,stp_two]
def tab (x : Nat) : Nat := stpN 8 x
def crcF (r x : Nat) : Nat := r >>> 8 ^^^ tab ((r % 256) ^^^ x)
theorem split8 (r : Nat) : ((r >>> 8) <<< 8) ^^^ (r % 256) = r := by
 apply Nat.eq_of_testBit_eq
 intro i
 rw [Nat.testBit_xor,Nat.testBit_shiftLeft,show (256 : Nat) = 2 ^ 8 from rfl,Nat.testBit_mod_two_pow]
 by_cases h : i < 8
 ·simp [h,show ¬ 8 ≤ i by omega]
 ·rw [Nat.testBit_shiftRight, show 8 + (i - 8) = i by omega]
  simp [h,show 8 ≤ i by omega]
theorem crcF_eq (r x : Nat) : crcF r x = stpN 8 (r ^^^ x) := by
 have h : r ^^^ x = ((r >>> 8) <<< 8) ^^^ ((r % 256) ^^^ x) := by rw [← Nat.xor_assoc,split8]
 rw [h,stpN_xor,stpN_shl]
 rfl
theorem low_lt {r x : Nat} (hx : x < 256) : (r % 256) ^^^ x < 256 := Nat.xor_lt_two_pow (n := 8) (Nat.mod_lt _ (by decide)) hx
theorem crcF_lt {r x : Nat} (h : r < 4294967296) (hx : x < 256) : crcF r x < 4294967296 := by
 refine Nat.xor_lt_two_pow (n := 32) (shr_lt h) (stpN_lt 8 ?_)
 have := low_lt (r := r) hx
 omega
def crcS (r : Nat) (l : List Nat) : Nat := l.foldl crcF r
theorem crcS_lt : ∀ {l : List Nat} {r : Nat}, r < 4294967296 → isB l → crcS r l < 4294967296
 | [],_,h,_ => h
 | x :: l,r,h,hb => crcS_lt (l := l) (crcF_lt h (hb x (by simp))) fun y hy => hb y (by simp [hy])
theorem crcS_snoc (r : Nat) (l : List Nat) (x : Nat) : crcS r (l ++ [x]) = crcF (crcS r l) x := by unfold crcS;rw [List.foldl_append];rfl
def crcN (l : List Nat) : Nat := 4294967295 ^^^ crcS 4294967295 l
theorem crcN_lt {l : List Nat} (h : isB l) : crcN l < 4294967296 := Nat.xor_lt_two_pow (n := 32) (by decide) (crcS_lt (by decide) h)
def leN (n k : Nat) : List Nat := (List.range k).map fun i => (n >>> (8 * i)) % 256
def numN : List Nat → Nat
 | [] => 0
 | b :: l => b + 256 * numN l
theorem leN_length (n k : Nat) : (leN n k).length = k := by simp [leN]
theorem leN_isB (n k : Nat) : isB (leN n k) := fun x hx => by
 unfold leN at hx
 obtain ⟨i,_,rfl⟩ := List.mem_map.1 hx
 exact Nat.mod_lt _ (by decide)
theorem leN_snoc (n k : Nat) : leN n (k + 1) = leN n k ++ [(n >>> (8 * k)) % 256] := by
 unfold leN;rw [List.range_succ,List.map_append];rfl
theorem leN_cons (n k : Nat) : leN n (k + 1) = n % 256 :: leN (n / 256) k := by
 unfold leN
 rw [List.range_succ_eq_map,List.map_cons,List.map_map]
 congr 1
 apply List.map_congr_left
 intro i _
 show (n >>> (8 * (i + 1))) % 256 = (n / 256) >>> (8 * i) % 256
 rw [Nat.shiftRight_eq_div_pow,Nat.shiftRight_eq_div_pow,Nat.div_div_eq_div_mul,show 8 * (i + 1) = 8 + 8 * i by omega,Nat.pow_add]
theorem num_le : ∀ {k n : Nat}, n < 256 ^ k → numN (leN n k) = n
 | 0,n,h => by
   have : n = 0 := by simpa using h
   rw [this];rfl
 | k + 1,n,h => by
   rw [leN_cons,numN,num_le (k := k) (Nat.div_lt_of_lt_mul (by rw [Nat.pow_succ,Nat.mul_comm] at h;exact h))]
   omega
theorem num_lt : ∀ {l : List Nat}, isB l → numN l < 256 ^ l.length
 | [],_ => by decide
 | b :: l,h => by
   have h1 := num_lt (l := l) fun y hy => h y (by simp [hy])
   have h2 := h b (by simp)
   rw [numN,List.length_cons,Nat.pow_succ]
   omega
theorem num_snoc : ∀ (l : List Nat) (b : Nat), numN (l ++ [b]) = numN l + b * 256 ^ l.length
 | [],b => by simp [numN]
 | a :: l,b => by
   rw [List.cons_append,numN,num_snoc l b,numN,List.length_cons,Nat.pow_succ,Nat.mul_add,← Nat.add_assoc]
   congr 1
   rw [Nat.mul_comm 256,Nat.mul_assoc]
abbrev Pl := Int × Int × Int
abbrev Gn := Int × Int
def plB (p : Pl) : Bool := decide ((0 ≤ p.1 ∧ p.1 < 64) ∧ (1 ≤ p.2.1 ∧ p.2.1 ≤ 4) ∧ 0 ≤ p.2.2 ∧ p.2.2 < 65536)
def gnB (g : Gn) : Bool := decide ((0 ≤ g.1 ∧ g.1 < 4294967296) ∧ (0 ≤ g.2 ∧ g.2 < 4294967296) ∧ ¬ (g.1 = 0 ∧ g.2 = 0))
theorem plB_bd {p : Pl} (h : plB p = true) : (0 ≤ p.1 ∧ p.1 < 64) ∧ (1 ≤ p.2.1 ∧ p.2.1 ≤ 4) ∧ 0 ≤ p.2.2 ∧ p.2.2 < 65536 := by
 unfold plB at h;exact of_decide_eq_true h
theorem gnB_bd {g : Gn} (h : gnB g = true) : (0 ≤ g.1 ∧ g.1 < 4294967296) ∧ (0 ≤ g.2 ∧ g.2 < 4294967296) ∧ ¬ (g.1 = 0 ∧ g.2 = 0) := by
 unfold gnB at h;exact of_decide_eq_true h
def genL (g : Gn) : List Nat := leN g.1.toNat 4 ++ leN g.2.toNat 4
def headL (p : Pl) : List Nat := [p.2.1.toNat,p.1.toNat] ++ leN p.2.2.toNat 2
def bodyL (p : Pl) (g : Gn) (u : List Nat) : List Nat := ((headL p ++ genL g) ++ (u ++ List.replicate (40 - u.length) 0)) ++ genL g
def sealL (p : Pl) (g : Gn) (u : List Nat) : List Nat := leN (crcN (bodyL p g u)) 4 ++ bodyL p g u
def sealN (p : Pl) (g : Gn) (u : List Nat) : List Nat × Int := if plB p = true ∧ gnB g = true ∧ u.length ≤ 40 then (sealL p g u,0) else ([],1)
theorem genL_length (g : Gn) : (genL g).length = 8 := by unfold genL;rw [List.length_append,leN_length,leN_length]
theorem headL_length (p : Pl) : (headL p).length = 4 := by unfold headL;rw [List.length_append,leN_length];rfl
theorem bodyL_length {p : Pl} {g : Gn} {u : List Nat} (hu : u.length ≤ 40) : (bodyL p g u).length = 60 := by
 unfold bodyL
 simp only [List.length_append,headL_length,genL_length,List.length_replicate]
 omega
theorem sealL_length {p : Pl} {g : Gn} {u : List Nat} (hu : u.length ≤ 40) : (sealL p g u).length = 64 := by
 unfold sealL
 rw [List.length_append,leN_length,bodyL_length hu]
theorem isB_app {a b : List Nat} (ha : isB a) (hb : isB b) : isB (a ++ b) := fun x hx => (List.mem_append.1 hx).elim (ha x) (hb x)
theorem isB_rep0 (n : Nat) : isB (List.replicate n 0) := fun x hx => by rw [(List.mem_replicate.1 hx).2];decide
theorem genL_isB (g : Gn) : isB (genL g) := isB_app (leN_isB _ _) (leN_isB _ _)
theorem headL_isB {p : Pl} (h : plB p = true) : isB (headL p) := isB_app (fun x hx => by
 have := plB_bd h
 simp only [List.mem_cons,List.not_mem_nil,or_false] at hx
 rcases hx with rfl | rfl <;> omega) (leN_isB _ _)
theorem bodyL_isB {p : Pl} {g : Gn} {u : List Nat} (h : plB p = true) (hu : isB u) : isB (bodyL p g u) :=
 isB_app (isB_app (isB_app (headL_isB h) (genL_isB g)) (isB_app hu (isB_rep0 _))) (genL_isB g)
theorem sealL_isB {p : Pl} {g : Gn} {u : List Nat} (h : plB p = true) (hu : isB u) : isB (sealL p g u) := isB_app (leN_isB _ _) (bodyL_isB h hu)
def cut (s : List Nat) (a b : Nat) : List Nat := (s.drop a).take (b - a)
theorem cut_mid {s A B C : List Nat} {a b : Nat} (h : s = A ++ (B ++ C)) (ha : A.length = a) (hb : a + B.length = b) : cut s a b = B := by
 subst h ha hb
 unfold cut
 rw [List.drop_left,Nat.add_sub_cancel_left,List.take_left]
theorem cut_isB {s : List Nat} (h : isB s) (a b : Nat) : isB (cut s a b) := isB_sub h a (b - a)
theorem cut_length {s : List Nat} {a b : Nat} (h : b ≤ s.length) (hab : a ≤ b) : (cut s a b).length = b - a := by
 unfold cut
 rw [List.length_take,List.length_drop];omega
def labP (s : List Nat) : Pl := ((s.getD 5 0 : Nat),(s.getD 4 0 : Nat),(numN (cut s 6 8) : Nat))
def labG (s : List Nat) : Gn := ((numN (cut s 8 12) : Nat),(numN (cut s 12 16) : Nat))
def labB (s : List Nat) : Bool := decide (numN (cut s 0 4) = crcN (s.drop 4)) && (plB (labP s) && (gnB (labG s) && decide (cut s 8 16 = cut s 56 64)))
def labE (s : List Nat) : Int := if s.length ≠ 64 then 1 else if labB s = true then 0 else 7
def openE (p : Pl) (s : List Nat) : Int := if plB p = true then (if labE s ≠ 0 then labE s else if labP s = p then 0 else 8) else 1
def staN (p : Pl) (g : Gn) (s : List Nat) (read : Bool) : Int × List Nat := if read = true then (if openE p s = 0 ∧ labG s = g then (1,cut s 16 48) else (3,[])) else (2,[])
theorem num2 {n : Int} (h : 0 ≤ n ∧ n < 65536) : ((numN (leN n.toNat 2) : Nat) : Int) = n := by
 rw [num_le (k := 2) (show n.toNat < 65536 by omega)];omega
theorem num4 {n : Int} (h : 0 ≤ n ∧ n < 4294967296) : ((numN (leN n.toNat 4) : Nat) : Int) = n := by
 rw [num_le (k := 4) (show n.toNat < 4294967296 by omega)];omega
section
variable {p : Pl} {g : Gn} {u : List Nat} (hp : plB p = true) (hg : gnB g = true) (hb : isB u) (hu : u.length ≤ 40)
include hp hg hb hu
omit hg hb hu in
theorem seal_labP : labP (sealL p g u) = p := by
 have h1 := plB_bd hp
 have hc : cut (sealL p g u) 6 8 = leN p.2.2.toNat 2 := cut_mid (A := leN (crcN (bodyL p g u)) 4 ++ [p.2.1.toNat,p.1.toNat]) (C := genL g ++ ((u ++ List.replicate (40 - u.length) 0) ++ genL g)) (by unfold sealL bodyL headL;simp only [List.append_assoc]) (by rw [List.length_append,leN_length];rfl) (by rw [leN_length])
 have h4 : (sealL p g u).getD 4 0 = p.2.1.toNat := by
  have e : sealL p g u = leN (crcN (bodyL p g u)) 4 ++ ([p.2.1.toNat,p.1.toNat] ++ (leN p.2.2.toNat 2 ++ (genL g ++ ((u ++ List.replicate (40 - u.length) 0) ++ genL g)))) := by unfold sealL bodyL headL;simp only [List.append_assoc]
  rw [e,List.getD_eq_getElem?_getD,List.getElem?_append_right (by rw [leN_length];omega),leN_length];rfl
 have h5 : (sealL p g u).getD 5 0 = p.1.toNat := by
  have e : sealL p g u = leN (crcN (bodyL p g u)) 4 ++ ([p.2.1.toNat,p.1.toNat] ++ (leN p.2.2.toNat 2 ++ (genL g ++ ((u ++ List.replicate (40 - u.length) 0) ++ genL g)))) := by unfold sealL bodyL headL;simp only [List.append_assoc]
  rw [e,List.getD_eq_getElem?_getD,List.getElem?_append_right (by rw [leN_length];omega),leN_length];rfl
 unfold labP
 rw [hc,h4,h5,num2 h1.2.2]
 refine Prod.ext ?_ (Prod.ext ?_ rfl)
 ·show ((p.1.toNat : Nat) : Int) = p.1;omega
 ·show ((p.2.1.toNat : Nat) : Int) = p.2.1;omega
omit hp hb hu in
theorem seal_labG : labG (sealL p g u) = g := by
 have h1 := gnB_bd hg
 have h8 : cut (sealL p g u) 8 12 = leN g.1.toNat 4 := cut_mid (A := leN (crcN (bodyL p g u)) 4 ++ headL p) (C := leN g.2.toNat 4 ++ ((u ++ List.replicate (40 - u.length) 0) ++ genL g)) (by unfold sealL bodyL genL;simp only [List.append_assoc]) (by rw [List.length_append,leN_length,headL_length]) (by rw [leN_length])
 have h12 : cut (sealL p g u) 12 16 = leN g.2.toNat 4 := cut_mid (A := leN (crcN (bodyL p g u)) 4 ++ (headL p ++ leN g.1.toNat 4)) (C := (u ++ List.replicate (40 - u.length) 0) ++ genL g) (by unfold sealL bodyL genL;simp only [List.append_assoc]) (by rw [List.length_append,List.length_append,leN_length,leN_length,headL_length]) (by rw [leN_length])
 unfold labG
 rw [h8,h12,num4 h1.1,num4 h1.2.1]
theorem seal_labB : labB (sealL p g u) = true := by
 have h0 : cut (sealL p g u) 0 4 = leN (crcN (bodyL p g u)) 4 := cut_mid (A := []) (C := bodyL p g u) rfl rfl (by rw [leN_length])
 have hd : (sealL p g u).drop 4 = bodyL p g u := by unfold sealL;rw [List.drop_left' (leN_length _ _)]
 have h8 : cut (sealL p g u) 8 16 = genL g := cut_mid (A := leN (crcN (bodyL p g u)) 4 ++ headL p) (C := (u ++ List.replicate (40 - u.length) 0) ++ genL g) (by unfold sealL bodyL;simp only [List.append_assoc]) (by rw [List.length_append,leN_length,headL_length]) (by rw [genL_length])
 have h56 : cut (sealL p g u) 56 64 = genL g := cut_mid (A := leN (crcN (bodyL p g u)) 4 ++ (headL p ++ (genL g ++ (u ++ List.replicate (40 - u.length) 0)))) (C := []) (by unfold sealL bodyL;simp only [List.append_assoc,List.append_nil]) (by simp only [List.length_append,leN_length,headL_length,genL_length,List.length_replicate];omega) (by rw [genL_length])
 unfold labB
 rw [h0,hd,h8,h56,seal_labP hp,seal_labG hg,hp,hg,num_le (k := 4) (crcN_lt (bodyL_isB hp hb))]
 simp
theorem seal_state (h32 : u.length = 32) : staN p g (sealL p g u) true = (1,u) := by
 have hc : cut (sealL p g u) 16 48 = u := cut_mid (A := leN (crcN (bodyL p g u)) 4 ++ (headL p ++ genL g)) (C := List.replicate (40 - u.length) 0 ++ genL g) (by unfold sealL bodyL;simp only [List.append_assoc]) (by rw [List.length_append,List.length_append,leN_length,headL_length,genL_length]) (by rw [h32])
 have hE : labE (sealL p g u) = 0 := by
  unfold labE
  rw [if_neg (by rw [sealL_length hu];decide),if_pos (seal_labB hp hg hb hu)]
 have hO : openE p (sealL p g u) = 0 := by
  unfold openE
  rw [if_pos hp,hE,if_neg (by decide),if_pos (seal_labP hp)]
 unfold staN
 rw [if_pos rfl,if_pos ⟨hO,seal_labG hg⟩,hc]
end
theorem sealN_ok {p : Pl} {g : Gn} {u : List Nat} (h : (sealN p g u).2 = 0) : plB p = true ∧ gnB g = true ∧ u.length ≤ 40 ∧ sealN p g u = (sealL p g u,0) := by
 by_cases hh : plB p = true ∧ gnB g = true ∧ u.length ≤ 40
 ·exact ⟨hh.1,hh.2.1,hh.2.2,if_pos hh⟩
 ·have e : sealN p g u = ([], 1) := if_neg hh
  rw [e] at h;exact absurd h (by decide)
theorem staN_good {p : Pl} {g : Gn} {s : List Nat} {r : Bool} (h : (staN p g s r).1 = 1) : (staN p g s r).2.length = 32 := by
 unfold staN at h ⊢
 split at h
 ·rename_i hr
  rw [if_pos hr]
  split at h
  ·rename_i h2
   rw [if_pos h2]
   refine cut_length ?_ (by decide)
   obtain ⟨h3,_⟩ := h2
   unfold openE at h3
   split at h3
   ·split at h3
    ·rename_i h4 h5;exact absurd h3 h5
    ·rename_i h4 h5
     have h6 : labE s = 0 := Classical.byContradiction fun hn => h5 hn
     unfold labE at h6
     split at h6
     ·exact absurd h6 (by decide)
     ·rename_i h7;omega
   ·exact absurd h3 (by decide)
  ·exact absurd h (by decide)
 ·exact absurd h (by decide)
theorem staN_bad {p : Pl} {g : Gn} {s : List Nat} {r : Bool} (h : (staN p g s r).1 ≠ 1) : (staN p g s r).2 = [] := by
 unfold staN at h ⊢
 split
 ·rename_i hr
  rw [if_pos hr] at h
  split
  ·rename_i h2;rw [if_pos h2] at h;exact absurd rfl h
  ·rfl
 ·rfl
theorem staN_isB {p : Pl} {g : Gn} {s : List Nat} {r : Bool} (h : isB s) : isB (staN p g s r).2 := by
 unfold staN
 split
 ·split
  ·exact cut_isB h _ _
  ·exact isB_nil
 ·exact isB_nil
end
section
set_option linter.unusedSectionVars false
section
variable (M D : Nat) (ps us : List (List Nat)) (hv : List Bool)
def allN : Bool := allS (recN M D ps us hv) (D + ps.length)
def wrdN : List (List Nat) := encN M ps ((List.range D).map fun i => (recN M D ps us hv i).getD [])
def agrT (w us : List (List Nat)) (hv : List Bool) (k : Nat) : Bool := (List.range k).all fun i => !hv.getD i false || decide (w.getD i [] = us.getD i [])
def agrN (w us : List (List Nat)) (hv : List Bool) : Bool := agrT w us hv hv.length
def conN : Bool := allN M D ps us hv && agrN (wrdN M D ps us hv) us hv
def fndT (k : Nat) : List Nat := (List.range k).filter fun u => hv.getD u false && conN M D ps us (hv.set u false)
def fndN : List Nat := fndT M D ps us hv hv.length
def oneN (l : List Nat) : Option Nat := match l with | [u] => some u | _ => none
def locN : Int × Int := if allN M D ps us hv = false then (0,11) else if agrN (wrdN M D ps us hv) us hv = true then (0,12) else match oneN (fndN M D ps us hv) with | some u => ((u : Int),0) | none => (0,13)
def corN : List (List Nat) × Int := if allN M D ps us hv = false then ([],11) else if agrN (wrdN M D ps us hv) us hv = true then (wrdN M D ps us hv,0) else match oneN (fndN M D ps us hv) with | some u => (wrdN M D ps us (hv.set u false),0) | none => ([],13)
end
theorem agrT_succ (w us : List (List Nat)) (hv : List Bool) (k : Nat) : agrT w us hv (k + 1) = (agrT w us hv k && (!hv.getD k false || decide (w.getD k [] = us.getD k []))) := by
 unfold agrT;rw [List.range_succ,List.all_append];simp
theorem fndT_succ (M D : Nat) (ps us : List (List Nat)) (hv : List Bool) (k : Nat) : fndT M D ps us hv (k + 1) = fndT M D ps us hv k ++ if hv.getD k false = true then (if conN M D ps us (hv.set k false) = true then [k] else []) else [] := by
 unfold fndT
 rw [List.range_succ,List.filter_append]
 congr 1
 cases h1 : hv.getD k false <;> cases h2 : conN M D ps us (hv.set k false) <;> simp only [List.filter_cons,List.filter_nil,h1,h2,Bool.and_true,Bool.and_false,Bool.true_and,Bool.false_and,if_true,if_false,Bool.false_eq_true]
theorem fndT_len (M D : Nat) (ps us : List (List Nat)) (hv : List Bool) (k : Nat) : (fndT M D ps us hv k).length ≤ k := by
 unfold fndT
 exact Nat.le_trans (List.length_filter_le _ _) (by simp)
theorem agrT_iff {w us : List (List Nat)} {hv : List Bool} {k : Nat} : agrT w us hv k = true ↔ ∀ i,i < k → hv.getD i false = true → w.getD i [] = us.getD i [] := by
 unfold agrT
 rw [List.all_eq_true]
 constructor
 ·intro h i hi hh
  have := h i (List.mem_range.2 hi)
  rw [hh] at this
  simpa using this
 ·intro h i hi
  cases hh : hv.getD i false with
  | false => rfl
  | true => simpa using h i (List.mem_range.1 hi) hh
theorem agrN_iff {w us : List (List Nat)} {hv : List Bool} : agrN w us hv = true ↔ ∀ i,hv.getD i false = true → w.getD i [] = us.getD i [] := by
 unfold agrN
 rw [agrT_iff]
 constructor
 ·intro h i hi
  refine h i (Classical.byContradiction fun hn => ?_) hi
  rw [List.getD_eq_getElem?_getD,List.getElem?_eq_none (by omega)] at hi;cases hi
 ·intro h i _ hi
  exact h i hi
theorem oneN_some {l : List Nat} {u : Nat} (h : oneN l = some u) : l = [u] := by
 match l,h with
 | [v],h => exact congrArg (fun x => [x]) (Option.some.inj h)
theorem set_false {hv : List Bool} {u i : Nat} (hi : (hv.set u false).getD i false = true) : i ≠ u ∧ hv.getD i false = true := by
 rw [getD_setB] at hi
 by_cases e : i = u
 ·rw [if_pos e] at hi
  split at hi <;> cases hi
 ·rw [if_neg e] at hi
  exact ⟨e,hi⟩
theorem lists_ext {l t : List (List Nat)} (hl : l.length = t.length) (h : ∀ i,i < l.length → l.getD i [] = t.getD i []) : l = t := by
 apply List.ext_getElem hl
 intro i h1 h2
 have := h i h1
 rw [List.getD_eq_getElem?_getD,List.getD_eq_getElem?_getD,List.getElem?_eq_getElem h1,List.getElem?_eq_getElem h2] at this
 exact this
section
variable {M D : Nat} {ps : List (List Nat)} (h : CodeOk M D ps)
include h
theorem rec_dep {us vs : List (List Nat)} {hv : List Bool} (hl : hv.length = D + ps.length) (ha : ∀ i,hv.getD i false = true → us.getD i [] = vs.getD i []) {u : Nat} (hu : u < D + ps.length) : recN M D ps us hv u = recN M D ps vs hv u := by
 unfold recN
 cases hc : combN M D ps hv u with
 | none => rfl
 | some l =>
   have hok := comb_ok h hl hu hc
   simp only [Option.map_some]
   congr 1
   unfold sumN
   congr 1
   apply List.map_congr_left
   intro t ht
   exact ha t.1 (hok.pres t ht)
theorem allN_dec {us : List (List Nat)} {hv : List Bool} (hl : hv.length = D + ps.length) : allN M D ps us hv = decN M D ps hv := by
 rw [Bool.eq_iff_iff]
 unfold allN decN allS
 rw [decide_eq_true hl,Bool.true_and,decide_eq_true_eq,full_iff_rec h hl,List.all_eq_true]
 have e : ∀ u,(recN M D ps us hv u).isSome = (combN M D ps hv u).isSome := fun u => by unfold recN;simp
 constructor
 ·intro hh u hu
  have := hh u (List.mem_range.2 hu)
  rwa [e] at this
 ·intro hh u hu
  rw [e];exact hh u (List.mem_range.1 hu)
variable {ds : List (List Nat)} (hd : ds.length = D) (hb : ∀ u ∈ ds,isB u ∧ u.length = 32)
include hd hb
theorem rec_enc {hv : List Bool} (hl : hv.length = D + ps.length) (hdec : decN M D ps hv = true) {u : Nat} (hu : u < D + ps.length) : recN M D ps (encN M ps ds) hv u = some ((encN M ps ds).getD u []) := by
 unfold decN at hdec
 rw [Bool.and_eq_true,decide_eq_true_eq,decide_eq_true_eq] at hdec
 obtain ⟨l,hc⟩ := Option.isSome_iff_exists.1 ((full_iff_rec h hl).1 hdec.2 u hu)
 unfold recN
 rw [hc]
 have hok := comb_ok h hl hu hc
 have := sum_sound (n := 32) h hd hb (fit32 h.f) hu hok.snd (vs := encN M ps ds) fun t ht => ⟨(hok.lt t ht).1,hv_lt h hl (hok.pres t ht),rfl⟩
 simp only [Option.map_some,this]
theorem enc_dataW {u : Nat} (hu : u < D) : (encN M ps ds).getD u [] = ds.getD u [] := by
 unfold encN
 rw [List.getD_eq_getElem?_getD,List.getElem?_append_left (by omega),List.getD_eq_getElem?_getD]
theorem wrd_enc {us : List (List Nat)} {hv : List Bool} (hl : hv.length = D + ps.length) (hdec : decN M D ps hv = true) (ha : ∀ i,hv.getD i false = true → us.getD i [] = (encN M ps ds).getD i []) : wrdN M D ps us hv = encN M ps ds := by
 unfold wrdN
 congr 1
 refine lists_ext (by simp [hd]) fun i hi => ?_
 have hi : i < D := by simpa using hi
 rw [List.getD_eq_getElem?_getD,List.getElem?_map,List.getElem?_range hi]
 show (recN M D ps us hv i).getD [] = _
 rw [rec_dep h hl ha (by omega),rec_enc h hd hb hl hdec (by omega)]
 exact enc_dataW h hd hb hi
theorem con_enc {us : List (List Nat)} {hv : List Bool} (hl : hv.length = D + ps.length) (hdec : decN M D ps hv = true) (ha : ∀ i,hv.getD i false = true → us.getD i [] = (encN M ps ds).getD i []) : conN M D ps us hv = true := by
 unfold conN
 rw [allN_dec h hl,hdec,Bool.true_and,wrd_enc h hd hb hl hdec ha,agrN_iff]
 exact fun i hi => (ha i hi).symm
omit hb hd in
theorem wrd_data {us : List (List Nat)} {hv : List Bool} (hs : SrcOk M D ps us hv) (ha : allN M D ps us hv = true) : ((List.range D).map fun i => (recN M D ps us hv i).getD []).length = D ∧ ∀ u ∈ (List.range D).map fun i => (recN M D ps us hv i).getD [],isB u ∧ u.length = 32 := by
 refine ⟨by simp,fun u hu => ?_⟩
 obtain ⟨i,hi,rfl⟩ := List.mem_map.1 hu
 have hi := List.mem_range.1 hi
 unfold allN allS at ha
 rw [List.all_eq_true] at ha
 have h1 := ha i (List.mem_range.2 (by omega))
 obtain ⟨x,hx⟩ := Option.isSome_iff_exists.1 h1
 rw [hx]
 exact hs.rec_len (by omega) hx
theorem con_false {us : List (List Nat)} {hv : List Bool} {k : Nat} (hs : SrcOk M D ps us hv) (hk : hv.getD k false = true) (hdec : decN M D ps (hv.set k false) = true) (ha : ∀ i,i ≠ k → hv.getD i false = true → us.getD i [] = (encN M ps ds).getD i []) (hne : us.getD k [] ≠ (encN M ps ds).getD k []) : conN M D ps us hv = false := by
 rw [Bool.eq_false_iff]
 intro hc
 unfold conN at hc
 rw [Bool.and_eq_true] at hc
 obtain ⟨hc1,hc2⟩ := hc
 rw [agrN_iff] at hc2
 have hkl := hv_lt h hs.hl hk
 obtain ⟨w1,w2⟩ := wrd_data h hs hc1
 have hsl : (hv.set k false).length = D + ps.length := by rw [List.length_set];exact hs.hl
 have hset : ∀ i,(hv.set k false).getD i false = true → i ≠ k ∧ hv.getD i false = true := fun i hi => set_false hi
 have e1 : recN M D ps (wrdN M D ps us hv) (hv.set k false) k = recN M D ps (encN M ps ds) (hv.set k false) k := rec_dep h hsl (fun i hi => by
  obtain ⟨h1,h2⟩ := hset i hi
  rw [hc2 i h2,ha i h1 h2]) hkl
 rw [rec_enc h hd hb hsl hdec hkl] at e1
 have e2 := rec_enc h w1 w2 hsl hdec hkl
 have e3 : (wrdN M D ps us hv).getD k [] = (encN M ps ds).getD k [] := Option.some.inj (e2.symm.trans e1)
 exact hne ((hc2 k hk).symm.trans e3)
omit hb hd in
theorem src_set {us : List (List Nat)} {hv : List Bool} (hs : SrcOk M D ps us hv) (u : Nat) : SrcOk M D ps us (hv.set u false) where
 c := hs.c
 ul := hs.ul
 hl := by rw [List.length_set];exact hs.hl
 len i hi := hs.len i (set_false hi).2
 b := hs.b
omit h hd hb in
theorem filter_one {p : Nat → Bool} {n u : Nat} (hu : u < n) (hp : p u = true) (hn : ∀ v,v < n → v ≠ u → p v = false) : (List.range n).filter p = [u] := by
 induction n with
 | zero => omega
 | succ n ih =>
   rw [List.range_succ,List.filter_append]
   by_cases e : u = n
   ·subst e
    have : (List.range u).filter p = [] := List.filter_eq_nil_iff.2 fun v hv => by
     have hv := List.mem_range.1 hv
     rw [hn v (by omega) (by omega)];decide
    rw [this];simp [hp]
   ·rw [ih (by omega) fun v hv hne => hn v (by omega) hne]
    simp [hn n (by omega) (by omega)]
theorem fnd_one {us : List (List Nat)} {hv : List Bool} {k : Nat} (hs : SrcOk M D ps us hv) (hk : hv.getD k false = true) (hdec : ∀ j,decN M D ps ((hv.set j false).set k false) = true) (ha : ∀ i,i ≠ k → hv.getD i false = true → us.getD i [] = (encN M ps ds).getD i []) (hne : us.getD k [] ≠ (encN M ps ds).getD k []) : fndN M D ps us hv = [k] := by
 have hkl := hv_lt h hs.hl hk
 unfold fndN fndT
 refine filter_one (by rw [hs.hl];exact hkl) ?_ fun v hv' hvk => ?_
 ·rw [hk, Bool.true_and]
  have e : (hv.set k false).set k false = hv.set k false := List.set_set ..
  refine con_enc h hd hb (by rw [List.length_set];exact hs.hl) (e ▸ hdec k) fun i hi => ha i (set_false hi).1 (set_false hi).2
 ·cases hvv : hv.getD v false with
  | false => rfl
  | true =>
    rw [Bool.true_and]
    refine con_false h hd hb (k := k) (src_set h hs v) ?_ (hdec v) (fun i hik hi => ha i hik (set_false hi).2) hne
    rw [getD_setB,if_neg (fun e => hvk e.symm)];exact hk
end
abbrev Rep := Int × List Int × List (List Nat) × Int
section
variable (M D : Nat) (ps us : List (List Nat)) (st : List Int) (hv : List Bool)
def repU : Rep :=
 if (locN M D ps us hv).2 = 0 then (1,st.set (locN M D ps us hv).1.toNat 3,(corN M D ps us hv).1,(locN M D ps us hv).1)
 else if (locN M D ps us hv).2 = 12 then (1,st,(corN M D ps us hv).1,-1)
 else if (locN M D ps us hv).2 = 13 then (2,st,List.replicate (D + ps.length) [],-1)
 else (3,st,(List.range (D + ps.length)).map (fun k => (recN M D ps us hv k).getD []),-1)
end
def pz0 : Pl := (0,0,0)
def staL (at' : List Pl) (g : Gn) (ss : List (List Nat)) (rd : List Bool) (n : Nat) : List (Int × List Nat) := (List.range n).map fun k => staN (at'.getD k pz0) g (ss.getD k []) (rd.getD k false)
def stS (S : List (Int × List Nat)) : List Int := S.map (·.1)
def stU (S : List (Int × List Nat)) : List (List Nat) := S.map (·.2)
def stH (S : List (Int × List Nat)) : List Bool := S.map fun x => decide (x.1 = 1)
theorem staL_length (at' : List Pl) (g : Gn) (ss : List (List Nat)) (rd : List Bool) (n : Nat) : (staL at' g ss rd n).length = n := by simp [staL]
theorem staL_getD {at' : List Pl} {g : Gn} {ss : List (List Nat)} {rd : List Bool} {n k : Nat} (hk : k < n) : (staL at' g ss rd n)[k]? = some (staN (at'.getD k pz0) g (ss.getD k []) (rd.getD k false)) := by
 unfold staL
 rw [List.getElem?_map,List.getElem?_range hk];rfl
theorem stH_iff {at' : List Pl} {g : Gn} {ss : List (List Nat)} {rd : List Bool} {n k : Nat} : (stH (staL at' g ss rd n)).getD k false = true ↔ k < n ∧ (staN (at'.getD k pz0) g (ss.getD k []) (rd.getD k false)).1 = 1 := by
 unfold stH
 rw [List.getD_eq_getElem?_getD,List.getElem?_map]
 by_cases hk : k < n
 ·rw [staL_getD hk];simp [hk]
 ·rw [List.getElem?_eq_none (by rw [staL_length];omega)];simp [hk]
theorem stU_getD {at' : List Pl} {g : Gn} {ss : List (List Nat)} {rd : List Bool} {n k : Nat} (hk : k < n) : (stU (staL at' g ss rd n)).getD k [] = (staN (at'.getD k pz0) g (ss.getD k []) (rd.getD k false)).2 := by
 unfold stU
 rw [List.getD_eq_getElem?_getD,List.getElem?_map,staL_getD hk];rfl
theorem stS_getD {at' : List Pl} {g : Gn} {ss : List (List Nat)} {rd : List Bool} {n k : Nat} (hk : k < n) : (stS (staL at' g ss rd n)).getD k 0 = (staN (at'.getD k pz0) g (ss.getD k []) (rd.getD k false)).1 := by
 unfold stS
 rw [List.getD_eq_getElem?_getD,List.getElem?_map,staL_getD hk];rfl
theorem sta_src {M D : Nat} {ps : List (List Nat)} {at' : List Pl} {g : Gn} {ss : List (List Nat)} {rd : List Bool} (h : CodeOk M D ps) (hb : ∀ s ∈ ss, isB s) : SrcOk M D ps (stU (staL at' g ss rd (D + ps.length))) (stH (staL at' g ss rd (D + ps.length))) where
 c := h
 ul := by unfold stU;rw [List.length_map,staL_length]
 hl := by unfold stH;rw [List.length_map,staL_length]
 len i hi := by
  obtain ⟨h1,h2⟩ := stH_iff.1 hi
  rw [stU_getD h1];exact staN_good h2
 b x hx := by
  unfold stU staL at hx
  obtain ⟨y,hy,rfl⟩ := List.mem_map.1 hx
  obtain ⟨k,hk,rfl⟩ := List.mem_map.1 hy
  have hs : isB (ss.getD k []) := by
   rw [List.getD_eq_getElem?_getD]
   cases e : ss[k]? with
   | none => exact isB_nil
   | some s => exact hb s (List.mem_of_getElem? e)
  refine ⟨staN_isB hs,?_⟩
  by_cases h1 : (staN (at'.getD k pz0) g (ss.getD k []) (rd.getD k false)).1 = 1
  ·rw [staN_good h1];decide
  ·rw [staN_bad h1];decide
section
variable (M D : Int) (par : List (List Int)) (at' : List Pl) (g : Gn) (ss : List (List Nat)) (rd : List Bool)
def chkB : Bool := validC M D par && decide ((at'.length : Int) = D + (par.length : Int) ∧ (ss.length : Int) = D + (par.length : Int) ∧ (rd.length : Int) = D + (par.length : Int))
end
def fixT (st : List Int) (k : Nat) : List Nat := (List.range k).filter fun j => !decide (st.getD j 0 = 1)
theorem fixT_succ (st : List Int) (k : Nat) : fixT st (k + 1) = fixT st k ++ if st.getD k 0 = 1 then [] else [k] := by
 unfold fixT
 rw [List.range_succ,List.filter_append]
 congr 1
 by_cases h : st.getD k 0 = 1
 ·rw [if_pos h,List.filter_cons,decide_eq_true h];rfl
 ·rw [if_neg h,List.filter_cons,decide_eq_false h];rfl
abbrev Fx := Nat × List Nat
def fixL (at' : List Pl) (g : Gn) (r : Rep) (k : Nat) : List Fx := (fixT r.2.1 k).map fun j => (j,sealL (at'.getD j pz0) g (r.2.2.1.getD j []))
def fixB (at' : List Pl) (g : Gn) (st : List Int) (k : Nat) : Bool := (fixT st k).all fun j => plB (at'.getD j pz0) && gnB g
def fixN (at' : List Pl) (g : Gn) (r : Rep) : List Fx × Int := if r.1 = 2 then ([],13) else if r.1 = 3 then ([],11) else if fixB at' g r.2.1 r.2.1.length = true then (fixL at' g r r.2.1.length,0) else ([],1)
end
section
def pcD (p : Pl) : List Dat := [.v (.int .i64 p.1),.v (.int .i64 p.2.1),.v (.int .i64 p.2.2)]
abbrev pcs (l : List Pl) : AV := .d (.sl 3 (l.map pcD))
abbrev pcA (p : Pl) : AV := .agg [iV p.1,iV p.2.1,iV p.2.2]
abbrev gnA (g : Gn) : AV := .agg [iV g.1,iV g.2]
abbrev Hu := Int × Int × Pl × Gn × Int × List Nat
def huD (h : Hu) : List Dat := [.v (.int .i64 h.1),.v (.int .i64 h.2.1),.v (.int .i64 h.2.2.1.1),.v (.int .i64 h.2.2.1.2.1),.v (.int .i64 h.2.2.1.2.2),.v (.int .i64 h.2.2.2.1.1),.v (.int .i64 h.2.2.2.1.2),.v (.int .i64 h.2.2.2.2.1),.v (.string (bytesOf h.2.2.2.2.2))]
abbrev hus (l : List Hu) : AV := .d (.sl 9 (l.map huD))
def fxD (f : Fx) : List Dat := [.v (.int .i64 (f.1 : Int)),.v (.string (bytesOf f.2))]
abbrev uV (n : Nat) : AV := .d (.v (.int .u32 (n : Int)))
abbrev byts (l : List Nat) : AV := .d (.sl 1 (l.map nD))
end
section
theorem lt32 {x : Nat} (h : x < 4294967296) : x < 2 ^ IntKind.u32.bits := h
theorem stp_parts (r : Nat) : ∃ b nb pb : Nat,b < 4294967296 ∧ nb < 4294967296 ∧ pb < 4294967296 ∧ r &&& 1 = b ∧ (2 ^ IntKind.u32.bits - b) % 2 ^ IntKind.u32.bits = nb ∧ 2197175160 &&& nb = pb ∧ r >>> 1 ^^^ pb = stp r := by
 have h : r &&& 1 = r % 2 := Nat.and_one_is_mod r
 rcases Nat.mod_two_eq_zero_or_one r with hp | hp
 ·exact ⟨0,0,0,by decide,by decide,by decide,by omega,rfl,rfl,by unfold stp;rw [if_neg (by omega)]⟩
 ·exact ⟨1,4294967295,2197175160,by decide,by decide,by decide,by omega,rfl,rfl,by unfold stp;rw [if_pos hp]⟩
def tabL (k : Nat) : List AV := (List.range 256).map fun j => uV (if j < k then tab j else 0)
theorem tabL_frz (own : List Ent) (js : List Nat) (k : Nat) : AV.frzL own js (tabL k) = tabL k := by
 rw [frzL_map]
 unfold tabL
 rw [List.map_map]
 rfl
theorem tabL_len (k : Nat) : (tabL k).length = 256 := by simp [tabL]
theorem tabL_get {k j : Nat} (h : j < 256) : (tabL k)[j]? = some (uV (if j < k then tab j else 0)) := by
 unfold tabL
 rw [List.getElem?_map,List.getElem?_range h];rfl
theorem tabL_set {k : Nat} (h : k < 256) : (tabL k).set (0 + k * 1) (uV (tab k)) = tabL (k + 1) := by
 apply List.ext_getElem?
 intro i
 rw [List.getElem?_set,tabL_len,show 0 + k * 1 = k by omega]
 by_cases e : k = i
 ·subst e;rw [if_pos rfl,if_pos h,tabL_get h,if_pos (by omega)]
 ·rw [if_neg e]
  by_cases hi : i < 256
  ·rw [tabL_get hi, tabL_get hi]
   by_cases h2 : i < k
   ·rw [if_pos h2,if_pos (by omega)]
   ·rw [if_neg h2,if_neg (by omega)]
  ·rw [List.getElem?_eq_none (by rw [tabL_len];omega),List.getElem?_eq_none (by rw [tabL_len];omega)]
theorem tabL_one (k : Nat) : (tabL k).all oneA = true := by
 rw [List.all_eq_true]
 intro x hx
 unfold tabL at hx
 obtain ⟨j,_,rfl⟩ := List.mem_map.1 hx
 rfl
attribute [local irreducible] Quiet Eff OpOk AWPG ACont ABlock ACalls AGoto
theorem A_table : ACalls Tryz.prog 277 [] [] (.agg (tabL 256)) [] := by
 refine acalls_of_body Tryz.func277 rfl (zU rfl) ?_
 (repeat' (first
  |(apply W.qd;(exact zM))|(apply W.ed;(exact jAq))|(apply yA)|(apply yB)|(apply (W.regionS 2);exact rfl;kernel_rfl)|(apply yE)
  |(apply yG)))
 refine AWP.loopW (α := Nat) (fun k => k ≤ 256) (fun k => ⟨[(3,iV k),(0,.opt 0 0)],[.box (tabL k)]⟩) (fun k => 256 - k) 0 (by omega) ⟨[0],rfl,rfl,rfl,by (repeat (first | exact trivial | refine ⟨rfl,?_⟩))⟩ fun k hk => ?_
 by_cases hkl : k < 256
 ·have hset := tabL_set hkl
  have hfz := fun own js => tabL_frz own js k
  have hfz2 := fun own js => tabL_frz own js (k + 1)
  have hlen := tabL_len k
  generalize tabL k = T at *
  (repeat' (first
   |(apply W.qd;(first
   |((apply (q_convN (k' := .u32) (xn := k) (v := k));(iterate 5 exact rfl);(show k % 4294967296 = k;omega)))|(exact zM)|(exact zN)
   |(exact jAj)))|(apply yA)|(apply yB)|(apply (W.regionS 6);exact rfl;kernel_rfl)|(apply yE)|(apply yG)|(apply yH)
   |(refine W.cond _ rfl (fun hb => ?_) (fun hb => ?_) <;> ((try simp only [hb,zK]) <;> (try simp only [zL,zI] at hb) <;> (try (exfalso;omega))))))
  all_goals try (exfalso;omega)
  refine AWP.loopW (α := Nat) (fun j => j ≤ 8) (fun j => ⟨[(8,iV j),(2,uV (stpN j k)),(3,iV k),(1,iV k),(0,.opt 0 0)],[.box T]⟩) (fun j => 8 - j) 0 (by omega) ?wkB fun j hj => ?_
  case wkB => exact ⟨[0],rfl,rfl,congrArg (fun l => [Ent.box l]) (hfz _ _).symm,rfl,rfl,rfl,rfl,rfl,trivial⟩
  by_cases hjl : j < 8
  ·have hlt := stpN_lt j (show k < 4294967296 by omega)
   have hs : stpN (j + 1) k = stp (stpN j k) := rfl
   generalize stpN j k = r at *
   obtain ⟨b,nb,pb,g1,g2,g3,g4,g5,g6,g7⟩ := stp_parts r
   have g8 := shr_lt (k := 1) hlt
   rw [← hs] at g7
   (repeat' (first
    |(apply W.qd;(first
    |((apply (q_shrU (xn := r) (n := 1) (v := r >>> 1));(iterate 4 exact rfl);decide;exact rfl))
    |((apply (q_andU (xn := r) (yn := 1) (v := b));(iterate 5 exact rfl);exact lt32 hlt;exact lt32 (by decide);exact g4))
    |((apply (q_negU (xn := b) (v := nb));(iterate 3 exact rfl);exact lt32 g1;exact g5))
    |((apply (q_andU (xn := 2197175160) (yn := nb) (v := pb));(iterate 5 exact rfl);exact lt32 (by decide);exact lt32 g2;exact g6))
    |((apply (q_xorU (xn := r >>> 1) (yn := pb) (v := stpN (j + 1) k));(iterate 5 exact rfl);exact lt32 g8;exact lt32 g3;exact g7))|(exact zM)|(exact zN)|(exact jAj)
    |(exact jAg)))|(apply yA)|(apply yB)|(refine jAe ?_)|(apply yE)|(apply yG)|(apply yH)|(apply yL)
    |(refine W.cond _ rfl (fun hb => ?_) (fun hb => ?_) <;> ((try simp only [hb,zK]) <;> (try simp only [zL,zI] at hb) <;> (try (exfalso;omega))))))
   all_goals first
    |(exfalso;omega)
    |exact ⟨j + 1,by omega,by omega,[0],rfl,rfl,congrArg (fun l => [Ent.box l]) (hfz _ _).symm,iV_eq (by omega),rfl,rfl,rfl,rfl,trivial⟩
  ·obtain rfl : j = 8 := by omega
   have ht : stpN 8 k = tab k := rfl
   rw [ht]
   (repeat' (first
    |(apply W.qd;(first
    |((apply (q_ix_ar (k := 1));(iterate 5 exact rfl);omega))|(exact zM)|(exact jAj)
    |(exact jAg)))|(apply W.en;((apply e_stS;(iterate 4 exact rfl);exact congrArg (fun l => [Ent.box l]) hset;(iterate 3 exact rfl);(show _ < T.length;omega))))|(apply yA)|(apply yB)|(refine jAe ?_)|(apply yE)|(apply yI)|(apply yK)|(apply yL)|(apply yM)
    |(refine jAw ?_)))
   all_goals first
    |(exfalso;omega)
    |exact ⟨k + 1,by omega,by omega,[0],rfl,rfl,congrArg (fun l => [Ent.box l]) (hfz2 _ _).symm,iV_eq (by omega),rfl,trivial⟩
 ·obtain rfl : k = 256 := by omega
  have hfz := fun own js => tabL_frz own js 256
  have hlen := tabL_len 256
  have hone := tabL_one 256
  generalize tabL 256 = T at *
  have hcut : T.take 0 ++ T ++ T.drop (0 + T.length) = T := by simp
  (repeat' (first
   |(apply W.qd;(first
   |((apply (q_ld_ar (k := 256));(iterate 3 exact rfl);exact hlen))
   |(exact jAj)))|(apply W.en;((apply (e_stK (l' := T) (cs := T) (n := 256) (b := true));(iterate 5 exact rfl);exact hone;exact hlen;exact hcut;exact rfl;(show 0 + 256 ≤ T.length;omega))))|(apply yA)|(apply yB)|(refine jAe ?_)|(apply yE)|(apply yI)|(apply yJ)|(apply yK)|(apply yM)
   |(refine jAw ?_)))
  all_goals first
   |(exfalso;omega)
   |exact Ends.cell1 rfl rfl (by rw [hlen];rfl) (congrArg AV.agg (hfz _ _))
theorem crc_ix {r x : Nat} (hx : x < 256) : (tabL 256)[0 + ((r % 256) ^^^ x) * 1]? = some (uV (tab ((r % 256) ^^^ x))) := by
 have h := low_lt (r := r) hx
 rw [show 0 + ((r % 256) ^^^ x) * 1 = (r % 256) ^^^ x by omega,tabL_get h,if_pos h]
theorem A_extend {l : List Nat} (hb : isB l) (hl : l.length ≤ 1000000) : ACalls Tryz.prog 248 [.d (.v (.int .u32 0)),byts l] [] (uV (crcN l)) [] := by
 refine acalls_of_body Tryz.func248 rfl (zU rfl) ?_
 have hml : (l.map nD).length = l.length := List.length_map _
 have ht := A_table
 have hfz := fun own js => tabL_frz own js 256
 have hlen := tabL_len 256
 have hone := tabL_one 256
 have hix := fun (r x : Nat) (h : x < 256) => crc_ix (r := r) h
 generalize tabL 256 = T at *
 have hcut : ∀ z : List AV,z.length = 256 → z.take 0 ++ T ++ z.drop (0 + T.length) = T := fun z hz => by
  rw [List.take_zero,List.nil_append,List.drop_of_length_le (by omega),List.append_nil]
 (repeat' (first
  |(apply W.qd;(first
  |(exact zW (ht))
  |((apply (q_cplU (xn := 0) (mx := 4294967295) (v := 4294967295));(iterate 4 exact rfl);exact lt32 (by decide);exact lt32 (by decide);exact rfl))|(exact zM)|(exact zN)
  |(exact jB)))|(apply W.ed;(exact jAq))|(apply W.en;((apply (e_stK (l' := T) (cs := T) (n := 256) (b := true));(iterate 5 exact rfl);exact hone;exact hlen;exact hcut _ rfl;exact rfl;exact Nat.le_refl 256)))|(apply yA)|(apply yB)|(apply (W.regionS 4);exact rfl;kernel_rfl)|(apply yE)
  |(apply yG)))
 refine AWP.loopW (α := Nat) (fun i => i ≤ l.length) (fun i => ⟨[(14,iV i),(13,iV l.length),(12,byts l),(6,uV (crcS 4294967295 (l.take i))),(5,.opt 0 0)],[.box T]⟩) (fun i => l.length - i) 0 (Nat.zero_le _) ?wkA fun i hi => ?_
 case wkA =>
  exact ⟨[0],rfl,rfl,congrArg (fun l => [Ent.box l]) (hfz _ _).symm,rfl,iV_eq (by rw [hml]),rfl,rfl,rfl,trivial⟩
 by_cases hil : i < l.length
 ·have hr := crcS_lt (l := l.take i) (r := 4294967295) (by decide) (fun x hx => hb x (List.mem_of_mem_take hx))
  have hx : l[i] < 256 := hb _ (List.getElem_mem hil)
  have hs : crcS 4294967295 (l.take (i + 1)) = crcF (crcS 4294967295 (l.take i)) l[i] := by rw [List.take_succ_eq_append_getElem hil,crcS_snoc]
  generalize crcS 4294967295 (l.take i) = r at *
  have h1 := hix r l[i] hx
  have h2 := low_lt (r := r) hx
  have h3 : tab ((r % 256) ^^^ l[i]) < 4294967296 := stpN_lt 8 (by omega)
  have h4 := shr_lt (k := 8) hr
  have h5 : r >>> 8 ^^^ tab ((r % 256) ^^^ l[i]) = crcS 4294967295 (l.take (i + 1)) := hs.symm
  generalize tab ((r % 256) ^^^ l[i]) = tx at *
  (repeat' (first
   |(apply W.qd;(first
   |((apply (q_shrU (xn := r) (n := 8) (v := r >>> 8));(iterate 4 exact rfl);decide;exact rfl))
   |((apply (q_ix_ar (k := 1));(iterate 5 exact rfl);exact h2))
   |((apply yT;(iterate 3 exact rfl);exact h1))
   |((apply (q_xorU (xn := r >>> 8) (yn := tx) (v := crcS 4294967295 (l.take (i + 1))));(iterate 5 exact rfl);exact lt32 h4;exact lt32 h3;exact h5))|(exact zM)|(exact zN)|(exact jAj)|(exact jAg)|(exact jAd)|(exact jA)|(exact jBf)
   |(exact jAa)))|(apply yA)|(apply yB)|(refine jAe ?_)|(apply yE)|(apply yG)|(apply yH)|(apply yL)
   |(refine W.cond _ rfl (fun hb => ?_) (fun hb => ?_) <;> ((try simp only [hb,zK]) <;> (try simp only [zL,zI] at hb) <;> (try (exfalso;omega))))))
  all_goals first
   |(exfalso;omega)
   |exact ⟨i + 1,by omega,by omega,[0],rfl,rfl,congrArg (fun l => [Ent.box l]) (hfz _ _).symm,iV_eq (by omega),rfl,rfl,rfl,rfl,trivial⟩
 ·obtain rfl : i = l.length := by omega
  rw [List.take_length]
  have hr := crcS_lt (l := l) (r := 4294967295) (by decide) hb
  have hc : 4294967295 ^^^ crcS 4294967295 l = crcN l := rfl
  generalize crcS 4294967295 l = r at *
  generalize crcN l = c at *
  (repeat' (first
   |(apply W.qd;(first
   |((apply (q_cplU (xn := r) (mx := 4294967295) (v := c));(iterate 4 exact rfl);exact lt32 hr;exact lt32 (by decide);exact hc))|(exact zM)|(exact zN)
   |(exact jAj)))|(apply yA)|(apply yB)|(refine jAe ?_)|(apply yE)|(apply yI)|(apply yJ)|(apply yK)|(apply yM)
   |(refine W.cond _ rfl (fun hb => ?_) (fun hb => ?_) <;> ((try simp only [hb,zK]) <;> (try simp only [zL,zI] at hb) <;> (try (exfalso;omega))))))
  all_goals first | (exfalso;omega) | exact Ends.i rfl rfl
theorem A_crcOf {l : List Nat} (hb : isB l) (hl : l.length ≤ 1000000) : ACalls Tryz.prog 202 [byts l] [] (uV (crcN l)) [] := by
 refine acalls_of_body Tryz.func202 rfl (zU rfl) ?_
 have he := A_extend hb hl
 generalize crcN l = c at *
 (repeat' (first
  |(apply W.qd;(first
  |(exact zW (he))|(exact zM)
  |(exact zN)))|(apply yA)|(apply yB)|(refine jAe ?_)|(apply yE)
  |(apply yJ)))
 all_goals exact Ends.i rfl rfl
theorem stp_cases (r : Nat) : (r &&& 1 = 0 ∧ stp r = r >>> 1) ∨ (r &&& 1 = 1 ∧ r >>> 1 ^^^ 2197175160 = stp r) := by
 have h : r &&& 1 = r % 2 := Nat.and_one_is_mod r
 unfold stp
 rcases Nat.mod_two_eq_zero_or_one r with hp | hp
 ·left;rw [if_neg (by omega),Nat.xor_zero];exact ⟨by omega,rfl⟩
 ·right;rw [if_pos hp];exact ⟨by omega,rfl⟩
theorem A_feed {l : List Nat} (hb : isB l) (hl : l.length ≤ 1000000) : ACalls Tryz.prog 216 [uV 4294967295,byts l] [] (uV (crcS 4294967295 l)) [] := by
 refine acalls_of_body Tryz.func216 rfl (zU rfl) ?_
 have hml : (l.map nD).length = l.length := List.length_map _
 (repeat' (first
  |(apply W.qd;(exact zN))|(apply yA)|(apply yB)|(apply (W.regionS 2);exact rfl;kernel_rfl)|(apply yE)
  |(apply yG)))
 refine AWP.loopW (α := Nat) (fun i => i ≤ l.length) (fun i => ⟨[(5,iV i),(1,byts l),(0,uV (crcS 4294967295 (l.take i)))],[]⟩) (fun i => l.length - i) 0 (Nat.zero_le _) ⟨[],rfl,rfl,rfl,by (repeat (first | exact trivial | refine ⟨rfl,?_⟩))⟩ fun i hi => ?_
 by_cases hil : i < l.length
 ·have hr := crcS_lt (l := l.take i) (r := 4294967295) (by decide) (fun x hx => hb x (List.mem_of_mem_take hx))
  have hx : l[i] < 256 := hb _ (List.getElem_mem hil)
  have hs : crcS 4294967295 (l.take (i + 1)) = stpN 8 (crcS 4294967295 (l.take i) ^^^ l[i]) := by rw [List.take_succ_eq_append_getElem hil,crcS_snoc,crcF_eq]
  generalize crcS 4294967295 (l.take i) = r at *
  have hx2 : l[i] < 4294967296 := by omega
  have hr0 : r ^^^ l[i] < 4294967296 := Nat.xor_lt_two_pow (n := 32) hr hx2
  (repeat' (first
   |(apply W.qd;(first
   |((apply (q_convN (k' := .u32) (xn := l[i]) (v := l[i]));(iterate 5 exact rfl);exact Nat.mod_eq_of_lt hx2))
   |((apply (q_xorU (xn := r) (yn := l[i]) (v := r ^^^ l[i]));(iterate 5 exact rfl);exact lt32 hr;exact lt32 hx2;exact rfl))|(exact zM)|(exact zN)|(exact jAj)|(exact jB)|(exact jAd)
   |(exact jA)))|(apply yA)|(apply yB)|(apply (W.regionS 6);exact rfl;kernel_rfl)|(apply yE)|(apply yG)|(apply yH)
   |(refine W.cond _ rfl (fun hb => ?_) (fun hb => ?_) <;> ((try simp only [hb,zK]) <;> (try simp only [zL,zI] at hb) <;> (try (exfalso;omega))))))
  all_goals try (exfalso;omega)
  refine AWP.loopW (α := Nat) (fun j => j ≤ 8) (fun j => ⟨[(6,iV j),(0,uV (stpN j (r ^^^ l[i]))),(5,iV i),(1,byts l)],[]⟩) (fun j => 8 - j) 0 (by omega) ⟨[],rfl,rfl,rfl,by (repeat (first | exact trivial | refine ⟨rfl,?_⟩))⟩ fun j hj => ?_
  by_cases hjl : j < 8
  ·have hlt := stpN_lt j hr0
   have hss : stpN (j + 1) (r ^^^ l[i]) = stp (stpN j (r ^^^ l[i])) := rfl
   generalize stpN j (r ^^^ l[i]) = q at *
   have g8 := shr_lt (k := 1) hlt
   rcases stp_cases q with ⟨c1,c2⟩ | ⟨c1,c2⟩
   ·rw [c2] at hss
    (repeat' (first
     |(apply W.qd;(first
     |((apply (q_shrU (xn := q) (n := 1) (v := stpN (j + 1) (r ^^^ l[i])));(iterate 4 exact rfl);decide;exact hss.symm))
     |((apply (q_andU (xn := q) (yn := 1) (v := 0));(iterate 5 exact rfl);exact lt32 hlt;exact lt32 (by decide);exact c1))|(exact zM)|(exact zN)|(exact jAj)|(exact jBb)
     |(exact jAg)))|(apply yA)|(apply yB)|(refine jAe ?_)|(apply yE)|(apply yG)|(apply yH)|(apply yL)|(refine jAw ?_)
     |(refine W.cond _ rfl (fun hb => ?_) (fun hb => ?_) <;> ((try simp only [hb,zK]) <;> (try simp only [zL,zI] at hb) <;> (try (exfalso;omega))))))
    all_goals first
     |(exfalso;omega)
     |exact ⟨j + 1,by omega,by omega,[],rfl,rfl,rfl,iV_eq (by omega),rfl,rfl,rfl,trivial⟩
   ·rw [← hss] at c2
    (repeat' (first
     |(apply W.qd;(first
     |((apply (q_shrU (xn := q) (n := 1) (v := q >>> 1));(iterate 4 exact rfl);decide;exact rfl))
     |((apply (q_andU (xn := q) (yn := 1) (v := 1));(iterate 5 exact rfl);exact lt32 hlt;exact lt32 (by decide);exact c1))
     |((apply (q_xorU (xn := q >>> 1) (yn := 2197175160) (v := stpN (j + 1) (r ^^^ l[i])));(iterate 5 exact rfl);exact lt32 g8;exact lt32 (by decide);exact c2))|(exact zM)|(exact zN)|(exact jAj)|(exact jBb)
     |(exact jAg)))|(apply yA)|(apply yB)|(refine jAe ?_)|(apply yE)|(apply yG)|(apply yH)|(apply yL)|(refine jBa ?_)
     |(refine W.cond _ rfl (fun hb => ?_) (fun hb => ?_) <;> ((try simp only [hb,zK]) <;> (try simp only [zL,zI] at hb) <;> (try (exfalso;omega))))))
    all_goals first
     |(exfalso;omega)
     |exact ⟨j + 1,by omega,by omega,[],rfl,rfl,rfl,iV_eq (by omega),rfl,rfl,rfl,trivial⟩
  ·obtain rfl : j = 8 := by omega
   rw [← hs]
   (repeat' (first
    |(apply W.qd;(first
    |(exact zM)|(exact zN)|(exact jAj)
    |(exact jAg)))|(apply yA)|(apply yB)|(refine jAe ?_)|(apply yE)|(apply yI)|(apply yK)|(apply yL)|(apply yM)
    |(refine jAw ?_)))
   all_goals first
    |(exfalso;omega)
    |exact ⟨i + 1,by omega,by omega,[],rfl,rfl,rfl,iV_eq (by omega),rfl,rfl,trivial⟩
 ·obtain rfl : i = l.length := by omega
  rw [List.take_length]
  (repeat' (first
   |(apply W.qd;(first
   |(exact zM)|(exact zN)|(exact jAj)
   |(exact jB)))|(apply yA)|(apply yB)|(refine jAe ?_)|(apply yE)|(apply yI)|(apply yJ)|(apply yK)|(apply yM)
   |(refine W.cond _ rfl (fun hb => ?_) (fun hb => ?_) <;> ((try simp only [hb,zK]) <;> (try simp only [zL,zI] at hb) <;> (try (exfalso;omega))))))
  all_goals first | (exfalso;omega) | exact Ends.i rfl rfl
theorem A_rcrcOf {l : List Nat} (hb : isB l) (hl : l.length ≤ 1000000) : ACalls Tryz.prog 101 [byts l] [] (uV (crcN l)) [] := by
 have hx : ACalls Tryz.prog 159 [.d (.v (.int .u32 0)),byts l] [] (uV (crcN l)) [] := by
  refine acalls_of_body Tryz.func159 rfl (zU rfl) ?_
  have hf := A_feed hb hl
  have hr := crcS_lt (l := l) (r := 4294967295) (by decide) hb
  have hc : 4294967295 ^^^ crcS 4294967295 l = crcN l := rfl
  generalize crcS 4294967295 l = r at *
  generalize crcN l = c at *
  (repeat' (first
   |(apply W.qd;(first
   |(exact zW (hf))
   |((apply (q_cplU (xn := 0) (mx := 4294967295) (v := 4294967295));(iterate 4 exact rfl);exact lt32 (by decide);exact lt32 (by decide);exact rfl))
   |((apply (q_cplU (xn := r) (mx := 4294967295) (v := c));(iterate 4 exact rfl);exact lt32 hr;exact lt32 (by decide);exact hc))|(exact zM)
   |(exact zN)))|(apply yA)|(apply yB)|(refine jAe ?_)|(apply yE)
   |(apply yJ)))
  all_goals exact Ends.i rfl rfl
 refine acalls_of_body Tryz.func101 rfl (zU rfl) ?_
 generalize crcN l = c at *
 (repeat' (first
  |(apply W.qd;(first
  |(exact zW (hx))|(exact zM)
  |(exact zN)))|(apply yA)|(apply yB)|(refine jAe ?_)|(apply yE)
  |(apply yJ)))
 all_goals exact Ends.i rfl rfl
end
section
open Go.Shelf Go.RowKit
def cloR : Go.Shelf.Ren := ⟨fun | 25 => 204 | n => n,fun | 0 => 0 | 3 => 3 | 4 => 4 | 5 => 5 | 9 => 9 | 37 => 44 | 47 => 280 | n => n,fun | n => n⟩
theorem cloL : Go.Proofs.LaysPu.n25 Tryz.prog cloR := {
 mixed := by kernel_rfl
 f25 := Tryz.func204.trans (congrArg some (by kernel_rfl))
 t0 := Tryz.underlying0
 a0 := Tryz.isAgg0
 z0 := Tryz.sizeOf0
 v0 := Tryz.zeroValue0
 i0 := by kernel_rfl
 t3 := Tryz.underlying3
 a3 := Tryz.isAgg3
 z3 := Tryz.sizeOf3
 v3 := Tryz.zeroValue3
 i3 := by kernel_rfl
 t4 := Tryz.underlying4
 a4 := Tryz.isAgg4
 z4 := Tryz.sizeOf4
 v4 := Tryz.zeroValue4
 i4 := by kernel_rfl
 t5 := Tryz.underlying5
 a5 := Tryz.isAgg5
 z5 := Tryz.sizeOf5
 v5 := Tryz.zeroValue5
 i5 := by kernel_rfl
 t9 := Tryz.underlying9
 a9 := Tryz.isAgg9
 z9 := Tryz.sizeOf9
 v9 := Tryz.zeroValue9
 i9 := by kernel_rfl
 t37 := Tryz.underlying44
 a37 := Tryz.isAgg44
 z37 := Tryz.sizeOf44
 v37 := Tryz.zeroValue44
 i37 := by kernel_rfl
 t47 := Tryz.underlying280
 a47 := Tryz.isAgg280
 z47 := Tryz.sizeOf280
 v47 := Tryz.zeroValue280
 i47 := by kernel_rfl
}
theorem A_sclone0 {l : List Nat} (hl : l.length ≤ 1000000) : ACalls Tryz.prog 204 [bS l] [] (bS l) [] :=
 acalls_of_exact rfl fun w => AnyPu.stringslite_Clone cloL (bytesOf l) w (by rw [bytesOf_size];omega)
attribute [local irreducible] Quiet Eff OpOk AWPG ACont ABlock ACalls AGoto
theorem A_sclone {l : List Nat} (hl : l.length ≤ 1000000) : ACalls Tryz.prog 142 [bS l] [] (bS l) [] := by
 refine acalls_of_body Tryz.func142 rfl (zU rfl) ?_
 have h := A_sclone0 hl
 (repeat' (first
  |(apply W.qd;(first
  |(exact zW (h))|(exact zM)
  |(exact zN)))|(apply yA)|(apply yB)|(refine jAe ?_)|(apply yE)
  |(apply yJ)))
 all_goals exact Ends.d rfl rfl
end
section
theorem plB_iff {p : Pl} : plB p = true ↔ (0 ≤ p.1 ∧ p.1 < 64) ∧ (1 ≤ p.2.1 ∧ p.2.1 ≤ 4) ∧ 0 ≤ p.2.2 ∧ p.2.2 < 65536 := by unfold plB;rw [decide_eq_true_eq]
theorem gnB_iff {g : Gn} : gnB g = true ↔ (0 ≤ g.1 ∧ g.1 < 4294967296) ∧ (0 ≤ g.2 ∧ g.2 < 4294967296) ∧ ¬ (g.1 = 0 ∧ g.2 = 0) := by unfold gnB;rw [decide_eq_true_eq]
theorem b_eq {b : Bool} {p : Prop} [Decidable p] (h : b = true ↔ p) : decide p = b := by
 cases b with
 | true => rw [decide_eq_true_eq];exact h.1 rfl
 | false => rw [decide_eq_false_iff_not];exact fun hp => absurd (h.2 hp) (by decide)
theorem numN_snoc {s : List Nat} {i : Nat} (hi : i < s.length) : numN (s.take (i + 1)) = numN (s.take i) + s[i] * 256 ^ i := by
 rw [List.take_succ_eq_append_getElem hi,num_snoc,List.length_take,Nat.min_eq_left (by omega)]
theorem pow256 (i : Nat) : 256 ^ i = 2 ^ (8 * i) := by rw [show (256 : Nat) = 2 ^ 8 from rfl,← Nat.pow_mul]
theorem or_num {n b i : Nat} (h : n < 256 ^ i) : n ||| b <<< (8 * i) = n + b * 256 ^ i := by
 rw [Nat.or_comm,← Nat.shiftLeft_add_eq_or_of_lt (by rw [← pow256];exact h),Nat.shiftLeft_eq,← pow256,Nat.add_comm]
attribute [local irreducible] Quiet Eff OpOk AWPG ACont ABlock ACalls AGoto
theorem A_svalid (p : Pl) : ACalls Tryz.prog 140 [pcA p] [] (bV (plB p)) [] := by
 refine acalls_of_body Tryz.func140 rfl (zU rfl) ?_
 have h := plB_iff (p := p)
 generalize plB p = b at *
 (repeat' (first
  |(apply yFb;exact rfl;exact rfl)
  |(apply W.qd;(first
  |(exact zM)|(exact zN)|(exact jAr)|(exact jAm)|(exact jAj)|(exact q_leq rfl rfl)|(exact q_geq rfl rfl)|(apply (yEb (u := .d _));exact rfl;exact rfl)
  |(apply (yDb (u := .d _));exact rfl;exact rfl)))|(apply W.ed;(exact jAc))|(refine W.gOff _ _ rfl rfl (by intro h;cases h) ?_)|(apply yA)|(apply yB)|(refine jAe ?_)|(apply yE)|(apply yJ)
  |(refine W.gT _ _ rfl rfl (fun hb => ?_) (fun hb => ?_) <;> ((try simp only [hb,zK]) <;> (try simp only [zL,zI] at hb) <;> (try (exfalso;omega))))))
 all_goals (refine Ends.b rfl ?_;first | (rw [← b_eq h];simp <;> omega) | (cases b <;> simp at h ⊢ <;> omega))
theorem A_rsvalid (p : Pl) : ACalls Tryz.prog 98 [pcA p] [] (bV (plB p)) [] := by
 refine acalls_of_body Tryz.func98 rfl (zU rfl) ?_
 have h := plB_iff (p := p)
 generalize plB p = b at *
 (repeat' (first
  |(apply yFb;exact rfl;exact rfl)
  |(apply W.qd;(first
  |(exact zM)|(exact zN)|(exact jAr)|(exact jAm)|(exact jAj)|(exact q_leq rfl rfl)|(exact q_geq rfl rfl)|(apply (yEb (u := .d _));exact rfl;exact rfl)
  |(apply (yDb (u := .d _));exact rfl;exact rfl)))|(apply W.ed;(exact jAc))|(refine W.gOff _ _ rfl rfl (by intro h;cases h) ?_)|(apply yA)|(apply yB)|(refine jAe ?_)|(apply yE)|(apply yJ)
  |(refine W.gT _ _ rfl rfl (fun hb => ?_) (fun hb => ?_) <;> ((try simp only [hb,zK]) <;> (try simp only [zL,zI] at hb) <;> (try (exfalso;omega))))))
 all_goals (refine Ends.b rfl ?_;first | (rw [← b_eq h];simp <;> omega) | (cases b <;> simp at h ⊢ <;> omega))
theorem A_validGen (g : Gn) : ACalls Tryz.prog 203 [gnA g] [] (bV (gnB g)) [] := by
 refine acalls_of_body Tryz.func203 rfl (zU rfl) ?_
 have h := gnB_iff (g := g)
 have fi : fldsInt Tryz.prog 83 = some [0,1] := by kernel_rfl
 generalize gnB g = b at *
 (repeat' (first
  |(apply yFb;exact rfl;exact rfl)
  |(apply W.qd;(first
  |(first | (apply (q_eqsI fi);(iterate 5 exact rfl)) | (apply (q_nesI fi);(iterate 5 exact rfl)))|(exact zM)|(exact zN)|(exact jAr)|(exact jAm)|(exact jAn)|(exact jAj)|(exact q_geq rfl rfl)|(exact jBe)|(exact q_min rfl rfl)|(exact q_max rfl rfl)|(apply (yEb (u := .d _));exact rfl;exact rfl)
  |(apply (yDb (u := .d _));exact rfl;exact rfl)))|(apply W.ed;(exact jAc))|(refine W.gOff _ _ rfl rfl (by intro h;cases h) ?_)|(apply yA)|(apply yB)|(refine jAe ?_)|(apply yE)|(apply yJ)
  |(refine W.gT _ _ rfl rfl (fun hb => ?_) (fun hb => ?_) <;> ((try simp only [hb,zK]) <;> (try simp only [zL,zI] at hb) <;> (try (exfalso;omega))))))
 all_goals (refine Ends.b rfl ?_;first | (rw [← b_eq h];simp <;> omega) | (cases b <;> simp at h ⊢ <;> omega))
theorem A_fits15 (n : Int) : ACalls Tryz.prog 158 [iV n] [] (bV (decide (0 ≤ n ∧ n < 4294967296))) [] := by
 refine acalls_of_body Tryz.func158 rfl (zU rfl) ?_
 (repeat' (first
  |(apply yFb;exact rfl;exact rfl)
  |(apply W.qd;(first
  |(exact zM)|(exact zN)|(exact jAj)|(exact q_geq rfl rfl)|(apply (yEb (u := .d _));exact rfl;exact rfl)
  |(apply (yDb (u := .d _));exact rfl;exact rfl)))|(refine W.gOff _ _ rfl rfl (by intro h;cases h) ?_)|(apply yA)|(apply yB)|(refine jAe ?_)|(apply yE)|(apply yJ)
  |(refine W.gT _ _ rfl rfl (fun hb => ?_) (fun hb => ?_) <;> ((try simp only [hb,zK]) <;> (try simp only [zL,zI] at hb) <;> (try (exfalso;omega))))))
 all_goals (refine Ends.b rfl ?_;rw [Bool.eq_iff_iff];simp <;> omega)
theorem A_right (g : Gn) : ACalls Tryz.prog 99 [gnA g] [] (bV (gnB g)) [] := by
 refine acalls_of_body Tryz.func99 rfl (zU rfl) ?_
 have h := gnB_iff (g := g)
 have fi : fldsInt Tryz.prog 83 = some [0,1] := by kernel_rfl
 have f1 := A_fits15 g.1
 have f2 := A_fits15 g.2
 have d1 : decide (0 ≤ g.1 ∧ g.1 < 4294967296) = true ↔ (0 ≤ g.1 ∧ g.1 < 4294967296) := by rw [decide_eq_true_eq]
 have d2 : decide (0 ≤ g.2 ∧ g.2 < 4294967296) = true ↔ (0 ≤ g.2 ∧ g.2 < 4294967296) := by rw [decide_eq_true_eq]
 generalize decide (0 ≤ g.1 ∧ g.1 < 4294967296) = c1 at *
 generalize decide (0 ≤ g.2 ∧ g.2 < 4294967296) = c2 at *
 generalize gnB g = b at *
 cases c1 <;> cases c2
 all_goals
  (repeat' (first
   |(apply yFb;exact rfl;exact rfl)
   |(apply W.qd;(first
   |(exact zW (f1))|(exact zW (f2))|(first | (apply (q_eqsI fi);(iterate 5 exact rfl)) | (apply (q_nesI fi);(iterate 5 exact rfl)))|(exact zM)|(exact zN)|(exact jAr)|(exact jAm)|(exact jAn)|(exact jBe)|(apply (yEb (u := .d _));exact rfl;exact rfl)
   |(apply (yDb (u := .d _));exact rfl;exact rfl)))|(apply W.ed;(exact jAc))|(refine W.gOff _ _ rfl rfl (by intro h;cases h) ?_)|(apply yA)|(apply yB)|(refine jAe ?_)|(apply yE)
   |(apply yJ)))
  all_goals (refine Ends.b rfl ?_;first | (rw [← b_eq h];simp at d1 d2 ⊢ <;> omega) | (cases b <;> simp at h d1 d2 ⊢ <;> omega))
theorem A_get {s : List Nat} (hb : isB s) (hl : s.length ≤ 4) : ACalls Tryz.prog 201 [bS s] [] (iV (numN s : Nat)) [] := by
 refine acalls_of_body Tryz.func201 rfl (zU rfl) ?_
 (repeat' (first
  |(apply W.qd;(first
  |(exact zM)|(exact zN)
  |(exact jBl)))|(apply yA)|(apply yB)|(apply (W.regionS 3);exact rfl;kernel_rfl)|(apply yE)
  |(apply yG)))
 refine AWP.loopW (α := Nat) (fun i => i ≤ s.length) (fun i => ⟨[(7,iV i),(6,iV s.length),(3,iV (numN (s.take i) : Nat)),(0,bS s)],[]⟩) (fun i => s.length - i) 0 (Nat.zero_le _) ⟨[],rfl,rfl,rfl,by (repeat (first | exact trivial | refine ⟨rfl,?_⟩))⟩ fun i hi => ?_
 by_cases hil : i < s.length
 ·have hx : s[i] < 256 := hb _ (List.getElem_mem hil)
  have hs := numN_snoc hil
  have hn : numN (s.take i) < 256 ^ i := by
   have := num_lt (l := s.take i) fun y hy => hb y (List.mem_of_mem_take hy)
   rwa [List.length_take,Nat.min_eq_left (by omega)] at this
  have ho := or_num (b := s[i]) hn
  rw [← hs] at ho
  have hn2 : numN (s.take (i + 1)) < 256 ^ 4 := by
   have h1 := num_lt (l := s.take (i + 1)) fun y hy => hb y (List.mem_of_mem_take hy)
   rw [List.length_take] at h1
   exact Nat.lt_of_lt_of_le h1 (Nat.pow_le_pow_right (by decide) (by omega))
  have hn1 : numN (s.take i) < 256 ^ 4 := Nat.lt_of_lt_of_le hn (Nat.pow_le_pow_right (by decide) (by omega))
  have hcap1 : ∀ n,n ≤ 24 → s[i] <<< n < 9223372036854775808 := fun n hn => by
   rw [Nat.shiftLeft_eq]
   have h1 : 2 ^ n ≤ 2 ^ 24 := Nat.pow_le_pow_right (by decide) hn
   have h2 := Nat.mul_le_mul (show s[i] ≤ 255 by omega) h1
   omega
  have h8 : ((8 : Int) * (i : Int)) = ((8 * i : Nat) : Int) := by omega
  generalize numN (s.take i) = q at *
  have hq : q < 9223372036854775808 := by omega
  have hsh : s[i] <<< (8 * i) < 9223372036854775808 := hcap1 _ (by omega)
  (repeat' (first
   |(apply W.qd;(first
   |((apply (q_shlN (xn := s[i]) (n := 8 * i));(iterate 3 exact rfl);exact h8;exact rfl;omega;exact hsh))
   |((apply (q_orN (xn := q) (yn := s[i] <<< (8 * i)));(iterate 4 exact rfl);exact hq;exact hsh))|(exact zM)|(exact zN)|(exact jAj)|(exact jAg)|(exact jBh)|(exact jAk)
   |(apply q_convI;(iterate 3 exact rfl);omega)))|(apply yA)|(apply yB)|(refine jAe ?_)|(apply yE)|(apply yG)|(apply yH)|(apply yL)
   |(refine W.cond _ rfl (fun hb => ?_) (fun hb => ?_) <;> ((try simp only [hb,zK]) <;> (try simp only [zL,zI] at hb) <;> (try (exfalso;omega))))))
  all_goals first
   |(exfalso;omega)|(refine ⟨i + 1,by omega,by omega,?_⟩;(try dsimp only);rw [← ho];exact ⟨[],rfl,rfl,rfl,iV_eq (by omega),rfl,rfl,rfl,trivial⟩)
 ·obtain rfl : i = s.length := by omega
  rw [List.take_length]
  (repeat' (first
   |(apply W.qd;(first
   |(exact zM)|(exact zN)
   |(exact jAj)))|(apply yA)|(apply yB)|(refine jAe ?_)|(apply yE)|(apply yI)|(apply yJ)|(apply yK)|(apply yM)
   |(refine W.cond _ rfl (fun hb => ?_) (fun hb => ?_) <;> ((try simp only [hb,zK]) <;> (try simp only [zL,zI] at hb) <;> (try (exfalso;omega))))))
  all_goals first | (exfalso;omega) | exact Ends.i rfl rfl
theorem num_drop {s : List Nat} {i : Nat} (hi : i < s.length) : numN (s.drop i) = s[i] + 256 * numN (s.drop (i + 1)) := by
 rw [List.drop_eq_getElem_cons hi,numN]
theorem A_read15 {s : List Nat} (hb : isB s) (hl : s.length ≤ 4) : ACalls Tryz.prog 205 [bS s] [] (iV (numN s : Nat)) [] := by
 refine acalls_of_body Tryz.func205 rfl (zU rfl) ?_
 (repeat' (first
  |(apply W.qd;(first
  |(exact zM)|(exact zN)|(exact q_sub rfl rfl (by omega))
  |(exact jBl)))|(apply yA)|(apply yB)|(apply (W.regionS 3);exact rfl;kernel_rfl)|(apply yE)
  |(apply yG)))
 refine AWP.loopW (α := Nat) (fun i => i ≤ s.length) (fun i => ⟨[(4,iV ((i : Int) - 1)),(3,iV (numN (s.drop i) : Nat)),(0,bS s)],[]⟩) (fun i => i) s.length (Nat.le_refl _) ?wkA fun i hi => ?_
 case wkA =>
  rw [List.drop_length]
  exact ⟨[],rfl,rfl,rfl,by (repeat (first | exact trivial | refine ⟨rfl,?_⟩))⟩
 by_cases hil : 0 < i
 ·obtain ⟨j, rfl⟩ : ∃ j, i = j + 1 := ⟨i - 1, by omega⟩
  have hjl : j < s.length := by omega
  have hx : s[j] < 256 := hb _ (List.getElem_mem hjl)
  have hd := num_drop hjl
  have hn : numN (s.drop (j + 1)) < 256 ^ 4 := by
   have h1 := num_lt (l := s.drop (j + 1)) fun y hy => hb y (List.mem_of_mem_drop hy)
   rw [List.length_drop] at h1
   exact Nat.lt_of_lt_of_le h1 (Nat.pow_le_pow_right (by decide) (by omega))
  have hij : (((j + 1 : Nat) : Int) - 1) = ((j : Nat) : Int) := by omega
  generalize numN (s.drop (j + 1)) = q at *
  rw [hij]
  (repeat' (first
   |(apply W.qd;(first
   |(exact zM)|(exact zN)|(exact q_geq rfl rfl)|(exact jAg)|(exact q_sub rfl rfl (by omega))|(exact jBh)|(exact jAk)
   |(apply q_convI;(iterate 3 exact rfl);omega)))|(apply yA)|(apply yB)|(refine jAe ?_)|(apply yE)|(apply yG)|(apply yH)|(apply yL)
   |(refine jBa ?_)))
  all_goals first
   |(exfalso;omega)|(refine ⟨j,by omega,by omega,?_⟩;(try dsimp only);rw [hd];exact ⟨[],rfl,rfl,rfl,rfl,iV_eq (by omega),rfl,trivial⟩)
 ·obtain rfl : i = 0 := by omega
  rw [List.drop_zero]
  (repeat' (first
   |(apply W.qd;(first
   |(exact zM)|(exact zN)
   |(exact q_geq rfl rfl)))|(apply yA)|(apply yB)|(refine jAe ?_)|(apply yE)|(apply yI)|(apply yJ)|(apply yK)|(apply yM)
   |(refine jAw ?_)))
  all_goals first | (exfalso;omega) | exact Ends.i rfl rfl
theorem A_sizeOf16 : ACalls Tryz.prog 257 [] [] (iV 2) [] := by
 refine acalls_of_body Tryz.func257 rfl (zU rfl) ?_
 (repeat' (first
  |(apply W.qd;(first
  |((apply (q_convN (k' := .u16) (xn := 0) (v := 0));(iterate 6 exact rfl)))
  |((apply (q_cplU (xn := 0) (mx := 65535) (v := 65535));(iterate 4 exact rfl);decide;decide;exact rfl))
  |((apply (q_convN (k' := .u64) (xn := 65535) (v := 65535));(iterate 6 exact rfl)))
  |(exact zN)))|(apply yA)|(apply yB)|(apply (W.regionS 3);exact rfl;kernel_rfl)|(apply yE)
  |(apply yG)))
 refine AWP.loopW (α := Nat) (fun i => i ≤ 2) (fun i => ⟨[(2,.d (.v (.int .u64 ((65535 >>> (8 * i) : Nat) : Int)))),(1,iV i)],[]⟩) (fun i => 2 - i) 0 (Nat.zero_le _) ⟨[],rfl,rfl,rfl,by (repeat (first | exact trivial | refine ⟨rfl,?_⟩))⟩ fun i hi => ?_
 have h : i = 0 ∨ i = 1 ∨ i = 2 := by omega
 rcases h with rfl | rfl | rfl
 ·(repeat' (first
  |(apply W.qd;(first
  |((apply (q_shrU (xn := 65535) (n := 8) (v := 255));(iterate 4 exact rfl);decide;exact rfl))|(exact zM)|(exact zN)|(exact q_gtr rfl rfl)
  |(exact jAg)))|(apply yA)|(apply yB)|(refine jAe ?_)|(apply yE)|(apply yG)|(apply yH)|(apply yL)
  |(refine jBa ?_)))
  all_goals first | (exfalso;omega) | exact ⟨1,by omega,by omega,⟨[],rfl,rfl,rfl,by (repeat (first | exact trivial | refine ⟨rfl,?_⟩))⟩⟩
 ·(repeat' (first
  |(apply W.qd;(first
  |((apply (q_shrU (xn := 255) (n := 8) (v := 0));(iterate 4 exact rfl);decide;exact rfl))|(exact zM)|(exact zN)|(exact q_gtr rfl rfl)
  |(exact jAg)))|(apply yA)|(apply yB)|(refine jAe ?_)|(apply yE)|(apply yG)|(apply yH)|(apply yL)
  |(refine jBa ?_)))
  all_goals first | (exfalso;omega) | exact ⟨2,by omega,by omega,⟨[],rfl,rfl,rfl,by (repeat (first | exact trivial | refine ⟨rfl,?_⟩))⟩⟩
 ·(repeat' (first
  |(apply W.qd;(first
  |(exact zM)|(exact zN)
  |(exact q_gtr rfl rfl)))|(apply yA)|(apply yB)|(refine jAe ?_)|(apply yE)|(apply yI)|(apply yJ)|(apply yK)|(apply yM)
  |(refine jAw ?_)))
  all_goals first | (exfalso;omega) | exact Ends.i rfl rfl
theorem A_sizeOf32 : ACalls Tryz.prog 258 [] [] (iV 4) [] := by
 refine acalls_of_body Tryz.func258 rfl (zU rfl) ?_
 (repeat' (first
  |(apply W.qd;(first
  |((apply (q_convN (k' := .u32) (xn := 0) (v := 0));(iterate 6 exact rfl)))
  |((apply (q_cplU (xn := 0) (mx := 4294967295) (v := 4294967295));(iterate 4 exact rfl);exact lt32 (by decide);exact lt32 (by decide);exact rfl))
  |((apply (q_convN (k' := .u64) (xn := 4294967295) (v := 4294967295));(iterate 6 exact rfl)))
  |(exact zN)))|(apply yA)|(apply yB)|(apply (W.regionS 3);exact rfl;kernel_rfl)|(apply yE)
  |(apply yG)))
 refine AWP.loopW (α := Nat) (fun i => i ≤ 4) (fun i => ⟨[(2,.d (.v (.int .u64 ((4294967295 >>> (8 * i) : Nat) : Int)))),(1,iV i)],[]⟩) (fun i => 4 - i) 0 (Nat.zero_le _) ⟨[],rfl,rfl,rfl,by (repeat (first | exact trivial | refine ⟨rfl,?_⟩))⟩ fun i hi => ?_
 have h : i = 0 ∨ i = 1 ∨ i = 2 ∨ i = 3 ∨ i = 4 := by omega
 rcases h with rfl | rfl | rfl | rfl | rfl
 ·(repeat' (first
  |(apply W.qd;(first
  |((apply (q_shrU (xn := 4294967295) (n := 8) (v := 16777215));(iterate 4 exact rfl);decide;exact rfl))|(exact zM)|(exact zN)|(exact q_gtr rfl rfl)
  |(exact jAg)))|(apply yA)|(apply yB)|(refine jAe ?_)|(apply yE)|(apply yG)|(apply yH)|(apply yL)
  |(refine jBa ?_)))
  all_goals first | (exfalso;omega) | exact ⟨1,by omega,by omega,⟨[],rfl,rfl,rfl,by (repeat (first | exact trivial | refine ⟨rfl,?_⟩))⟩⟩
 ·(repeat' (first
  |(apply W.qd;(first
  |((apply (q_shrU (xn := 16777215) (n := 8) (v := 65535));(iterate 4 exact rfl);decide;exact rfl))|(exact zM)|(exact zN)|(exact q_gtr rfl rfl)
  |(exact jAg)))|(apply yA)|(apply yB)|(refine jAe ?_)|(apply yE)|(apply yG)|(apply yH)|(apply yL)
  |(refine jBa ?_)))
  all_goals first | (exfalso;omega) | exact ⟨2,by omega,by omega,⟨[],rfl,rfl,rfl,by (repeat (first | exact trivial | refine ⟨rfl,?_⟩))⟩⟩
 ·(repeat' (first
  |(apply W.qd;(first
  |((apply (q_shrU (xn := 65535) (n := 8) (v := 255));(iterate 4 exact rfl);decide;exact rfl))|(exact zM)|(exact zN)|(exact q_gtr rfl rfl)
  |(exact jAg)))|(apply yA)|(apply yB)|(refine jAe ?_)|(apply yE)|(apply yG)|(apply yH)|(apply yL)
  |(refine jBa ?_)))
  all_goals first | (exfalso;omega) | exact ⟨3,by omega,by omega,⟨[],rfl,rfl,rfl,by (repeat (first | exact trivial | refine ⟨rfl,?_⟩))⟩⟩
 ·(repeat' (first
  |(apply W.qd;(first
  |((apply (q_shrU (xn := 255) (n := 8) (v := 0));(iterate 4 exact rfl);decide;exact rfl))|(exact zM)|(exact zN)|(exact q_gtr rfl rfl)
  |(exact jAg)))|(apply yA)|(apply yB)|(refine jAe ?_)|(apply yE)|(apply yG)|(apply yH)|(apply yL)
  |(refine jBa ?_)))
  all_goals first | (exfalso;omega) | exact ⟨4,by omega,by omega,⟨[],rfl,rfl,rfl,by (repeat (first | exact trivial | refine ⟨rfl,?_⟩))⟩⟩
 ·(repeat' (first
  |(apply W.qd;(first
  |(exact zM)|(exact zN)
  |(exact q_gtr rfl rfl)))|(apply yA)|(apply yB)|(refine jAe ?_)|(apply yE)|(apply yI)|(apply yJ)|(apply yK)|(apply yM)
  |(refine jAw ?_)))
  all_goals first | (exfalso;omega) | exact Ends.i rfl rfl
end
section
theorem lt64 {x : Nat} (h : x < 18446744073709551616) : x < 2 ^ IntKind.u64.bits := h
theorem lt16 {x : Nat} (h : x < 65536) : x < 2 ^ IntKind.u16.bits := h
theorem shr_step (x i : Nat) : x >>> (8 * (i + 1)) = x >>> (8 * i) >>> 8 := by rw [← Nat.shiftRight_add];rfl
theorem put_facts (l : List Nat) (x n : Nat) (hn : l.length = n) : l ++ leN x 0 = l ∧ (∀ i,l ++ leN x (i + 1) = (l ++ leN x i) ++ [(x >>> (8 * i)) % 256]) ∧ ∀ i,(l ++ leN x i).length = n + i :=
 ⟨by simp [leN],fun i => by rw [leN_snoc,List.append_assoc],fun i => by rw [List.length_append,leN_length,hn]⟩
attribute [local irreducible] Quiet Eff OpOk AWPG ACont ABlock ACalls AGoto
theorem A_put32 {l : List Nat} {v n x : Nat} (hx : x < 4294967296) (hn : l.length = n) (hl : n ≤ 1000) : ACalls Tryz.prog 215 [.osl 0 v 0 n,uV x] [.row v 1 5 (l.map nD)] (.osl 0 (v + 4) 0 (n + 4)) [.row (v + 4) 1 5 ((l ++ leN x 4).map nD)] := by
 refine acalls_of_bodyO Tryz.func215 rfl (zU rfl) ?_
 have hz := A_sizeOf32
 obtain ⟨h0,hs,hll⟩ := put_facts l x n hn
 have hX : ∀ i,x >>> (8 * i) < 4294967296 := fun i => shr_lt hx
 have hXs := shr_step x
 have hX0 : x >>> (8 * 0) = x := rfl
 generalize hL : (fun i => l ++ leN x i) = L at *
 have eL : ∀ i,l ++ leN x i = L i := fun i => congrFun hL i
 simp only [eL] at h0 hs hll ⊢
 generalize hXX : (fun i => x >>> (8 * i)) = X at *
 have eX : ∀ i,x >>> (8 * i) = X i := fun i => congrFun hXX i
 simp only [eX] at hs hX hXs hX0
 clear eL eX hL hXX
 (repeat' (first
  |(apply W.qd;(first
  |(exact zW (hz))|(exact zM)
  |(exact zN)))|(apply yA)|(apply yB)|(apply (W.regionS 2);exact rfl;kernel_rfl)|(apply yE)
  |(apply yG)))
 refine AWP.loopW (α := Nat) (fun i => i ≤ 4) (fun i => ⟨[(6,iV i),(5,iV 4),(0,.osl 0 (v + i) 0 (L i).length),(1,uV (X i))],[.row (v + i) 1 5 ((L i).map nD)]⟩) (fun i => 4 - i) 0 (Nat.zero_le _) ?wkA fun i hi => ?_
 case wkA =>
  rw [h0,hX0,hn]
  exact ⟨[0],rfl,rfl,rfl,by (repeat (first | exact trivial | refine ⟨rfl,?_⟩))⟩
 by_cases hil : i < 4
 ·have h1 := hX i
  have h2 := hs i
  have h3 := hXs i
  have h4 := hll i
  have h5 := shr_lt (k := 8) h1
  generalize X i = q at *
  have m1 : q % 2 ^ IntKind.u64.bits = q := Nat.mod_eq_of_lt (lt64 (by omega))
  have m2 : (q >>> 8) % 2 ^ IntKind.u32.bits = q >>> 8 := Nat.mod_eq_of_lt (lt32 h5)
  (repeat' (first
   |(apply W.qd;(first
   |((apply (q_convN (k' := .u64) (xn := q) (v := q));(iterate 5 exact rfl);exact m1))
   |((apply (q_shrU (xn := q) (n := 8) (v := q >>> 8));(iterate 4 exact rfl);decide;exact rfl))
   |((apply (q_convN (k' := .u32) (xn := q >>> 8) (v := q >>> 8));(iterate 5 exact rfl);exact m2))|(exact zM)|(exact zN)|(exact jAj)|(exact jAg)|(exact jAl)
   |(exact jBf)))|(apply W.ld;(exact jAy))|(apply yA)|(apply yB)|(refine jAe ?_)|(apply yE)|(apply yG)|(apply yH)|(apply yL)
   |(refine W.cond _ rfl (fun hb => ?_) (fun hb => ?_) <;> ((try simp only [hb,zK]) <;> (try simp only [zL,zI] at hb) <;> (try (exfalso;omega))))))
  all_goals first
   |(exfalso;omega)|(refine ⟨i + 1,by omega,by omega,?_⟩;(try dsimp only);rw [h2,h3];exact ⟨[0],rfl,rfl,rfl,iV_eq (by omega),rfl,rfl,rfl,trivial⟩)
 ·obtain rfl : i = 4 := by omega
  have h4 := hll 4
  (repeat' (first
   |(apply W.qd;(first
   |(exact zM)|(exact zN)
   |(exact jAj)))|(apply yA)|(apply yB)|(refine jAe ?_)|(apply yE)|(apply yI)|(apply yJ)|(apply yK)|(apply yM)
   |(refine jAw ?_)))
  all_goals first
   |(exfalso;omega)
   |(rw [← h4];exact ⟨.inl rfl,[0],[.osl 0 (v + 4) 0 (L 4).length],rfl,rfl,⟨rfl,trivial⟩,AVle.of_eq rfl,rfl⟩)
theorem A_put32n {x : Nat} (hx : x < 4294967296) : ACalls Tryz.prog 215 [.d (.v (.slice none 0 0)),uV x] [] (.osl 0 4 0 4) [.row 4 1 5 ((leN x 4).map nD)] := by
 refine acalls_of_bodyO Tryz.func215 rfl (zU rfl) ?_
 have hz := A_sizeOf32
 obtain ⟨h0,hs,hll⟩ := put_facts [] x 0 rfl
 simp only [List.nil_append,Nat.zero_add] at h0 hs hll
 have hX : ∀ i,x >>> (8 * i) < 4294967296 := fun i => shr_lt hx
 have hXs := shr_step x
 have hX0 : x >>> (8 * 0) = x := rfl
 generalize hL : (fun i => leN x i) = L at *
 have eL : ∀ i,leN x i = L i := fun i => congrFun hL i
 simp only [eL] at h0 hs hll ⊢
 generalize hXX : (fun i => x >>> (8 * i)) = X at *
 have eX : ∀ i,x >>> (8 * i) = X i := fun i => congrFun hXX i
 simp only [eX] at hs hX hXs hX0
 clear eL eX hL hXX
 (repeat' (first
  |(apply W.qd;(first
  |(exact zW (hz))|(exact zM)
  |(exact zN)))|(apply yA)|(apply yB)|(apply (W.regionS 2);exact rfl;kernel_rfl)|(apply yE)
  |(apply yG)))
 refine AWP.nilRow 0 1 5 rfl (by omega) ?_
 refine AWP.loopW (α := Nat) (fun i => i ≤ 4) (fun i => ⟨[(6,iV i),(5,iV 4),(0,.osl 0 i 0 (L i).length),(1,uV (X i))],[.row i 1 5 ((L i).map nD)]⟩) (fun i => 4 - i) 0 (Nat.zero_le _) ?wkA fun i hi => ?_
 case wkA =>
  rw [h0,hX0]
  exact ⟨[0],rfl,rfl,rfl,by (repeat (first | exact trivial | refine ⟨rfl,?_⟩))⟩
 by_cases hil : i < 4
 ·have h1 := hX i
  have h2 := hs i
  have h3 := hXs i
  have h4 := hll i
  have h5 := shr_lt (k := 8) h1
  generalize X i = q at *
  have m1 : q % 2 ^ IntKind.u64.bits = q := Nat.mod_eq_of_lt (lt64 (by omega))
  have m2 : (q >>> 8) % 2 ^ IntKind.u32.bits = q >>> 8 := Nat.mod_eq_of_lt (lt32 h5)
  (repeat' (first
   |(apply W.qd;(first
   |((apply (q_convN (k' := .u64) (xn := q) (v := q));(iterate 5 exact rfl);exact m1))
   |((apply (q_shrU (xn := q) (n := 8) (v := q >>> 8));(iterate 4 exact rfl);decide;exact rfl))
   |((apply (q_convN (k' := .u32) (xn := q >>> 8) (v := q >>> 8));(iterate 5 exact rfl);exact m2))|(exact zM)|(exact zN)|(exact jAj)|(exact jAg)|(exact jAl)
   |(exact jBf)))|(apply W.ld;(exact jAy))|(apply yA)|(apply yB)|(refine jAe ?_)|(apply yE)|(apply yG)|(apply yH)|(apply yL)
   |(refine W.cond _ rfl (fun hb => ?_) (fun hb => ?_) <;> ((try simp only [hb,zK]) <;> (try simp only [zL,zI] at hb) <;> (try (exfalso;omega))))))
  all_goals first
   |(exfalso;omega)|(refine ⟨i + 1,by omega,by omega,?_⟩;(try dsimp only);rw [h2,h3];exact ⟨[0],rfl,rfl,rfl,iV_eq (by omega),rfl,rfl,rfl,trivial⟩)
 ·obtain rfl : i = 4 := by omega
  have h4 := hll 4
  (repeat' (first
   |(apply W.qd;(first
   |(exact zM)|(exact zN)
   |(exact jAj)))|(apply yA)|(apply yB)|(refine jAe ?_)|(apply yE)|(apply yI)|(apply yJ)|(apply yK)|(apply yM)
   |(refine jAw ?_)))
  all_goals first
   |(exfalso;omega)|(refine ⟨.inl rfl,[0],[.osl 0 4 0 (L 4).length],rfl,rfl,⟨rfl,trivial⟩,AVle.of_eq ?_,rfl⟩;rw [h4];rfl)
theorem A_put16 {l : List Nat} {v n x : Nat} (hx : x < 65536) (hn : l.length = n) (hl : n ≤ 1000) : ACalls Tryz.prog 214 [.osl 0 v 0 n,.d (.v (.int .u16 (x : Int)))] [.row v 1 5 (l.map nD)] (.osl 0 (v + 2) 0 (n + 2)) [.row (v + 2) 1 5 ((l ++ leN x 2).map nD)] := by
 refine acalls_of_bodyO Tryz.func214 rfl (zU rfl) ?_
 have hz := A_sizeOf16
 obtain ⟨h0,hs,hll⟩ := put_facts l x n hn
 have hX : ∀ i,x >>> (8 * i) < 65536 := fun i => shr_lt hx
 have hXs := shr_step x
 have hX0 : x >>> (8 * 0) = x := rfl
 generalize hL : (fun i => l ++ leN x i) = L at *
 have eL : ∀ i,l ++ leN x i = L i := fun i => congrFun hL i
 simp only [eL] at h0 hs hll ⊢
 generalize hXX : (fun i => x >>> (8 * i)) = X at *
 have eX : ∀ i,x >>> (8 * i) = X i := fun i => congrFun hXX i
 simp only [eX] at hs hX hXs hX0
 clear eL eX hL hXX
 (repeat' (first
  |(apply W.qd;(first
  |(exact zW (hz))|(exact zM)
  |(exact zN)))|(apply yA)|(apply yB)|(apply (W.regionS 2);exact rfl;kernel_rfl)|(apply yE)
  |(apply yG)))
 refine AWP.loopW (α := Nat) (fun i => i ≤ 2) (fun i => ⟨[(6,iV i),(5,iV 2),(0,.osl 0 (v + i) 0 (L i).length),(1,.d (.v (.int .u16 (X i : Int))))],[.row (v + i) 1 5 ((L i).map nD)]⟩) (fun i => 2 - i) 0 (Nat.zero_le _) ?wkA fun i hi => ?_
 case wkA =>
  rw [h0,hX0,hn]
  exact ⟨[0],rfl,rfl,rfl,by (repeat (first | exact trivial | refine ⟨rfl,?_⟩))⟩
 by_cases hil : i < 2
 ·have h1 := hX i
  have h2 := hs i
  have h3 := hXs i
  have h4 := hll i
  have h5 := shr_lt (k := 8) h1
  generalize X i = q at *
  have m1 : q % 2 ^ IntKind.u64.bits = q := Nat.mod_eq_of_lt (lt64 (by omega))
  have m2 : (q >>> 8) % 2 ^ IntKind.u16.bits = q >>> 8 := Nat.mod_eq_of_lt (lt16 h5)
  (repeat' (first
   |(apply W.qd;(first
   |((apply (q_convN (k' := .u64) (xn := q) (v := q));(iterate 5 exact rfl);exact m1))
   |((apply (q_shrU (xn := q) (n := 8) (v := q >>> 8));(iterate 4 exact rfl);decide;exact rfl))
   |((apply (q_convN (k' := .u16) (xn := q >>> 8) (v := q >>> 8));(iterate 5 exact rfl);exact m2))|(exact zM)|(exact zN)|(exact jAj)|(exact jAg)|(exact jAl)
   |(exact jBf)))|(apply W.ld;(exact jAy))|(apply yA)|(apply yB)|(refine jAe ?_)|(apply yE)|(apply yG)|(apply yH)|(apply yL)
   |(refine W.cond _ rfl (fun hb => ?_) (fun hb => ?_) <;> ((try simp only [hb,zK]) <;> (try simp only [zL,zI] at hb) <;> (try (exfalso;omega))))))
  all_goals first
   |(exfalso;omega)|(refine ⟨i + 1,by omega,by omega,?_⟩;(try dsimp only);rw [h2,h3];exact ⟨[0],rfl,rfl,rfl,iV_eq (by omega),rfl,rfl,rfl,trivial⟩)
 ·obtain rfl : i = 2 := by omega
  have h4 := hll 2
  (repeat' (first
   |(apply W.qd;(first
   |(exact zM)|(exact zN)
   |(exact jAj)))|(apply yA)|(apply yB)|(refine jAe ?_)|(apply yE)|(apply yI)|(apply yJ)|(apply yK)|(apply yM)
   |(refine jAw ?_)))
  all_goals first
   |(exfalso;omega)
   |(rw [← h4];exact ⟨.inl rfl,[0],[.osl 0 (v + 2) 0 (L 2).length],rfl,rfl,⟨rfl,trivial⟩,AVle.of_eq rfl,rfl⟩)
theorem A_number {x k : Nat} (hx : x < 9223372036854775808) (hk : 1 ≤ k ∧ k ≤ 8) : ACalls Tryz.prog 100 [iV x,iV k] [] (byts (leN x k)) [] := by
 refine acalls_of_body Tryz.func100 rfl (zU rfl) ?_
 obtain ⟨h0,hs,hll⟩ := put_facts [] x 0 rfl
 simp only [List.nil_append,Nat.zero_add] at h0 hs hll
 generalize hL : (fun i => leN x i) = L at *
 have eL : ∀ i,leN x i = L i := fun i => congrFun hL i
 simp only [eL] at h0 hs hll ⊢
 clear eL hL
 (repeat' (first
  |(apply W.qd;(exact zN))|(apply yA)|(apply yB)|(apply (W.regionS 3);exact rfl;kernel_rfl)|(apply yE)
  |(apply yG)))
 refine AWP.nilRow 5 1 5 rfl (by omega) ?_
 refine AWP.loopW (α := Nat) (fun i => i ≤ k) (fun i => ⟨[(6,iV i),(5,.osl 0 i 0 (L i).length),(0,iV x),(1,iV k)],[.row i 1 5 ((L i).map nD)]⟩) (fun i => k - i) 0 (Nat.zero_le _) ?wkA fun i hi => ?_
 case wkA =>
  rw [h0]
  exact ⟨[0],rfl,rfl,rfl,by (repeat (first | exact trivial | refine ⟨rfl,?_⟩))⟩
 by_cases hil : i < k
 ·have h2 := hs i
  have h4 := hll i
  have h8 : ((8 : Int) * (i : Int)) = ((8 * i : Nat) : Int) := by omega
  (repeat' (first
   |(apply W.qd;(first
   |(exact zM)|(exact zN)|(exact jAj)|(exact jAg)|(exact jBh)|(exact jAl)|(exact jBf)
   |(exact jAt)))|(apply W.ld;(exact jAy))|(apply yA)|(apply yB)|(refine jAe ?_)|(apply yE)|(apply yG)|(apply yH)|(apply yL)
   |(refine W.cond _ rfl (fun hb => ?_) (fun hb => ?_) <;> ((try simp only [hb,zK]) <;> (try simp only [zL,zI] at hb) <;> (try (exfalso;omega))))))
  all_goals first
   |(exfalso;omega)|(refine ⟨i + 1,by omega,by omega,?_⟩;(try dsimp only);rw [h2];exact ⟨[0],rfl,rfl,rfl,iV_eq (by omega),rfl,rfl,rfl,trivial⟩)
 ·obtain rfl : i = k := by omega
  have h4 := hll i
  (repeat' (first
   |(apply W.qd;(first
   |(exact zM)|(exact zN)
   |(exact jAj)))|(apply yA)|(apply yB)|(refine jAe ?_)|(apply yE)|(apply yI)|(apply yJ)|(apply yK)|(apply yM)
   |(refine W.cond _ rfl (fun hb => ?_) (fun hb => ?_) <;> ((try simp only [hb,zK]) <;> (try simp only [zL,zI] at hb) <;> (try (exfalso;omega))))))
  all_goals first
   |(exfalso;omega)
   |exact Ends.osl rfl rfl (by rw [List.length_map]) rfl
end
section
theorem seal_parts {dk a ix ep ct : Nat} {u : List Nat} : bodyL ((dk : Int),(a : Int),(ix : Int)) ((ep : Int),(ct : Int)) u = (((((([a,dk] ++ leN ix 2) ++ leN ep 4) ++ leN ct 4) ++ u) ++ List.replicate (40 - u.length) 0) ++ leN ep 4) ++ leN ct 4 := by
 unfold bodyL headL genL
 simp only [Int.toNat_natCast,List.append_assoc]
theorem pl_nat {p : Pl} (h : plB p = true) : ∃ dk a ix : Nat,p = ((dk : Int),(a : Int),(ix : Int)) ∧ dk < 64 ∧ a ≤ 4 ∧ ix < 65536 := by
 obtain ⟨x,y,z⟩ := p
 have h1 := plB_bd h
 dsimp only at h1
 refine ⟨x.toNat,y.toNat,z.toNat,?_,by omega,by omega,by omega⟩
 rw [Int.toNat_of_nonneg (by omega),Int.toNat_of_nonneg (by omega),Int.toNat_of_nonneg (by omega)]
theorem gn_nat {g : Gn} (h : gnB g = true) : ∃ ep ct : Nat,g = ((ep : Int),(ct : Int)) ∧ ep < 4294967296 ∧ ct < 4294967296 := by
 obtain ⟨x,y⟩ := g
 have h1 := gnB_bd h
 dsimp only at h1
 refine ⟨x.toNat,y.toNat,?_,by omega,by omega⟩
 rw [Int.toNat_of_nonneg (by omega),Int.toNat_of_nonneg (by omega)]
attribute [local irreducible] Quiet Eff OpOk AWPG ACont ABlock ACalls AGoto
theorem A_seal {p : Pl} {g : Gn} {u : List Nat} (hub : isB u) (h32 : u.length = 32) : ACalls Tryz.prog 156 [pcA p,gnA g,bS u] [] (.tup [bS (sealN p g u).1,iV (sealN p g u).2]) [] := by
 refine acalls_of_body Tryz.func156 rfl (zU rfl) ?_
 have f1 := A_svalid p
 have f2 := A_validGen g
 by_cases h : plB p = true ∧ gnB g = true
 case neg =>
  have e : sealN p g u = ([],1) := if_neg fun hh => h ⟨hh.1,hh.2.1⟩
  rw [e]
  generalize plB p = b1 at *
  generalize gnB g = b2 at *
  cases b1 <;> cases b2
  all_goals try (exfalso;exact h ⟨rfl,rfl⟩)
  all_goals
   (repeat' (first
    |(apply yFb;exact rfl;exact rfl)
    |(apply W.qd;(first
    |(exact zW (f1))|(exact zW (f2))|(exact zM)|(exact zN)|(exact jAn)|(exact jBg)|(apply (yEb (u := .d _));exact rfl;exact rfl)
    |(apply (yDb (u := .d _));exact rfl;exact rfl)))|(apply W.ed;(exact jAc))|(refine W.gOff _ _ rfl rfl (by intro h;cases h) ?_)|(apply yA)|(apply yB)|(refine jAe ?_)|(apply yE)|(apply yJ)|(apply yP)
    |(refine jBa ?_)))
   all_goals first | (exfalso;omega) | exact Ends.two rfl rfl rfl
 obtain ⟨hp,hg⟩ := h
 have e : sealN p g u = (sealL p g u,0) := if_pos ⟨hp,hg,by omega⟩
 have hbL := bodyL_isB (g := g) hp hub
 rw [e]
 rw [hp] at f1
 rw [hg] at f2
 obtain ⟨dk,a,ix,rfl,hdk,ha,hix⟩ := pl_nat hp
 obtain ⟨ep,ct,rfl,hep,hct⟩ := gn_nat hg
 unfold sealL
 rw [seal_parts] at hbL ⊢
 rw [h32] at hbL ⊢
 show AWPG _ _ _ _ _ (Ends _ _ (.tup [bS (leN (crcN ((((((([a,dk] ++ leN ix 2) ++ leN ep 4) ++ leN ct 4) ++ u) ++ List.replicate 8 0) ++ leN ep 4) ++ leN ct 4)) 4 ++ ((((((([a,dk] ++ leN ix 2) ++ leN ep 4) ++ leN ct 4) ++ u) ++ List.replicate 8 0) ++ leN ep 4) ++ leN ct 4)),iV 0]) []) _
 have c1 := A_put16 (l := [a,dk]) (v := 0) (n := 2) (x := ix) hix rfl (by omega)
 obtain ⟨L1,e1,k1⟩ : ∃ L1,[a,dk] ++ leN ix 2 = L1 ∧ L1.length = 4 := ⟨_,rfl,by rw [List.length_append,leN_length];rfl⟩
 rw [e1] at c1 hbL ⊢
 have c2 := A_put32 (l := L1) (v := 2) (n := 4) (x := ep) hep k1 (by omega)
 obtain ⟨L2,e2,k2⟩ : ∃ L2,L1 ++ leN ep 4 = L2 ∧ L2.length = 8 := ⟨_,rfl,by rw [List.length_append,leN_length,k1]⟩
 rw [e2] at c2 hbL ⊢
 have c3 := A_put32 (l := L2) (v := 6) (n := 8) (x := ct) hct k2 (by omega)
 obtain ⟨L3,e3,k3⟩ : ∃ L3,L2 ++ leN ct 4 = L3 ∧ L3.length = 12 := ⟨_,rfl,by rw [List.length_append,leN_length,k2]⟩
 rw [e3] at c3 hbL ⊢
 have k4 : (L3 ++ u).length = 44 := by rw [List.length_append,k3,h32]
 have k5 : ((L3 ++ u) ++ List.replicate 8 0).length = 52 := by rw [List.length_append,k4,List.length_replicate]
 have c4 := A_put32 (l := (L3 ++ u) ++ List.replicate 8 0) (v := 12) (n := 52) (x := ep) hep k5 (by omega)
 obtain ⟨L6,e6,k6⟩ : ∃ L6,((L3 ++ u) ++ List.replicate 8 0) ++ leN ep 4 = L6 ∧ L6.length = 56 := ⟨_,rfl,by rw [List.length_append,leN_length,k5]⟩
 rw [e6] at c4 hbL ⊢
 have c5 := A_put32 (l := L6) (v := 16) (n := 56) (x := ct) hct k6 (by omega)
 obtain ⟨L7,e7,k7⟩ : ∃ L7,L6 ++ leN ct 4 = L7 ∧ L7.length = 60 := ⟨_,rfl,by rw [List.length_append,leN_length,k6]⟩
 rw [e7] at c5 hbL ⊢
 have c6 := A_crcOf hbL (by omega)
 have hcl := crcN_lt hbL
 generalize crcN L7 = c at *
 have c7 := A_put32n hcl
 have hcb := leN_isB c 4
 have hck := leN_length c 4
 generalize leN c 4 = C at *
 have hCb : isB (C ++ L7) := isB_app hcb hbL
 have hCl : (C ++ L7).length = 64 := by rw [List.length_append,hck,k7]
 have mi : ix % 2 ^ IntKind.u16.bits = ix := Nat.mod_eq_of_lt (lt16 hix)
 have me : ep % 2 ^ IntKind.u32.bits = ep := Nat.mod_eq_of_lt (lt32 hep)
 have mc : ct % 2 ^ IntKind.u32.bits = ct := Nat.mod_eq_of_lt (lt32 hct)
 have hfz : ∀ own own' : List Ent,own[2]? = some (.row 20 1 5 (L7.map nD)) → same [2] own own' → AV.frzL own' [] [.osl 2 20 0 60] = [byts L7] := fun own own' h1 h2 => congrArg (fun z => [z]) (frz_rowJ ((h2 2 (by simp)).trans h1) rfl (by rw [List.length_map];exact k7.symm))
 clear e1 e2 e3 e6 e7
 (repeat' (first
  |(apply yFb;exact rfl;exact rfl)|(apply W.ed;(apply (e_litO (es := [a,dk].map nD));(iterate 6 exact rfl);kernel_rfl;exact rfl;exact rfl))
  |(apply W.qd;(first
  |(exact zW (f1))|(exact zW (f2))
  |((apply (q_convN (k' := .u16) (xn := ix) (v := ix));(iterate 5 exact rfl);exact mi))
  |((apply (q_convN (k' := .u32) (xn := ep) (v := ep));(iterate 5 exact rfl);exact me))
  |((apply (q_convN (k' := .u32) (xn := ct) (v := ct));(iterate 5 exact rfl);exact mc))
  |((apply (q_callF (js := [2]) c6);exact rfl;exact fun own' hh => hfz _ own' rfl hh;exact rfl;kernel_rfl))
  |((apply q_str_osl;(iterate 4 exact rfl);exact hCl.symm;exact hCb))|(exact zM)|(exact zN)|(exact jAr)|(exact jAm)|(exact jAn)|(exact q_gtr rfl rfl)|(exact jBg)|(exact q_sub rfl rfl (by omega))|(exact jBl)|(apply (yDb (u := .d _));exact rfl;exact rfl)
  |(apply q_conv8;(iterate 3 exact rfl);(first | (with_reducible exact rfl) | exact natI_spec rfl | assumption | exact (Int.toNat_of_nonneg (by omega)).symm);omega)))
  |(apply W.ed;(first
  |(apply (e_callJ (js := [2]) (c1));(iterate 5 exact rfl);kernel_rfl;kernel_rfl)|(apply (e_callJ (js := [2]) (c2));(iterate 5 exact rfl);kernel_rfl;kernel_rfl)|(apply (e_callJ (js := [2]) (c3));(iterate 5 exact rfl);kernel_rfl;kernel_rfl)|(apply (e_callJ (js := [2]) (c4));(iterate 5 exact rfl);kernel_rfl;kernel_rfl)|(apply (e_callJ (js := [2]) (c5));(iterate 5 exact rfl);kernel_rfl;kernel_rfl)
  |((apply (e_appStr (q := 44) (l2 := u));(iterate 7 exact rfl);exact k3.symm;omega;exact hub;omega))
  |((apply (e_apzO (q := 52) (k := 8));(iterate 3 exact rfl);omega;(iterate 4 exact rfl);exact k4.symm;omega;omega;omega))|(apply (e_callJ (js := []) (c7));(iterate 5 exact rfl);kernel_rfl;kernel_rfl)
  |((apply (e_appRm (q := 64) (l := C) (l2 := L7));(iterate 8 exact rfl);exact hck.symm;exact k7.symm;omega;omega;omega))
  |(exact jAc)))|(apply yA)|(apply yB)|(refine jAe ?_)|(refine jAs ?_)|(apply yE)|(refine jBc ?_)|(apply yH)|(apply yJ)
  |(refine W.cond _ rfl (fun hb => ?_) (fun hb => ?_) <;> ((try simp only [hb,zK]) <;> (try simp only [zL,zI] at hb) <;> (try (exfalso;omega))))))
 all_goals first | (exfalso;omega) | exact Ends.two rfl rfl rfl
end
section
theorem eq_pl (a b : Pl) {r : Bool} (h : decide (a = b) = r) : eqOffs #[.int .i64 a.1,.int .i64 a.2.1,.int .i64 a.2.2] #[.int .i64 b.1,.int .i64 b.2.1,.int .i64 b.2.2] [0,1,2] = some r := by
 subst h
 obtain ⟨a1,a2,a3⟩ := a
 obtain ⟨b1,b2,b3⟩ := b
 simp [eqOffs,Bool.decide_and]
theorem eq_gn (a b : Gn) {r : Bool} (h : decide (a = b) = r) : eqOffs #[.int .i64 a.1,.int .i64 a.2] #[.int .i64 b.1,.int .i64 b.2] [0,1] = some r := by
 subst h
 obtain ⟨a1,a2⟩ := a
 obtain ⟨b1,b2⟩ := b
 simp [eqOffs,Bool.decide_and]
def lblP (s : List Nat) : Pl := if labE s = 0 then labP s else (0,0,0)
def lblG (s : List Nat) : Gn := if labE s = 0 then labG s else (0,0)
def opnG (p : Pl) (s : List Nat) : Gn := if openE p s = 0 then labG s else (0,0)
def opnU (p : Pl) (s : List Nat) : List Nat := if openE p s = 0 then cut s 16 56 else []
theorem rep_snoc (l : List Nat) (j : Nat) : l ++ List.replicate (j + 1) 0 = (l ++ List.replicate j 0) ++ [0] := by rw [List.replicate_succ',List.append_assoc]
attribute [local irreducible] Quiet Eff OpOk AWPG ACont ABlock ACalls AGoto
theorem A_rseal {p : Pl} {g : Gn} {u : List Nat} (hub : isB u) (hul : u.length ≤ 9223372036854775807) : ACalls Tryz.prog 50 [pcA p,gnA g,bS u] [] (.tup [bS (sealN p g u).1,iV (sealN p g u).2]) [] := by
 refine acalls_of_body Tryz.func50 rfl (zU rfl) ?_
 have f1 := A_rsvalid p
 have f2 := A_right g
 by_cases h : plB p = true ∧ gnB g = true
 case neg =>
  have e : sealN p g u = ([],1) := if_neg fun hh => h ⟨hh.1,hh.2.1⟩
  rw [e]
  generalize plB p = b1 at *
  generalize gnB g = b2 at *
  cases b1 <;> cases b2
  all_goals try (exfalso;exact h ⟨rfl,rfl⟩)
  all_goals
   (repeat' (first
    |(apply yFb;exact rfl;exact rfl)
    |(apply W.qd;(first
    |(exact zW (f1))|(exact zW (f2))|(exact zM)|(exact zN)|(exact jAn)|(exact jBg)|(apply (yEb (u := .d _));exact rfl;exact rfl)
    |(apply (yDb (u := .d _));exact rfl;exact rfl)))|(apply W.ed;(exact jAc))|(refine W.gOff _ _ rfl rfl (by intro h;cases h) ?_)|(apply yA)|(apply yB)|(refine jAe ?_)|(apply yE)|(apply yJ)|(apply yP)
    |(refine jBa ?_)))
   all_goals first | (exfalso;omega) | exact Ends.two rfl rfl rfl
 obtain ⟨hp,hg⟩ := h
 by_cases h40 : u.length ≤ 40
 case neg =>
  have e : sealN p g u = ([],1) := if_neg fun hh => h40 hh.2.2
  rw [e]
  rw [hp] at f1
  rw [hg] at f2
  (repeat' (first
   |(apply yFb;exact rfl;exact rfl)
   |(apply W.qd;(first
   |(exact zW (f1))|(exact zW (f2))|(exact zM)|(exact zN)|(exact jAn)|(exact q_gtr rfl rfl)|(exact jBg)|(exact jBl)
   |(apply (yDb (u := .d _));exact rfl;exact rfl)))|(apply W.ed;(exact jAc))|(apply yA)|(apply yB)|(apply (W.regionS 5);exact rfl;kernel_rfl)|(apply yE)|(apply yJ)|(apply yP)
   |(refine W.cond _ rfl (fun hb => ?_) (fun hb => ?_) <;> ((try simp only [hb,zK]) <;> (try simp only [zL,zI] at hb) <;> (try (exfalso;omega))))))
  all_goals first | (exfalso;omega) | exact Ends.two rfl rfl rfl
 have e : sealN p g u = (sealL p g u,0) := if_pos ⟨hp,hg,h40⟩
 have hbL := bodyL_isB (g := g) hp hub
 rw [e]
 rw [hp] at f1
 rw [hg] at f2
 obtain ⟨dk,a,ix,rfl,hdk,ha,hix⟩ := pl_nat hp
 obtain ⟨ep,ct,rfl,hep,hct⟩ := gn_nat hg
 unfold sealL
 rw [seal_parts] at hbL ⊢
 have c1 := A_number (x := ix) (k := 2) (by omega) (by omega)
 have c2 := A_number (x := ep) (k := 4) (by omega) (by omega)
 have c3 := A_number (x := ct) (k := 4) (by omega) (by omega)
 have n1 := leN_length ix 2
 have n2 := leN_length ep 4
 have n3 := leN_length ct 4
 generalize leN ix 2 = X1 at *
 generalize leN ep 4 = X2 at *
 generalize leN ct 4 = X3 at *
 have k1 : ([a,dk] ++ X1).length = 4 := by rw [List.length_append,n1];rfl
 have k2 : (([a,dk] ++ X1) ++ X2).length = 8 := by rw [List.length_append,n2,k1]
 obtain ⟨L3,e3,k3⟩ : ∃ L3,(([a,dk] ++ X1) ++ X2) ++ X3 = L3 ∧ L3.length = 12 := ⟨_,rfl,by rw [List.length_append,n3,k2]⟩
 have e3' : ∀ E : List Ent,setF E 2 (.row 3 1 5 (((([a,dk] ++ X1) ++ X2) ++ X3).map nD)) = setF E 2 (.row 3 1 5 (L3.map nD)) := fun E => by rw [e3]
 (repeat' (first
  |(apply yFb;exact rfl;exact rfl)|(apply W.ed;(apply (e_litO (es := [a,dk].map nD));(iterate 6 exact rfl);kernel_rfl;exact rfl;exact rfl))
  |(apply W.qd;(first
  |(exact zW (f1))|(exact zW (f2))|(exact zW (c1))|(exact zW (c2))|(exact zW (c3))|(exact zM)|(exact zN)|(exact jAr)|(exact jAm)|(exact jAn)|(exact q_gtr rfl rfl)|(exact jBg)|(exact jBl)|(apply (yDb (u := .d _));exact rfl;exact rfl)
  |(apply q_conv8;(iterate 3 exact rfl);(first | (with_reducible exact rfl) | exact natI_spec rfl | assumption | exact (Int.toNat_of_nonneg (by omega)).symm);omega)))
  |(apply W.ed;(first
  |((apply (e_appDm (q := 4) (l := [a,dk]) (l2 := X1));(iterate 8 exact rfl);(show 4 = 2 + X1.length;omega);(show 2 + X1.length ≤ _;omega)))
  |((apply (e_appDm (q := 8) (l := [a,dk] ++ X1) (l2 := X2));(iterate 7 exact rfl);exact k1.symm;omega;omega))
  |((apply (e_appDm (q := 12) (l := ([a,dk] ++ X1) ++ X2) (l2 := X3));(iterate 7 exact rfl);exact k2.symm;omega;omega))
  |(exact jAc)))|(apply yA)|(apply yB)|(apply (W.regionS 9);exact rfl;kernel_rfl)|(apply yE)|(apply yH)
  |(refine W.cond _ rfl (fun hb => ?_) (fun hb => ?_) <;> ((try simp only [hb,zK]) <;> (try simp only [zL,zI] at hb) <;> (try (exfalso;omega))))))
 all_goals try (exfalso;omega)
 show AWPG _ _ _ _ _ _ ⟨_,[_,_,.row 3 1 5 (((([a,dk] ++ X1) ++ X2) ++ X3).map nD)]⟩
 rw [e3] at hbL ⊢
 clear e3 e3'
 have k4 : (L3 ++ u).length = 12 + u.length := by rw [List.length_append,k3]
 (repeat' (first
  |(apply W.qd;(first
  |(exact zM)
  |(exact zN)))|(apply W.ed;((apply (e_appStr (q := 12 + u.length) (l2 := u));(iterate 7 exact rfl);exact k3.symm;omega;exact hub;omega)))|(apply yA)|(apply yB)|(apply (W.regionS 10);exact rfl;kernel_rfl)|(apply yE)
  |(apply yG)))
 generalize hL4 : L3 ++ u = L4 at *
 refine AWP.loopW (α := Nat) (fun j => j ≤ 40 - u.length) (fun j => ⟨[(10,.osl 2 (4 + j) 0 (12 + u.length + j)),(3,.opt 0 0),(4,.opt 1 0)],[.box [iV dk,iV a,iV ix],.box [iV ep,iV ct],.row (4 + j) 1 5 ((L4 ++ List.replicate j 0).map nD)]⟩) (fun j => 40 - u.length - j) 0 (Nat.zero_le _) ?wkA fun j hj => ?_
 case wkA =>
  rw [show List.replicate 0 0 = ([] : List Nat) from rfl,List.append_nil,← hL4]
  exact ⟨[0,1,2],rfl,rfl,rfl,by (repeat (first | exact trivial | refine ⟨rfl,?_⟩))⟩
 have k5 : (L4 ++ List.replicate j 0).length = 12 + u.length + j := by rw [List.length_append,k4,List.length_replicate]
 by_cases hjl : j < 40 - u.length
 ·have hs := rep_snoc L4 j
  generalize L4 ++ List.replicate j 0 = L at *
  (repeat' (first
   |(apply W.qd;(first
   |(exact zM)|(exact zN)|(exact jAj)|(exact q_len_osl rfl rfl rfl)
   |(exact jAl)))|(apply W.ed;((apply (e_appDm (q := 12 + u.length + j + 1) (l := L) (l2 := [0]));(iterate 7 exact rfl);exact k5.symm;(show _ = L.length + 1;omega);(show L.length + 1 ≤ _;omega))))|(apply yA)|(apply yB)|(refine jAe ?_)|(apply yE)|(apply yG)|(apply yH)|(apply yL)
   |(refine W.cond _ rfl (fun hb => ?_) (fun hb => ?_) <;> ((try simp only [hb,zK]) <;> (try simp only [zL,zI] at hb) <;> (try (exfalso;omega))))))
  all_goals first
   |(exfalso;omega)|(refine ⟨j + 1,by omega,by omega,?_⟩;(try dsimp only);rw [hs];exact ⟨[0,1,2],rfl,rfl,rfl,by (repeat (first | exact trivial | refine ⟨rfl,?_⟩))⟩)
 ·obtain rfl : j = 40 - u.length := by omega
  generalize L4 ++ List.replicate (40 - u.length) 0 = L at *
  have k6 : (L ++ X2).length = 12 + u.length + (40 - u.length) + 4 := by rw [List.length_append,k5,n2]
  have k7 : ((L ++ X2) ++ X3).length = 12 + u.length + (40 - u.length) + 8 := by rw [List.length_append,k6,n3]
  have c6 := A_rcrcOf hbL (by omega)
  have hcl := crcN_lt hbL
  generalize crcN ((L ++ X2) ++ X3) = c at *
  have c7 := A_number (x := c) (k := 4) (by omega) (by omega)
  have hcb := leN_isB c 4
  have hck := leN_length c 4
  generalize leN c 4 = C at *
  have hfz : ∀ (own own' : List Ent) (v n : Nat),own[2]? = some (.row v 1 5 (((L ++ X2) ++ X3).map nD)) → n = ((L ++ X2) ++ X3).length → same [2] own own' → AV.frzL own' [] [.osl 2 v 0 n] = [byts ((L ++ X2) ++ X3)] := fun own own' v n h1 hn h2 => congrArg (fun z => [z]) (frz_rowJ ((h2 2 (by simp)).trans h1) rfl (by rw [List.length_map];exact hn))
  (repeat' (first
   |(apply W.qd;(first
   |(exact zW (c2))|(exact zW (c3))|(exact zW (c7))
   |((apply (q_callF (js := [2]) c6);exact rfl;exact fun own' hh => hfz _ own' _ _ rfl k7.symm hh;exact rfl;kernel_rfl))
   |((apply (q_str_dat (l := C));(iterate 3 exact rfl);exact hcb))
   |((apply q_str_osl;(iterate 4 exact rfl);exact k7.symm;exact hbL))
   |((apply (q_cat (v := C ++ ((L ++ X2) ++ X3)));(iterate 3 exact rfl);omega))|(exact zM)|(exact zN)|(exact jAr)|(exact jAm)|(exact jAj)|(exact q_len_osl rfl rfl rfl)
   |(apply q_convI;(iterate 3 exact rfl);omega)))
   |(apply W.ed;(first
   |((apply (e_appDm (q := 12 + u.length + (40 - u.length) + 4) (l := L) (l2 := X2));(iterate 7 exact rfl);exact k5.symm;omega;omega))
   |((apply (e_appDm (q := 12 + u.length + (40 - u.length) + 8) (l := L ++ X2) (l2 := X3));(iterate 7 exact rfl);exact k6.symm;omega;omega))))|(apply yA)|(apply yB)|(refine jAe ?_)|(apply yE)|(apply yI)|(apply yJ)|(apply yK)|(apply yM)
   |(refine W.cond _ rfl (fun hb => ?_) (fun hb => ?_) <;> ((try simp only [hb,zK]) <;> (try simp only [zL,zI] at hb) <;> (try (exfalso;omega))))))
  all_goals first | (exfalso;omega) | exact Ends.two rfl rfl rfl
end
section
theorem lab_parts {s : List Nat} (h : s.length = 64) (hb : isB s) : ∃ (x4 x5 n6 n8 n12 n0 c : Nat) (t : Bool), x4 < 256 ∧ x5 < 256 ∧ n6 < 4294967296 ∧ n8 < 4294967296 ∧ n12 < 4294967296 ∧ n0 < 4294967296 ∧ c < 4294967296 ∧
 s[4]'(by omega) = x4 ∧ s[5]'(by omega) = x5 ∧ numN ((s.drop 6).take (8 - 6)) = n6 ∧ numN ((s.drop 8).take (12 - 8)) = n8 ∧ numN ((s.drop 12).take (16 - 12)) = n12 ∧ numN ((s.drop 0).take (4 - 0)) = n0 ∧ crcN ((s.drop 4).take (s.length - 4)) = c ∧ (!decide ((s.drop 8).take (16 - 8) = (s.drop 56).take (s.length - 56))) = t ∧
 labP s = ((x5 : Int),(x4 : Int),(n6 : Int)) ∧ labG s = ((n8 : Int),(n12 : Int)) ∧ labB s = (decide (n0 = c) && (plB ((x5 : Int),(x4 : Int),(n6 : Int)) && (gnB ((n8 : Int),(n12 : Int)) && !t))) := by
 have hg : ∀ i (hi : i < s.length),s.getD i 0 = s[i] := fun i hi => by rw [List.getD_eq_getElem?_getD,List.getElem?_eq_getElem hi];rfl
 have hn : ∀ a k,k ≤ 4 → numN ((s.drop a).take k) < 4294967296 := fun a k hk => by
  have h1 := num_lt (isB_sub hb a k)
  refine Nat.lt_of_lt_of_le h1 ?_
  have h2 : ((s.drop a).take k).length ≤ 4 := by rw [List.length_take];omega
  exact Nat.le_trans (Nat.pow_le_pow_right (by decide) h2) (by decide)
 have hd : (s.drop 4).take (s.length - 4) = s.drop 4 := List.take_of_length_le (by rw [List.length_drop];exact Nat.le_refl _)
 have h56 : (s.drop 56).take (s.length - 56) = cut s 56 64 := by rw [h];rfl
 refine ⟨_,_,_,_,_,_,_,_,hb _ (List.getElem_mem _),hb _ (List.getElem_mem _),hn 6 _ (by decide),hn 8 _ (by decide),hn 12 _ (by decide),hn 0 _ (by decide),?_,rfl,rfl,rfl,rfl,rfl,rfl,rfl,rfl,?_,rfl,?_⟩
 ·exact crcN_lt (isB_sub hb 4 _)
 ·unfold labP;rw [hg 5 (by omega),hg 4 (by omega)];rfl
 ·have e : labP s = (((s[5]'(by omega) : Nat) : Int), ((s[4]'(by omega) : Nat) : Int), ((numN ((s.drop 6).take (8 - 6)) : Nat) : Int)) := by unfold labP; rw [hg 5 (by omega), hg 4 (by omega)]; rfl
  unfold labB
  rw [e,hd,h56,Bool.not_not]
  rfl
attribute [local irreducible] Quiet Eff OpOk AWPG ACont ABlock ACalls AGoto
theorem A_label {s : List Nat} (hb2 : isB s) (hl : s.length ≤ 9223372036854775807) : ACalls Tryz.prog 141 [bS s] [] (.tup [pcA (lblP s),gnA (lblG s),iV (labE s)]) [] := by
 refine acalls_of_body Tryz.func141 rfl (zU rfl) ?_
 by_cases h : s.length = 64
 case neg =>
  have e : labE s = 1 := if_pos h
  unfold lblP lblG
  rw [e,if_neg (by decide),if_neg (by decide)]
  (repeat' (first
   |(apply W.qd;(first
   |(exact zM)|(exact zN)|(exact jAv)|(exact jBl)
   |(exact jBe)))|(apply W.ed;(exact jAq))|(apply W.ln;(exact jAh))|(apply yA)|(apply yB)|(apply (W.regionS 3);exact rfl;kernel_rfl)|(apply yE)|(apply yJ)|(apply yP)
   |(refine W.cond _ rfl (fun hb => ?_) (fun hb => ?_) <;> ((try simp only [hb,zK]) <;> (try simp only [zL,zI] at hb) <;> (try (exfalso;omega))))))
  all_goals first | (exfalso;omega) | exact Ends.cells3 rfl rfl rfl rfl rfl rfl rfl rfl
 obtain ⟨x4,x5,n6,n8,n12,n0,c,t,b4,b5,b6,b8,b12,b0,bc,g4,g5,g6,g8,g12,g0,gc,gt,eP,eG,eB⟩ := lab_parts h hb2
 have e : labE s = if labB s = true then 0 else 7 := if_neg (by omega)
 have q6 := A_get (s := (s.drop 6).take (8 - 6)) (isB_sub hb2 _ _) (by rw [List.length_take];omega)
 have q8 := A_get (s := (s.drop 8).take (12 - 8)) (isB_sub hb2 _ _) (by rw [List.length_take];omega)
 have q12 := A_get (s := (s.drop 12).take (16 - 12)) (isB_sub hb2 _ _) (by rw [List.length_take];omega)
 have q0 := A_get (s := (s.drop 0).take (4 - 0)) (isB_sub hb2 _ _) (by rw [List.length_take];omega)
 have qc := A_crcOf (l := (s.drop 4).take (s.length - 4)) (isB_sub hb2 _ _) (by rw [List.length_take];omega)
 have qP := A_svalid ((x5 : Int),(x4 : Int),(n6 : Int))
 have qG := A_validGen ((n8 : Int),(n12 : Int))
 rw [g6] at q6
 rw [g8] at q8
 rw [g12] at q12
 rw [g0] at q0
 rw [gc] at qc
 have hs1 := isB_sub hb2 8 (16 - 8)
 have hs2 := isB_sub hb2 56 (s.length - 56)
 unfold lblP lblG
 rw [e,eB,eP,eG]
 generalize plB ((x5 : Int),(x4 : Int),(n6 : Int)) = bP at *
 generalize gnB ((n8 : Int),(n12 : Int)) = bG at *
 have hn0 : decide (n0 = c) = true ↔ n0 = c := by rw [decide_eq_true_eq]
 generalize decide (n0 = c) = bc0 at *
 clear eP eG eB e
 subst g4 g5
 cases bc0 <;> cases bP <;> cases bG <;> cases t
 all_goals simp only [Bool.false_eq_true,false_iff,true_iff] at hn0
 all_goals
  (repeat' (first
   |(apply yFb;exact rfl;exact rfl)
   |(apply W.qd;(first
   |(exact zW (q6))|(exact zW (q8))|(exact zW (q12))|(exact zW (q0))|(exact zW (qc))|(exact zW (qP))|(exact zW (qG))
   |((apply q_neqSV;exact rfl;exact rfl;exact hs1;exact hs2;exact gt))|(exact zM)|(exact zN)|(exact jAn)|(exact jAv)|(exact jBg)|(exact jBl)|(exact jBe)|(exact jAk)|(apply (yEb (u := .d _));exact rfl;exact rfl)|(apply (yDb (u := .d _));exact rfl;exact rfl)|(apply q_convI;(iterate 3 exact rfl);omega)|(apply q_bytes;(iterate 3 exact rfl);(first | assumption | exact isB_sub (by assumption) _ _);(first | omega | (focus (simp only [List.length_map];omega)) | (focus (simp;done)) | (focus (simp;omega))))
   |(apply q_slc_bs;exact rfl;exact rfl;(first | exact ⟨_,_,rfl,rfl⟩ | exact ⟨_,_,rfl,natI_spec rfl⟩ | exact ⟨_,_,rfl,(Int.toNat_of_nonneg (by omega)).symm⟩ | exact rfl);(first | exact ⟨_,_,rfl,rfl⟩ | exact ⟨_,_,rfl,natI_spec rfl⟩ | exact ⟨_,_,rfl,(Int.toNat_of_nonneg (by omega)).symm⟩ | exact rfl);(first | omega | (focus (simp only [List.length_map];omega)) | (focus (simp;done)) | (focus (simp;omega)));(first | omega | (focus (simp only [List.length_map];omega)) | (focus (simp;done)) | (focus (simp;omega))))))|(apply W.ed;(exact jAq))|(apply W.ln;(exact jAh))|(refine W.gOff _ _ rfl rfl (by intro h;cases h) ?_)|(apply yA)|(apply yB)|(refine jAe ?_)|(refine jAs ?_)|(apply yE)|(refine jBc ?_)|(apply yH)|(apply yJ)|(apply yP)|(refine jBa ?_)|(refine jAw ?_)|(refine W.gF _ _ rfl rfl (fun hb => ?_) (fun hb => ?_) <;> ((try simp only [hb,zK]) <;> (try simp only [zL,zI] at hb) <;> (try (exfalso;omega))))
   |(refine W.cond _ rfl (fun hb => ?_) (fun hb => ?_) <;> ((try simp only [hb,zK]) <;> (try simp only [zL,zI] at hb) <;> (try (exfalso;omega))))))
  all_goals first | (exfalso;omega) | exact Ends.cells3 rfl rfl rfl rfl rfl rfl rfl rfl
theorem A_rlabel {s : List Nat} (hb2 : isB s) (hl : s.length ≤ 9223372036854775807) : ACalls Tryz.prog 143 [bS s] [] (.tup [pcA (lblP s),gnA (lblG s),iV (labE s)]) [] := by
 refine acalls_of_body Tryz.func143 rfl (zU rfl) ?_
 by_cases h : s.length = 64
 case neg =>
  have e : labE s = 1 := if_pos h
  unfold lblP lblG
  rw [e,if_neg (by decide),if_neg (by decide)]
  (repeat' (first
   |(apply W.qd;(first
   |(exact zM)|(exact zN)|(exact jAv)|(exact jBl)
   |(exact jBe)))|(apply W.ed;(exact jAq))|(apply W.ln;(exact jAh))|(apply yA)|(apply yB)|(apply (W.regionS 3);exact rfl;kernel_rfl)|(apply yE)|(apply yJ)|(apply yP)
   |(refine W.cond _ rfl (fun hb => ?_) (fun hb => ?_) <;> ((try simp only [hb,zK]) <;> (try simp only [zL,zI] at hb) <;> (try (exfalso;omega))))))
  all_goals first | (exfalso;omega) | exact Ends.cells3 rfl rfl rfl rfl rfl rfl rfl rfl
 obtain ⟨x4,x5,n6,n8,n12,n0,c,t,b4,b5,b6,b8,b12,b0,bc,g4,g5,g6,g8,g12,g0,gc,gt,eP,eG,eB⟩ := lab_parts h hb2
 have e : labE s = if labB s = true then 0 else 7 := if_neg (by omega)
 have q6 := A_read15 (s := (s.drop 6).take (8 - 6)) (isB_sub hb2 _ _) (by rw [List.length_take];omega)
 have q8 := A_read15 (s := (s.drop 8).take (12 - 8)) (isB_sub hb2 _ _) (by rw [List.length_take];omega)
 have q12 := A_read15 (s := (s.drop 12).take (16 - 12)) (isB_sub hb2 _ _) (by rw [List.length_take];omega)
 have q0 := A_read15 (s := (s.drop 0).take (4 - 0)) (isB_sub hb2 _ _) (by rw [List.length_take];omega)
 have qc := A_rcrcOf (l := (s.drop 4).take (s.length - 4)) (isB_sub hb2 _ _) (by rw [List.length_take];omega)
 have qP := A_rsvalid ((x5 : Int),(x4 : Int),(n6 : Int))
 have qG := A_right ((n8 : Int),(n12 : Int))
 rw [g6] at q6
 rw [g8] at q8
 rw [g12] at q12
 rw [g0] at q0
 rw [gc] at qc
 have hs1 := isB_sub hb2 8 (16 - 8)
 have hs2 := isB_sub hb2 56 (s.length - 56)
 unfold lblP lblG
 rw [e,eB,eP,eG]
 generalize plB ((x5 : Int),(x4 : Int),(n6 : Int)) = bP at *
 generalize gnB ((n8 : Int),(n12 : Int)) = bG at *
 have hn0 : decide (n0 = c) = true ↔ n0 = c := by rw [decide_eq_true_eq]
 generalize decide (n0 = c) = bc0 at *
 clear eP eG eB e
 subst g4 g5
 cases bc0 <;> cases bP <;> cases bG <;> cases t
 all_goals simp only [Bool.false_eq_true,false_iff,true_iff] at hn0
 all_goals
  (repeat' (first
   |(apply yFb;exact rfl;exact rfl)
   |(apply W.qd;(first
   |(exact zW (q6))|(exact zW (q8))|(exact zW (q12))|(exact zW (q0))|(exact zW (qc))|(exact zW (qP))|(exact zW (qG))
   |((apply q_neqSV;exact rfl;exact rfl;exact hs1;exact hs2;exact gt))|(exact zM)|(exact zN)|(exact jAn)|(exact jAv)|(exact jBg)|(exact jBl)|(exact jBe)|(exact jAk)|(apply (yEb (u := .d _));exact rfl;exact rfl)|(apply (yDb (u := .d _));exact rfl;exact rfl)|(apply q_convI;(iterate 3 exact rfl);omega)|(apply q_bytes;(iterate 3 exact rfl);(first | assumption | exact isB_sub (by assumption) _ _);(first | omega | (focus (simp only [List.length_map];omega)) | (focus (simp;done)) | (focus (simp;omega))))
   |(apply q_slc_bs;exact rfl;exact rfl;(first | exact ⟨_,_,rfl,rfl⟩ | exact ⟨_,_,rfl,natI_spec rfl⟩ | exact ⟨_,_,rfl,(Int.toNat_of_nonneg (by omega)).symm⟩ | exact rfl);(first | exact ⟨_,_,rfl,rfl⟩ | exact ⟨_,_,rfl,natI_spec rfl⟩ | exact ⟨_,_,rfl,(Int.toNat_of_nonneg (by omega)).symm⟩ | exact rfl);(first | omega | (focus (simp only [List.length_map];omega)) | (focus (simp;done)) | (focus (simp;omega)));(first | omega | (focus (simp only [List.length_map];omega)) | (focus (simp;done)) | (focus (simp;omega))))))|(apply W.ed;(exact jAq))|(apply W.ln;(exact jAh))|(refine W.gOff _ _ rfl rfl (by intro h;cases h) ?_)|(apply yA)|(apply yB)|(refine jAe ?_)|(refine jAs ?_)|(apply yE)|(refine jBc ?_)|(apply yH)|(apply yJ)|(apply yP)|(refine jBa ?_)|(refine jAw ?_)|(refine W.gF _ _ rfl rfl (fun hb => ?_) (fun hb => ?_) <;> ((try simp only [hb,zK]) <;> (try simp only [zL,zI] at hb) <;> (try (exfalso;omega))))
   |(refine W.cond _ rfl (fun hb => ?_) (fun hb => ?_) <;> ((try simp only [hb,zK]) <;> (try simp only [zL,zI] at hb) <;> (try (exfalso;omega))))))
  all_goals first | (exfalso;omega) | exact Ends.cells3 rfl rfl rfl rfl rfl rfl rfl rfl
theorem labE_len {s : List Nat} (h : labE s = 0) : s.length = 64 := Classical.byContradiction fun hn => by
 have : labE s = 1 := if_pos hn
 omega
theorem A_open {p : Pl} {s : List Nat} (hb2 : isB s) (hl : s.length ≤ 9223372036854775807) : ACalls Tryz.prog 82 [pcA p,bS s] [] (.tup [gnA (opnG p s),bS (opnU p s),iV (openE p s)]) [] := by
 refine acalls_of_body Tryz.func82 rfl (zU rfl) ?_
 have f1 := A_svalid p
 have fi : fldsInt Tryz.prog 81 = some [0,1,2] := by kernel_rfl
 by_cases hp : plB p = true
 case neg =>
  have e : openE p s = 1 := if_neg hp
  unfold opnG opnU
  rw [e,if_neg (by decide),if_neg (by decide)]
  rw [Bool.eq_false_iff.2 hp] at f1
  (repeat' (first
   |(apply W.qd;(first
   |(exact zW (f1))|(exact zN)|(exact jAn)|(exact jBg)
   |(exact jBe)))
   |(apply W.ed;(first
   |(exact jAc)
   |(exact jAq)))|(apply W.ln;(exact jAh))|(apply yA)|(apply yB)|(refine jAe ?_)|(apply yE)|(apply yJ)|(apply yP)
   |(refine jBa ?_)))
  all_goals first | (exfalso;omega) | exact Ends.cell12 rfl rfl rfl rfl rfl rfl
 rw [hp] at f1
 have f2 := A_label hb2 hl
 have e : openE p s = if labE s ≠ 0 then labE s else if labP s = p then 0 else 8 := if_pos hp
 by_cases he : labE s = 0
 case neg =>
  rw [if_pos he] at e
  unfold opnG opnU
  rw [e,if_neg he,if_neg he]
  generalize labE s = E at *
  generalize lblP s = Q at *
  generalize lblG s = G at *
  (repeat' (first
   |(apply W.qd;(first
   |(exact zW (f1))|(exact zW (f2))|(exact zM)|(exact zN)|(exact jAn)|(exact jAv)|(exact jBg)|(exact jBd)
   |(exact jBe)))
   |(apply W.ed;(first
   |(exact jAc)
   |(exact jAq)))|(apply W.ln;(exact jAh))|(apply yA)|(apply yB)|(refine jAe ?_)|(apply yE)|(apply yG)|(apply yH)|(apply yJ)|(apply yP)|(apply yN)|(refine jAw ?_)
   |(refine W.cond _ rfl (fun hb => ?_) (fun hb => ?_) <;> ((try simp only [hb,zK]) <;> (try simp only [zL,zI] at hb) <;> (try (exfalso;omega))))))
  all_goals first | (exfalso;omega) | exact Ends.cell12 rfl rfl rfl rfl rfl rfl
 have hlen := labE_len he
 rw [if_neg (by omega)] at e
 have hP : lblP s = labP s := if_pos he
 have hG : lblG s = labG s := if_pos he
 rw [he,hP,hG] at f2
 have f3 := A_sclone (l := (s.drop 16).take (56 - 16)) (by rw [List.length_take];omega)
 have f3 : ACalls Tryz.prog 142 [bS ((s.drop 16).take (56 - 16))] [] (bS (cut s 16 56)) [] := f3
 by_cases hq : labP s = p
 ·rw [if_pos hq] at e
  unfold opnG opnU
  rw [e,if_pos rfl,if_pos rfl]
  have hc : decide (labP s = p) = true := decide_eq_true hq
  generalize labP s = Q at *
  generalize labG s = G at *
  generalize cut s 16 56 = U at *
  (repeat' (first
   |(apply W.qd;(first
   |(exact zW (f1))|(exact zW (f2))|(exact zW (f3))
   |((apply (q_nesI (b := true) fi);(iterate 4 exact rfl);exact eq_pl _ _ hc))|(exact zM)|(exact zN)|(exact jAn)|(exact jAv)|(exact jBg)|(exact jBd)
   |(apply q_slc_bs;exact rfl;exact rfl;(first | exact ⟨_,_,rfl,rfl⟩ | exact ⟨_,_,rfl,natI_spec rfl⟩ | exact ⟨_,_,rfl,(Int.toNat_of_nonneg (by omega)).symm⟩ | exact rfl);(first | exact ⟨_,_,rfl,rfl⟩ | exact ⟨_,_,rfl,natI_spec rfl⟩ | exact ⟨_,_,rfl,(Int.toNat_of_nonneg (by omega)).symm⟩ | exact rfl);(first | omega | (focus (simp only [List.length_map];omega)) | (focus (simp;done)) | (focus (simp;omega)));(first | omega | (focus (simp only [List.length_map];omega)) | (focus (simp;done)) | (focus (simp;omega))))))
   |(apply W.ed;(first
   |(exact jAc)
   |(exact jAq)))|(apply W.ln;(exact jAh))|(apply yA)|(apply yB)|(refine jAe ?_)|(refine jAs ?_)|(apply yE)|(refine jBc ?_)|(apply yG)|(apply yH)|(apply yJ)|(apply yL)
   |(refine jAw ?_)))
  all_goals first | (exfalso;omega) | exact Ends.cell12 rfl rfl rfl rfl rfl rfl
 ·rw [if_neg hq] at e
  unfold opnG opnU
  rw [e,if_neg (by decide),if_neg (by decide)]
  have hc : decide (labP s = p) = false := decide_eq_false hq
  generalize labP s = Q at *
  generalize labG s = G at *
  (repeat' (first
   |(apply W.qd;(first
   |(exact zW (f1))|(exact zW (f2))
   |((apply (q_nesI (b := false) fi);(iterate 4 exact rfl);exact eq_pl _ _ hc))|(exact zM)|(exact zN)|(exact jAn)|(exact jAv)|(exact jBg)|(exact jBd)
   |(exact jBe)))
   |(apply W.ed;(first
   |(exact jAc)
   |(exact jAq)))|(apply W.ln;(exact jAh))|(apply yA)|(apply yB)|(refine jAe ?_)|(apply yE)|(apply yG)|(apply yH)|(apply yJ)|(apply yP)|(apply yN)|(refine jBa ?_)
   |(refine jAw ?_)))
  all_goals first | (exfalso;omega) | exact Ends.cell12 rfl rfl rfl rfl rfl rfl
theorem A_ropen {p : Pl} {s : List Nat} (hb2 : isB s) (hl : s.length ≤ 9223372036854775807) : ACalls Tryz.prog 83 [pcA p,bS s] [] (.tup [gnA (opnG p s),bS (opnU p s),iV (openE p s)]) [] := by
 refine acalls_of_body Tryz.func83 rfl (zU rfl) ?_
 have f1 := A_rsvalid p
 have fi : fldsInt Tryz.prog 81 = some [0,1,2] := by kernel_rfl
 by_cases hp : plB p = true
 case neg =>
  have e : openE p s = 1 := if_neg hp
  unfold opnG opnU
  rw [e,if_neg (by decide),if_neg (by decide)]
  rw [Bool.eq_false_iff.2 hp] at f1
  (repeat' (first
   |(apply W.qd;(first
   |(exact zW (f1))|(exact zM)|(exact zN)|(exact jAn)|(exact jBg)
   |(exact jBe)))
   |(apply W.ed;(first
   |(exact jAc)
   |(exact jAq)))|(apply W.ln;(exact jAh))|(apply yA)|(apply yB)|(refine jAe ?_)|(apply yE)|(apply yJ)|(apply yP)
   |(refine jBa ?_)))
  all_goals first | (exfalso;omega) | exact Ends.cell12 rfl rfl rfl rfl rfl rfl
 rw [hp] at f1
 have f2 := A_rlabel hb2 hl
 have e : openE p s = if labE s ≠ 0 then labE s else if labP s = p then 0 else 8 := if_pos hp
 by_cases he : labE s = 0
 case neg =>
  rw [if_pos he] at e
  unfold opnG opnU
  rw [e,if_neg he,if_neg he]
  generalize labE s = E at *
  generalize lblP s = Q at *
  generalize lblG s = G at *
  (repeat' (first
   |(apply W.qd;(first
   |(exact zW (f1))|(exact zW (f2))|(exact zM)|(exact zN)|(exact jAn)|(exact jAv)|(exact jBg)|(exact jBd)
   |(exact jBe)))
   |(apply W.ed;(first
   |(exact jAc)
   |(exact jAq)))|(apply W.ln;(exact jAh))|(apply yA)|(apply yB)|(refine jAe ?_)|(apply yE)|(apply yH)|(apply yJ)|(apply yP)|(refine jAw ?_)
   |(refine W.cond _ rfl (fun hb => ?_) (fun hb => ?_) <;> ((try simp only [hb,zK]) <;> (try simp only [zL,zI] at hb) <;> (try (exfalso;omega))))))
  all_goals first | (exfalso;omega) | exact Ends.cell12 rfl rfl rfl rfl rfl rfl
 have hlen := labE_len he
 rw [if_neg (by omega)] at e
 have hP : lblP s = labP s := if_pos he
 have hG : lblG s = labG s := if_pos he
 rw [he,hP,hG] at f2
 by_cases hq : labP s = p
 ·rw [if_pos hq] at e
  unfold opnG opnU
  rw [e,if_pos rfl,if_pos rfl]
  have hc : decide (labP s = p) = true := decide_eq_true hq
  generalize labP s = Q at *
  generalize labG s = G at *
  (repeat' (first
   |(apply W.qd;(first
   |(exact zW (f1))|(exact zW (f2))
   |((apply (q_nesI (b := true) fi);(iterate 4 exact rfl);exact eq_pl _ _ hc))|(exact zM)|(exact zN)|(exact jAn)|(exact jAv)|(exact jBg)|(exact jBd)
   |(apply q_slc_bs;exact rfl;exact rfl;(first | exact ⟨_,_,rfl,rfl⟩ | exact ⟨_,_,rfl,natI_spec rfl⟩ | exact ⟨_,_,rfl,(Int.toNat_of_nonneg (by omega)).symm⟩ | exact rfl);(first | exact ⟨_,_,rfl,rfl⟩ | exact ⟨_,_,rfl,natI_spec rfl⟩ | exact ⟨_,_,rfl,(Int.toNat_of_nonneg (by omega)).symm⟩ | exact rfl);(first | omega | (focus (simp only [List.length_map];omega)) | (focus (simp;done)) | (focus (simp;omega)));(first | omega | (focus (simp only [List.length_map];omega)) | (focus (simp;done)) | (focus (simp;omega))))))
   |(apply W.ed;(first
   |(exact jAc)
   |(exact jAq)))|(apply W.ln;(exact jAh))|(apply yA)|(apply yB)|(refine jAe ?_)|(refine jAs ?_)|(apply yE)|(refine jBc ?_)|(apply yH)|(apply yJ)
   |(refine jAw ?_)))
  all_goals first | (exfalso;omega) | exact Ends.cell12 rfl rfl rfl rfl rfl rfl
 ·rw [if_neg hq] at e
  unfold opnG opnU
  rw [e,if_neg (by decide),if_neg (by decide)]
  have hc : decide (labP s = p) = false := decide_eq_false hq
  generalize labP s = Q at *
  generalize labG s = G at *
  (repeat' (first
   |(apply W.qd;(first
   |(exact zW (f1))|(exact zW (f2))
   |((apply (q_nesI (b := false) fi);(iterate 4 exact rfl);exact eq_pl _ _ hc))|(exact zM)|(exact zN)|(exact jAn)|(exact jAv)|(exact jBg)|(exact jBd)
   |(exact jBe)))
   |(apply W.ed;(first
   |(exact jAc)
   |(exact jAq)))|(apply W.ln;(exact jAh))|(apply yA)|(apply yB)|(refine jAe ?_)|(apply yE)|(apply yH)|(apply yJ)|(apply yP)|(refine jBa ?_)
   |(refine jAw ?_)))
  all_goals first | (exfalso;omega) | exact Ends.cell12 rfl rfl rfl rfl rfl rfl
theorem opn_len {p : Pl} {s : List Nat} (h : openE p s = 0) : (cut s 16 56).length = 40 := by
 refine cut_length ?_ (by decide)
 unfold openE at h
 split at h
 ·split at h
  ·rename_i h1 h2;exact absurd h h2
  ·rename_i h1 h2
   have := labE_len (Classical.byContradiction fun hn => h2 hn)
   omega
 ·exact absurd h (by decide)
theorem cut_cut (s : List Nat) : ((cut s 16 56).drop 0).take (32 - 0) = cut s 16 48 := by
 unfold cut
 rw [List.drop_zero,List.take_take]
 rfl
theorem A_state {p : Pl} {g : Gn} {s : List Nat} {r : Bool} (hb2 : isB s) (hl : s.length ≤ 9223372036854775807) : ACalls Tryz.prog 35 [pcA p,gnA g,bS s,bV r] [] (.tup [iV (staN p g s r).1,bS (staN p g s r).2]) [] := by
 refine acalls_of_body Tryz.func35 rfl (zU rfl) ?_
 have f1 := A_open (p := p) hb2 hl
 have fi : fldsInt Tryz.prog 83 = some [0,1] := by kernel_rfl
 cases r with
 | false =>
   have e : staN p g s false = (2,[]) := rfl
   rw [e]
   (repeat' (first
    |(apply W.qd;(first
    |(exact zM)|(exact zN)
    |(exact jBg)))|(apply W.ed;(exact jAc))|(apply yA)|(apply yB)|(refine jAe ?_)|(apply yE)|(apply yJ)|(apply yP)
    |(refine jBa ?_)))
   all_goals first | (exfalso;omega) | exact Ends.two rfl rfl rfl
 | true =>
 have e : staN p g s true = if openE p s = 0 ∧ labG s = g then (1,cut s 16 48) else (3,[]) := rfl
 unfold opnG opnU at f1
 by_cases he : openE p s = 0
 case neg =>
  rw [if_neg fun h => he h.1] at e
  rw [e]
  rw [if_neg he,if_neg he] at f1
  generalize openE p s = E at *
  (repeat' (first
   |(apply W.qd;(first
   |(exact zW (f1))|(exact zM)|(exact zN)|(exact jAn)|(exact jAv)|(exact jBg)|(exact jBd)
   |(apply (yEb (u := .d _));exact rfl;exact rfl)))
   |(apply W.ed;(first
   |(exact jAc)
   |(exact jAq)))|(apply W.ln;(exact jAh))|(refine W.gOff _ _ rfl rfl (by intro h;cases h) ?_)|(apply yA)|(apply yB)|(refine jAe ?_)|(apply yE)|(apply yH)|(apply yJ)|(apply yP)|(refine jBa ?_)|(refine jAw ?_)
   |(refine W.gF _ _ rfl rfl (fun hb => ?_) (fun hb => ?_) <;> ((try simp only [hb,zK]) <;> (try simp only [zL,zI] at hb) <;> (try (exfalso;omega))))))
  all_goals first | (exfalso;omega) | exact Ends.two rfl rfl rfl
 have hu := opn_len he
 have hcc := cut_cut s
 rw [he,if_pos rfl,if_pos rfl] at f1
 by_cases hq : labG s = g
 ·rw [if_pos ⟨he, hq⟩, ← hcc] at e
  rw [e]
  have hc : decide (labG s = g) = true := decide_eq_true hq
  generalize labG s = G at *
  generalize cut s 16 56 = U at *
  (repeat' (first
   |(apply yFb;exact rfl;exact rfl)
   |(apply W.qd;(first
   |(exact zW (f1))
   |((apply (q_nesI (b := true) fi);(iterate 4 exact rfl);exact eq_gn _ _ hc))|(exact zM)|(exact zN)|(exact jAn)|(exact jAv)|(exact jBg)|(exact jBd)|(apply (yDb (u := .d _));exact rfl;exact rfl)
   |(apply q_slc_bs;exact rfl;exact rfl;(first | exact ⟨_,_,rfl,rfl⟩ | exact ⟨_,_,rfl,natI_spec rfl⟩ | exact ⟨_,_,rfl,(Int.toNat_of_nonneg (by omega)).symm⟩ | exact rfl);(first | exact ⟨_,_,rfl,rfl⟩ | exact ⟨_,_,rfl,natI_spec rfl⟩ | exact ⟨_,_,rfl,(Int.toNat_of_nonneg (by omega)).symm⟩ | exact rfl);(first | omega | (focus (simp only [List.length_map];omega)) | (focus (simp;done)) | (focus (simp;omega)));(first | omega | (focus (simp only [List.length_map];omega)) | (focus (simp;done)) | (focus (simp;omega))))))
   |(apply W.ed;(first
   |(exact jAc)
   |(exact jAq)))|(apply W.ln;(exact jAh))|(apply yA)|(apply yB)|(refine jAe ?_)|(refine jAs ?_)|(apply yE)|(refine jBc ?_)|(apply yH)|(apply yJ)
   |(refine jAw ?_)))
  all_goals first | (exfalso;omega) | exact Ends.two rfl rfl rfl
 ·rw [if_neg fun h => hq h.2] at e
  rw [e]
  have hc : decide (labG s = g) = false := decide_eq_false hq
  generalize labG s = G at *
  generalize cut s 16 56 = U at *
  (repeat' (first
   |(apply yFb;exact rfl;exact rfl)
   |(apply W.qd;(first
   |(exact zW (f1))
   |((apply (q_nesI (b := false) fi);(iterate 4 exact rfl);exact eq_gn _ _ hc))|(exact zM)|(exact zN)|(exact jAn)|(exact jAv)|(exact jBg)|(exact jBd)
   |(apply (yDb (u := .d _));exact rfl;exact rfl)))
   |(apply W.ed;(first
   |(exact jAc)
   |(exact jAq)))|(apply W.ln;(exact jAh))|(apply yA)|(apply yB)|(refine jAe ?_)|(apply yE)|(apply yH)|(apply yJ)|(apply yP)|(refine jBa ?_)
   |(refine jAw ?_)))
  all_goals first | (exfalso;omega) | exact Ends.two rfl rfl rfl
theorem A_rstate {p : Pl} {g : Gn} {s : List Nat} {r : Bool} (hb2 : isB s) (hl : s.length ≤ 9223372036854775807) : ACalls Tryz.prog 36 [pcA p,gnA g,bS s,bV r] [] (.tup [iV (staN p g s r).1,bS (staN p g s r).2]) [] := by
 refine acalls_of_body Tryz.func36 rfl (zU rfl) ?_
 have f1 := A_ropen (p := p) hb2 hl
 have fi : fldsInt Tryz.prog 83 = some [0,1] := by kernel_rfl
 cases r with
 | false =>
   have e : staN p g s false = (2,[]) := rfl
   rw [e]
   (repeat' (first
    |(apply W.qd;(first
    |(exact zM)|(exact zN)
    |(exact jBg)))|(apply W.ed;(exact jAc))|(apply yA)|(apply yB)|(refine jAe ?_)|(apply yE)|(apply yJ)|(apply yP)
    |(refine jBa ?_)))
   all_goals first | (exfalso;omega) | exact Ends.two rfl rfl rfl
 | true =>
 have e : staN p g s true = if openE p s = 0 ∧ labG s = g then (1,cut s 16 48) else (3,[]) := rfl
 unfold opnG opnU at f1
 by_cases he : openE p s = 0
 case neg =>
  rw [if_neg fun h => he h.1] at e
  rw [e]
  rw [if_neg he,if_neg he] at f1
  generalize openE p s = E at *
  (repeat' (first
   |(apply W.qd;(first
   |(exact zW (f1))|(exact zM)|(exact zN)|(exact jAn)|(exact jAv)|(exact jBg)|(exact jBd)
   |(apply (yEb (u := .d _));exact rfl;exact rfl)))
   |(apply W.ed;(first
   |(exact jAc)
   |(exact jAq)))|(apply W.ln;(exact jAh))|(refine W.gOff _ _ rfl rfl (by intro h;cases h) ?_)|(apply yA)|(apply yB)|(refine jAe ?_)|(apply yE)|(apply yH)|(apply yJ)|(apply yP)|(refine jBa ?_)|(refine jAw ?_)
   |(refine W.gF _ _ rfl rfl (fun hb => ?_) (fun hb => ?_) <;> ((try simp only [hb,zK]) <;> (try simp only [zL,zI] at hb) <;> (try (exfalso;omega))))))
  all_goals first | (exfalso;omega) | exact Ends.two rfl rfl rfl
 have hu := opn_len he
 have hcc := cut_cut s
 rw [he,if_pos rfl,if_pos rfl] at f1
 by_cases hq : labG s = g
 ·rw [if_pos ⟨he, hq⟩, ← hcc] at e
  rw [e]
  have hc : decide (labG s = g) = true := decide_eq_true hq
  generalize labG s = G at *
  generalize cut s 16 56 = U at *
  (repeat' (first
   |(apply yFb;exact rfl;exact rfl)
   |(apply W.qd;(first
   |(exact zW (f1))
   |((apply (q_nesI (b := true) fi);(iterate 4 exact rfl);exact eq_gn _ _ hc))|(exact zM)|(exact zN)|(exact jAn)|(exact jAv)|(exact jBg)|(exact jBd)|(apply (yDb (u := .d _));exact rfl;exact rfl)
   |(apply q_slc_bs;exact rfl;exact rfl;(first | exact ⟨_,_,rfl,rfl⟩ | exact ⟨_,_,rfl,natI_spec rfl⟩ | exact ⟨_,_,rfl,(Int.toNat_of_nonneg (by omega)).symm⟩ | exact rfl);(first | exact ⟨_,_,rfl,rfl⟩ | exact ⟨_,_,rfl,natI_spec rfl⟩ | exact ⟨_,_,rfl,(Int.toNat_of_nonneg (by omega)).symm⟩ | exact rfl);(first | omega | (focus (simp only [List.length_map];omega)) | (focus (simp;done)) | (focus (simp;omega)));(first | omega | (focus (simp only [List.length_map];omega)) | (focus (simp;done)) | (focus (simp;omega))))))
   |(apply W.ed;(first
   |(exact jAc)
   |(exact jAq)))|(apply W.ln;(exact jAh))|(apply yA)|(apply yB)|(refine jAe ?_)|(refine jAs ?_)|(apply yE)|(refine jBc ?_)|(apply yH)|(apply yJ)
   |(refine jAw ?_)))
  all_goals first | (exfalso;omega) | exact Ends.two rfl rfl rfl
 ·rw [if_neg fun h => hq h.2] at e
  rw [e]
  have hc : decide (labG s = g) = false := decide_eq_false hq
  generalize labG s = G at *
  generalize cut s 16 56 = U at *
  (repeat' (first
   |(apply yFb;exact rfl;exact rfl)
   |(apply W.qd;(first
   |(exact zW (f1))
   |((apply (q_nesI (b := false) fi);(iterate 4 exact rfl);exact eq_gn _ _ hc))|(exact zM)|(exact zN)|(exact jAn)|(exact jAv)|(exact jBg)|(exact jBd)
   |(apply (yDb (u := .d _));exact rfl;exact rfl)))
   |(apply W.ed;(first
   |(exact jAc)
   |(exact jAq)))|(apply W.ln;(exact jAh))|(apply yA)|(apply yB)|(refine jAe ?_)|(apply yE)|(apply yH)|(apply yJ)|(apply yP)|(refine jBa ?_)
   |(refine jAw ?_)))
  all_goals first | (exfalso;omega) | exact Ends.two rfl rfl rfl
end
section
def decL (M D : Nat) (ps us : List (List Nat)) (hv : List Bool) (W : Nat) : List (List Nat) := (List.range W).map fun i => (recN M D ps us hv i).getD []
def decS (M D : Nat) (ps us : List (List Nat)) (hv : List Bool) : AV := if allN M D ps us hv = true then .tup [strs (decL M D ps us hv (D + ps.length)),iV 0] else .tup [strs [],iV 11]
theorem allS_map {α β : Type} {C : Nat → Option α} {f : α → β} (k : Nat) : allS (fun i => (C i).map f) k = allS C k := by
 unfold allS
 congr 1
 funext i
 show ((C i).map f).isSome = (C i).isSome
 cases C i <;> rfl
theorem dec_parts {M D : Nat} {ps us : List (List Nat)} {hv : List Bool} (h : SrcOk M D ps us hv) : ∃ (q : Nat) (ls : Nat → List (Nat × Nat)),q ≤ D + ps.length ∧ (∀ i,i < q → combN M D ps hv i = some (ls i) ∧ TermsIn M 32 us (ls i)) ∧ (q < D + ps.length → combN M D ps hv q = none) ∧ decR M 32 us ls (D + ps.length) q = decS M D ps us hv := by
 obtain ⟨q,q1,q2,q3,q4⟩ := first_none (combN M D ps hv) (D + ps.length)
 refine ⟨q,fun i => (combN M D ps hv i).getD [],q1,fun i hi => ?_,q3,?_⟩
 ·obtain ⟨l, hl⟩ := Option.isSome_iff_exists.1 (q2 i hi)
  refine ⟨?_,?_⟩
  ·show combN M D ps hv i = some ((combN M D ps hv i).getD [])
   rw [hl];rfl
  ·show TermsIn M 32 us ((combN M D ps hv i).getD [])
   rw [hl];exact h.terms (u := i) (by omega) hl
 ·have e : allN M D ps us hv = decide (q = D + ps.length) := by
   rw [← q4]
   unfold allN recN
   exact allS_map _
  unfold decR decS
  rw [e]
  by_cases hq : q < D + ps.length
  ·rw [if_pos hq,decide_eq_false (by omega),if_neg (by decide)]
  ·rw [if_neg hq, decide_eq_true (by omega), if_pos rfl]
   have e2 : (List.range (D + ps.length)).map (fun i => sumN M 32 us ((combN M D ps hv i).getD [])) = decL M D ps us hv (D + ps.length) := by
    unfold decL
    apply List.map_congr_left
    intro i hi
    have hi := List.mem_range.1 hi
    obtain ⟨l,hl⟩ := Option.isSome_iff_exists.1 (q2 i (by omega))
    unfold recN
    rw [hl];rfl
   rw [← e2]
theorem A_edecS {M D : Nat} {ps us : List (List Nat)} {hv : List Bool} (h : SrcOk M D ps us hv) : ACalls Tryz.prog 206 [cdN M D ps,strs us,bools hv] [] (decS M D ps us hv) [] := by
 obtain ⟨q,ls,q1,q2,q3,e⟩ := dec_parts h
 rw [← e]
 exact A_decode h.c h.ul h.hl (fun x hx => (h.b x hx).2) h.fit (fit32 h.c.f) (by omega) q1 q2 q3
theorem decL_take {M D : Nat} {ps us : List (List Nat)} {hv : List Bool} {W : Nat} (hW : D ≤ W) : ((decL M D ps us hv W).drop 0).take (D - 0) = (List.range D).map fun i => (recN M D ps us hv i).getD [] := by
 unfold decL
 rw [List.drop_zero,Nat.sub_zero,← List.map_take,List.take_range,Nat.min_eq_left hW]
theorem wrd_props {M D : Nat} {ps us : List (List Nat)} {hv : List Bool} (h : SrcOk M D ps us hv) (ha : allN M D ps us hv = true) : (wrdN M D ps us hv).length = D + ps.length ∧ ∀ u ∈ wrdN M D ps us hv,isB u ∧ u.length = 32 := by
 obtain ⟨w1,w2⟩ := wrd_data h.c h ha
 unfold wrdN
 exact ⟨by rw [encN_length,w1],encN_ok h.c w1 w2 (fit32 h.c.f)⟩
theorem agrT_mono {w us : List (List Nat)} {hv : List Bool} {i k : Nat} (hik : i ≤ k) (h : agrT w us hv i = false) : agrT w us hv k = false := by
 rw [Bool.eq_false_iff] at h ⊢
 intro hk
 exact h (agrT_iff.2 fun j hj => (agrT_iff.1 hk) j (by omega))
def canR (M D : Nat) (ps us : List (List Nat)) (hv : List Bool) : AV := .tup [strs (if allN M D ps us hv = true then wrdN M D ps us hv else []),bV (conN M D ps us hv),iV (if allN M D ps us hv = true then 0 else 11)]
attribute [local irreducible] Quiet Eff OpOk AWPG ACont ABlock ACalls AGoto
theorem A_cand {M D : Nat} {ps us : List (List Nat)} {hv : List Bool} (h : SrcOk M D ps us hv) : ACalls Tryz.prog 144 [cdN M D ps,strs us,bools hv] [] (canR M D ps us hv) [] := by
 refine acalls_of_body Tryz.func144 rfl (zU rfl) ?_
 have h1 := h.c.d
 have h2 := h.c.w
 have hul := h.ul
 have hhl := h.hl
 have hub := h.b
 have fd := A_edecS h
 have hmh : (hv.map tD).length = hv.length := List.length_map _
 have hmu : (us.map sD).length = us.length := List.length_map _
 unfold decS at fd
 unfold canR conN
 cases ha : allN M D ps us hv with
 | false =>
   rw [ha,if_neg (by decide)] at fd
   rw [if_neg (by decide),if_neg (by decide),Bool.false_and]
   (repeat' (first
    |(apply W.qd;(first
    |(exact zW (fd))|(exact zM)|(exact zN)|(exact jAn)|(exact jAv)
    |(exact jBd)))|(apply W.ed;(exact jAc))|(apply yA)|(apply yB)|(refine jAe ?_)|(apply yE)|(apply yJ)|(apply yP)
    |(refine jBa ?_)))
   all_goals first
    |(exfalso;omega)
    |exact ⟨.inl rfl,[],[.d (.v (.slice none 0 0)),bV false,iV 11],rfl,⟨rfl,rfl,rfl,trivial⟩,AVle.tup ⟨AVle.nil 1,AVle.of_eq rfl,AVle.of_eq rfl,trivial⟩,rfl⟩
 | true =>
 rw [ha,if_pos rfl] at fd
 rw [if_pos rfl,if_pos rfl,Bool.true_and]
 obtain ⟨d1,d2⟩ := wrd_data h.c h ha
 have fe := A_encode h.c d1 d2 (by omega) (fit32 h.c.f)
 have hdt := decL_take (M := M) (D := D) (ps := ps) (us := us) (hv := hv) (W := D + ps.length) (by omega)
 obtain ⟨w1,w2⟩ := wrd_props h ha
 have hw : encN M ps ((List.range D).map fun i => (recN M D ps us hv i).getD []) = wrdN M D ps us hv := rfl
 rw [hw,← hdt] at fe
 have hdl : (decL M D ps us hv (D + ps.length)).length = D + ps.length := by simp [decL]
 generalize (decL M D ps us hv (D + ps.length)) = X at *
 unfold agrN
 have hst := agrT_succ (wrdN M D ps us hv) us hv
 have hmo := fun i k => agrT_mono (w := wrdN M D ps us hv) (us := us) (hv := hv) (i := i) (k := k)
 have h0 : agrT (wrdN M D ps us hv) us hv 0 = true := rfl
 generalize agrT (wrdN M D ps us hv) us hv = G at *
 generalize wrdN M D ps us hv = w at *
 have hmw : (w.map sD).length = w.length := List.length_map _
 clear hw hdt d1 d2 ha h
 (repeat' (first
  |(apply W.qd;(first
  |(exact zW (fd))|(exact zW (fe))|(exact zM)|(exact zN)|(exact jAr)|(exact jAm)|(exact jAn)|(exact jAv)|(exact jBd)|(exact jB)
  |(apply q_slc_map;exact rfl;exact rfl;(first | exact ⟨_,_,rfl,rfl⟩ | exact ⟨_,_,rfl,natI_spec rfl⟩ | exact ⟨_,_,rfl,(Int.toNat_of_nonneg (by omega)).symm⟩ | exact rfl);(first | exact ⟨_,_,rfl,rfl⟩ | exact ⟨_,_,rfl,natI_spec rfl⟩ | exact ⟨_,_,rfl,(Int.toNat_of_nonneg (by omega)).symm⟩ | exact rfl);(first | omega | (focus (simp only [List.length_map];omega)) | (focus (simp;done)) | (focus (simp;omega)));(first | omega | (focus (simp only [List.length_map];omega)) | (focus (simp;done)) | (focus (simp;omega)));exact Or.inl rfl)))|(apply W.ed;(exact jAc))|(apply yA)|(apply yB)|(apply (W.regionS 8);exact rfl;kernel_rfl)|(apply (W.regionDS 8);exact rfl;exact rfl;kernel_rfl)|(apply yE)|(refine jBc ?_)|(apply yG)|(apply yH)
  |(refine jAw ?_)))
 all_goals try (exfalso;omega)
 refine AWP.loopW (α := Nat) (fun i => i ≤ hv.length ∧ G i = true) (fun i => ⟨[(38,iV i),(37,iV hv.length),(36,bools hv),(11,strs w),(1,strs us)],[]⟩) (fun i => hv.length - i) 0 ⟨Nat.zero_le _,h0⟩ ?wkA fun i hi => ?_
 case wkA => exact ⟨[],rfl,rfl,rfl,rfl,iV_eq (by rw [hmh]),rfl,rfl,rfl,trivial⟩
 by_cases hil : i < hv.length
 ·have hiw : i < w.length := by omega
  have hiu : i < us.length := by omega
  have hs := hst i
  have eg : hv.getD i false = hv[i] := by rw [List.getD_eq_getElem?_getD,List.getElem?_eq_getElem hil];rfl
  have ew : w.getD i [] = w[i] := by rw [List.getD_eq_getElem?_getD,List.getElem?_eq_getElem hiw];rfl
  have eu : us.getD i [] = us[i] := by rw [List.getD_eq_getElem?_getD,List.getElem?_eq_getElem hiu];rfl
  rw [eg,ew,eu,hi.2,Bool.true_and] at hs
  have b1 := (w2 _ (List.getElem_mem hiw)).1
  have b2 := (hub _ (List.getElem_mem hiu)).1
  have hbad : G (i + 1) = false → G hv.length = false := hmo (i + 1) hv.length (by omega)
  cases hvi : hv[i] with
  | false =>
    rw [hvi] at hs
    have hs : G (i + 1) = true := hs
    clear hbad hmo hst
    (repeat' (first
     |(apply yFb;exact rfl;exact rfl)
     |(apply W.qd;(first
     |(exact zM)|(exact zN)|(exact jAj)|(exact jAg)|(exact jAd)|(exact jA)|(apply (yEb (u := .d _));exact rfl;exact rfl)|(apply (yDb (u := .d _));exact rfl;exact rfl)
     |(exact jAx)))|(refine W.gOff _ _ rfl rfl (by intro h;cases h) ?_)|(apply yA)|(apply yB)|(refine jAe ?_)|(refine jAs ?_)|(apply yE)|(refine jBc ?_)|(apply yG)|(apply yH)|(apply yJ)|(apply yP)|(apply yL)|(apply yN)|(refine jAw ?_)|(refine W.gT _ _ rfl rfl (fun hb => ?_) (fun hb => ?_) <;> ((try simp only [hb,zK]) <;> (try simp only [zL,zI] at hb) <;> (try (exfalso;omega))))
     |(refine W.cond _ rfl (fun hb => ?_) (fun hb => ?_) <;> ((try simp only [hb,zK]) <;> (try simp only [zL,zI] at hb) <;> (try (exfalso;omega))))))
    (all_goals (try (exfalso;exact absurd ((‹hv[i] = true› : hv[i] = true).symm.trans (‹hv[i] = false› : hv[i] = false)) (by decide))))
    all_goals first
     |(exfalso;omega)
     |exact ⟨i + 1,⟨by omega,hs⟩,by omega,[],rfl,rfl,rfl,iV_eq (by omega),rfl,rfl,rfl,rfl,trivial⟩
  | true =>
    rw [hvi] at hs
    by_cases hq : w[i] = us[i]
    ·have hs : G (i + 1) = true := by rw [hs, decide_eq_true hq]; rfl
     have hne : (!decide (w[i] = us[i])) = false := by rw [decide_eq_true hq];rfl
     clear hbad hmo hst
     (repeat' (first
      |(apply yFb;exact rfl;exact rfl)
      |(apply W.qd;(first
      |((apply q_neqSV;exact rfl;exact rfl;exact b1;exact b2;exact hne))|(exact zM)|(exact zN)|(exact jAj)|(exact jAg)|(exact jAd)|(exact jA)|(apply (yEb (u := .d _));exact rfl;exact rfl)
      |(apply (yDb (u := .d _));exact rfl;exact rfl)))|(refine W.gOff _ _ rfl rfl (by intro h;cases h) ?_)|(apply yA)|(apply yB)|(refine jAe ?_)|(refine jAs ?_)|(apply yE)|(refine jBc ?_)|(apply yG)|(apply yH)|(apply yL)|(refine jAw ?_)|(refine W.gT _ _ rfl rfl (fun hb => ?_) (fun hb => ?_) <;> ((try simp only [hb,zK]) <;> (try simp only [zL,zI] at hb) <;> (try (exfalso;omega))))
      |(refine W.cond _ rfl (fun hb => ?_) (fun hb => ?_) <;> ((try simp only [hb,zK]) <;> (try simp only [zL,zI] at hb) <;> (try (exfalso;omega))))))
     (all_goals (try (exfalso;exact absurd ((‹hv[i] = true› : hv[i] = true).symm.trans (‹hv[i] = false› : hv[i] = false)) (by decide))))
     all_goals first
      |(exfalso;omega)
      |exact ⟨i + 1,⟨by omega,hs⟩,by omega,[],rfl,rfl,rfl,iV_eq (by omega),rfl,rfl,rfl,rfl,trivial⟩
    ·have hs : G (i + 1) = false := by rw [hs, decide_eq_false hq]; rfl
     have hne : (!decide (w[i] = us[i])) = true := by rw [decide_eq_false hq];rfl
     rw [hbad hs]
     clear hbad hmo hst
     (repeat' (first
      |(apply yFb;exact rfl;exact rfl)
      |(apply W.qd;(first
      |((apply q_neqSV;exact rfl;exact rfl;exact b1;exact b2;exact hne))|(exact zM)|(exact zN)|(exact jAj)|(exact jAg)|(exact jAd)|(exact jA)|(apply (yEb (u := .d _));exact rfl;exact rfl)
      |(apply (yDb (u := .d _));exact rfl;exact rfl)))|(refine W.gOff _ _ rfl rfl (by intro h;cases h) ?_)|(apply yA)|(apply yB)|(refine jAe ?_)|(refine jAs ?_)|(apply yE)|(refine jBc ?_)|(apply yG)|(apply yH)|(apply yJ)|(apply yP)|(apply yL)|(apply yN)|(refine jBa ?_)|(refine jAw ?_)|(refine W.gT _ _ rfl rfl (fun hb => ?_) (fun hb => ?_) <;> ((try simp only [hb,zK]) <;> (try simp only [zL,zI] at hb) <;> (try (exfalso;omega))))
      |(refine W.cond _ rfl (fun hb => ?_) (fun hb => ?_) <;> ((try simp only [hb,zK]) <;> (try simp only [zL,zI] at hb) <;> (try (exfalso;omega))))))
     (all_goals (try (exfalso;exact absurd ((‹hv[i] = true› : hv[i] = true).symm.trans (‹hv[i] = false› : hv[i] = false)) (by decide))))
     all_goals first
      |(exfalso;omega)
      |exact Ends.three rfl rfl rfl rfl
 ·obtain rfl : i = hv.length := by omega
  rw [hi.2]
  clear hmo hst
  (repeat' (first
   |(apply W.qd;(first
   |(exact zM)|(exact zN)
   |(exact jAj)))|(apply yA)|(apply yB)|(refine jAe ?_)|(apply yE)|(apply yI)|(apply yJ)|(apply yK)|(apply yM)
   |(refine W.cond _ rfl (fun hb => ?_) (fun hb => ?_) <;> ((try simp only [hb,zK]) <;> (try simp only [zL,zI] at hb) <;> (try (exfalso;omega))))))
  all_goals first | (exfalso;omega) | exact Ends.three rfl rfl rfl rfl
end
section
section
variable (M D : Nat) (ps us : List (List Nat)) (hv : List Bool)
def wrdT : Nat → List (List Nat)
 | 0 => []
 | k + 1 => if hv.getD k false = true then (if conN M D ps us (hv.set k false) = true then wrdN M D ps us (hv.set k false) else wrdT k) else wrdT k
end
theorem con_all {M D : Nat} {ps us : List (List Nat)} {hv : List Bool} (h : conN M D ps us hv = true) : allN M D ps us hv = true := by
 unfold conN at h
 rw [Bool.and_eq_true] at h
 exact h.1
theorem wrdT_last {M D : Nat} {ps us : List (List Nat)} {hv : List Bool} {l : List Nat} {u : Nat} : ∀ {k : Nat}, fndT M D ps us hv k = l ++ [u] → wrdT M D ps us hv k = wrdN M D ps us (hv.set u false)
 | 0,h => by
   have := congrArg List.length h
   simp [fndT] at this
 | k + 1,h => by
   rw [fndT_succ] at h
   rw [wrdT]
   by_cases h1 : hv.getD k false = true
   ·rw [if_pos h1] at h ⊢
    by_cases h2 : conN M D ps us (hv.set k false) = true
    ·rw [if_pos h2] at h ⊢
     obtain ⟨_,h3⟩ := List.append_inj' h rfl
     have : k = u := by simpa using h3
     rw [this]
    ·rw [if_neg h2] at h ⊢
     rw [List.append_nil] at h
     exact wrdT_last h
   ·rw [if_neg h1] at h ⊢
    rw [List.append_nil] at h
    exact wrdT_last h
abbrev trO (M D : Nat) (ps us : List (List Nat)) (hv : List Bool) (F : List Nat) (Wd : List (List Nat)) (v : Nat) : List Ent := [.box [.d .any,iV M,iV D,rowsN ps,.d .any],.box [strs us],.box [bools hv],.box [.osl 5 v 0 F.length],.box [strs Wd],.row v 1 3 (F.map kD)]
def srcA2 (M D : Nat) (ps us : List (List Nat)) (hv : List Bool) : AV := match oneN (fndN M D ps us hv) with | some u => .tup [iV u,strs (wrdN M D ps us (hv.set u false)),iV 0] | none => .tup [iV 0,strs [],iV 13]
attribute [local irreducible] Quiet Eff OpOk AWPG ACont ABlock ACalls AGoto
theorem A_try {M D u v : Nat} {ps us : List (List Nat)} {hv : List Bool} {F : List Nat} {Wd : List (List Nat)} (h : SrcOk M D ps us hv) (hu : u < hv.length) (hF : F.length ≤ 1000) : ACalls Tryz.prog 207 [iV u,.opt 2 0,.opt 0 0,.opt 1 0,.opt 3 0,.opt 4 0] (trO M D ps us hv F Wd v) (.tup []) (if conN M D ps us (hv.set u false) = true then trO M D ps us hv (F ++ [u]) (wrdN M D ps us (hv.set u false)) (v + 1) else trO M D ps us hv F Wd v) := by
 have hw := h.c.w
 have hhl := h.hl
 have hcl := A_cloneB (l := hv) (by omega) (by omega)
 have hmh : (hv.map tD).length = hv.length := List.length_map _
 have hsl : hv.length = ((hv.set u false).map tD).length := by rw [List.length_map,List.length_set]
 have hca := A_cand (src_set h.c h u)
 unfold canR at hca
 have hcn := con_all (M := M) (D := D) (ps := ps) (us := us) (hv := hv.set u false)
 generalize conN M D ps us (hv.set u false) = C at *
 generalize wrdN M D ps us (hv.set u false) = X at *
 generalize allN M D ps us (hv.set u false) = E at *
 clear h
 cases C with
 | true =>
   obtain rfl := hcn rfl
   rw [if_pos rfl,if_pos rfl] at hca
   rw [if_pos rfl]
   refine acalls_of_bodyO Tryz.func207 rfl (zU rfl) ?_
   (repeat' (first
    |(apply W.qd;(first
    |(exact zM)|(exact zN)|(exact jAm)
    |(exact jAb)))|(apply W.ed;(apply (e_callJ (js := []) (hcl));(iterate 5 exact rfl);kernel_rfl;kernel_rfl))|(apply W.ln;(exact jAi))|(apply yA)|(apply yB)|(apply (W.regionS 2);exact rfl;kernel_rfl)
    |(apply yE)))
   all_goals try (exfalso;omega)
   refine AWP.wk ⟨[(0,iV u),(1,.opt 2 0),(2,.opt 0 0),(3,.opt 1 0),(4,.opt 3 0),(5,.opt 4 0),(7,bools (hv.set u false))],trO M D ps us hv F Wd v⟩ ⟨[0,1,2,3,4,5],rfl,rfl,rfl,rfl,rfl,rfl,rfl,rfl,rfl,(frz_rowJ rfl rfl hsl).symm,trivial⟩ ?_
   (repeat' (first
    |(apply yFb;exact rfl;exact rfl)
    |(apply W.qd;(first
    |(exact zW (hca))|(exact zM)|(exact zN)|(exact jAm)|(exact jAn)|(exact jBb)|(exact jBd)|(exact jAl)
    |(apply (yEb (u := .d _));exact rfl;exact rfl)))|(apply W.ld;(exact jAy))|(apply W.ln;(exact jAh))|(apply yA)|(apply yB)|(refine jAe ?_)|(apply yE)
    |(refine jBa ?_)))
   all_goals first
    |(exfalso;omega)
    |exact ⟨.inr rfl,[0,1,2,3,4,5],[],rfl,rfl,trivial,AVle.of_eq rfl,rfl⟩
 | false =>
   rw [if_neg (by decide)]
   generalize (if E = true then X else []) = X2 at *
   generalize (if E = true then (0 : Int) else 11) = e2 at *
   refine acalls_of_bodyO Tryz.func207 rfl (zU rfl) ?_
   (repeat' (first
    |(apply W.qd;(first
    |(exact zM)|(exact zN)|(exact jAm)
    |(exact jAb)))|(apply W.ed;(apply (e_callJ (js := []) (hcl));(iterate 5 exact rfl);kernel_rfl;kernel_rfl))|(apply W.ln;(exact jAi))|(apply yA)|(apply yB)|(apply (W.regionS 2);exact rfl;kernel_rfl)
    |(apply yE)))
   all_goals try (exfalso;omega)
   refine AWP.wk ⟨[(0,iV u),(1,.opt 2 0),(2,.opt 0 0),(3,.opt 1 0),(4,.opt 3 0),(5,.opt 4 0),(7,bools (hv.set u false))],trO M D ps us hv F Wd v⟩ ⟨[0,1,2,3,4,5],rfl,rfl,rfl,rfl,rfl,rfl,rfl,rfl,rfl,(frz_rowJ rfl rfl hsl).symm,trivial⟩ ?_
   (repeat' (first
    |(apply W.qd;(first
    |(exact zW (hca))|(exact zM)|(exact zN)|(exact jAm)|(exact jAn)|(exact jBd)
    |(apply (yDb (u := .d _));exact rfl;exact rfl)))|(refine W.gOff _ _ rfl rfl (by intro h;cases h) ?_)|(apply yA)|(apply yB)|(refine jAe ?_)|(apply yE)|(apply yH)
    |(refine jAw ?_)))
   all_goals first
    |(exfalso;omega)
    |exact ⟨.inr rfl,[0,1,2,3,4,5],[],rfl,rfl,trivial,AVle.of_eq rfl,rfl⟩
theorem A_lsearch {M D : Nat} {ps us : List (List Nat)} {hv : List Bool} (h : SrcOk M D ps us hv) : ACalls Tryz.prog 145 [cdN M D ps,strs us,bools hv] [] (srcA2 M D ps us hv) [] := by
 refine acalls_of_body Tryz.func145 rfl (zU rfl) ?_
 have hw := h.c.w
 have hhl := h.hl
 have hmh : (hv.map tD).length = hv.length := List.length_map _
 have hsu := fndT_succ M D ps us hv
 have hwu : ∀ k,wrdT M D ps us hv (k + 1) = if hv.getD k false = true then (if conN M D ps us (hv.set k false) = true then wrdN M D ps us (hv.set k false) else wrdT M D ps us hv k) else wrdT M D ps us hv k := fun k => rfl
 have hlast := fun l u => wrdT_last (M := M) (D := D) (ps := ps) (us := us) (hv := hv) (l := l) (u := u) (k := hv.length)
 have hle := fndT_len M D ps us hv
 have h0 : fndT M D ps us hv 0 = [] := rfl
 have h1 : wrdT M D ps us hv 0 = [] := rfl
 have htry := fun (i v : Nat) (hi : i < hv.length) => A_try (v := v) (F := fndT M D ps us hv i) (Wd := wrdT M D ps us hv i) h hi (by have := hle i;omega)
 unfold srcA2 fndN
 generalize conN M D ps us = C at *
 generalize wrdN M D ps us = X at *
 generalize fndT M D ps us hv = F at *
 generalize wrdT M D ps us hv = Wd at *
 clear h
 (repeat' (first
  |(apply W.qd;(first
  |(exact zN)
  |(apply q_makeFunc)))
  |(apply W.ed;(first
  |(exact jAc)
  |(exact jAq)))|(apply yA)|(apply yB)|(apply (W.regionS 4);exact rfl;kernel_rfl)
  |(apply yE)))
 refine AWP.nilBox (l' := [.osl 5 0 0 0]) 3 0 1 3 rfl rfl (by omega) rfl rfl rfl rfl ?_
 refine AWP.leBox (l' := [strs []]) 4 0 (strs []) rfl rfl (AVle.nil 1) rfl (by simp) rfl ?_
 (repeat' (first
  |(apply W.qd;(first
  |(exact zM)|(exact jAm)
  |(exact jB)))|(apply yB)|(apply (W.regionS 5);exact rfl;kernel_rfl)|(apply yE)
  |(apply yG)))
 refine AWP.loopW (α := Nat × Nat) (fun x => x.1 ≤ hv.length) (fun x => ⟨[(17,iV x.1),(16,iV hv.length),(15,bools hv),(11,.fn 207 [.opt 2 0,.opt 0 0,.opt 1 0,.opt 3 0,.opt 4 0]),(9,.opt 3 0),(10,.opt 4 0)],trO M D ps us hv (F x.1) (Wd x.1) x.2⟩) (fun x => hv.length - x.1) (0,0) (Nat.zero_le _) ?wkA fun x hi => ?_
 case wkA =>
  dsimp only
  rw [h0,h1]
  exact ⟨[0,1,2,3,4,5],rfl,rfl,rfl,rfl,iV_eq (by rw [hmh]),rfl,rfl,rfl,rfl,trivial⟩
 obtain ⟨i,v⟩ := x
 dsimp only at hi ⊢
 by_cases hil : i < hv.length
 ·have hs := hsu i
  have hwi := hwu i
  have ht := htry i v hil
  have eg : hv.getD i false = hv[i] := by rw [List.getD_eq_getElem?_getD,List.getElem?_eq_getElem hil];rfl
  rw [eg] at hs hwi
  clear htry hsu hwu hlast
  generalize F i = Fi at *
  generalize Wd i = Wi at *
  cases hvi : hv[i] with
  | false =>
    rw [hvi,if_neg (by decide)] at hs hwi
    rw [List.append_nil] at hs
    (repeat' (first
     |(apply W.qd;(first
     |(exact zM)|(exact zN)|(exact jAj)|(exact jAg)|(exact jAd)
     |(exact jA)))|(apply yA)|(apply yB)|(refine jAe ?_)|(apply yE)|(apply yG)|(apply yH)|(apply yL)
     |(refine W.cond _ rfl (fun hb => ?_) (fun hb => ?_) <;> ((try simp only [hb,zK]) <;> (try simp only [zL,zI] at hb) <;> (try (exfalso;omega))))))
    (all_goals (try (exfalso;exact absurd ((‹hv[i] = true› : hv[i] = true).symm.trans (‹hv[i] = false› : hv[i] = false)) (by decide))))
    all_goals first
     |(exfalso;omega)|(refine ⟨(i + 1,v),by dsimp only;omega,by dsimp only;omega,?_⟩;dsimp only;rw [hs,hwi];exact ⟨[0,1,2,3,4,5],rfl,rfl,rfl,iV_eq (by omega),rfl,rfl,rfl,rfl,rfl,trivial⟩)
  | true =>
    rw [hvi,if_pos rfl] at hs hwi
    by_cases hC : C (hv.set i false) = true
    ·rw [if_pos hC] at hs hwi ht
     (repeat' (first
      |(apply W.qd;(first
      |(exact zM)|(exact zN)|(exact jAj)|(exact jAg)|(exact jAd)
      |(exact jA)))|(apply W.ed;((apply (e_callA ht);exact rfl;exact rfl;kernel_rfl)))|(apply yA)|(apply yB)|(refine jAe ?_)|(apply yE)|(apply yG)|(apply yH)|(apply yL)
      |(refine W.cond _ rfl (fun hb => ?_) (fun hb => ?_) <;> ((try simp only [hb,zK]) <;> (try simp only [zL,zI] at hb) <;> (try (exfalso;omega))))))
     (all_goals (try (exfalso;exact absurd ((‹hv[i] = true› : hv[i] = true).symm.trans (‹hv[i] = false› : hv[i] = false)) (by decide))))
     all_goals first
      |(exfalso;omega)|(refine ⟨(i + 1,v + 1),by dsimp only;omega,by dsimp only;omega,?_⟩;dsimp only;rw [hs,hwi];exact ⟨[0,1,2,3,4,5],rfl,rfl,rfl,iV_eq (by omega),rfl,rfl,rfl,rfl,rfl,trivial⟩)
    ·rw [if_neg hC] at hs hwi ht
     rw [List.append_nil] at hs
     (repeat' (first
      |(apply W.qd;(first
      |(exact zM)|(exact zN)|(exact jAj)|(exact jAg)|(exact jAd)
      |(exact jA)))|(apply W.ed;((apply (e_callA ht);exact rfl;exact rfl;kernel_rfl)))|(apply yA)|(apply yB)|(refine jAe ?_)|(apply yE)|(apply yG)|(apply yH)|(apply yL)
      |(refine W.cond _ rfl (fun hb => ?_) (fun hb => ?_) <;> ((try simp only [hb,zK]) <;> (try simp only [zL,zI] at hb) <;> (try (exfalso;omega))))))
     (all_goals (try (exfalso;exact absurd ((‹hv[i] = true› : hv[i] = true).symm.trans (‹hv[i] = false› : hv[i] = false)) (by decide))))
     all_goals first
      |(exfalso;omega)|(refine ⟨(i + 1,v),by dsimp only;omega,by dsimp only;omega,?_⟩;dsimp only;rw [hs,hwi];exact ⟨[0,1,2,3,4,5],rfl,rfl,rfl,iV_eq (by omega),rfl,rfl,rfl,rfl,rfl,trivial⟩)
 ·obtain rfl : i = hv.length := by omega
  clear htry hsu hwu
  generalize F hv.length = Fn at *
  cases hO : oneN Fn with
  | some u =>
    obtain rfl := oneN_some hO
    have hl := hlast [] u rfl
    dsimp only
    rw [← hl]
    generalize Wd hv.length = Wn at *
    (repeat' (first
     |(apply W.qd;(first
     |(exact zN)|(exact jAm)|(exact jAj)|(exact jAv)|(exact q_len_osl rfl rfl rfl)|(exact jAb)
     |(exact jAo)))|(apply yA)|(apply yB)|(refine jAe ?_)|(refine jAs ?_)|(apply yE)|(refine jBc ?_)|(apply yH)|(apply yI)|(apply yJ)|(apply yK)|(apply yM)|(refine jAw ?_)
     |(refine W.cond _ rfl (fun hb => ?_) (fun hb => ?_) <;> ((try simp only [hb,zK]) <;> (try simp only [zL,zI] at hb) <;> (try (exfalso;omega))))))
    all_goals first | (exfalso;omega) | exact Ends.three rfl rfl rfl rfl
  | none =>
    have hne : Fn.length ≠ 1 := fun hn => by
     match Fn,hn with
     | [u],_ => cases hO
    have hmf : (Fn.map kD).length = Fn.length := List.length_map _
    generalize Wd hv.length = Wn at *
    (repeat' (first
     |(apply W.qd;(first
     |(exact zN)|(exact jAm)|(exact jAj)|(exact jAv)
     |(exact q_len_osl rfl rfl rfl)))|(apply yA)|(apply yB)|(refine jAe ?_)|(apply yE)|(apply yI)|(apply yJ)|(apply yK)|(apply yP)|(apply yM)
     |(refine W.cond _ rfl (fun hb => ?_) (fun hb => ?_) <;> ((try simp only [hb,zK]) <;> (try simp only [zL,zI] at hb) <;> (try (exfalso;omega))))))
    all_goals first
     |(exfalso;omega)
     |exact ⟨.inl rfl,[],[iV 0,.d (.v (.slice none 0 0)),iV 13],rfl,⟨rfl,rfl,rfl,trivial⟩,AVle.tup ⟨AVle.of_eq rfl,AVle.nil 1,AVle.of_eq rfl,trivial⟩,rfl⟩
theorem locN_eq (M D : Nat) (ps us : List (List Nat)) (hv : List Bool) : locN M D ps us hv = (if allN M D ps us hv = false then (0,11) else if conN M D ps us hv = true then (0,12) else match oneN (fndN M D ps us hv) with | some u => ((u : Int),0) | none => (0,13) : Int × Int) := by
 unfold locN conN
 cases allN M D ps us hv <;> rfl
theorem corN_eq (M D : Nat) (ps us : List (List Nat)) (hv : List Bool) : corN M D ps us hv = (if allN M D ps us hv = false then ([],11) else if conN M D ps us hv = true then (wrdN M D ps us hv,0) else match oneN (fndN M D ps us hv) with | some u => (wrdN M D ps us (hv.set u false),0) | none => ([],13) : List (List Nat) × Int) := by
 unfold corN conN
 cases allN M D ps us hv <;> rfl
theorem A_locate {M D : Nat} {ps us : List (List Nat)} {hv : List Bool} (h : SrcOk M D ps us hv) : ACalls Tryz.prog 86 [cdN M D ps,strs us,bools hv] [] (.tup [iV (locN M D ps us hv).1,iV (locN M D ps us hv).2]) [] := by
 refine acalls_of_body Tryz.func86 rfl (zU rfl) ?_
 have f1 := A_cand h
 have f2 := A_lsearch h
 have hcn := con_all (M := M) (D := D) (ps := ps) (us := us) (hv := hv)
 rw [locN_eq]
 unfold canR at f1
 unfold srcA2 at f2
 generalize conN M D ps us hv = C at *
 generalize wrdN M D ps us = X at *
 generalize allN M D ps us hv = E at *
 generalize oneN (fndN M D ps us hv) = O at *
 cases E with
 | false =>
   have hC : C = false := by
    cases C with
    | false => rfl
    | true => exact absurd (hcn rfl) (by decide)
   subst hC
   rw [if_neg (by decide),if_neg (by decide)] at f1
   rw [if_pos rfl]
   (repeat' (first
    |(apply W.qd;(first
    |(exact zW (f1))|(exact zM)|(exact zN)|(exact jAn)|(exact jAv)
    |(exact jBd)))|(apply W.ed;(exact jAc))|(apply yA)|(apply yB)|(refine jAe ?_)|(apply yE)|(apply yG)|(apply yJ)|(apply yP)|(apply yN)
    |(refine jBa ?_)))
   all_goals first | (exfalso;omega) | exact Ends.two rfl rfl rfl
 | true =>
   rw [if_pos rfl,if_pos rfl] at f1
   rw [if_neg (by decide)]
   generalize X hv = w at *
   cases C with
   | true =>
     rw [if_pos rfl]
     (repeat' (first
      |(apply W.qd;(first
      |(exact zW (f1))|(exact zM)|(exact zN)|(exact jAn)|(exact jAv)
      |(exact jBd)))|(apply W.ed;(exact jAc))|(apply yA)|(apply yB)|(refine jAe ?_)|(apply yE)|(apply yG)|(apply yJ)|(apply yP)|(apply yN)|(refine jBa ?_)
      |(refine jAw ?_)))
     all_goals first | (exfalso;omega) | exact Ends.two rfl rfl rfl
   | false =>
     rw [if_neg (by decide)]
     cases O <;> dsimp only at f2 ⊢
     all_goals
      (repeat' (first
       |(apply W.qd;(first
       |(exact zW (f1))|(exact zW (f2))|(exact zM)|(exact zN)|(exact jAn)|(exact jAv)
       |(exact jBd)))|(apply W.ed;(exact jAc))|(apply yA)|(apply yB)|(refine jAe ?_)|(apply yE)|(apply yG)|(apply yH)|(apply yJ)|(apply yL)
       |(refine jAw ?_)))
      all_goals first | (exfalso;omega) | exact Ends.two rfl rfl rfl
theorem A_correct {M D : Nat} {ps us : List (List Nat)} {hv : List Bool} (h : SrcOk M D ps us hv) : ACalls Tryz.prog 87 [cdN M D ps,strs us,bools hv] [] (.tup [strs (corN M D ps us hv).1,iV (corN M D ps us hv).2]) [] := by
 refine acalls_of_body Tryz.func87 rfl (zU rfl) ?_
 have f1 := A_cand h
 have f2 := A_lsearch h
 have hcn := con_all (M := M) (D := D) (ps := ps) (us := us) (hv := hv)
 rw [corN_eq]
 unfold canR at f1
 unfold srcA2 at f2
 generalize conN M D ps us hv = C at *
 generalize allN M D ps us hv = E at *
 generalize oneN (fndN M D ps us hv) = O at *
 generalize wrdN M D ps us = X at *
 cases E with
 | false =>
   have hC : C = false := by
    cases C with
    | false => rfl
    | true => exact absurd (hcn rfl) (by decide)
   subst hC
   rw [if_neg (by decide),if_neg (by decide)] at f1
   rw [if_pos rfl]
   (repeat' (first
    |(apply W.qd;(first
    |(exact zW (f1))|(exact zM)|(exact zN)|(exact jAn)|(exact jAv)
    |(exact jBd)))|(apply W.ed;(exact jAc))|(apply yA)|(apply yB)|(refine jAe ?_)|(apply yE)|(apply yG)|(apply yJ)|(apply yP)|(apply yN)
    |(refine jBa ?_)))
   all_goals first
    |(exfalso;omega)
    |exact ⟨.inl rfl,[],[.d (.v (.slice none 0 0)),iV 11],rfl,⟨rfl,rfl,trivial⟩,AVle.tup2 (AVle.nil 1) (AVle.of_eq rfl),rfl⟩
 | true =>
   rw [if_pos rfl,if_pos rfl] at f1
   rw [if_neg (by decide)]
   cases C with
   | true =>
     rw [if_pos rfl]
     generalize X hv = w at *
     (repeat' (first
      |(apply W.qd;(first
      |(exact zW (f1))|(exact zM)|(exact zN)|(exact jAn)|(exact jAv)
      |(exact jBd)))|(apply W.ed;(exact jAc))|(apply yA)|(apply yB)|(refine jAe ?_)|(apply yE)|(apply yG)|(apply yJ)|(apply yP)|(apply yN)|(refine jBa ?_)
      |(refine jAw ?_)))
     all_goals first | (exfalso;omega) | exact Ends.two rfl rfl rfl
   | false =>
     rw [if_neg (by decide)]
     generalize X hv = w at *
     cases O with
     | none =>
       dsimp only at f2 ⊢
       (repeat' (first
        |(apply W.qd;(first
        |(exact zW (f1))|(exact zW (f2))|(exact zM)|(exact zN)|(exact jAn)|(exact jAv)
        |(exact jBd)))|(apply W.ed;(exact jAc))|(apply yA)|(apply yB)|(refine jAe ?_)|(apply yE)|(apply yG)|(apply yH)|(apply yJ)|(apply yL)
        |(refine jAw ?_)))
       all_goals first | (exfalso;omega) | exact Ends.two rfl rfl rfl
     | some u =>
       dsimp only at f2 ⊢
       generalize X (hv.set u false) = w2 at *
       (repeat' (first
        |(apply W.qd;(first
        |(exact zW (f1))|(exact zW (f2))|(exact zM)|(exact zN)|(exact jAn)|(exact jAv)
        |(exact jBd)))|(apply W.ed;(exact jAc))|(apply yA)|(apply yB)|(refine jAe ?_)|(apply yE)|(apply yG)|(apply yH)|(apply yJ)|(apply yL)
        |(refine jAw ?_)))
       all_goals first | (exfalso;omega) | exact Ends.two rfl rfl rfl
end
section
def fil {α : Type} (f : Nat → α) (z : α) (n k : Nat) : List α := (List.range n).map fun j => if j < k then f j else z
section
variable {α : Type} {f : Nat → α} {z : α} {n : Nat}
theorem fil_len (k : Nat) : (fil f z n k).length = n := by simp [fil]
theorem fil_get {k j : Nat} (h : j < n) : (fil f z n k)[j]? = some (if j < k then f j else z) := by
 unfold fil
 rw [List.getElem?_map,List.getElem?_range h];rfl
theorem fil_zero : fil f z n 0 = List.replicate n z := by
 apply List.ext_getElem (by simp [fil])
 intro i h1 h2
 simp [fil]
theorem fil_all : fil f z n n = (List.range n).map f := by
 unfold fil
 apply List.map_congr_left
 intro j hj
 rw [if_pos (List.mem_range.1 hj)]
theorem fil_set {k : Nat} (h : k < n) : (fil f z n k).set k (f k) = fil f z n (k + 1) := by
 apply List.ext_getElem?
 intro i
 rw [List.getElem?_set,fil_len]
 by_cases e : k = i
 ·subst e;rw [if_pos rfl,if_pos h,fil_get h,if_pos (by omega)]
 ·rw [if_neg e]
  by_cases hi : i < n
  ·rw [fil_get hi, fil_get hi]
   by_cases h2 : i < k
   ·rw [if_pos h2,if_pos (by omega)]
   ·rw [if_neg h2,if_neg (by omega)]
  ·rw [List.getElem?_eq_none (by rw [fil_len];omega),List.getElem?_eq_none (by rw [fil_len];omega)]
theorem fil_map {β : Type} (g : α → List β) {k j : Nat} (h : j < k) (hk : k ≤ n) : ((fil f z n k).map g)[j]? = some (g (f j)) := by
 rw [List.getElem?_map,fil_get (by omega),if_pos h];rfl
end
abbrev rpA (r : Rep) : AV := .agg [iV r.1,ints r.2.1,strs r.2.2.1,iV r.2.2.2]
def rep0 : Rep := (0,[],[],0)
section
variable (M D : Nat) (ps : List (List Nat)) (at' : List Pl) (g : Gn) (ss : List (List Nat)) (rd : List Bool)
def rpN : Rep := repU M D ps (stU (staL at' g ss rd (D + ps.length))) (stS (staL at' g ss rd (D + ps.length))) (stH (staL at' g ss rd (D + ps.length)))
end
theorem sta_maps (at' : List Pl) (g : Gn) (ss : List (List Nat)) (rd : List Bool) (n : Nat) : (List.range n).map (fun k => (staN (at'.getD k pz0) g (ss.getD k []) (rd.getD k false)).1) = stS (staL at' g ss rd n) ∧ (List.range n).map (fun k => (staN (at'.getD k pz0) g (ss.getD k []) (rd.getD k false)).2) = stU (staL at' g ss rd n) ∧ (List.range n).map (fun k => decide ((staN (at'.getD k pz0) g (ss.getD k []) (rd.getD k false)).1 = 1)) = stH (staL at' g ss rd n) := by
 unfold stS stU stH staL
 simp [List.map_map,Function.comp_def]
theorem fnd_lt {M D : Nat} {ps us : List (List Nat)} {hv : List Bool} {u : Nat} (h : oneN (fndN M D ps us hv) = some u) : u < hv.length := by
 have h1 := oneN_some h
 have h2 : u ∈ fndN M D ps us hv := by rw [h1];simp
 unfold fndN fndT at h2
 exact List.mem_range.1 (List.mem_filter.1 h2).1
theorem loc_cases (M D : Nat) (ps us : List (List Nat)) (hv : List Bool) : (∃ u,u < hv.length ∧ locN M D ps us hv = ((u : Int),0)) ∨ locN M D ps us hv = (0,12) ∨ locN M D ps us hv = (0,13) ∨ locN M D ps us hv = (0,11) := by
 rw [locN_eq]
 split
 ·exact .inr (.inr (.inr rfl))
 ·split
  ·exact .inr (.inl rfl)
  ·cases h : oneN (fndN M D ps us hv) with
   | some u => exact .inl ⟨u,fnd_lt h,rfl⟩
   | none => exact .inr (.inr (.inl rfl))
theorem recR_eq (o : Option (List Nat)) : ∃ e : Int,recR o = .tup [bS (o.getD []),iV e] := by
 cases o with
 | none => exact ⟨11,rfl⟩
 | some x => exact ⟨0,rfl⟩
attribute [local irreducible] Quiet Eff OpOk AWPG ACont ABlock ACalls AGoto
end
section
abbrev fxs (l : List Fx) : AV := .d (.sl 2 (l.map fxD))
section
variable {at' : List Pl} {g : Gn} {r : Rep} {st : List Int} {k : Nat}
theorem fixL_succ : fixL at' g r (k + 1) = fixL at' g r k ++ if r.2.1.getD k 0 = 1 then [] else [(k,sealL (at'.getD k pz0) g (r.2.2.1.getD k []))] := by
 unfold fixL
 rw [fixT_succ,List.map_append]
 congr 1
 by_cases h : r.2.1.getD k 0 = 1
 ·rw [if_pos h,if_pos h];rfl
 ·rw [if_neg h,if_neg h];rfl
theorem fixB_succ : fixB at' g st (k + 1) = (fixB at' g st k && (decide (st.getD k 0 = 1) || (plB (at'.getD k pz0) && gnB g))) := by
 unfold fixB
 rw [fixT_succ,List.all_append]
 congr 1
 by_cases h : st.getD k 0 = 1
 ·rw [if_pos h,decide_eq_true h];rfl
 ·rw [if_neg h,decide_eq_false h];simp
theorem fixB_mono {i : Nat} (h : fixB at' g st i = false) : ∀ k, i ≤ k → fixB at' g st k = false
 | 0, hk => by obtain rfl : i = 0 := by omega
               exact h
 | k + 1,hk => by
   rw [fixB_succ]
   by_cases e : i = k + 1
   ·subst e;rw [fixB_succ] at h;exact h
   ·rw [fixB_mono h k (by omega),Bool.false_and]
theorem fixL_len : (fixL at' g r k).length ≤ k := by
 unfold fixL fixT
 rw [List.length_map]
 exact Nat.le_trans (List.length_filter_le _ _) (by simp)
end
theorem corN_ok {M D : Nat} {ps us : List (List Nat)} {hv : List Bool} (h : SrcOk M D ps us hv) (hl : (locN M D ps us hv).2 = 0 ∨ (locN M D ps us hv).2 = 12) : (corN M D ps us hv).1.length = D + ps.length ∧ ∀ u ∈ (corN M D ps us hv).1,isB u ∧ u.length = 32 := by
 rw [locN_eq] at hl
 rw [corN_eq]
 by_cases h1 : allN M D ps us hv = false
 ·rw [if_pos h1] at hl;exact absurd hl (by decide)
 ·rw [if_neg h1] at hl ⊢
  by_cases h2 : conN M D ps us hv = true
  ·rw [if_pos h2]
   exact wrd_props h (by simpa using h1)
  ·rw [if_neg h2] at hl ⊢
   cases h3 : oneN (fndN M D ps us hv) with
   | none => rw [h3] at hl;exact absurd hl (by decide)
   | some u =>
     have h4 := oneN_some h3
     have h5 : u ∈ fndN M D ps us hv := by rw [h4];simp
     unfold fndN fndT at h5
     have h6 := (List.mem_filter.1 h5).2
     rw [Bool.and_eq_true] at h6
     exact wrd_props (src_set h.c h u) (con_all h6.2)
theorem rpN_cases {M D : Nat} {ps : List (List Nat)} {at' : List Pl} {g : Gn} {ss : List (List Nat)} {rd : List Bool} (h : CodeOk M D ps) (hb : ∀ s ∈ ss,isB s) : (rpN M D ps at' g ss rd).1 = 2 ∨ (rpN M D ps at' g ss rd).1 = 3 ∨ (rpN M D ps at' g ss rd).1 = 1 ∧ (rpN M D ps at' g ss rd).2.1.length = D + ps.length ∧ (rpN M D ps at' g ss rd).2.2.1.length = D + ps.length ∧ ∀ u ∈ (rpN M D ps at' g ss rd).2.2.1,isB u ∧ u.length = 32 := by
 have hs := sta_src (at' := at') (g := g) (rd := rd) h hb
 have hSl : (stS (staL at' g ss rd (D + ps.length))).length = D + ps.length := by unfold stS;rw [List.length_map,staL_length]
 have hc := corN_ok hs
 unfold rpN repU
 by_cases h1 : (locN M D ps (stU (staL at' g ss rd (D + ps.length))) (stH (staL at' g ss rd (D + ps.length)))).2 = 0
 ·rw [if_pos h1]
  exact .inr (.inr ⟨rfl,by rw [List.length_set];exact hSl,hc (.inl h1)⟩)
 ·rw [if_neg h1]
  by_cases h2 : (locN M D ps (stU (staL at' g ss rd (D + ps.length))) (stH (staL at' g ss rd (D + ps.length)))).2 = 12
  ·rw [if_pos h2]
   exact .inr (.inr ⟨rfl,hSl,hc (.inr h2)⟩)
  ·rw [if_neg h2]
   split
   ·exact .inl rfl
   ·exact .inr (.inl rfl)
attribute [local irreducible] Quiet Eff OpOk AWPG ACont ABlock ACalls AGoto
theorem A_bseal {at' : List Pl} {g : Gn} {k : Nat} {u : List Nat} (hk : k < at'.length) (hal : at'.length ≤ 1000000) (hub : isB u) (h32 : u.length = 32) : ACalls Tryz.prog 93 [.agg [pcs at',iV g.1,iV g.2],iV k,bS u] [] (.tup [bS (sealN at'[k] g u).1,iV (sealN at'[k] g u).2]) [] := by
 refine acalls_of_body Tryz.func93 rfl (zU rfl) ?_
 have hs := A_seal (p := at'[k]) (g := g) hub h32
 have hma : (at'.map pcD).length = at'.length := List.length_map _
 generalize sealN at'[k] g u = q at *
 obtain ⟨x,y⟩ := q
 (repeat' (first
  |(apply W.qd;(first
  |(exact zW (hs))|(exact zM)|(exact zN)|(exact jAr)|(exact jAm)|(exact jAn)|(exact jBd)|(exact jAz)
  |(exact jA)))|(apply W.ed;(exact jAc))|(apply yA)|(apply yB)|(refine jAe ?_)|(refine jAs ?_)|(apply yE)|(refine jBc ?_)
  |(apply yJ)))
 all_goals first
  |(exfalso;omega)
  |exact ⟨.inl rfl,[],[bS x,iV y],rfl,⟨rfl,rfl,trivial⟩,AVle.of_eq rfl,rfl⟩
end
section
open Go.Shelf Go.RowKit
section
variable (at' : List Pl) (g : Gn) (us : List (List Nat)) (k : Nat)
def slB : Bool := (List.range k).all fun j => decide ((sealN (at'.getD j pz0) g (us.getD j [])).2 = 0 ∧ (us.getD j []).length = 32)
def slL : List (List Nat) := (List.range k).map fun j => (sealN (at'.getD j pz0) g (us.getD j [])).1
theorem slB_succ : slB at' g us (k + 1) = (slB at' g us k && decide ((sealN (at'.getD k pz0) g (us.getD k [])).2 = 0 ∧ (us.getD k []).length = 32)) := by
 unfold slB;rw [List.range_succ,List.all_append];simp
theorem slL_succ : slL at' g us (k + 1) = slL at' g us k ++ [(sealN (at'.getD k pz0) g (us.getD k [])).1] := by
 unfold slL;rw [List.range_succ,List.map_append];rfl
theorem slL_len : (slL at' g us k).length = k := by simp [slL]
end
theorem slB_get {at' : List Pl} {g : Gn} {us : List (List Nat)} {n : Nat} (h : slB at' g us n = true) {k : Nat} (hk : k < n) : (sealN (at'.getD k pz0) g (us.getD k [])).2 = 0 ∧ (us.getD k []).length = 32 := by
 unfold slB at h
 rw [List.all_eq_true] at h
 exact of_decide_eq_true (h k (List.mem_range.2 hk))
theorem seal_other {p : Pl} {g g' : Gn} {u : List Nat} (hp : plB p = true) (hg : gnB g = true) (hb : isB u) (hu : u.length ≤ 40) (hne : g ≠ g') : staN p g' (sealL p g u) true = (3,[]) := by
 unfold staN
 rw [if_pos rfl,if_neg]
 rintro ⟨_,h⟩
 rw [seal_labG hg] at h
 exact hne h
attribute [local irreducible] Quiet Eff OpOk AWPG ACont ABlock ACalls AGoto
theorem A_lsealOk {at' : List Pl} {g : Gn} {us : List (List Nat)} (ha : at'.length = us.length) (hul : us.length ≤ 1000000) (hub : ∀ u ∈ us,isB u ∧ u.length ≤ 9223372036854775807) (hB : slB at' g us us.length = true) : ACalls Tryz.prog 80 [pcs at',gnA g,strs us] [] (.tup [.osl 0 us.length 0 us.length,bV true]) [.row us.length 1 9 ((slL at' g us us.length).map sD)] := by
 refine acalls_of_bodyO Tryz.func80 rfl (zU rfl) ?_
 have hma : (at'.map pcD).length = at'.length := List.length_map _
 have hmu : (us.map sD).length = us.length := List.length_map _
 have hget := fun k (hk : k < us.length) => slB_get hB hk
 have hsu := slL_succ at' g us
 have hsl := slL_len at' g us
 (repeat' (first
  |(apply W.qd;(first
  |(exact zM)|(exact zN)|(exact jAv)
  |(exact jB)))|(apply W.ed;(exact jAc))|(apply yA)|(apply yB)|(apply (W.regionS 4);exact rfl;kernel_rfl)|(apply yE)|(apply yH)
  |(refine W.cond _ rfl (fun hb => ?_) (fun hb => ?_) <;> ((try simp only [hb,zK]) <;> (try simp only [zL,zI] at hb) <;> (try (exfalso;omega))))))
 all_goals try (exfalso;omega)
 refine AWP.nilRow 8 1 9 rfl (by omega) ?_
 (repeat' (first
  |(apply W.qd;(first
  |(exact zM)
  |(exact jB)))|(apply yB)|(apply (W.regionS 5);exact rfl;kernel_rfl)|(apply yE)
  |(apply yG)))
 refine AWP.loopW (α := Nat) (fun k => k ≤ us.length) (fun k => ⟨[(20,iV k),(19,iV us.length),(18,strs us),(0,pcs at'),(4,.opt 0 0),(8,.osl 1 k 0 k)],[.box [iV g.1,iV g.2],.row k 1 9 ((slL at' g us k).map sD)]⟩) (fun k => us.length - k) 0 (Nat.zero_le _) ?wkA fun k hk => ?_
 case wkA =>
  exact ⟨[0,1],rfl,rfl,rfl,rfl,iV_eq (by omega),rfl,rfl,rfl,rfl,trivial⟩
 by_cases hkl : k < us.length
 ·have hka : k < at'.length := by omega
  have e2 : us.getD k [] = us[k] := by rw [List.getD_eq_getElem?_getD,List.getElem?_eq_getElem hkl];rfl
  have e3 : at'.getD k pz0 = at'[k] := by rw [List.getD_eq_getElem?_getD,List.getElem?_eq_getElem hka];rfl
  have h1 := hget k hkl
  have h2 := hsu k
  have l1 := hsl k
  rw [e2,e3] at h1 h2
  have hu := hub _ (List.getElem_mem hkl)
  have hs := A_rseal (p := at'[k]) (g := g) hu.1 hu.2
  rw [h1.1] at hs
  have h32 := h1.2
  clear hget hsu hsl h1
  generalize (sealN at'[k] g us[k]).1 = x at *
  generalize slL at' g us k = S1 at *
  have b1 : (S1 ++ [x]).length = k + 1 := by simp [l1]
  (repeat' (first
   |(apply yFb;exact rfl;exact rfl)
   |(apply W.qd;(first
   |(exact zW (hs))|(exact zM)|(exact zN)|(exact jAn)|(exact jAj)|(exact jAv)|(exact jAg)|(exact jBd)|(exact jBl)|(exact jAd)|(exact jAz)|(exact jAl)|(exact jA)
   |(apply (yDb (u := .d _));exact rfl;exact rfl)))|(apply W.ed;((apply (e_app1F (l := S1) (f := sD) x);exact congrArg (AV.osl 1 k 0) l1.symm;(iterate 7 exact rfl);omega)))|(apply yA)|(apply yB)|(refine jAe ?_)|(refine jAs ?_)|(apply yE)|(refine jBc ?_)|(apply yG)|(apply yH)|(apply yL)
   |(refine W.cond _ rfl (fun hb => ?_) (fun hb => ?_) <;> ((try simp only [hb,zK]) <;> (try simp only [zL,zI] at hb) <;> (try (exfalso;omega))))))
  all_goals first
   |(exfalso;omega)|(refine ⟨k + 1,by omega,by omega,?_⟩;(try dsimp only);rw [h2,b1];exact ⟨[0,1],rfl,rfl,rfl,iV_eq (by omega),rfl,rfl,rfl,rfl,rfl,trivial⟩)
 ·obtain rfl : k = us.length := by omega
  (repeat' (first
   |(apply W.qd;(first
   |(exact zM)|(exact zN)
   |(exact jAj)))|(apply yA)|(apply yB)|(refine jAe ?_)|(apply yE)|(apply yI)|(apply yJ)|(apply yK)|(apply yM)
   |(refine W.cond _ rfl (fun hb => ?_) (fun hb => ?_) <;> ((try simp only [hb,zK]) <;> (try simp only [zL,zI] at hb) <;> (try (exfalso;omega))))))
  all_goals first
   |(exfalso;omega)
   |exact ⟨.inl rfl,[1],[.osl 1 us.length 0 us.length,bV true],rfl,rfl,⟨rfl,rfl,trivial⟩,AVle.of_eq rfl,rfl⟩
def p40 : List Pl := [(0,4,7),(1,4,7),(2,4,7)]
def g40 : Gn := (1,5)
def u40 (b : Nat) : List Nat := List.replicate 32 b
theorem isB_u40 {b : Nat} (h : b < 256) : isB (u40 b) := fun x hx => by rw [(List.mem_replicate.1 hx).2];exact h
theorem ok40 : CodeOk 8 2 [[1,1]] := ⟨.inl rfl,by decide,by decide,by decide⟩
abbrev s40 (k : Int) (b : Nat) : List Nat := sealL (k,4,7) g40 (u40 b)
theorem seal40 {k : Int} {b : Nat} (hk : plB (k,4,7) = true) : sealN (k,4,7) g40 (u40 b) = (s40 k b,0) := by
 unfold sealN
 rw [if_pos ⟨hk,by decide,by simp [u40]⟩]
theorem st40 {k : Int} {b : Nat} (hk : plB (k,4,7) = true) (hb : b < 256) : staN (k,4,7) g40 (s40 k b) true = (1,u40 b) := seal_state hk (by decide) (isB_u40 hb) (by simp [u40]) (by simp [u40])
theorem slB40 : slB p40 g40 [u40 97,u40 98,u40 3] 3 = true := by
 have e : slB p40 g40 [u40 97,u40 98,u40 3] 3 = (decide ((sealN (0,4,7) g40 (u40 97)).2 = 0 ∧ (u40 97).length = 32) && (decide ((sealN (1,4,7) g40 (u40 98)).2 = 0 ∧ (u40 98).length = 32) && (decide ((sealN (2,4,7) g40 (u40 3)).2 = 0 ∧ (u40 3).length = 32) && true))) := rfl
 rw [e,seal40 (by decide),seal40 (by decide),seal40 (by decide)]
 simp [u40]
theorem slL40 : slL p40 g40 [u40 97,u40 98,u40 3] 3 = [s40 0 97,s40 1 98,s40 2 3] := by
 have e : slL p40 g40 [u40 97,u40 98,u40 3] 3 = [(sealN (0,4,7) g40 (u40 97)).1,(sealN (1,4,7) g40 (u40 98)).1,(sealN (2,4,7) g40 (u40 3)).1] := rfl
 rw [e,seal40 (by decide),seal40 (by decide),seal40 (by decide)]
theorem rpN_three {g : Gn} {x y z : List Nat} {a b c : Bool} : rpN 8 2 [[1,1]] p40 g [x,y,z] [a,b,c] = repU 8 2 [[1,1]] (stU [staN (0,4,7) g x a,staN (1,4,7) g y b,staN (2,4,7) g z c]) (stS [staN (0,4,7) g x a,staN (1,4,7) g y b,staN (2,4,7) g z c]) (stH [staN (0,4,7) g x a,staN (1,4,7) g y b,staN (2,4,7) g z c]) := rfl
theorem sta_no {p : Pl} {g : Gn} {s : List Nat} : staN p g s false = (2,[]) := rfl
theorem rp40a : rpN 8 2 [[1,1]] p40 g40 [s40 0 97,s40 1 98,s40 2 3] [true,true,true] = (1,[1,1,1],[u40 97,u40 98,u40 3],-1) := by
 rw [rpN_three,st40 (by decide) (by decide),st40 (by decide) (by decide),st40 (by decide) (by decide)]
 kernel_rfl
theorem rp40b : rpN 8 2 [[1,1]] p40 (1,4) [s40 0 97,s40 1 98,s40 2 3] [true,true,true] = (3,[3,3,3],[[],[],[]],-1) := by
 rw [rpN_three,seal_other (by decide) (by decide) (isB_u40 (by decide)) (by simp [u40]) (by decide),seal_other (by decide) (by decide) (isB_u40 (by decide)) (by simp [u40]) (by decide),seal_other (by decide) (by decide) (isB_u40 (by decide)) (by simp [u40]) (by decide)]
 kernel_rfl
theorem rp40c : rpN 8 2 [[1,1]] p40 g40 [s40 0 97,s40 1 98,s40 2 3] [true,false,true] = (1,[1,2,1],[u40 97,u40 98,u40 3],-1) := by
 rw [rpN_three,st40 (by decide) (by decide),sta_no,st40 (by decide) (by decide)]
 kernel_rfl
theorem rp40d : rpN 8 2 [[1,1]] p40 g40 [s40 0 97,s40 1 98,s40 2 3] [false,false,true] = (3,[2,2,1],[[],[],u40 3],-1) := by
 rw [rpN_three,sta_no,sta_no,st40 (by decide) (by decide)]
 kernel_rfl
theorem rp40e : rpN 8 2 [[1,1]] p40 g40 [s40 0 97,s40 1 97,s40 2 3] [true,true,true] = (2,[1,1,1],[[],[],[]],-1) := by
 rw [rpN_three,st40 (by decide) (by decide),st40 (by decide) (by decide),st40 (by decide) (by decide)]
 kernel_rfl
theorem fx40c : fixN p40 g40 (1,[1,2,1],[u40 97,u40 98,u40 3],-1) = ([(1,s40 1 98)],0) := rfl
theorem fx40d : fixN p40 g40 (3,[2,2,1],[[],[],u40 3],-1) = ([],11) := rfl
theorem A_rep97 : ACalls Tryz.prog 79 [.d (.v (.string ⟨#[97]⟩)),iV 32] [] (bS (u40 97)) [] :=
 acalls_of_exact rfl fun w => Any.strings_Repeat layRepeat extra_repeat ⟨#[97]⟩ 32 w (by omega) (by decide)
theorem A_rep98 : ACalls Tryz.prog 79 [.d (.v (.string ⟨#[98]⟩)),iV 32] [] (bS (u40 98)) [] :=
 acalls_of_exact rfl fun w => Any.strings_Repeat layRepeat extra_repeat ⟨#[98]⟩ 32 w (by omega) (by decide)
theorem A_rep3 : ACalls Tryz.prog 79 [.d (.v (.string ⟨#[3]⟩)),iV 32] [] (bS (u40 3)) [] :=
 acalls_of_exact rfl fun w => Any.strings_Repeat layRepeat extra_repeat ⟨#[3]⟩ 32 w (by omega) (by decide)
end
end Go.Proofs.YtplpgijpmgbaiaaGreatDoor
