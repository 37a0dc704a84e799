import Derived.Test.YtjaipchlnnjaeaaDoorA2
import Derived.Scope
import Derived.Lib.AppendZeros
import Derived.RangeFuncRecord
import Derived.RangeFuncLeaves
import Derived.Laws.Small
/- Joined texts: Kern22 Kern23 Kern24 Kern25 Kern26 Kern27 Kern28 Kern29 Kern30 Kern31 Kern32 Kern33 Kern34. -/
section
/- The machine of abstract values: one result, a struct in a variable. No program in sight. -/
namespace Go.Proofs.YtjaipchlnnjaeaaDoor
open Go.RowKit
theorem Ends.cell1 {P : Program} {env : List (Nat × AV)} {own : List Ent} {p i : Nat} {tyc : TypeId} {l : List AV} {r : AV} (hx : look env p = .opt i 0) (ho : own[i]? = some (.box l)) (ht : tyInfo P tyc = some (true, l.length)) (hr : AV.frz own [] (.agg l) = r) : Ends P [.cell p tyc] r [] .ret ⟨env, own⟩ :=
  ⟨.inl rfl, [], [.agg l], rfl, ⟨⟨i, l, true, hx, ho, ht, rfl⟩, trivial⟩, AVle.of_eq hr, rfl⟩
theorem frz_row {own : List Ent} {i ver n sz : Nat} {e : TypeId} {l : List (List Dat)} (ho : own[i]? = some (.row ver sz e l)) (hn : n = l.length) : AV.frz own [] (.osl i ver 0 n) = .d (.sl sz l) := by
  simp [AV.frz, plc, frzSl, ho, hn]
end Go.Proofs.YtjaipchlnnjaeaaDoor
end

section
/- The machine of abstract values: scopes whose labels no goto asks for, and the labels. No program in sight. -/
namespace Go.Proofs.YtjaipchlnnjaeaaDoor
open Go.RowKit
set_option linter.unusedVariables false
/-- In a scope nobody jumps by goto. -/
def AGoto (Q : Exit → St → Prop) : Exit → St → Prop
  | .goto _, _ => False
  | e, s => Q e s
section
variable {P : Program} {n m : Nat} {Q : Exit → St → Prop} {s : St}
theorem AWP.label {Γ : Ctx} {l : Nat} (h : Q .normal s) : AWPG Γ P n m (.label l) Q s := fun F W κ0 a κ w hH hm hs => wpIn_label ⟨s, κ, h, hs⟩
theorem AWP.scope {c : Code} (h : AWP P n m c (AGoto Q) s) : AWP P n m (.scope c) Q s := fun F W κ0 a κ w hH hm hs => wpIn_wide.2 <| by
  refine wp_scope_straight (wp_mono (AWP.wp h F W κ0 a κ w hm hs) fun e a' w' he => ?_)
  obtain ⟨s', κ', hq, hs'⟩ := he
  cases e with
  | goto l => exact hq.elim
  | _ => exact ⟨s', κ', hq, hs'⟩
theorem AGoto_normal (h : Q .normal s) : AGoto Q .normal s := h
theorem AGoto_exit {id : Nat} (h : Q (.exit id) s) : AGoto Q (.exit id) s := h
theorem AGoto_ret (h : Q .ret s) : AGoto Q .ret s := h
end
end Go.Proofs.YtjaipchlnnjaeaaDoor
end

section
/- The machine of abstract values: a nil slice in a variable, seen as a row of the call's own. No program in sight. -/
namespace Go.Proofs.YtjaipchlnnjaeaaDoor
open Go.RowKit
set_option linter.unusedVariables false
section
variable {Γ : Ctx} {P : Program} {n m : Nat} {Q : Exit → St → Prop} {env : List (Nat × AV)} {own own1 own2 : List Ent} {c : Code}
theorem AWP.nilBox {l l' : List AV} {q : Nat} (i k sz : Nat) (e : TypeId) (hi : own[i]? = some (.box l)) (hk : l[k]? = some (.d (.v (.slice none 0 0)))) (hs : 0 < sz) (hq : lenF own 0 = some q) (hl : l.set k (.osl q 0 0 0) = l')
    (h1 : pushF own (.row 0 sz e []) = some own1) (h2 : setF own1 i (.box l') = some own2) (hc : AWPG Γ P n m c Q ⟨env, own2⟩) : AWPG Γ P n m c Q ⟨env, own⟩ := fun F W κ0 a κ w hH hm hsim => by
  have hle : m ≤ κ.length := by have := congrArg List.length hsim.pre; simp only [List.length_take] at this; omega
  obtain ⟨g1, g2⟩ := step_push (m := m) (x := .row 0 sz e []) (og := none) (w' := w) hle hsim.own rfl rfl rfl (Nat.le_refl _) (fun _ _ => rfl) (.inl rfl) (fun hst => ⟨hs, .inl ⟨rfl, rfl⟩⟩)
  have e1 := pushF_spec h1
  have e2 := setF_spec h2
  have e3 := lenF_spec hq
  rw [Nat.add_zero] at e3
  subst e1; subst e2; subst e3; subst hl
  have hio : i < own.length := (List.getElem?_eq_some_iff.1 hi).1
  have hi' : (own ++ [Ent.row 0 sz e []])[i]? = some (.box l) := by rw [List.getElem?_append_left hio]; exact hi
  obtain ⟨og, hog⟩ := g1.kap i _ hi'
  have hent := g1.ent i _ hi'
  have e4 : (κ ++ [none]).getD i none = og := by simp [List.getD_eq_getElem?_getD, hog]
  rw [e4] at hent
  rcases hent with ⟨_, h5⟩ | ⟨g, hg, cur, t, h5, h6, h7⟩
  · rw [h5] at hk; cases k <;> simp at hk
  have hlen := satL_length h6
  have hl6 : AV.satL F (own ++ [Ent.row 0 sz e []]) (κ ++ [none]) w (l.set k (.osl own.length 0 0 0)) cur.toList := by
    refine satL_of (by rw [List.length_set]; exact hlen) fun j x hx => ?_
    rw [List.getElem?_set] at hx
    by_cases hjk : k = j
    · subst hjk
      rw [if_pos rfl] at hx
      split at hx
      · obtain rfl : AV.osl own.length 0 0 0 = x := by simpa using hx
        obtain ⟨u, h8, h9⟩ := satL_get h6 k _ hk
        rw [sat_v] at h9
        refine ⟨u, h8, ?_⟩
        subst h9
        rw [AV.sat]
        refine ⟨⟨.row 0 sz e [], by rw [List.getElem?_concat_length], Nat.le_refl _, rfl⟩, fun sz2 e2 c2 hcc => ?_⟩
        rw [List.getElem?_concat_length] at hcc
        obtain ⟨rfl, rfl, rfl⟩ : sz = sz2 ∧ e = e2 ∧ [] = c2 := by simpa using hcc
        refine ⟨by simp, none, 0, rfl, Nat.le_refl _, by simp [maxLen], fun _ => .inr ⟨?_, rfl, rfl⟩⟩
        have hl : own.length = κ.length := hsim.own.len
        rw [hl, List.getElem?_concat_length]
      · cases hx
    · rw [if_neg hjk] at hx
      exact satL_get h6 j x hx
  obtain ⟨g3, g4⟩ := step_upd (m := m) (x' := .box (l.set k (.osl own.length 0 0 0))) (og := og) (og' := og) (w' := w) g1 hi' hog rfl rfl rfl (Nat.le_refl _) (fun _ _ _ => rfl) (.inl rfl) (.inr rfl) (.inr rfl) (fun hst => .inr ⟨g, hg, cur, t, h5, AV.satL_stab hst g1.kap _ hl6, h7⟩)
  have g5 := g2.trans g4
  exact hc F W κ0 a _ w hH hm (hsim.step hm g5 hsim.tm hsim.df (fun u => g5.keep _ _ (hsim.env u)) g3)
end
section
variable {P : Program} {m : Nat} {env : List (Nat × AV)} {own : List Ent} {dst : Option Tmp} {ty : TypeId} {pos : String} {af : Array Edge} {gd : Option (Nat × Bool)}
/-- 'append(row, l2...)', the elements of one kind. -/
theorem e_appN {α : Type} {f : α → List Dat} {l l2 : List α} {t e : TypeId} {sz by' : Nat} {z : Value} {x y : Operand} {p ver : Nat} {own' : List Ent} (hx : lookO env x = .osl p ver 0 l.length) (hp : own[p]? = some (.row ver sz e (l.map f))) (hy : lookO env y = .d (.sl sz (l2.map f))) (ho : setF own p (.row (ver + 1) sz e ((l ++ l2).map f)) = some own') (ht : slInfo P t = some (e, sz, by', z)) (hz : z.cells.size = sz) (hby : Nat.ble by' 1024 = true) (hm : Nat.ble m p = true)
    (hpos : 0 < l2.length) (hb : l.length + l2.length ≤ 1000000000) :
    Eff P m ⟨dst, .call ⟨.builtin .append, #[x, y], #[t, t]⟩, ty, pos, af, gd⟩ env own [p] (.osl p (ver + 1) 0 (l ++ l2).length) own' := by
  rw [List.map_append] at ho
  have := e_appF (P := P) (m := m) (dst := dst) (ty := ty) (pos := pos) (af := af) (gd := gd) hx hp hy ho ht hz hby hm (by simp) (by simpa using hpos) (by simpa using hb)
  rwa [List.length_map, List.length_map, ← List.length_append] at this
end
end Go.Proofs.YtjaipchlnnjaeaaDoor
end

section
/- The machine of abstract values: slices that grow by zeros and are cut to nothing; empty slices that are appended. No program in sight. -/
namespace Go.Proofs.YtjaipchlnnjaeaaDoor
open Go.RowKit
set_option linter.unusedVariables false
set_option linter.unusedSimpArgs false
section
variable {P : Program} {m : Nat} {env : List (Nat × AV)} {own : List Ent} {dst : Option Tmp} {ty : TypeId} {pos : String} {af : Array Edge} {gd : Option (Nat × Bool)}
theorem q_cap_nil {t : TypeId} {x : Operand} {A : Option Addr} {n c : Nat} (ht : isSl P t = true) (hx : lookO env x = .d (.v (.slice A n c))) :
    Quiet P m ⟨dst, .call ⟨.builtin .cap, #[x], #[t]⟩, ty, pos, af, gd⟩ env own [] (iV c) :=
  Quiet.val fun F own' κ a w hs _ hsame _ => by
    have h1 := hs x (by simp [Op.operands, Call.operands]); rw [hx, sat_v] at h1
    refine ⟨.int .i64 c, ?_, sat_v.2 rfl⟩
    rw [exec_builtin]
    simp only [builtin]
    obtain ⟨e, he⟩ := isSl_spec ht
    exact exec_v (by simp [h1, Builtin.cap_, run_underlying he, goInt])
theorem q_slc_nil {t e : TypeId} {sz by' : Nat} {z : Value} {x : Operand} {lo hi : Option Operand} (hx : lookO env x = .d (.v (.slice none 0 0))) (ht : slInfo P t = some (e, sz, by', z)) (h1 : bnd env lo 0 0) (h2 : bnd env hi 0 0) :
    Quiet P m ⟨dst, .slice t x lo hi none, ty, pos, af, gd⟩ env own [] (.d (.v (.slice none 0 0))) :=
  Quiet.val fun F own' κ a w hs _ hsame _ => by
    have hh := hs x (by simp [Op.operands]); rw [hx, sat_v] at hh
    obtain ⟨he, i, hi1, hi2, _, _⟩ := slInfo_spec ht
    have hb := run_bounds (P := P) (a := a) (mx := none) true (fun y hy => hs y (mem_slice (x := x) (t := t) hy)) h1 h2 (show bnd env none 0 0 from rfl) (Nat.le_refl _) (Nat.le_refl _) (Nat.le_refl _) (.inl rfl)
    refine ⟨.slice none 0 0, exec_v ?_, sat_v.2 rfl⟩
    simp only [Option.map_none] at hb
    simp [hh, Instr.sliceAt, run_underlying he, Instr.slice, hb, sizeOf, typeInfo, hi1, hi2]
/-- Nothing is appended. -/
theorem q_app0 {t e : TypeId} {sz by' : Nat} {z : Value} {x y : Operand} {p ver n : Nat} {l : List (List Dat)} (hx : lookO env x = .osl p ver 0 n) (hp : own[p]? = some (.row ver sz e l)) (hy : lookO env y = .d (.sl sz [])) (ht : slInfo P t = some (e, sz, by', z)) :
    Quiet P m ⟨dst, .call ⟨.builtin .append, #[x, y], #[t, t]⟩, ty, pos, af, gd⟩ env own [p] (.osl p ver 0 n) :=
  Quiet.val fun F own' κ a w hs _ hsame _ => by
    have hx1 := hs x (by simp [Op.operands, Call.operands]); rw [hx] at hx1
    have hy1 := hs y (by simp [Op.operands, Call.operands]); rw [hy, AV.sat, Dat.sat] at hy1
    have hp' : own'[p]? = some (.row ver sz e l) := by rw [hsame p (by simp)]; exact hp
    have hx2 := hx1
    rw [AV.sat] at hx2
    obtain ⟨h3, A, c, h4, h5, h6, h7⟩ := hx2.2 sz e l hp'
    obtain ⟨B, c2, hyv, _, _, _⟩ := hy1
    obtain ⟨he, inf, hi1, hi2, _, _⟩ := slInfo_spec ht
    refine ⟨.slice A n c, ?_, by rw [← h4]; exact hx1⟩
    refine run_builtin_append ?_
    rw [h4, hyv]
    have hf : (Builtin.firstCells inf.size 0 (.slice B 0 c2)).run P w = .ok #[] w := by
      cases B with
      | none => exact run_firstCells_none w inf.size 0 0 c2
      | some b => exact run_firstCells_some w inf.size 0 b 0 c2 [] (by simp) (fun j v hj => by simp at hj)
    cases A <;> simp [Builtin.append_, run_underlying he, sizeOf, typeInfo, hi1, Builtin.lenOf, h5, hf, storeCells]
theorem run_builtin_app2 {a : Act} {x y : Operand} {t t' : TypeId} {w w' : World} {v : Value} (h : (Builtin.append_ #[t, t'] ty #[a.eval x, a.eval y]).run P w = .ok v w') :
    (execOp a.eval ⟨dst, .call ⟨.builtin .append, #[x, y], #[t, t']⟩, ty, pos, af, gd⟩).run P w = .ok (.value v) w' := by
  rw [exec_builtin]
  simp only [builtin, List.map_toArray, List.map_cons, List.map_nil]
  exact exec_v h
def isIntT (P : Program) (t : TypeId) : Bool := match P.underlying t with | some (.int _) => true | _ => false
theorem isIntT_spec {t : TypeId} (h : isIntT P t = true) : ∃ k, P.underlying t = some (.int k) := by
  unfold isIntT at h
  split at h
  · rename_i k hk; exact ⟨k, hk⟩
  · cases h
/-- 'append(nil, make([]T, n)...)', of one-cell elements. -/
theorem e_apz {t t' e : TypeId} {by' : Nat} {z : Value} {x y : Operand} {k : IntKind} {i : Int} {n q : Nat} {own' : List Ent} (hx : lookO env x = .d (.v (.slice none 0 0))) (hy : lookO env y = .d (.v (.int k i))) (hi : i = n) (hq : lenF own 0 = some q) (ht : slInfo P t = some (e, 1, by', z)) (ht' : isIntT P t' = true) (ho : pushF own (.row 0 1 e ((List.replicate n z).map fun z => [.v z])) = some own') (hz : z.cells = #[z]) (h1 : z.oneCell' = true) (hby : Nat.ble by' 1024 = true) (h0 : 0 < n) (hn : n ≤ 1000000000) :
    Eff P m ⟨dst, .call ⟨.builtin .append, #[x, y], #[t, t']⟩, ty, pos, af, gd⟩ env own [q] (.osl q 0 0 n) own' := by
  have e1 := lenF_spec hq
  rw [Nat.add_zero] at e1
  subst e1
  rw [pushF_spec ho]
  exact Eff.mk (push_same _) fun F κ a w hs ho hm => by
    have hx1 := hs x (by simp [Op.operands, Call.operands]); rw [hx, sat_v] at hx1
    have hy1 := hs y (by simp [Op.operands, Call.operands]); rw [hy, sat_v] at hy1
    have hby := Nat.le_of_ble_eq_true hby
    obtain ⟨he, inf, hi1, hsz, hb1, hzz⟩ := slInfo_spec ht
    obtain ⟨kn, hkn⟩ := isIntT_spec ht'
    have hbn : n * inf.bytes ≤ 281474976710656 := by
      have := Nat.mul_le_mul hn (hb1 ▸ hby : inf.bytes ≤ 1024); omega
    have hrun := Lib.run_append_nil_zeros (P := P) w t t' ty e inf z k kn he hkn hi1 hzz n h0 (by omega) (by omega) hbn
    have hG := grownCap_ge w n 0 e
    have hG2 := grownCap_le_maxLen w n 0 e (by unfold maxLen; omega)
    generalize grownCap w n 0 e = G at *
    rw [run_builtin_app2 (dst := dst) (pos := pos) (af := af) (gd := gd) (by rw [hx1, hy1, hi]; exact hrun)]
    have hcur : ∀ j, j < n → (Builtin.zeroCells z.cells n ++ Builtin.zeroCells z.cells (G - n))[j]? = some z := fun j hj => by
      rw [hz]
      simp [Builtin.zeroCells, Array.getElem?_append, hj, Nat.mod_one]
    have hsize : (Builtin.zeroCells z.cells n ++ Builtin.zeroCells z.cells (G - n)).size = G := by
      rw [hz]; simp [Builtin.zeroCells]; omega
    generalize Builtin.zeroCells z.cells n ++ Builtin.zeroCells z.cells (G - n) = cur at *
    have hh : (w.drew.alloc (.cells cur e)).heap[w.heap.size]? = some (.cells cur e (0, 0)) := heap_alloc_new w.drew (.cells cur e)
    obtain ⟨g1, g2⟩ := step_push (x := .row 0 1 e ((List.replicate n z).map fun z => [.v z])) (og := some w.heap.size) (w' := w.drew.alloc (.cells cur e)) hm ho rfl rfl rfl (by simp [World.alloc, World.drew, -World.drew_eq]) (fun b hb => Below.heap_alloc w.drew _ _ hb) (.inr ⟨_, rfl, Nat.le_refl _, by simp [World.alloc, World.drew, -World.drew_eq]⟩) (fun hst =>
      ⟨Nat.zero_lt_one, .inr ⟨w.heap.size, rfl, cur, hh, by simp; omega, Dat.rowsSat_iff.2 fun j el hj => by
        rw [List.getElem?_map, List.getElem?_replicate] at hj
        split at hj
        · rename_i hjn
          obtain rfl : [Dat.v z] = el := by simpa using hj
          refine ⟨rfl, Dat.rowSat_iff.2 fun j2 x2 hx2 => ?_⟩
          cases j2 with
          | zero =>
            obtain rfl : Dat.v z = x2 := by simpa using hx2
            refine ⟨z, ?_, h1, by rw [Dat.sat]⟩
            rw [cell_of_row _ _ _ cur e (0, 0) hh]
            simpa using hcur j hjn
          | succ j2 => simp at hx2
        · cases hj⟩⟩)
    refine ⟨κ ++ [some w.heap.size], ?_, g1, g2⟩
    rw [AV.sat]
    refine ⟨⟨_, by rw [List.getElem?_concat_length], Nat.le_refl _, rfl⟩, fun sz2 e2 c2 hc => ?_⟩
    rw [List.getElem?_concat_length] at hc
    obtain ⟨rfl, rfl, rfl⟩ : 1 = sz2 ∧ e = e2 ∧ (List.replicate n z).map (fun z => [Dat.v z]) = c2 := by simpa using hc
    refine ⟨by simp, some ⟨w.heap.size, 0, none⟩, G, rfl, hG, hG2, fun _ => .inl ⟨w.heap.size, ?_, by simp, cur, e, (0, 0), hh, by omega⟩⟩
    rw [ho.len, List.getElem?_concat_length]
end
section
variable {Γ : Ctx} {P : Program} {n m : Nat} {Q : Exit → St → Prop} {env : List (Nat × AV)} {own own' : List Ent} {c : Code}
/-- A slice of no elements at the row's beginning: the row's elements are forgotten. -/
theorem AWP.shrink {ver sz : Nat} {e : TypeId} {l : List (List Dat)} (t p : Nat) (hx : look env t = .osl p ver 0 0) (hp : own[p]? = some (.row ver sz e l)) (hset : setF own p (.row (ver + 1) sz e []) = some own') (hc : AWPG Γ P n m c Q ⟨(t, .osl p (ver + 1) 0 0) :: env, own'⟩) : AWPG Γ P n m c Q ⟨env, own⟩ := fun F W κ0 a κ w hH hm hsim => by
  have hset := setF_spec hset
  subst hset
  have ho := hsim.own
  obtain ⟨og, hog⟩ := ho.kap p _ hp
  obtain ⟨h0, hent⟩ := ho.ent p _ hp
  have e4 : κ.getD p none = og := by simp [List.getD_eq_getElem?_getD, hog]
  rw [e4] at hent
  obtain ⟨g1, g2⟩ := step_upd (m := m) (x' := .row (ver + 1) sz e []) (og := og) (og' := og) (w' := w) ho hp hog rfl rfl rfl (Nat.le_refl _) (fun _ _ _ => rfl) (.inl rfl) (.inr rfl) (.inl (Nat.lt_succ_self _)) (fun hst => ⟨h0, by
    rcases hent with ⟨hx1, _⟩ | ⟨g, hg, cur, h8, h9, h10⟩
    · exact .inl ⟨hx1, rfl⟩
    · exact .inr ⟨g, hg, cur, h8, by simp, by simp [Dat.rowsSat]⟩⟩)
  refine hc F W κ0 a (κ.set p og) w hH hm (hsim.step hm g2 hsim.tm hsim.df (fun u => ?_) g1)
  simp only [look]
  by_cases hu : t = u
  · subst hu
    rw [if_pos rfl]
    have hh := hsim.env t
    rw [hx, AV.sat] at hh
    obtain ⟨h3, A, cc, h4, h5, h6, h7⟩ := hh.2 sz e l hp
    have hpl : p < own.length := (List.getElem?_eq_some_iff.1 hp).1
    have hpk : p < κ.length := (List.getElem?_eq_some_iff.1 hog).1
    have hown : (own.set p (.row (ver + 1) sz e []))[p]? = some (.row (ver + 1) sz e []) := by simp [hpl]
    rw [AV.sat]
    obtain ⟨_, _, _, h1c⟩ := hh.1
    refine ⟨⟨_, hown, Nat.le_refl _, h1c⟩, fun sz2 e2 c2 hcc => ?_⟩
    rw [hown] at hcc
    obtain ⟨rfl, rfl, rfl⟩ : sz = sz2 ∧ e = e2 ∧ [] = c2 := by simpa using hcc
    refine ⟨by simp, A, cc, h4, Nat.zero_le _, h6, fun _ => ?_⟩
    rcases h7 (.inr rfl) with ⟨g, q1, q2, cur, e3, fz, q3, q4⟩ | ⟨q1, q2, q3⟩
    · refine .inl ⟨g, ?_, q2, cur, e3, fz, q3, q4⟩
      rw [List.getElem?_set, if_pos rfl, if_pos hpk, ← hog, q1]
    · refine .inr ⟨?_, q2, q3⟩
      rw [List.getElem?_set, if_pos rfl, if_pos hpk, ← hog, q1]
  · rw [if_neg hu]; exact g2.keep _ _ (hsim.env u)
end
end Go.Proofs.YtjaipchlnnjaeaaDoor
end

section
/- The machine of abstract values: places that are kept free for memory that a region makes in whatever order. No program in sight. -/
namespace Go.Proofs.YtjaipchlnnjaeaaDoor
open Go.RowKit
set_option linter.unusedVariables false
set_option linter.unusedSimpArgs false
/-- A place that is free. -/
abbrev hole : Ent := .box [.tup []]
theorem hole_none {F : Nat → Prop} {own : List Ent} {κ : List (Option Nat)} {w : World} (ho : OwnSat F own κ w) {h : Nat} (hh : own[h]? = some hole) : κ[h]? = some none := by
  obtain ⟨og, hog⟩ := ho.kap h _ hh
  have e : κ.getD h none = og := by simp [List.getD_eq_getElem?_getD, hog]
  have := ho.ent h _ hh
  rw [e] at this
  rcases this with ⟨rfl, _⟩ | ⟨g, hg, cur, t, h1, h2, h3⟩
  · exact hog
  · have hl := satL_length h2
    obtain ⟨u, h4, h5⟩ := satL_get h2 0 (.tup []) (by simp)
    have h6 := h3 u (List.mem_of_getElem? h4)
    rw [AV.sat] at h5
    obtain ⟨vs, rfl, _⟩ := h5
    simp [Value.oneCell'] at h6
/-- A row of data, or a variable that holds data. -/
def Ent.closed : Ent → Prop
  | .row .. => True
  | .box l => ∀ x ∈ l, ∃ d, x = .d d
/-- A slice of entry n, or a pointer to it. -/
def refAt (k : Nat × Nat × Nat ⊕ Nat) (n : Nat) : AV := match k with | .inl (ver, o, l) => .osl n ver o l | .inr o => .opt n o
section
variable {P : Program} {m : Nat} {env : List (Nat × AV)} {own : List Ent} {o : Oper}
theorem satL_data {F F' : Nat → Prop} {own own' : List Ent} {κ κ' : List (Option Nat)} {w w' : World} (hw : Wide (badK F κ) (badK F' κ') w w') : ∀ {l : List AV} {us : List Value}, (∀ x ∈ l, ∃ d, x = .d d) → AV.satL F own κ w l us → AV.satL F' own' κ' w' l us
  | [], [], _, h => by simp [AV.satL]
  | x :: xs, u :: us, hd, h => by
    rw [AV.satL] at h ⊢
    obtain ⟨d, rfl⟩ := hd x (by simp)
    refine ⟨?_, satL_data hw (fun y hy => hd y (by simp [hy])) h.2⟩
    have h1 := h.1
    rw [AV.sat] at h1 ⊢
    exact Dat.sat_wide hw d h1
  | [], _ :: _, _, h => by simp [AV.satL] at h
  | _ :: _, [], _, h => by simp [AV.satL] at h
section
variable {F : Nat → Prop} {own own' own'' : List Ent} {κ κ' κ'' : List (Option Nat)} {w w' : World}
mutual
theorem keepTwo (ref : ∀ (x : AV) {u u' : Value}, (∃ i ver o n, x = .osl i ver o n) ∨ (∃ i ver j o, x = .rpt i ver j o) ∨ (∃ i o, x = .opt i o) → AV.sat F own κ w x u → AV.sat F own' κ' w' x u' → AV.sat F own'' κ'' w' x u') (hw : Wide (badK F κ') (badK F κ'') w' w') : ∀ (x : AV) (u u' : Value), AV.sat F own κ w x u → AV.sat F own' κ' w' x u' → AV.sat F own'' κ'' w' x u'
  | .top, u, u', _, _ => by simp [AV.sat]
  | .d x, u, u', _, hs => by
    rw [AV.sat] at hs ⊢
    exact Dat.sat_wide hw x hs
  | .fpt sz l j o, u, u', _, hs => by
    rw [AV.sat] at hs ⊢
    obtain ⟨b, q, h1, h2, h3, h4⟩ := hs
    exact ⟨b, q, h1, h2, hw.free b h2 h3, Dat.rowsSat_wide hw rfl l h4⟩
  | .osl i ver o n, u, u', h1, hs => ref _ (.inl ⟨i, ver, o, n, rfl⟩) h1 hs
  | .rpt i ver j o, u, u', h1, hs => ref _ (.inr (.inl ⟨i, ver, j, o, rfl⟩)) h1 hs
  | .opt i o, u, u', h1, hs => ref _ (.inr (.inr ⟨i, o, rfl⟩)) h1 hs
  | .fn f l, u, u', h1, hs => by
    rw [AV.sat] at h1 hs ⊢
    obtain ⟨vs, _, h3⟩ := h1
    obtain ⟨vs', h4, h5⟩ := hs
    exact ⟨vs', h4, keepTwoL ref hw l vs.toList vs'.toList h3 h5⟩
  | .agg l, u, u', h1, hs => by
    rw [AV.sat] at h1 hs ⊢
    obtain ⟨vs, _, h3⟩ := h1
    obtain ⟨vs', h4, h5⟩ := hs
    exact ⟨vs', h4, keepTwoL ref hw l vs.toList vs'.toList h3 h5⟩
  | .tup l, u, u', h1, hs => by
    rw [AV.sat] at h1 hs ⊢
    obtain ⟨vs, _, h3⟩ := h1
    obtain ⟨vs', h4, h5⟩ := hs
    exact ⟨vs', h4, keepTwoL ref hw l vs.toList vs'.toList h3 h5⟩
theorem keepTwoL (ref : ∀ (x : AV) {u u' : Value}, (∃ i ver o n, x = .osl i ver o n) ∨ (∃ i ver j o, x = .rpt i ver j o) ∨ (∃ i o, x = .opt i o) → AV.sat F own κ w x u → AV.sat F own' κ' w' x u' → AV.sat F own'' κ'' w' x u') (hw : Wide (badK F κ') (badK F κ'') w' w') : ∀ (l : List AV) (us us' : List Value), AV.satL F own κ w l us → AV.satL F own' κ' w' l us' → AV.satL F own'' κ'' w' l us'
  | [], [], [], _, _ => by simp [AV.satL]
  | x :: xs, u :: us, u' :: us', h1, hs => by
    rw [AV.satL] at h1 hs ⊢
    exact ⟨keepTwo ref hw x u u' h1.1 hs.1, keepTwoL ref hw xs us us' h1.2 hs.2⟩
  | [], _ :: _, _, h1, _ => by simp [AV.satL] at h1
  | [], _, _ :: _, _, hs => by simp [AV.satL] at hs
  | _ :: _, [], _, h1, _ => by simp [AV.satL] at h1
  | _ :: _, _, [], _, hs => by simp [AV.satL] at hs
end
end
/-- New memory goes to a free place. -/
theorem Loc.fill {h : Nat} {x : Ent} {k : Nat × Nat × Nat ⊕ Nat} {fp : List Nat} (hh : own[h]? = some hole) (hm : m ≤ h) (hx : x.closed)
    (hq : ∀ env' own2, (∀ t ∈ (seenOf o), look env' t = look env t) → same fp own own2 → OpOk P m o env' own2 (refAt k own2.length) (own2 ++ [x])) : Loc P m o env own [h] fp (refAt k h) (own.set h x) := by
  refine ⟨fun env' own2 hag hsame => ⟨own2.set h x, fun F κ a w he ho hmk => ?_, fun t ht => ?_, fun t ht => by rw [List.getElem?_set_ne (by simpa using Ne.symm (by simpa using ht))]⟩, fun i hi => by rw [List.getElem?_set_ne (by simpa using Ne.symm (by simpa using hi))]⟩
  · have hh2 : own2[h]? = some hole := by rw [hsame h (by simp)]; exact hh
    have hhl : h < own2.length := (List.getElem?_eq_some_iff.1 hh2).1
    have h1 := hq env' own2 hag (fun t ht => hsame t (by simp [ht])) F κ a w he ho hmk
    have hκh := hole_none ho hh2
    have key : ∀ (v : Value) (w' : World), (∃ κ', AV.sat F (own2 ++ [x]) κ' w' (refAt k own2.length) v ∧ OwnSat F (own2 ++ [x]) κ' w' ∧ Tr F m own2 κ w (own2 ++ [x]) κ' w') → ∃ κ', AV.sat F (own2.set h x) κ' w' (refAt k h) v ∧ OwnSat F (own2.set h x) κ' w' ∧ Tr F m own2 κ w (own2.set h x) κ' w' := by
      rintro v w' ⟨κ', hv, hO, tr⟩
      have hlen : κ'.length = own2.length + 1 := by have := hO.len; simp at this; omega
      have hnew : (own2 ++ [x])[own2.length]? = some x := by rw [List.getElem?_concat_length]
      obtain ⟨og, hog⟩ := hO.kap own2.length x hnew
      -- the places
      have hK : ∀ i, i < own2.length → i ≠ h → ((κ'.take own2.length).set h og)[i]? = κ'[i]? := fun i hi hne => by
        rw [List.getElem?_set_ne (Ne.symm hne), List.getElem?_take, if_pos hi]
      have hKh : ((κ'.take own2.length).set h og)[h]? = some og := by
        rw [List.getElem?_set, if_pos rfl, if_pos (by rw [List.length_take]; omega)]
      have hκ'h : κ'[h]? = some none := by
        have h3 : (own2 ++ [x])[h]? = some hole := by rw [List.getElem?_append_left hhl]; exact hh2
        exact hole_none hO h3
      have hmem : ∀ b, some b ∈ (κ'.take own2.length).set h og ↔ some b ∈ κ' := fun b => by
        constructor
        · intro hb
          obtain ⟨i, hi⟩ := List.mem_iff_getElem?.1 hb
          by_cases hih : i = h
          · subst hih
            rw [hKh] at hi
            have : og = some b := by simpa using hi
            subst this
            exact List.mem_of_getElem? hog
          · have hil : i < own2.length := by
              have := (List.getElem?_eq_some_iff.1 hi).1
              rw [List.length_set, List.length_take] at this; omega
            rw [hK i hil hih] at hi
            exact List.mem_of_getElem? hi
        · intro hb
          obtain ⟨i, hi⟩ := List.mem_iff_getElem?.1 hb
          have hil := (List.getElem?_eq_some_iff.1 hi).1
          by_cases hin : i = own2.length
          · subst hin
            rw [hog] at hi
            have : og = some b := by simpa using hi
            subst this
            exact List.mem_of_getElem? hKh
          · have hih : i ≠ h := fun e => by subst e; rw [hκ'h] at hi; cases hi
            have := hK i (by omega) hih
            rw [hi] at this
            exact List.mem_of_getElem? this
      have hwide : ∀ b, badK F ((κ'.take own2.length).set h og) b ↔ badK F κ' b := fun b => or_congr Iff.rfl (hmem b)
      have hW : Wide (badK F κ') (badK F ((κ'.take own2.length).set h og)) w' w' := ⟨Nat.le_refl _, fun _ _ _ => rfl, fun b _ hb hb' => hb ((hwide b).1 hb')⟩
      have hown : ∀ i, i < own2.length → i ≠ h → (own2.set h x)[i]? = (own2 ++ [x])[i]? := fun i hi hne => by
        rw [List.getElem?_set_ne (Ne.symm hne), List.getElem?_append_left hi]
      have hownh : (own2.set h x)[h]? = some x := by rw [List.getElem?_set, if_pos rfl, if_pos hhl]
      -- what refers to old entries
      have mv : ∀ (y : AV) {u u' : Value}, (∃ i ver o n, y = .osl i ver o n) ∨ (∃ i ver j o, y = .rpt i ver j o) ∨ (∃ i o, y = .opt i o) → AV.sat F own2 κ w y u → AV.sat F (own2 ++ [x]) κ' w' y u' → AV.sat F (own2.set h x) ((κ'.take own2.length).set h og) w' y u' := by
        intro y u u' hy hs hs'
        rcases hy with ⟨i, ver, o, n, rfl⟩ | ⟨i, ver, j, o, rfl⟩ | ⟨i, o, rfl⟩
        · rw [AV.sat] at hs hs' ⊢
          obtain ⟨⟨z, hz, hzu, hz1⟩, _⟩ := hs
          have hil : i < own2.length := (List.getElem?_eq_some_iff.1 hz).1
          have hne : i ≠ h := fun e => by subst e; rw [hh2] at hz; obtain rfl : hole = z := by simpa using hz
                                          exact hzu.elim
          rw [hown i hil hne]
          refine ⟨hs'.1, fun sz e cells hc => ?_⟩
          obtain ⟨q1, A, c, q2, q3, q4, q5⟩ := hs'.2 sz e cells hc
          refine ⟨q1, A, c, q2, q3, q4, fun hp => ?_⟩
          rcases q5 hp with ⟨g, r1, r2⟩ | ⟨r1, r2⟩
          · exact .inl ⟨g, by rw [hK i hil hne]; exact r1, r2⟩
          · exact .inr ⟨by rw [hK i hil hne]; exact r1, r2⟩
        · rw [AV.sat] at hs hs' ⊢
          obtain ⟨⟨z, hz, hzu, hz1⟩, _⟩ := hs
          have hil : i < own2.length := (List.getElem?_eq_some_iff.1 hz).1
          have hne : i ≠ h := fun e => by subst e; rw [hh2] at hz; obtain rfl : hole = z := by simpa using hz
                                          exact hzu.elim
          rw [hown i hil hne, hK i hil hne]
          exact hs'
        · rw [AV.sat] at hs hs' ⊢
          obtain ⟨g, l, hz, hz2, _⟩ := hs
          have hil : i < own2.length := (List.getElem?_eq_some_iff.1 hz).1
          have hne : i ≠ h := fun e => by subst e; rw [hκh] at hz2; cases hz2
          rw [hown i hil hne, hK i hil hne]
          exact hs'
      have keep := fun y u hs => keepTwo (F := F) (own := own2) (κ := κ) (w := w) mv hW y u u hs (tr.keep y u hs)
      refine ⟨(κ'.take own2.length).set h og, ?_, ⟨by simp [hlen], hO.frame, fun g hg => hO.lt g ((hmem g).1 hg), fun i j g hi hj => ?_, fun i y hy => ?_, glb_keep ho.glb tr.size tr.old fun b hb => tr.new b ((hmem b).1 hb)⟩, ⟨tr.os, tr.tape, tr.output, tr.size, tr.old, fun b hb => tr.new b ((hmem b).1 hb), ?_, keep⟩⟩
      · cases k with
        | inl q =>
          obtain ⟨ver, oo, l⟩ := q
          simp only [refAt] at hv ⊢
          rw [AV.sat] at hv ⊢
          rw [hnew] at hv
          rw [hownh]
          refine ⟨hv.1, fun sz e cells hc => ?_⟩
          obtain ⟨q1, A, c, q2, q3, q4, q5⟩ := hv.2 sz e cells hc
          refine ⟨q1, A, c, q2, q3, q4, fun hp => ?_⟩
          rcases q5 hp with ⟨g, r1, r2⟩ | ⟨r1, r2⟩
          · exact .inl ⟨g, by rw [hKh, ← hog]; exact r1, r2⟩
          · exact .inr ⟨by rw [hKh, ← hog]; exact r1, r2⟩
        | inr oo =>
          simp only [refAt] at hv ⊢
          rw [AV.sat] at hv ⊢
          obtain ⟨g, l, q1, q2, q3⟩ := hv
          rw [hnew] at q1
          exact ⟨g, l, by rw [hownh]; exact q1, by rw [hKh, ← hog]; exact q2, q3⟩
      · have loc : ∀ i, ((κ'.take own2.length).set h og)[i]? = some (some g) → ∃ i', κ'[i']? = some (some g) ∧ ((i = h ∧ i' = own2.length) ∨ (i ≠ h ∧ i' = i ∧ i < own2.length)) := fun i hi => by
          by_cases hih : i = h
          · subst hih
            rw [hKh] at hi
            exact ⟨own2.length, by rw [hog]; exact hi, .inl ⟨rfl, rfl⟩⟩
          · have hil : i < own2.length := by
              have := (List.getElem?_eq_some_iff.1 hi).1
              rw [List.length_set, List.length_take] at this; omega
            rw [hK i hil hih] at hi
            exact ⟨i, hi, .inr ⟨hih, rfl, hil⟩⟩
        obtain ⟨i', h3, h4⟩ := loc i hi
        obtain ⟨j', h5, h6⟩ := loc j hj
        have := hO.inj i' j' g h3 h5
        omega
      · by_cases hih : i = h
        · subst hih
          rw [hownh] at hy
          obtain rfl : x = y := by simpa using hy
          have e1 : ((κ'.take own2.length).set i og).getD i none = og := by rw [List.getD_eq_getElem?_getD, hKh]; rfl
          have e2 : κ'.getD own2.length none = og := by simp [List.getD_eq_getElem?_getD, hog]
          have he2 := hO.ent own2.length x hnew
          rw [e2] at he2
          rw [e1]
          cases x with
          | box l =>
            rcases he2 with h3 | ⟨g, hg, cur, t, h3, h4, h5⟩
            · exact .inl h3
            · exact .inr ⟨g, hg, cur, t, h3, satL_data hW hx h4, h5⟩
          | row v s e c =>
            obtain ⟨h0, h3⟩ := he2
            refine ⟨h0, h3.imp id ?_⟩
            rintro ⟨g, hg, cur, h4, h5, h6⟩
            exact ⟨g, hg, cur, h4, h5, Dat.rowsSat_wide hW rfl c h6⟩
        · have hil : i < own2.length := by
            have := (List.getElem?_eq_some_iff.1 hy).1
            rw [List.length_set] at this; exact this
          have hy2 : own2[i]? = some y := by rw [List.getElem?_set_ne (Ne.symm hih)] at hy; exact hy
          have he2 := ho.ent i y hy2
          obtain ⟨ogi, hogi⟩ := ho.kap i y hy2
          -- the entry now, by the operation's own word
          have he3 := hO.ent i y (by rw [List.getElem?_append_left hil]; exact hy2)
          have e1 : ((κ'.take own2.length).set h og).getD i none = κ'.getD i none := by
            rw [List.getD_eq_getElem?_getD, List.getD_eq_getElem?_getD, hK i hil hih]
          rw [e1]
          cases y with
          | row v s e c =>
            obtain ⟨h0, h3⟩ := he3
            refine ⟨h0, h3.imp id ?_⟩
            rintro ⟨g, hg, cur, h4, h5, h6⟩
            exact ⟨g, hg, cur, h4, h5, Dat.rowsSat_wide hW rfl c h6⟩
          | box l =>
            rcases he3 with h3 | ⟨g, hg, cur, t, h3, h4, h5⟩
            · exact .inl h3
            · refine .inr ⟨g, hg, cur, t, h3, ?_, h5⟩
              rcases he2 with ⟨_, rfl⟩ | ⟨g2, hg2, cur2, t2, h6, h7, h8⟩
              · exfalso
                obtain ⟨u, h9, h10⟩ := satL_get h4 0 (.tup []) (by simp)
                have h11 := h5 u (List.mem_of_getElem? h9)
                rw [AV.sat] at h10
                obtain ⟨vs, rfl, _⟩ := h10
                simp [Value.oneCell'] at h11
              · exact keepTwoL mv hW l _ _ h7 h4
      · rw [← tr.pre]
        rw [List.take_set_of_le (by omega), List.take_take, Nat.min_eq_left (by omega)]
    generalize (execOp a.eval o).run P w = res at h1 ⊢
    cases res with
    | ok nx w' =>
      cases nx <;> simp only [OutOk] at h1 ⊢
      case value v => exact key v w' h1
      case skip => exact key undef w' h1
      case enter f args => exact h1.mono fun e w'' ⟨v, he, h2⟩ => ⟨v, he, key v w'' h2⟩
    | halt y w' => exact h1.elim
  · have hh2 : own2[h]? = some hole := by rw [hsame h (by simp)]; exact hh
    have hhl : h < own2.length := (List.getElem?_eq_some_iff.1 hh2).1
    have hhl1 : h < own.length := (List.getElem?_eq_some_iff.1 hh).1
    obtain rfl : t = h := by simpa using ht
    rw [List.getElem?_set, List.getElem?_set]
    simp [hhl, hhl1]
end
end Go.Proofs.YtjaipchlnnjaeaaDoor
end

section
/- The machine of abstract values: rules for memory that goes to free places. No program in sight. -/
namespace Go.Proofs.YtjaipchlnnjaeaaDoor
open Go.RowKit
set_option linter.unusedVariables false
set_option linter.unusedSimpArgs false
def isHole : Ent → Bool
  | .box [.tup []] => true
  | _ => false
theorem isHole_spec {x : Ent} (h : isHole x = true) : x = hole := by
  unfold isHole at h
  split at h
  · rfl
  · cases h
def holeF : List Ent → Nat → Option Nat
  | [], _ => none
  | x :: l, k => match isHole x with | true => some k | false => holeF l (Nat.succ k)
theorem holeF_spec : ∀ {l : List Ent} {k h : Nat}, holeF l k = some h → k ≤ h ∧ l[h - k]? = some hole
  | [], k, h, e => by simp [holeF] at e
  | x :: l, k, h, e => by
    simp only [holeF] at e
    cases hx : isHole x with
    | true =>
      simp only [hx, Option.some.injEq] at e
      subst e
      rw [Nat.sub_self, isHole_spec hx]
      exact ⟨Nat.le_refl _, rfl⟩
    | false =>
      simp only [hx] at e
      obtain ⟨h1, h2⟩ := holeF_spec e
      refine ⟨by omega, ?_⟩
      rw [show h - k = (h - (k + 1)) + 1 by omega, List.getElem?_cons_succ]
      exact h2
section
variable {Γ : Ctx} {P : Program} {n m : Nat} {Q : Exit → St → Prop} {env : List (Nat × AV)} {own own' : List Ent} {c : Code}
/-- A place is kept free. -/
theorem AWP.hole (ho : pushF own hole = some own') (hc : AWPG Γ P n m c Q ⟨env, own'⟩) : AWPG Γ P n m c Q ⟨env, own⟩ := fun F W κ0 a κ w hH hm hsim => by
  have e1 := pushF_spec ho
  subst e1
  have hle : m ≤ κ.length := by have := congrArg List.length hsim.pre; simp only [List.length_take] at this; omega
  obtain ⟨g1, g2⟩ := step_push (m := m) (x := Go.Proofs.YtjaipchlnnjaeaaDoor.hole) (og := none) (w' := w) hle hsim.own rfl rfl rfl (Nat.le_refl _) (fun _ _ => rfl) (.inl rfl) (fun hst => .inl ⟨rfl, rfl⟩)
  exact hc F W κ0 a (κ ++ [none]) w hH hm (hsim.step hm g2 hsim.tm hsim.df (fun u => g2.keep _ _ (hsim.env u)) g1)
end
section
variable {P : Program} {m : Nat} {env : List (Nat × AV)} {own : List Ent} {dst : Option Tmp} {ty : TypeId} {pos : String} {af : Array Edge} {gd : Option (Nat × Bool)}
theorem l_alloc {t : TypeId} {zs : List Value} {h : Nat} {own' : List Ent} (hh : holeF own 0 = some h) (hz : zeroInfo P t = some zs) (ho : setF own h (.box (zs.map fun z => .d (.v z))) = some own') (h1 : (zs.all (·.oneCell')) = true) (hm : Nat.ble m h = true) :
    Loc P m ⟨dst, .alloc t, ty, pos, af, gd⟩ env own [h] [] (.opt h 0) own' := by
  rw [setF_spec ho]
  refine Loc.fill (k := .inr 0) (x := .box (zs.map fun z => .d (.v z))) (holeF_spec hh).2 (Nat.le_of_ble_eq_true hm) (fun x hx => ?_) fun env' own2 hag hsame => ?_
  · obtain ⟨z, _, rfl⟩ := List.mem_map.1 hx
    exact ⟨_, rfl⟩
  · exact (e_alloc (P := P) (m := m) (env := env') (own := own2) (dst := dst) (ty := ty) (pos := pos) (af := af) (gd := gd) hz h1).1 env' fun _ _ => rfl
theorem l_make {α : Type} {f : α → List Dat} {t e : TypeId} {by' : Nat} {z : Value} {x y : Operand} {k k' : IntKind} {i : Int} {n h : Nat} {own' : List Ent} (v0 : α) (hh : holeF own 0 = some h) (hx : lookO env x = .d (.v (.int k i))) (hy : lookO env y = .d (.v (.int k' i))) (hi : i = n) (ht : slInfo P t = some (e, 1, by', z)) (hz : f v0 = [.v z]) (ho : setF own h (.row 0 1 e ((List.replicate n v0).map f)) = some own') (hz' : z.cells = #[z]) (h1 : z.oneCell' = true) (hby : Nat.ble by' 1024 = true) (hm : Nat.ble m h = true) (hn : n ≤ 1000000000) :
    Loc P m ⟨dst, .makeSlice t x y, ty, pos, af, gd⟩ env own [h] [] (.osl h 0 0 n) own' := by
  rw [setF_spec ho]
  refine Loc.fill (k := .inl (0, 0, n)) (x := .row 0 1 e ((List.replicate n v0).map f)) (holeF_spec hh).2 (Nat.le_of_ble_eq_true hm) trivial fun env' own2 hag hsame => ?_
  have hx' : lookO env' x = .d (.v (.int k i)) := by rw [← hx]; exact lookO_seen (o := ⟨dst, .makeSlice t x y, ty, pos, af, gd⟩) hag (by simp [Op.operands])
  have hy' : lookO env' y = .d (.v (.int k' i)) := by rw [← hy]; exact lookO_seen (o := ⟨dst, .makeSlice t x y, ty, pos, af, gd⟩) hag (by simp [Op.operands])
  have := (e_make (P := P) (m := m) (env := env') (own := own2) (dst := dst) (ty := ty) (pos := pos) (af := af) (gd := gd) n ht (by rw [hz']; rfl) rfl (by rw [hz']; simpa using h1) hby hx' hy' hi hn).1 env' fun _ _ => rfl
  rw [hz'] at this
  rw [List.map_replicate, hz]
  exact this
theorem W.ln {ops : Array Oper} {Q : List Part → List (Nat × AV) → List Ent → Prop} {done : List Part} {op : Op} {rest : List Oper} {mod fp : List Nat} {r : AV} {own' : List Ent} (hq : Loc P m ⟨none, op, ty, pos, af, none⟩ env own mod fp r own') (h : Walk P m ops Q (.l mod fp :: done) rest env own') : Walk P m ops Q done (⟨none, op, ty, pos, af, none⟩ :: rest) env own := Walk.l mod fp r own' trivial hq h
/-- An effect that asks of memory but how one entry is, and sets it. -/
theorem Loc.set {o : Oper} {i : Nat} {x y : Ent} {r : AV} (hi : own[i]? = some x) (hq : ∀ env' own2, (∀ t ∈ (seenOf o), look env' t = look env t) → own2[i]? = some x → OpOk P m o env' own2 r (own2.set i y)) : Loc P m o env own [i] [] r (own.set i y) := by
  refine ⟨fun env' own2 hag hsame => ⟨own2.set i y, hq env' own2 hag (by rw [hsame i (by simp)]; exact hi), fun t ht => ?_, fun t ht => by rw [List.getElem?_set_ne (by simpa using Ne.symm (by simpa using ht))]⟩, fun j hj => by rw [List.getElem?_set_ne (by simpa using Ne.symm (by simpa using hj))]⟩
  obtain rfl : t = i := by simpa using ht
  have h2 : own2[t]? = some x := by rw [hsame t (by simp)]; exact hi
  have h3 : t < own2.length := (List.getElem?_eq_some_iff.1 h2).1
  have h4 : t < own.length := (List.getElem?_eq_some_iff.1 hi).1
  rw [List.getElem?_set, List.getElem?_set]
  simp [h3, h4]
theorem l_st_box {t : TypeId} {n : Nat} {b : Bool} {x y : Operand} {i o : Nat} {l cs l' : List AV} {own' : List Ent} (hx : lookO env x = .opt i o) (hl : own[i]? = some (.box l)) (hc : cellsF (lookO env y) = some cs) (hs : spliceF o cs l = some l') (ho : setF own i (.box l') = some own') (ht : tyInfo P t = some (b, n)) (hok : okPart (lookO env y) = true) (h1 : cs.all oneA = true) (hn : Nat.beq cs.length n = true) :
    Loc P m ⟨dst, .store t x y, ty, pos, af, gd⟩ env own [i] [] (.d (.v undef)) own' := by
  have hn := Nat.eq_of_beq_eq_true hn
  obtain ⟨h2, h3⟩ := spliceF_spec hs
  rw [setF_spec ho]
  refine Loc.set hl fun env' own2 hag hi => ?_
  have hx' : lookO env' x = .opt i o := by rw [← hx]; exact lookO_seen (o := ⟨dst, .store t x y, ty, pos, af, gd⟩) hag (by simp [Op.operands])
  have hy' : lookO env' y = lookO env y := lookO_seen (o := ⟨dst, .store t x y, ty, pos, af, gd⟩) hag (by simp [Op.operands])
  have := (e_st_box (P := P) (m := m) (env := env') (own := own2) (dst := dst) (ty := ty) (pos := pos) (af := af) (gd := gd) ht hx' hi (by rw [hy']; exact cellsF_A hc) (by rw [hy']; exact hok) h1 hn (by omega)).1 env' fun _ _ => rfl
  rwa [h2]
theorem l_st_rpt {α : Type} {f : α → List Dat} {l : List α} {t : TypeId} {x y : Operand} {i ver j : Nat} {e : TypeId} {d : Dat} {own' : List Ent} (v : α) (hx : lookO env x = .rpt i ver j 0) (hi : own[i]? = some (.row ver 1 e (l.map f))) (ht : tyInfo P t = some (false, 1)) (hy : cellsD (lookO env y) = some [d]) (hd : f v = [d]) (ho : setF own i (.row ver 1 e ((l.set j v).map f)) = some own') (h1 : oneA (.d d) = true) (hf : ∀ x, (f x).length = 1) (hj : j < l.length) :
    Loc P m ⟨dst, .store t x y, ty, pos, af, gd⟩ env own [i] [] (.d (.v undef)) own' := by
  rw [setF_spec ho]
  refine Loc.set hi fun env' own2 hag hi2 => ?_
  have hx' : lookO env' x = .rpt i ver j 0 := by rw [← hx]; exact lookO_seen (o := ⟨dst, .store t x y, ty, pos, af, gd⟩) hag (by simp [Op.operands])
  have hy' : lookO env' y = lookO env y := lookO_seen (o := ⟨dst, .store t x y, ty, pos, af, gd⟩) hag (by simp [Op.operands])
  have hc : (l.map f)[j]? = some (f l[j]) := by rw [List.getElem?_map, List.getElem?_eq_getElem hj]; rfl
  have := (e_st_rpt (P := P) (m := m) (env := env') (own := own2) (dst := dst) (ty := ty) (pos := pos) (af := af) (gd := gd) (k := 1) ht rfl hx' hi2 hc (by omega) (by rw [hy']; exact hy) h1).1 env' fun _ _ => rfl
  have e1 : (f l[j]).set 0 d = [d] := by
    have := hf l[j]
    match hq : f l[j], this with
    | [a], _ => rfl
  rw [e1, ← hd] at this
  rw [List.map_set]
  exact this
theorem bkOwn_nil (own : List Ent) (x : Ent) : bkOwn [] own [x] = own ++ [Ent.bk [] own.length x] := by
  unfold bkOwn
  congr 1
  · apply List.ext_getElem?
    intro i
    rw [List.getElem?_map]
    by_cases hi : i < own.length
    · rw [List.getElem?_range hi]
      simp [plc, List.getD_eq_getElem?_getD, List.getElem?_eq_getElem hi]
    · rw [List.getElem?_eq_none (by simp; omega), List.getElem?_eq_none (by omega)]; rfl
theorem bk_ref (k : Nat × Nat × Nat ⊕ Nat) (n : Nat) : AV.bk [] n (refAt k 0) = refAt k n := by
  cases k with
  | inl q => obtain ⟨a, b, c⟩ := q; simp [refAt, AV.bk, phi]
  | inr o => simp [refAt, AV.bk, phi]
/-- A call that hands back a new row. -/
theorem l_call {fo : Operand} {args : Array Operand} {ts : Array TypeId} {f : FuncId} {caps argsC : List AV} {own' : List Ent} {h ver o l v sz : Nat} {e : TypeId} {c : List (List Dat)}
    (hc : ACalls P f argsC [] (.osl 0 ver o l) [.row v sz e c]) (hh : holeF own 0 = some h) (hfo : lookO env fo = .fn f caps) (hargs : AV.renL [] (args.toList.map (lookO env) ++ caps) = argsC)
    (ho : setF own h (.row v sz e c) = some own') (hm : Nat.ble m h = true) (hf : isFn P f = true) :
    Loc P m ⟨dst, .call ⟨.value fo, args, ts⟩, ty, pos, af, gd⟩ env own [h] [] (.osl h ver o l) own' := by
  rw [setF_spec ho]
  refine Loc.fill (k := .inl (ver, o, l)) (x := .row v sz e c) (holeF_spec hh).2 (Nat.le_of_ble_eq_true hm) trivial fun env' own2 hag hsame => ?_
  have hfo' : lookO env' fo = .fn f caps := by rw [← hfo]; exact lookO_seen (o := ⟨dst, .call ⟨.value fo, args, ts⟩, ty, pos, af, gd⟩) hag (by simp [Op.operands, Call.operands])
  have hargs' : args.toList.map (lookO env') = args.toList.map (lookO env) := List.map_congr_left fun x hx => lookO_seen (o := ⟨dst, .call ⟨.value fo, args, ts⟩, ty, pos, af, gd⟩) hag (by
    simp only [Op.operands, Call.operands]
    simp at hx ⊢
    exact .inr hx)
  have hn : normF (bkOwn [] own2 [.row v sz e c]) = some (own2 ++ [.row v sz e c]) := by
    rw [bkOwn_nil]
    have key : ∀ l : List Ent, normF l = some l := fun l => by
      induction l with
      | nil => rfl
      | cons x l ih => cases x <;> simp [normF, ih]
    exact key _
  have := (e_callJ (P := P) (m := m) (env := env') (own := own2) (dst := dst) (ty := ty) (pos := pos) (af := af) (gd := gd) (js := []) (ts := ts) hc hfo' rfl (by rw [hargs']; exact hargs) hn rfl (by simp [selOk, nodupB]) hf).1 env' fun _ _ => rfl
  have e := bk_ref (.inl (ver, o, l)) own2.length
  simp only [refAt] at e ⊢
  rw [← e]
  exact this
end
end Go.Proofs.YtjaipchlnnjaeaaDoor
end

section
/- The machine of abstract values: slices against nil, empty literals, structs in rows of the call's own. No program in sight. -/
namespace Go.Proofs.YtjaipchlnnjaeaaDoor
open Go.RowKit
set_option linter.unusedVariables false
set_option linter.unusedSimpArgs false
section
variable {P : Program} {m : Nat} {env : List (Nat × AV)} {own : List Ent} {dst : Option Tmp} {ty : TypeId} {pos : String} {af : Array Edge} {gd : Option (Nat × Bool)}
theorem run_eqnil {t e : TypeId} (he : P.underlying t = some (.slice e)) (d : Nat) (a : Addr) (n c : Nat) (w : World) : (Op.equalIn (d + 1) t (.slice (some a) n c) (.slice none 0 0)).run P w = .ok false w := by
  simp [Op.equalIn, run_underlying he]
theorem W.regionS {Γ : Ctx} {n : Nat} {Q : Exit → St → Prop} {id : Nat} {l : List Oper} (N : Nat) (hN : Nat.beq id N = false) (hf : fitsB n ⟨l⟩ = true) (h : Walk P m ⟨l⟩ (fun _ env own => Q .normal ⟨env, own⟩) [] l env own) : AWPG Γ P n m (.region id ⟨l⟩ false) Q ⟨env, own⟩ := AWP.region hf h
theorem W.regionDS {Γ : Ctx} {n : Nat} {Q : Exit → St → Prop} {id : Nat} {l : List Oper} (N : Nat) (hN : Nat.beq id N = false) (hmo : P.follows .mixedOrders = true) (hf : fitsB n ⟨l⟩ = true) (h : Walk P m ⟨l⟩ (fun done env own => chkOps ⟨l⟩ done.reverse = true ∧ Q .normal ⟨env, own⟩) [] l env own) : AWPG Γ P n m (.region id ⟨l⟩ true) Q ⟨env, own⟩ := AWP.regionD hmo hf h
/-- 'append(row, x)', in whatever order with what touches other entries. -/
theorem l_app1 {α : Type} {f : α → List Dat} {l : List α} {t e : TypeId} {sz by' : Nat} {z : Value} {x y : Operand} {p ver : Nat} {own' : List Ent} (v : α) (hx : lookO env x = .osl p ver 0 l.length) (hp : own[p]? = some (.row ver sz e (l.map f))) (hy : lookO env y = .d (.sl sz [f v])) (ho : setF own p (.row (ver + 1) sz e ((l ++ [v]).map f)) = some own') (ht : slInfo P t = some (e, sz, by', z)) (hz : z.cells.size = sz) (hby : Nat.ble by' 1024 = true) (hm : Nat.ble m p = true)
    (hb : l.length + 1 ≤ 1000000000) :
    Loc P m ⟨dst, .call ⟨.builtin .append, #[x, y], #[t, t]⟩, ty, pos, af, gd⟩ env own [p] [] (.osl p (ver + 1) 0 (l ++ [v]).length) own' := by
  rw [setF_spec ho]
  refine Loc.set hp fun env' own2 hag hi => ?_
  have hx' : lookO env' x = .osl p ver 0 l.length := by rw [← hx]; exact lookO_seen (o := ⟨dst, .call ⟨.builtin .append, #[x, y], #[t, t]⟩, ty, pos, af, gd⟩) hag (by simp [Op.operands, Call.operands])
  have hy' : lookO env' y = .d (.sl sz [f v]) := by rw [← hy]; exact lookO_seen (o := ⟨dst, .call ⟨.builtin .append, #[x, y], #[t, t]⟩, ty, pos, af, gd⟩) hag (by simp [Op.operands, Call.operands])
  exact (e_app1 (P := P) (m := m) (env := env') (own := own2) (dst := dst) (ty := ty) (pos := pos) (af := af) (gd := gd) v ht hz hby hx' hi hy' hm hb).1 env' fun _ _ => rfl
/-- A slice that has elements is not nil. -/
theorem q_eqnil {t t' : TypeId} {x y : Operand} {sz : Nat} {l : List (List Dat)} (hx : lookO env x = .d (.sl sz l)) (hy : lookO env y = .d (.v (.slice none 0 0))) (ht : isSl P t = true) (hl : 0 < l.length) :
    Quiet P m ⟨dst, .binOp .eql t x y t', ty, pos, af, gd⟩ env own [] (bV false) :=
  Quiet.val fun F own' κ a w hs _ _ _ => by
    have h1 := hs x (by simp [Op.operands]); rw [hx, AV.sat, Dat.sat] at h1
    have h2 := hs y (by simp [Op.operands]); rw [hy, sat_v] at h2
    obtain ⟨A, c, h3, _, _, h4⟩ := h1
    obtain ⟨b, o, rfl, _⟩ := h4 hl
    obtain ⟨e, he⟩ := isSl_spec ht
    refine ⟨.bool false, exec_v ?_, sat_v.2 rfl⟩
    rw [h2, h3]
    have he2 := run_eqnil (P := P) he 9999 ⟨b, o, none⟩ l.length c w
    have h5 : (eqGuard .eql t x y (.slice (some ⟨b, o, none⟩) l.length c) (.slice none 0 0)).run P w = .ok () w := by simp [eqGuard]
    have h6 : (binOp .eql t (.slice (some ⟨b, o, none⟩) l.length c) (.slice none 0 0)).run P w = .ok (.bool false) w := by
      simp only [binOp, Sem.run_bind, Op.equal]
      rw [show Op.maxDepth = 9999 + 1 from rfl, he2]
      rfl
    simp only [Sem.run_bind, h5, Result.andThen_ok, h6]
theorem q_eqnilm {α : Type} {f : α → List Dat} {l : List α} {t t' : TypeId} {x y : Operand} {sz : Nat} (hx : lookO env x = .d (.sl sz (l.map f))) (hy : lookO env y = .d (.v (.slice none 0 0))) (ht : isSl P t = true) (hl : 0 < l.length) :
    Quiet P m ⟨dst, .binOp .eql t x y t', ty, pos, af, gd⟩ env own [] (bV false) := q_eqnil hx hy ht (by simpa using hl)
/-- An empty literal that will be appended to. -/
theorem e_lit0F {t e : TypeId} {sz by' q : Nat} {z : Value} {own' : List Ent} (hq : lenF own 0 = some q) (ht : slInfo P t = some (e, sz, by', z)) (ho : pushF own (.row 0 sz e []) = some own') (hz : Nat.beq z.cells.size sz = true) (h0 : Nat.ble 1 sz = true) :
    Eff P m ⟨dst, .buildSlice t 0 #[], ty, pos, af, gd⟩ env own [q] (.osl q 0 0 0) own' := by
  have e1 := lenF_spec hq
  rw [Nat.add_zero] at e1
  rw [pushF_spec ho, e1]
  exact e_lit [] ht (Nat.eq_of_beq_eq_true hz) (Nat.le_of_ble_eq_true h0) trivial rfl (by omega)
/-- A struct in a row of the call's own. -/
theorem q_ld_rpts {t : TypeId} {k : Nat} {x : Operand} {i ver j sz : Nat} {e : TypeId} {l : List (List Dat)} {c : List Dat} (ht : tyInfo P t = some (true, k)) (hx : lookO env x = .rpt i ver j 0) (hi : own[i]? = some (.row ver sz e l)) (hk : k = sz) (hc : l[j]? = some c) :
    Quiet P m ⟨dst, .load t x, ty, pos, af, gd⟩ env own [i] (.agg (c.map .d)) :=
  Quiet.val fun F own' κ a w hs ho hsame _ => by
    have h1 := hs x (by simp [Op.operands]); rw [hx, AV.sat] at h1
    have hp' : own'[i]? = some (.row ver sz e l) := by rw [hsame i (by simp)]; exact hi
    obtain ⟨h2, b, h3, h4⟩ := h1.2 sz e l hp'
    obtain ⟨h0, h5⟩ := ho.ent i _ hp'
    rw [getD_some h3] at h5
    rcases h5 with ⟨h5, _⟩ | ⟨g', h5, cur, h6', h7', h8'⟩
    · cases h5
    · obtain rfl : b = g' := by simpa using h5
      obtain ⟨h6, h7⟩ := Dat.rowsSat_iff.1 h8' j c hc
      have h7 := Dat.rowSat_iff.1 h7
      let us := (List.range c.length).map fun i => ((w.cell? ⟨b, 0 + j * sz + i, none⟩).getD undef)
      have hus : ∀ (i : Nat) (y : Dat), c[i]? = some y → ∃ u, us[i]? = some u ∧ w.cell? ⟨b, 0 + j * sz + i, none⟩ = some u ∧ Dat.sat (badK F κ) w y u := fun i y hy => by
        obtain ⟨u, h8, h9, h10⟩ := h7 i y hy
        have hlt : i < c.length := (List.getElem?_eq_some_iff.1 hy).1
        exact ⟨u, by simp [us, hlt, Nat.zero_add] at h8 ⊢; rw [h8]; rfl, h8, h10⟩
      have hrun : (Instr.loadAt t (.pointer (some ⟨b, j * sz + 0, none⟩))).run P w = .ok (.agg us.toArray) w := by
        refine run_loadAt_agg ht us (by simp [us, h6, hk]) fun i u hu => ?_
        have hlt : i < c.length := by have := (List.getElem?_eq_some_iff.1 hu).1; simpa [us] using this
        obtain ⟨u', h8, h9, _⟩ := hus i _ (List.getElem?_eq_getElem hlt)
        rw [hu] at h8; obtain rfl : u = u' := by simpa using h8
        rw [Nat.add_zero]; rw [Nat.zero_add] at h9; exact h9
      refine ⟨.agg us.toArray, exec_v (by rw [h4]; exact hrun), ?_⟩
      · rw [AV.sat]
        refine ⟨_, rfl, satL_of (by simp [us]) fun i y hy => ?_⟩
        rw [List.getElem?_map] at hy
        cases he' : c[i]? with
        | none => simp [he'] at hy
        | some d =>
          obtain rfl : AV.d d = y := by simpa [he'] using hy
          obtain ⟨u, h8, _, h9⟩ := hus i d he'
          exact ⟨u, by simpa using h8, by rw [AV.sat]; exact h9⟩
theorem q_ld_rptsm {α : Type} {f : α → List Dat} {l : List α} {t : TypeId} {k : Nat} {x : Operand} {i ver j sz : Nat} {e : TypeId} (hx : lookO env x = .rpt i ver j 0) (hi : own[i]? = some (.row ver sz e (l.map f))) (ht : tyInfo P t = some (true, k)) (hk : k = sz) (hj : j < l.length) :
    Quiet P m ⟨dst, .load t x, ty, pos, af, gd⟩ env own [i] (.agg ((f (l[j]'hj)).map .d)) := q_ld_rpts ht hx hi hk (by rw [List.getElem?_map, List.getElem?_eq_getElem hj]; rfl)
end
end Go.Proofs.YtjaipchlnnjaeaaDoor
end

section
/- The machine of abstract values: a round of a loop over a function, and the call of yield. No program in sight. -/
namespace Go.Proofs.YtjaipchlnnjaeaaDoor
open Go.RowKit
set_option linter.unusedVariables false
set_option linter.unusedSimpArgs false
section
variable {F : Nat → Prop} {own : List Ent} {κ : List (Option Nat)} {w : World} {l : Nat}
/-- A block that no data lives in is turned. -/
theorem put_stab (ho : OwnSat F own κ w) (hl : F l) (o : Obj) : Stab F own κ w own κ (w.putObj l o) := by
  refine ⟨⟨by simp, fun b hb hnb => World.putObj_heap_other fun e => hnb (by rw [e]; exact .inl hl), fun b _ h => h⟩, fun i x og hx hog => ⟨x, og, hx, hog, Fits.same x og fun g hg => ?_⟩⟩
  subst hg
  exact World.putObj_heap_other fun e => (ho.lt' hog).2 (by rw [e]; exact hl)
theorem put_sat (ho : OwnSat F own κ w) (hl : F l) (o : Obj) {x : AV} {u : Value} (h : AV.sat F own κ w x u) : AV.sat F own κ (w.putObj l o) x u := AV.sat_stab (put_stab ho hl o) ho.kap x h
theorem put_own (ho : OwnSat F own κ w) (hl : F l) (o : Obj) {r : Loop} (hr : w.heap[l]? = some (.loop r)) : OwnSat F own κ (w.putObj l o) := by
  refine ⟨ho.len, fun b hb => by simpa using ho.frame b hb, fun g hg => by simpa using ho.lt g hg, ho.inj, fun i x hx => ?_, fun p hp => ?_⟩
  · refine EntSat.stab (put_stab ho hl o) ho.kap (fun g hg => ?_) (ho.ent i x hx)
    obtain ⟨og, hog⟩ := ho.kap i x hx
    have e : κ.getD i none = og := by simp [List.getD_eq_getElem?_getD, hog]
    rw [e] at hg
    subst hg
    exact World.putObj_heap_other fun e => (ho.lt' hog).2 (by rw [e]; exact hl)
  · obtain ⟨h1, h2, t, fz, h3⟩ := ho.glb p hp
    refine ⟨by simpa using h1, h2, t, fz, ?_⟩
    rw [World.putObj_heap_other, h3]
    intro e
    rw [e, hr] at h3
    cases h3
end
theorem Sim.start {F : Nat → Prop} {own : List Ent} {κ : List (Option Nat)} {w : World} {n : Nat} {env : List (Nat × AV)} {a : Act} (htm : a.tmps.size = n) (hdf : a.defers = []) (he : EnvSat F own κ w env a) (ho : OwnSat F own κ w) : Sim F ⟨w, own⟩ κ n ⟨env, own⟩ a κ w :=
  ⟨htm, hdf, he, ho, by simp, rfl, rfl, rfl, Nat.le_refl _, fun _ _ _ => rfl, fun _ h => .inl h, ho.len, fun _ _ h => h⟩
def Ctx.round (l : Nat) : Ctx := ⟨Fence.wide.inRound l, fun _ _ _ => True, .inr ⟨l, rfl⟩⟩
/-- What is known of the loop where its iterator was called. -/
structure IterH (l D : Nat) (rec : Loop) (envC : List (Nat × AV)) (nC : Nat) (F : Nat → Prop) (W : Root) (κ0 : List (Option Nat)) : Prop where
  fl : F l
  fd : F D
  hl : W.w.heap[l]? = some (.loop rec)
  hd : W.w.heap[D]? = some (.deferred (some []))
  ne : l ≠ D
  st : rec.state = .ready
  pe : rec.pending = none
  sz : rec.tmps.size = nC
  env : ∀ t, AV.sat F W.own κ0 W.w (look envC t) (rec.tmps.getD t undef)
def Ctx.iter (l D : Nat) (rec : Loop) (envC : List (Nat × AV)) (nC : Nat) : Ctx := ⟨Fence.wide, IterH l D rec envC nC, .inl rfl⟩
section
variable {P : Program}
/-- One round. -/
theorem round_ok {F : Nat → Prop} {own own' : List Ent} {κ : List (Option Nat)} {w : World} {l D nC : Nat} {rec : Loop} {tmps : Array Value} {env : List (Nat × AV)} {s2 : St}
    (ho : OwnSat F own κ w) (fl : F l) (fd : F D) (hl : w.heap[l]? = some (.loop rec)) (hd : w.heap[D]? = some (.deferred (some []))) (ne : l ≠ D) (st : rec.state = .ready) (pe : rec.pending = none) (hsz : tmps.size = nC)
    (henv : EnvSat F own κ w env { tmps := tmps, defers := [] })
    (hA : AWPG (Ctx.round l) P nC own.length rec.assign (fun e s => e = .normal ∧ s = s2) ⟨env, own⟩) (hs2 : s2.own = own)
    (hB : AWPG (Ctx.round l) P nC own.length rec.body (fun e s => e = .normal ∧ s.own = own') s2) (hlen : own'.length = own.length) :
    RoundIn Fence.wide 0 P l rec.fn tmps rec.assign rec.body w fun e w' => e = .returned (.bool true) ∧ OwnSat F own' κ w' ∧ Tr F own.length own κ w own' κ w' ∧ w'.heap[l]? = some (.loop rec) ∧ w'.heap[D]? = some (.deferred (some [])) := by
  have nin : ∀ {κ' : List (Option Nat)} {own1 : List Ent} {w1 : World}, OwnSat F own1 κ' w1 → ∀ b, F b → some b ∉ κ' := fun h b hb hm => (h.lt b hm).2 hb
  have llt : l < w.heap.size := (Array.getElem?_eq_some_iff.1 hl).1
  have dlt : D < w.heap.size := (Array.getElem?_eq_some_iff.1 hd).1
  refine roundIn_of_wpIn trivial (wpIn_mono (hA F ⟨w, own⟩ κ { tmps := tmps, defers := [] } κ w trivial ho.len.symm (Sim.start hsz rfl henv ho)) ?_)
  rintro e a1 w1 ⟨s', κ1, ⟨rfl, rfl⟩, hs1⟩
  have ek : κ1 = κ := by
    have h1 := hs1.own.len
    rw [hs2, ho.len] at h1
    have h2 := hs1.pre
    rw [List.take_of_length_le (by omega)] at h2
    exact h2
  subst ek
  have hl1 : w1.heap[l]? = some (.loop rec) := (hs1.old l llt (nin ho l fl)).trans hl
  have hd1 : w1.heap[D]? = some (.deferred (some [])) := (hs1.old D dlt (nin ho D fd)).trans hd
  have ho1 : OwnSat F own κ1 w1 := by have := hs1.own; rwa [hs2] at this
  refine ⟨_, run_beginRound hl1 st, ?_⟩
  have ho2 := put_own ho1 fl (.loop { rec with state := .busy }) hl1
  have henv2 : EnvSat F own κ1 (w1.putObj l (.loop { rec with state := .busy })) s'.env a1 := fun t => by
    have := hs1.env t
    rw [hs2] at this
    exact put_sat ho1 fl _ this
  have hsim2 : Sim F ⟨w1.putObj l (.loop { rec with state := .busy }), own⟩ κ1 nC s' a1 κ1 (w1.putObj l (.loop { rec with state := .busy })) := by
    obtain ⟨env2, own2⟩ := s'
    subst hs2
    exact Sim.start hs1.tm hs1.df henv2 ho2
  refine wpIn_mono (hB F _ κ1 a1 κ1 _ trivial ho.len.symm hsim2) ?_
  rintro e a3 w3 ⟨s3, κ3, ⟨rfl, hs3⟩, hs3'⟩
  have ek : κ3 = κ1 := by
    have h1 := hs3'.own.len
    rw [hs3, hlen, ho.len] at h1
    have h2 := hs3'.pre
    rw [List.take_of_length_le (by omega)] at h2
    exact h2
  subst ek
  have lsz : l < (w1.putObj l (.loop { rec with state := .busy })).heap.size := by
    rw [World.putObj_size]; exact Nat.lt_of_lt_of_le llt hs1.size
  have dsz : D < (w1.putObj l (.loop { rec with state := .busy })).heap.size := by
    rw [World.putObj_size]; exact Nat.lt_of_lt_of_le dlt hs1.size
  have hl3 : w3.heap[l]? = some (.loop { rec with state := .busy }) := (hs3'.old l lsz (nin ho l fl)).trans (World.putObj_heap_same (Nat.lt_of_lt_of_le llt hs1.size))
  have hd3 : w3.heap[D]? = some (.deferred (some [])) := (hs3'.old D dsz (nin ho D fd)).trans ((World.putObj_heap_other (Ne.symm ne)).trans hd1)
  have ho3 : OwnSat F own' κ3 w3 := by have := hs3'.own; rwa [hs3] at this
  have hrec : ({ { rec with state := .busy } with state := if (none : Option Code).isNone then .ready else .done, pending := none } : Loop) = rec := by
    cases rec
    simp only at st pe
    subst st; subst pe
    rfl
  refine ⟨_, _, run_endRound none hl3, rfl, ?_⟩
  rw [hrec]
  have l3 : l < w3.heap.size := (Array.getElem?_eq_some_iff.1 hl3).1
  refine ⟨put_own ho3 fl _ hl3, ⟨hs3'.os.trans hs1.os, hs3'.tape.trans hs1.tape, hs3'.output.trans hs1.output, by
      have h1 := hs1.size
      have h2 := hs3'.size
      rw [World.putObj_size] at h2 ⊢
      exact Nat.le_trans h1 h2, fun b hb hk => ?_, fun b hb => .inl hb, rfl, fun x u hx => ?_⟩, World.putObj_heap_same l3, (World.putObj_heap_other (Ne.symm ne)).trans hd3⟩
  · by_cases e : b = l
    · subst e
      rw [World.putObj_heap_same l3, hl]
    · rw [World.putObj_heap_other e]
      refine (hs3'.old b (by rw [World.putObj_size]; exact Nat.lt_of_lt_of_le hb hs1.size) hk).trans ?_
      rw [World.putObj_heap_other e]
      exact hs1.old b hb hk
  · have h1 := hs1.keep x u hx
    rw [hs2] at h1
    have h2 := hs3'.keep x u (put_sat ho1 fl _ h1)
    rw [hs3] at h2
    exact put_sat ho3 fl _ h2
end
end Go.Proofs.YtjaipchlnnjaeaaDoor
end

section
/- The machine of abstract values: the call of yield; functions whose body is a loop over a function. No program in sight. -/
namespace Go.Proofs.YtjaipchlnnjaeaaDoor
open Go.RowKit
set_option linter.unusedVariables false
set_option linter.unusedSimpArgs false
section
variable {G : Fence} {P : Program} {ops : Array Oper} {Q : Exit → Act → World → Prop} {i d : Nat} {rest : List Nat} {a : Act} {w : World} {ty : TypeId} {pos : String} {af : Array Edge}
theorem ops_val (hG : Good G) {op : Op} {v : Value} (hi : ops[i]? = some ⟨some d, op, ty, pos, af, none⟩) (hd : ∀ c, op ≠ .defer c) (hr : (execOp a.eval ⟨some d, op, ty, pos, af, none⟩).run P w = .ok (.value v) w) (h : wpOpsIn G 0 P ops Q rest (a.put (some d) v) w) : wpOpsIn G 0 P ops Q (i :: rest) a w := by
  rw [wpOpsIn_cons]
  unfold wpOpIn
  simp only [hi]
  have hw : Region.wanted ⟨some d, op, ty, pos, af, none⟩ (yielded ops a.tmps) = true := rfl
  simp only [hw, if_true]
  refine ⟨fun f _ => hG.fn f, ?_⟩
  rw [Oper.semAt_eq _ _ _ hd, hr]
  exact h
theorem ops_yield {fo : Operand} {args : Array Operand} {ts : Array TypeId} {l : Nat} {rec : Loop} (hi : ops[i]? = some ⟨some d, .call ⟨.value fo, args, ts⟩, ty, pos, af, none⟩) (hf : a.eval fo = .func (.yield l) #[] #[]) (hl : w.heap[l]? = some (.loop rec)) (hsz : args.size = rec.params.size)
    (hr : RoundIn Fence.wide 0 P l rec.fn ((rec.params.zip (args.map a.eval)).foldl (fun tmps (t, x) => tmps.setIfInBounds t x) rec.tmps) rec.assign rec.body w fun e w' => ∃ v, e = .returned v ∧ wpOpsIn Fence.wide 0 P ops Q rest (a.put (some d) v) w') : wpOpsIn Fence.wide 0 P ops Q (i :: rest) a w := by
  rw [wpOpsIn_cons]
  unfold wpOpIn
  simp only [hi]
  have hw : Region.wanted ⟨some d, .call ⟨.value fo, args, ts⟩, ty, pos, af, none⟩ (yielded ops a.tmps) = true := rfl
  simp only [hw, if_true]
  refine ⟨fun f _ => trivial, ?_⟩
  have hx : (execOp a.eval ⟨some d, .call ⟨.value fo, args, ts⟩, ty, pos, af, none⟩).run P w = .ok (.round l rec.fn ((rec.params.zip (args.map a.eval)).foldl (fun tmps (t, x) => tmps.setIfInBounds t x) rec.tmps) rec.assign rec.body) w := by
    simp only [execOp, resolve, hf, Deferred.ofValue, Sem.run_bind, Sem.run_pure, Result.andThen_ok, invoke]
    have := run_yield (P := P) (args := #[] ++ args.map a.eval) hl (by simpa using hsz)
    simpa using this
  rw [Oper.semAt_eq _ _ _ (by intro c h; cases h), hx, Oper.uponIn_round]
  refine And.intro (fun h => by cases h) (RoundIn.mono hr ?_)
  intro e w' hh
  obtain ⟨v, he, h⟩ := hh
  subst he
  exact h
end
/-- The slots of a call of yield: none of them twice. -/
def yOk (n d0 d1 d2 d3 d4 f x y : Nat) : Bool := d0 != d1 && (d0 != d2 && (d1 != d2 && (d0 != x && (d0 != y && (d1 != y && (decide (d0 < n) && (decide (d1 < n) && (decide (d2 < n) && (decide (d3 < n) && decide (d4 < n))))))))))
set_option maxHeartbeats 1000000 in
theorem AWP.yield {P : Program} {n m nC l D id d0 d1 d2 d3 d4 f x y p1 p2 : Nat} {rec : Loop} {envC env : List (Nat × AV)} {own own' : List Ent} {Q : Exit → St → Prop} {s2 : St} {u1 u2 : Value} {t0 t1 t2 t3 t4 tb : TypeId} {q0 q1 q2 q3 q4 : String} {a0 a1 a2 a3 a4 : Array Edge} {ts : Array TypeId}
    (hok : yOk n d0 d1 d2 d3 d4 f x y = true) (hps : rec.params = #[p1, p2]) (hp1 : p1 < nC) (hp2 : p2 < nC) (hp : p1 ≠ p2)
    (hf : look env f = .d (.v (.func (.yield l) #[] #[]))) (hx : look env x = .d (.v u1)) (hy : look env y = .d (.v u2)) (hm : own.length = m) (hm' : own'.length = m)
    (hA : AWPG (Ctx.round l) P nC m rec.assign (fun e s => e = .normal ∧ s = s2) ⟨(p2, .d (.v u2)) :: (p1, .d (.v u1)) :: envC, own⟩) (hs2 : s2.own = own)
    (hB : AWPG (Ctx.round l) P nC m rec.body (fun e s => e = .normal ∧ s.own = own') s2)
    (hQ : Q .normal ⟨(d4, bV false) :: (d3, .top) :: (d2, .top) :: (d1, .top) :: (d0, .top) :: env, own'⟩) :
    AWPG (Ctx.iter l D rec envC nC) P n m (.region id ⟨[⟨some d0, .move (.tmp f), t0, q0, a0, none⟩, ⟨some d1, .move (.tmp x), t1, q1, a1, none⟩, ⟨some d2, .move (.tmp y), t2, q2, a2, none⟩, ⟨some d3, .call ⟨.value (.tmp d0), #[.tmp d1, .tmp d2], ts⟩, t3, q3, a3, none⟩, ⟨some d4, .unOp .not tb (.tmp d3), t4, q4, a4, none⟩]⟩ false) Q ⟨env, own⟩ := fun F W κ0 a κ w hH hκ hs => by
  subst hm
  simp only [yOk, Bool.and_eq_true, bne_iff_ne, decide_eq_true_eq] at hok
  obtain ⟨n01, n02, n12, nx0, ny0, ny1, l0, l1, l2, l3, l4⟩ := hok
  have htm := hs.tm
  have hsf := hs.env f
  rw [hf, sat_v] at hsf
  have hsx := hs.env x
  rw [hx, sat_v] at hsx
  have hsy := hs.env y
  rw [hy, sat_v] at hsy
  have ek : κ = κ0 := by
    have h1 := hs.own.len
    have h2 := hs.pre
    dsimp only at h1
    rw [List.take_of_length_le (by omega)] at h2
    exact h2
  subst ek
  have hO : OwnSat F own κ w := hs.own
  have nl : some l ∉ κ := fun h => (hO.lt l h).2 hH.fl
  have nD : some D ∉ κ := fun h => (hO.lt D h).2 hH.fd
  have hl : w.heap[l]? = some (.loop rec) := (hs.old l (Array.getElem?_eq_some_iff.1 hH.hl).1 nl).trans hH.hl
  have hd : w.heap[D]? = some (.deferred (some [])) := (hs.old D (Array.getElem?_eq_some_iff.1 hH.hd).1 nD).trans hH.hd
  refine wpIn_region ?_
  show wpOpsIn Fence.wide 0 P _ _ [0, 1, 2, 3, 4] a w
  refine ops_val (.inl rfl) (op := .move (.tmp f)) (v := a.eval (.tmp f)) rfl (by intro c h; cases h) rfl ?_
  refine ops_val (.inl rfl) (v := (a.put (some d0) (a.eval (.tmp f))).eval (.tmp x)) rfl (by intro c h; cases h) rfl ?_
  refine ops_val (.inl rfl) (v := ((a.put (some d0) (a.eval (.tmp f))).put (some d1) ((a.put (some d0) (a.eval (.tmp f))).eval (.tmp x))).eval (.tmp y)) rfl (by intro c h; cases h) rfl ?_
  have ne : ∀ {s t : Nat}, s ≠ t → (some s : Option Tmp) ≠ some t := fun h e => h (by simpa using e)
  have e1 : (a.put (some d0) (a.eval (.tmp f))).eval (.tmp x) = u1 := by
    show (a.put (some d0) _).tmps.getD x undef = u1
    rw [put_getD_ne (ne nx0)]; exact hsx
  rw [e1]
  have e0 : a.eval (.tmp f) = .func (.yield l) #[] #[] := hsf
  rw [e0]
  have e2 : ((a.put (some d0) (.func (.yield l) #[] #[])).put (some d1) u1).eval (.tmp y) = u2 := by
    show (((a.put (some d0) _).put (some d1) _).tmps.getD y undef) = u2
    rw [put_getD_ne (ne ny1), put_getD_ne (ne ny0)]; exact hsy
  rw [e2]
  generalize hb : ((a.put (some d0) (.func (.yield l) #[] #[])).put (some d1) u1).put (some d2) u2 = b
  have hbs : b.tmps.size = n := by rw [← hb, put_size, put_size, put_size]; exact htm
  have hbd : b.defers = [] := by rw [← hb, put_defs, put_defs, put_defs]; exact hs.df
  have b0 : b.tmps.getD d0 undef = .func (.yield l) #[] #[] := by
    rw [← hb, put_getD_ne (ne (Ne.symm n02)), put_getD_ne (ne (Ne.symm n01)), put_getD_self (htm ▸ l0)]
  have b1 : b.tmps.getD d1 undef = u1 := by
    rw [← hb, put_getD_ne (ne (Ne.symm n12)), put_getD_self (by rw [put_size, htm]; exact l1)]
  have b2 : b.tmps.getD d2 undef = u2 := by
    rw [← hb, put_getD_self (by rw [put_size, put_size, htm]; exact l2)]
  have bt : ∀ t, t ≠ d0 → t ≠ d1 → t ≠ d2 → b.tmps.getD t undef = a.tmps.getD t undef := fun t h0 h1 h2 => by
    rw [← hb, put_getD_ne (ne (Ne.symm h2)), put_getD_ne (ne (Ne.symm h1)), put_getD_ne (ne (Ne.symm h0))]
  refine ops_yield (rec := rec) rfl b0 hl (by rw [hps]; rfl) ?_
  have hargs : (#[Operand.tmp d1, .tmp d2] : Array Operand).map b.eval = #[u1, u2] := by
    have h1 : b.eval (.tmp d1) = u1 := b1
    have h2 : b.eval (.tmp d2) = u2 := b2
    simp [h1, h2]
  have hz : ((rec.params.zip (#[Operand.tmp d1, .tmp d2].map b.eval)).foldl (fun tmps (t, x) => tmps.setIfInBounds t x) rec.tmps) = (rec.tmps.setIfInBounds p1 u1).setIfInBounds p2 u2 := by
    rw [hargs, hps]; simp
  rw [hz]
  have hsz : rec.tmps.size = nC := hH.sz
  refine (round_ok (D := D) (nC := nC) (env := (p2, .d (.v u2)) :: (p1, .d (.v u1)) :: envC) hO hH.fl hH.fd hl hd hH.ne hH.st hH.pe (by simp [hsz]) (fun t => ?_) hA hs2 hB hm').mono ?_
  · simp only [look]
    by_cases h2 : p2 = t
    · subst h2
      rw [if_pos rfl, sat_v]
      have e : ((rec.tmps.setIfInBounds p1 u1).setIfInBounds p2 u2)[p2]? = some u2 := by
        rw [Array.getElem?_setIfInBounds_self_of_lt (by simp [hsz]; omega)]
      show ((rec.tmps.setIfInBounds p1 u1).setIfInBounds p2 u2).getD p2 undef = u2
      rw [Array.getD_eq_getD_getElem?, e]; rfl
    · rw [if_neg h2]
      by_cases h1 : p1 = t
      · subst h1
        rw [if_pos rfl, sat_v]
        have e : ((rec.tmps.setIfInBounds p1 u1).setIfInBounds p2 u2)[p1]? = some u1 := by
          rw [Array.getElem?_setIfInBounds_ne h2, Array.getElem?_setIfInBounds_self_of_lt (by rw [hsz]; exact hp1)]
        show ((rec.tmps.setIfInBounds p1 u1).setIfInBounds p2 u2).getD p1 undef = u1
        rw [Array.getD_eq_getD_getElem?, e]; rfl
      · rw [if_neg h1]
        have e : ((rec.tmps.setIfInBounds p1 u1).setIfInBounds p2 u2).getD t undef = rec.tmps.getD t undef := by
          simp only [Array.getD_eq_getD_getElem?, Array.getElem?_setIfInBounds_ne h2, Array.getElem?_setIfInBounds_ne h1]
        show AV.sat F own κ w (look envC t) (((rec.tmps.setIfInBounds p1 u1).setIfInBounds p2 u2).getD t undef)
        rw [e]
        exact hs.keep _ _ (hH.env t)
  · rintro e w' ⟨rfl, ho', tr, hl', hd'⟩
    refine ⟨_, rfl, ?_⟩
    have b3 : (b.put (some d3) (.bool true)).eval (.tmp d3) = .bool true := put_getD_self (by rw [hbs]; exact l3) _
    refine ops_val (.inl rfl) (v := .bool false) rfl (by intro c h; cases h) (by simp only [execOp, b3]; rfl) ?_
    refine ⟨_, κ, hQ, hs.step hκ (own' := own') (κ' := κ) (w' := w') ?_ (by rw [put_size, put_size]; exact hbs) (by rw [put_defs, put_defs]; exact hbd) (fun t => ?_) ho'⟩
    · exact hκ ▸ tr
    · simp only [look]
      by_cases h4 : d4 = t
      · subst h4
        rw [if_pos rfl, put_getD_self (by rw [put_size, hbs]; exact l4)]
        exact sat_v.2 rfl
      · rw [if_neg h4]
        by_cases h3 : d3 = t
        · rw [if_pos h3]; simp [AV.sat]
        · rw [if_neg h3]
          by_cases h2 : d2 = t
          · rw [if_pos h2]; simp [AV.sat]
          · rw [if_neg h2]
            by_cases h1 : d1 = t
            · rw [if_pos h1]; simp [AV.sat]
            · rw [if_neg h1]
              by_cases h0 : d0 = t
              · rw [if_pos h0]; simp [AV.sat]
              · rw [if_neg h0, put_getD_ne (ne h4), put_getD_ne (ne h3), bt t (Ne.symm h0) (Ne.symm h1) (Ne.symm h2)]
                exact tr.keep _ _ (hs.env t)
end Go.Proofs.YtjaipchlnnjaeaaDoor
end

section
/- The machine of abstract values: a function whose body is a loop over a function. No program in sight. -/
namespace Go.Proofs.YtjaipchlnnjaeaaDoor
open Go.RowKit
set_option linter.unusedVariables false
set_option linter.unusedSimpArgs false
/-- Other blocks that no data lives in, more blocks: what references say is as it was. -/
theorem refs_more {F F' : Nat → Prop} {own : List Ent} {κ : List (Option Nat)} {w w' : World} (hκ : ∀ g, some g ∈ κ → w'.heap[g]? = w.heap[g]?) : ∀ (x : AV) {u : Value}, (∃ i ver o n, x = .osl i ver o n) ∨ (∃ i ver j o, x = .rpt i ver j o) ∨ (∃ i o, x = .opt i o) → AV.sat F own κ w x u → AV.sat F' own κ w' x u := by
  intro x u hx hs
  rcases hx with ⟨i, ver, o, n, rfl⟩ | ⟨i, ver, j, o, rfl⟩ | ⟨i, o, rfl⟩
  · rw [AV.sat] at hs ⊢
    refine ⟨hs.1, fun sz e cells hc => ?_⟩
    obtain ⟨h1, A, c, h2, h3, h4, h5⟩ := hs.2 sz e cells hc
    refine ⟨h1, A, c, h2, h3, h4, fun hp => ?_⟩
    rcases h5 hp with ⟨g, g1, g2, cur, t, fz, g3, g4⟩ | ⟨g1, g2⟩
    · exact .inl ⟨g, g1, g2, cur, t, fz, by rw [hκ g (List.mem_of_getElem? g1)]; exact g3, g4⟩
    · exact .inr ⟨g1, g2⟩
  · rw [AV.sat] at hs ⊢
    exact hs
  · rw [AV.sat] at hs ⊢
    exact hs
theorem own_frame {F F' : Nat → Prop} {own : List Ent} {κ : List (Option Nat)} {w w' : World} (ho : OwnSat F own κ w) (hw : Wide (badK F κ) (badK F' κ) w w') (hκ : ∀ g, some g ∈ κ → w'.heap[g]? = w.heap[g]?) (hF : ∀ b, F' b → b < w'.heap.size) (hn : ∀ g, some g ∈ κ → ¬ F' g) (hg : ∀ p ∈ glbs, ∀ c t fz, w.heap[p.1]? = some (.cells c t fz) → w'.heap[p.1]? = w.heap[p.1]?) :
    OwnSat F' own κ w' ∧ ∀ (x : AV) (u : Value), AV.sat F own κ w x u → AV.sat F' own κ w' x u := by
  have keep := keepAll (refs_more (F' := F') (own := own) hκ) hw
  refine ⟨⟨ho.len, hF, fun g hm => ⟨Nat.lt_of_lt_of_le (ho.lt g hm).1 hw.size, hn g hm⟩, ho.inj, fun i x hx => ?_, fun p hp => ?_⟩, keep⟩
  · obtain ⟨og, hog⟩ := ho.kap i x hx
    have e : κ.getD i none = og := by simp [List.getD_eq_getElem?_getD, hog]
    have he := ho.ent i x hx
    rw [e] at he ⊢
    cases x with
    | box l =>
      rcases he with h1 | ⟨g, rfl, cur, t, h1, h2, h3⟩
      · exact .inl h1
      · exact .inr ⟨g, rfl, cur, t, by rw [hκ g (List.mem_of_getElem? hog)]; exact h1, keepL keep l h2, h3⟩
    | row v s e c =>
      obtain ⟨h0, h1⟩ := he
      refine ⟨h0, h1.imp id ?_⟩
      rintro ⟨g, rfl, cur, h2, h3, h4⟩
      have hb := hκ g (List.mem_of_getElem? hog)
      exact ⟨g, rfl, cur, by rw [hb]; exact h2, h3, Dat.rowsSat_wide hw hb c h4⟩
  · obtain ⟨h1, h2, t, fz, h3⟩ := ho.glb p hp
    exact ⟨Nat.lt_of_lt_of_le h1 hw.size, h2, t, fz, by rw [hg p hp _ t fz h3]; exact h3⟩
set_option maxHeartbeats 1000000 in
theorem acalls_of_range {P : Program} {f gf id g p1 p2 : Nat} {fn gfn : Func} {args caps : List AV} {own ownN ownE : List Ent} {s1 : St} {js : List Nat} {c0 c1 asn bdy gc : Code}
    (hf : P.funcs[f]? = some fn) (hb : fn.body = some (.seq c0 (.seq c1 (.block id (.rangeFunc (.tmp g) #[p1, p2] asn bdy))))) (hres : fn.results = #[]) (hn : args.length ≤ fn.ntmps)
    (h0 : AWP P fn.ntmps own.length c0 (fun e s => e = .normal ∧ AWP P fn.ntmps own.length c1 (fun e s => e = .normal ∧ s = s1) s) ⟨env0 0 args, own⟩)
    (hg : look s1.env g = .fn gf caps) (hgf : P.funcs[gf]? = some gfn) (hgb : gfn.body = some gc) (hgr : gfn.results = #[]) (hgn : 1 + caps.length ≤ gfn.ntmps) (hfn : isFn P gf = true)
    (hit : ∀ (l D : Nat) (rec : Loop), rec.params = #[p1, p2] → rec.assign = asn → rec.body = bdy →
      AWPG (Ctx.iter l D rec s1.env fn.ntmps) P gfn.ntmps s1.own.length gc (fun e s => (e = .ret ∨ e = .normal) ∧ s.own = ownN) ⟨env0 0 (.d (.v (.func (.yield l) #[] #[])) :: caps), s1.own⟩)
    (hlen : ownN.length = s1.own.length) (hj : selOk ownN js = true) (hjm : js.take own.length = List.range own.length) (hE : selOwn ownN js = ownE) : ACalls P f args own (.tup []) ownE := fun F κ w vs ho hsat => by
  have hvl := satL_length hsat
  have hargs : ∀ {F : Nat → Prop} {own : List Ent} {κ : List (Option Nat)} {w : World} {args : List AV} {vs : List Value} {n : Nat}, AV.satL F own κ w args vs → ∀ t, AV.sat F own κ w (look (env0 0 args) t) ((vs.toArray ++ Array.replicate n undef).getD t undef) := by
    intro F own κ w args vs n hsat t
    rw [look_env0, if_pos (Nat.zero_le _), Nat.sub_zero]
    cases ht : args[t]? with
    | none => simp [AV.sat]
    | some x =>
      obtain ⟨u, h1, h2⟩ := satL_get hsat t x ht
      have hlt : t < vs.length := (List.getElem?_eq_some_iff.1 h1).1
      have : (vs.toArray ++ Array.replicate n undef).getD t undef = u := by
        have : (vs.toArray ++ Array.replicate n undef)[t]? = some u := by
          rw [Array.getElem?_append_left (by simpa using hlt)]; simpa using h1
        rw [Array.getD_eq_getD_getElem?, this]; rfl
      rw [this]
      exact h2
  have hres' : ∀ (tmps : Array Value) (w : World), (results fn tmps).run P w = .ok (.tuple #[]) w := fun tmps w => by
    unfold results
    rw [hres]
    simp
  have hgres' : ∀ (tmps : Array Value) (w : World), (results gfn tmps).run P w = .ok (.tuple #[]) w := fun tmps w => by
    unfold results
    rw [hgr]
    simp
  refine callsIn_wide.1 (callsIn_of_wp_marks (F := Fence.wide) (n := 0) hf hb trivial ?_)
  refine wpIn_seq (wpIn_mono (h0 F ⟨w, own⟩ κ _ κ w trivial ho.len.symm (Sim.start (by simp; omega) rfl (hargs hsat) ho)) ?_)
  rintro e a1 w1 ⟨s', κ1, ⟨rfl, hc1⟩, hs1⟩
  refine wpIn_seq (wpIn_mono (hc1 F ⟨w, own⟩ κ a1 κ1 w1 trivial ho.len.symm hs1) ?_)
  rintro e a2 w2 ⟨s'', κ2, ⟨rfl, rfl⟩, hs2⟩
  refine wpIn_block (wpIn_rangeFunc fun fnid _ => ?_)
  have hsg := hs2.env g
  rw [hg, AV.sat] at hsg
  obtain ⟨lb, hg1, hg2⟩ := hsg
  generalize hrec : ({ state := .ready, pending := none, fn := fnid, tmps := a2.tmps, params := #[p1, p2], assign := asn, body := bdy, defers := w2.heap.size } : Loop) = rec
  obtain ⟨W1, hW1⟩ : ∃ W1, (w2.alloc (.deferred (some []))).alloc (.loop rec) = W1 := ⟨_, rfl⟩
  have hsz1 : W1.heap.size = w2.heap.size + 2 := by rw [← hW1]; simp
  have hold1 : ∀ b, b < w2.heap.size → W1.heap[b]? = w2.heap[b]? := fun b hb => by
    rw [← hW1, Below.heap_alloc _ _ _ (by simp; omega), Below.heap_alloc _ _ _ hb]
  have hL1 : W1.heap[w2.heap.size + 1]? = some (.loop rec) := by
    rw [← hW1]; have := World.alloc_heap_new (w2.alloc (.deferred (some []))) (.loop rec); rwa [World.size_alloc] at this
  have hD1 : W1.heap[w2.heap.size]? = some (.deferred (some [])) := by
    rw [← hW1, Below.heap_alloc _ _ _ (by simp)]; exact World.alloc_heap_new w2 _
  have hos1 : W1.os = w2.os ∧ W1.tape = w2.tape ∧ W1.output = w2.output := by rw [← hW1]; exact ⟨rfl, rfl, rfl⟩
  have hkl : ∀ b, some b ∈ κ2 → b < w2.heap.size := fun b hb => (hs2.own.lt b hb).1
  obtain ⟨hO1, keep1⟩ := own_frame (F' := fun b => F b ∨ b = w2.heap.size ∨ b = w2.heap.size + 1) (w' := W1) hs2.own
    ⟨by omega, fun b hb _ => hold1 b hb, fun b hb hnb hb' => by
      rcases hb' with (h | h | h) | h
      · exact hnb (.inl h)
      · omega
      · omega
      · exact hnb (.inr h)⟩ (fun g hg => hold1 g (hkl g hg)) (fun b hb => by
        rcases hb with h | h | h
        · have := hs2.own.frame b h; omega
        · omega
        · omega) (fun g hg hb => by
        have := hkl g hg
        rcases hb with h | h | h
        · exact (hs2.own.lt g hg).2 h
        · omega
        · omega) (fun p hp c t fz hc => hold1 p.1 (Array.getElem?_eq_some_iff.1 hc).1)
  have hrp : rec.params = #[p1, p2] := by rw [← hrec]
  have hra : rec.assign = asn := by rw [← hrec]
  have hrb : rec.body = bdy := by rw [← hrec]
  have hH : IterH (w2.heap.size + 1) w2.heap.size rec s''.env fn.ntmps (fun b => F b ∨ b = w2.heap.size ∨ b = w2.heap.size + 1) ⟨W1, s''.own⟩ κ2 :=
    ⟨.inr (.inr rfl), .inr (.inl rfl), hL1, hD1, by omega, by rw [← hrec], by rw [← hrec], by rw [← hrec]; exact hs2.tm, fun t => by
      have := keep1 _ _ (hs2.env t)
      rw [← hrec]; exact this⟩
  refine ⟨w2.heap.size + 1, [{ target := .collected w2.heap.size, args := #[] }], W1, { target := .fn (.func gf) lb, args := #[.func (.yield (w2.heap.size + 1)) #[] #[]] }, W1, gf,
    #[.func (.yield (w2.heap.size + 1)) #[] #[]] ++ lb, W1, ?_, ?_, fun _ _ => trivial, ?_, (fun h => by cases h), ?_⟩
  · show (Instr.enterLoop fnid a2.tmps #[p1, p2] asn bdy none).run P w2 = _
    rw [run_enterLoop_outer, hrec, hW1]
  · have e : a2.tmps[g]?.getD undef = .func (.func gf) #[] lb := by rw [← Array.getD_eq_getD_getElem?]; exact hg1
    simp [resolve, e, go_sem]
  · have := run_callFunc (P := P) hfn (#[.func (.yield (w2.heap.size + 1)) #[] #[]] ++ lb) W1
    simpa [invoke, go_sem] using this
  · refine callsIn_of_wp (F := Fence.wide) (n := 0) hgf hgb trivial ?_
    have hsat2 : AV.satL (fun b => F b ∨ b = w2.heap.size ∨ b = w2.heap.size + 1) s''.own κ2 W1 (.d (.v (.func (.yield (w2.heap.size + 1)) #[] #[])) :: caps) (.func (.yield (w2.heap.size + 1)) #[] #[] :: lb.toList) := by
      rw [AV.satL]
      exact ⟨sat_v.2 rfl, keepL keep1 caps hg2⟩
    have hll := satL_length hg2
    have harr : (#[.func (.yield (w2.heap.size + 1)) #[] #[]] ++ lb : Array Value) = (Value.func (.yield (w2.heap.size + 1)) #[] #[] :: lb.toList).toArray := by simp
    rw [harr]
    have hsz2 : (Value.func (.yield (w2.heap.size + 1)) #[] #[] :: lb.toList).toArray.size ≤ gfn.ntmps := by
      simp at hll ⊢; omega
    refine wpIn_mono (hit _ _ rec hrp hra hrb _ ⟨W1, s''.own⟩ κ2 _ κ2 W1 hH hO1.len.symm (Sim.start (by simp at hsz2 ⊢; omega) rfl (hargs hsat2) hO1)) ?_
    rintro e a3 w3 ⟨s3, κ3, ⟨he, hs3o⟩, hs3⟩
    have ek : κ3 = κ2 := by
      have h1 := hs3.own.len
      rw [hs3o, hlen, hO1.len] at h1
      have h2 := hs3.pre
      rw [List.take_of_length_le (by omega)] at h2
      exact h2
    subst ek
    have hO3 : OwnSat (fun b => F b ∨ b = w2.heap.size ∨ b = w2.heap.size + 1) ownN κ3 w3 := by have := hs3.own; rwa [hs3o] at this
    have nl : some (w2.heap.size + 1) ∉ κ3 := fun h => (hO3.lt _ h).2 (.inr (.inr rfl))
    have nD : some w2.heap.size ∉ κ3 := fun h => (hO3.lt _ h).2 (.inr (.inl rfl))
    have hL3 : w3.heap[w2.heap.size + 1]? = some (.loop rec) := (hs3.old _ (by show _ < W1.heap.size; omega) nl).trans hL1
    have hD3 : w3.heap[w2.heap.size]? = some (.deferred (some [])) := (hs3.old _ (by show _ < W1.heap.size; omega) nD).trans hD1
    have h31 : W1.heap.size ≤ w3.heap.size := hs3.size
    have hend := run_endLoop (P := P) hL3 (by rw [← hrec]; simp)
    have hpe : rec.pending = none := by rw [← hrec]
    rw [hpe] at hend
    obtain ⟨o4, hend⟩ : ∃ o, (Instr.endLoop (w2.heap.size + 1)).run P w3 = .ok none (w3.putObj (w2.heap.size + 1) o) := ⟨_, hend⟩
    generalize hw4 : w3.putObj (w2.heap.size + 1) o4 = w4 at hend
    have hD4 : w4.heap[w2.heap.size]? = some (.deferred (some [])) := by
      rw [← hw4, World.putObj_heap_other (by omega)]; exact hD3
    have htk := run_takeDeferred (P := P) hD4
    generalize hw5 : w4.putObj w2.heap.size (.deferred none) = w5 at htk
    have hsz5 : w5.heap.size = w3.heap.size := by rw [← hw5, ← hw4]; simp
    have hold5 : ∀ b, b ≠ w2.heap.size → b ≠ w2.heap.size + 1 → w5.heap[b]? = w3.heap[b]? := fun b h1 h2 => by
      rw [← hw5, World.putObj_heap_other h1, ← hw4, World.putObj_heap_other h2]
    have hk3 : ∀ b, some b ∈ κ3 → b ≠ w2.heap.size ∧ b ≠ w2.heap.size + 1 := fun b hb => ⟨fun e => nD (e ▸ hb), fun e => nl (e ▸ hb)⟩
    obtain ⟨hO5, keep5⟩ := own_frame (F' := F) (w' := w5) hO3
      ⟨by omega, fun b hb hnb => hold5 b (fun e => hnb (.inl (.inr (.inl e)))) (fun e => hnb (.inl (.inr (.inr e)))), fun b hb hnb hb' => by
        rcases hb' with h | h
        · exact hnb (.inl (.inl h))
        · exact hnb (.inr h)⟩ (fun g hg => hold5 g (hk3 g hg).1 (hk3 g hg).2) (fun b hb => by
          have := hO3.frame b (.inl hb); omega) (fun g hg hb => (hO3.lt g hg).2 (.inl hb)) (fun p hp c t fz hc => hold5 p.1 (fun e => by rw [e, hD3] at hc; cases hc) (fun e => by rw [e, hL3] at hc; cases hc))
    have hsimF : Sim F ⟨w, own⟩ κ 0 ⟨[], ownN⟩ { tmps := #[], defers := [] } κ3 w5 := by
      refine ⟨rfl, rfl, fun t => by simp [look, AV.sat], hO5, hs2.pre, ?_, ?_, ?_, ?_, fun b hb hk => ?_, hs2.new, ho.len, fun x u hx => ?_⟩
      · rw [← hw5, ← hw4]; exact (hs3.os.trans hos1.1).trans hs2.os
      · rw [← hw5, ← hw4]; exact (hs3.tape.trans hos1.2.1).trans hs2.tape
      · rw [← hw5, ← hw4]; exact (hs3.output.trans hos1.2.2).trans hs2.output
      · have h1 : w.heap.size ≤ w2.heap.size := hs2.size
        show w.heap.size ≤ w5.heap.size; omega
      · have hb' : b < w.heap.size := hb
        have h1 := hs2.size
        have hk2 : some b ∉ κ3 := fun h => by
          rcases hs2.new b h with h3 | h3
          · exact hk h3
          · have h3' : w.heap.size ≤ b := h3; omega
        have h1' : w.heap.size ≤ w2.heap.size := h1
        rw [hold5 b (by omega) (by omega)]
        exact ((hs3.old b (by show b < W1.heap.size; omega) hk2).trans (hold1 b (by omega))).trans (hs2.old b hb hk)
      · have h1 := hs3.keep x u (keep1 x u (hs2.keep x u hx))
        rw [hs3o] at h1
        exact keep5 x u h1
    have hsimE := hsimF.wkK (s' := ⟨[], ownE⟩) ho.len.symm hj hjm hE.symm trivial
    have hmain : ∃ v κ', (Ending.returned (.tuple #[]) : Ending) = .returned v ∧ AV.sat F ownE κ' w5 (.tup []) v ∧ OwnSat F ownE κ' w5 ∧ Tr F own.length own κ w ownE κ' w5 := by
      refine ⟨.tuple #[], selK κ3 js, rfl, ?_, hsimE.own, ⟨hsimE.os, hsimE.tape, hsimE.output, hsimE.size, hsimE.old, hsimE.new, ?_, hsimE.keep⟩⟩
      · rw [AV.sat]; exact ⟨#[], rfl, by simp [AV.satL]⟩
      · rw [ho.len, hsimE.pre, List.take_of_length_le (Nat.le_refl _)]
    have hfin : rangePost Fence.wide 0 P (w2.heap.size + 1) (Exit.inBlock id (bodyPostM Fence.wide 0 P fn fun e w' => ∃ v κ', e = .returned v ∧ AV.sat F ownE κ' w' (.tup []) v ∧ OwnSat F ownE κ' w' ∧ Tr F own.length own κ w ownE κ' w')) { a2 with defers := [{ target := .collected w2.heap.size, args := #[] }] ++ a2.defers } (.returned (.tuple #[])) w3 := by
      refine ⟨none, w4, hend, ?_⟩
      show LeavesInM Fence.wide 0 P fn a2.tmps _ ([{ target := .collected w2.heap.size, args := #[] }] ++ a2.defers) .returning w4
      rw [hs2.df]
      refine ⟨by simp, .inl ⟨w2.heap.size, w5, rfl, htk, ?_⟩⟩
      exact ⟨_, hres' _ _, hmain⟩
    rcases he with rfl | rfl
    · exact ⟨hs3.df, _, hgres' _ _, hfin⟩
    · exact ⟨hs3.df, _, hgres' _ _, hfin⟩
end Go.Proofs.YtjaipchlnnjaeaaDoor
end

section
/- The machine of abstract values: endings that are weakened; bytes of any number. No program in sight. -/
namespace Go.Proofs.YtjaipchlnnjaeaaDoor
open Go.RowKit
set_option linter.unusedVariables false
set_option linter.unusedSimpArgs false
/-- The state at the end, weakened. -/
theorem AWP.toW {Γ : Ctx} {P : Program} {n m : Nat} {c : Code} {s s1 : St} (h : AWPG Γ P n m c (fun e s => e = .normal ∧ Wk m s s1) s) : AWPG Γ P n m c (fun e s => e = .normal ∧ s = s1) s := fun F W κ0 a κ w hH hm hs =>
  wpIn_mono (h F W κ0 a κ w hH hm hs) fun e a' w' ⟨s', κ', ⟨he, hw⟩, hs'⟩ => by
    obtain ⟨κ2, h2⟩ := hs'.wk hm hw
    exact ⟨s1, κ2, ⟨he, rfl⟩, h2⟩
/-- Memory at the end, weakened. -/
theorem AWP.toO {Γ : Ctx} {P : Program} {n m : Nat} {c : Code} {s : St} {own' : List Ent} (h : AWPG Γ P n m c (fun e s => e = .normal ∧ Wk m s ⟨[], own'⟩) s) : AWPG Γ P n m c (fun e s => e = .normal ∧ s.own = own') s := fun F W κ0 a κ w hH hm hs =>
  wpIn_mono (h F W κ0 a κ w hH hm hs) fun e a' w' ⟨s', κ', ⟨he, hw⟩, hs'⟩ => by
    obtain ⟨κ2, h2⟩ := hs'.wk hm hw
    exact ⟨_, κ2, ⟨he, rfl⟩, h2⟩
theorem AWP.chain {P : Program} {n m : Nat} {c0 c1 : Code} {s sA s1 : St} (h0 : AWP P n m c0 (fun e s => e = .normal ∧ Wk m s sA) s) (h1 : AWP P n m c1 (fun e s => e = .normal ∧ Wk m s s1) sA) : AWP P n m c0 (fun e s => e = .normal ∧ AWP P n m c1 (fun e s => e = .normal ∧ s = s1) s) s :=
  AWP.mono (AWP.toW h0) fun e s ⟨he, hs⟩ => ⟨he, by rw [hs]; exact AWP.toW h1⟩
theorem isB_sub {l : List Nat} (h : isB l) (a b : Nat) : isB ((l.drop a).take b) := fun x hx => h x (List.mem_of_mem_drop (List.mem_of_mem_take hx))
section
variable {P : Program} {m : Nat} {env : List (Nat × AV)} {own : List Ent} {dst : Option Tmp} {ty : TypeId} {pos : String} {af : Array Edge} {gd : Option (Nat × Bool)}
/-- A conversion to a byte, of a number that need not fit. -/
theorem q_conv8w {src dst' : TypeId} {x : Operand} {k : IntKind} {n : Int} {v : Nat} (hx : lookO env x = .d (.v (.int k n))) (hs : (P.underlying src).isSome = true) (hd : isInt P dst' .u8 = true) (hn : n = (v : Int)) :
    Quiet P m ⟨dst, .convert src dst' x, ty, pos, af, gd⟩ env own [] (.d (.v (.int .u8 ((v % 256 : Nat) : Int)))) := by
  have := q_conv (P := P) (m := m) (env := env) (own := own) (dst := dst) (ty := ty) (pos := pos) (af := af) (gd := gd) (src := src) .u8 hs hd hx
  rw [hn] at this
  have e : IntKind.u8.wrap (v : Int) = ((v % 256 : Nat) : Int) := by
    simp [IntKind.wrap, IntKind.bits, IntKind.signed]
  rwa [e] at this
/-- '[]byte(s)', read as data. -/
theorem q_bytes {src dst' : TypeId} {x : Operand} {l : List Nat} (hx : lookO env x = bS l) (hs : P.underlying src = some .string) (hd : isByteSl P dst' = true) (hb : isB l) (hl : l.length ≤ 1000000) :
    Quiet P m ⟨dst, .convert src dst' x, ty, pos, af, gd⟩ env own [] (.d (.sl 1 (l.map nD))) :=
  Quiet.more fun F own' κ a w hsat ho _ _ => by
    have h1 := hsat x (by simp [Op.operands]); rw [hx, sat_v] at h1
    obtain ⟨e, he1, he2⟩ := isByteSl_spec hd
    have hrun := run_bytes_of_string (P := P) w src dst' e (bytesOf l) hs he1 he2
    have hG := grownCap_ge w (bytesOf l).size 0 e
    have hG2 := grownCap_le_maxLen w (bytesOf l).size 0 e (by rw [bytesOf_size]; unfold maxLen; omega)
    have hsz := bytesOf_size l
    generalize grownCap w (bytesOf l).size 0 e = G at *
    refine ⟨.slice (some ⟨w.heap.size, 0, none⟩) (bytesOf l).size G, w.drew.alloc (.cells (bytesRow (bytesOf l) G) e ((bytesRow (bytesOf l) G).size, (bytesRow (bytesOf l) G).size + 1)), exec_v (by rw [h1]; exact hrun), ?_, rfl, rfl, rfl, by simp [World.alloc, World.drew, -World.drew_eq], fun b hb => Below.heap_alloc w.drew _ _ hb⟩
    have hh := World.alloc_heap_new w.drew (.cells (bytesRow (bytesOf l) G) e ((bytesRow (bytesOf l) G).size, (bytesRow (bytesOf l) G).size + 1))
    have hh' : (w.drew.alloc (.cells (bytesRow (bytesOf l) G) e ((bytesRow (bytesOf l) G).size, (bytesRow (bytesOf l) G).size + 1))).heap[w.heap.size]? = some (.cells (bytesRow (bytesOf l) G) e ((bytesRow (bytesOf l) G).size, (bytesRow (bytesOf l) G).size + 1)) := hh
    rw [AV.sat, Dat.sat]
    refine ⟨some ⟨w.heap.size, 0, none⟩, G, by rw [List.length_map, hsz], by rw [List.length_map]; omega, hG2, fun hp => ⟨w.heap.size, 0, rfl, (Array.getElem?_eq_some_iff.1 hh').1, fun hbad => ?_, Dat.rowsSat_iff.2 fun j el hj => ?_⟩⟩
    · rcases hbad with hbad | hbad
      · have := ho.frame _ hbad; omega
      · have := (ho.lt _ hbad).1; omega
    · rw [List.getElem?_map] at hj
      cases hx : l[j]? with
      | none => rw [hx] at hj; cases hj
      | some v =>
        rw [hx] at hj
        simp only [Option.map_some, Option.some.injEq] at hj
        subst hj
        refine ⟨rfl, Dat.rowSat_iff.2 fun j2 y hy => ?_⟩
        cases j2 with
        | succ j2 => simp [nD] at hy
        | zero =>
          simp only [nD, List.getElem?_cons_zero, Option.some.injEq] at hy
          subst hy
          have hjl : j < l.length := (List.getElem?_eq_some_iff.1 hx).1
          have hv : l[j] = v := by rw [List.getElem?_eq_getElem hjl] at hx; simpa using hx
          have hjs : j < (bytesOf l).data.size := by have : (bytesOf l).data.size = l.length := bytesOf_size l; omega
          refine ⟨_, ?_, rfl, rfl⟩
          rw [cell_of_row _ _ _ _ _ _ hh', Nat.zero_add, Nat.mul_one, Nat.add_zero, bytesRow_at _ _ _ hjs]
          have := bytesOf_get hb j hjl (by rw [hsz]; exact hjl)
          rw [hv] at this
          rw [← this]
          rfl
end
end Go.Proofs.YtjaipchlnnjaeaaDoor
end

section
/- The machine of abstract values: texts compared. No program in sight. -/
namespace Go.Proofs.YtjaipchlnnjaeaaDoor
open Go.RowKit
set_option linter.unusedVariables false
set_option linter.unusedSimpArgs false
section
variable {P : Program} {m : Nat} {env : List (Nat × AV)} {own : List Ent} {dst : Option Tmp} {ty : TypeId} {pos : String} {af : Array Edge} {gd : Option (Nat × Bool)}
theorem isB_nil : isB [] := fun x hx => by simp at hx
theorem beq_bytes {l l' : List Nat} (h1 : isB l) (h2 : isB l') : ((bytesOf l).toList == (bytesOf l').toList) = decide (l = l') := by
  by_cases e : l = l'
  · subst e; simp
  · rw [decide_eq_false e, beq_eq_false_iff_ne]
    intro h
    rw [ByteArray.toList_eq, ByteArray.toList_eq] at h
    exact e (bytesOf_inj h1 h2 (ByteArray.ext (Array.ext' h)))
theorem q_eqlS {t t' : TypeId} {x y : Operand} {l l' : List Nat} (hx : lookO env x = bS l) (hy : lookO env y = bS l') (h1 : isB l) (h2 : isB l') :
    Quiet P m ⟨dst, .binOp .eql t x y t', ty, pos, af, gd⟩ env own [] (bV (decide (l = l'))) := q_bin hx hy fun w => by
  rw [← beq_bytes h1 h2]
  simp [eqGuard, binOp, Op.stringOp]
theorem q_neqS {t t' : TypeId} {x y : Operand} {l l' : List Nat} (hx : lookO env x = bS l) (hy : lookO env y = bS l') (h1 : isB l) (h2 : isB l') :
    Quiet P m ⟨dst, .binOp .neq t x y t', ty, pos, af, gd⟩ env own [] (bV (!decide (l = l'))) := q_bin hx hy fun w => by
  rw [← beq_bytes h1 h2]
  simp [eqGuard, binOp, Op.stringOp]
/-- A text and a constant. -/
theorem q_eqlK {t t' : TypeId} {x y : Operand} {a b : ByteArray} {r : Bool} (hx : lookO env x = .d (.v (.string a))) (hy : lookO env y = .d (.v (.string b))) (hr : (a.data == b.data) = r) :
    Quiet P m ⟨dst, .binOp .eql t x y t', ty, pos, af, gd⟩ env own [] (bV r) := q_bin hx hy fun w => by
  subst hr
  simp [eqGuard, binOp, Op.stringOp, ByteArray.toList_eq]
end
end Go.Proofs.YtjaipchlnnjaeaaDoor
end

section
/- The machine of abstract values: truth values compared. No program in sight. -/
namespace Go.Proofs.YtjaipchlnnjaeaaDoor
open Go.RowKit
set_option linter.unusedVariables false
set_option linter.unusedSimpArgs false

section
variable {P : Program} {m : Nat} {env : List (Nat × AV)} {own : List Ent} {dst : Option Tmp} {ty : TypeId} {pos : String} {af : Array Edge} {gd : Option (Nat × Bool)}
def isBool (P : Program) (t : TypeId) : Bool := match P.underlying t with | some .bool => true | _ => false
theorem isBool_spec {t : TypeId} (h : isBool P t = true) : P.underlying t = some .bool := by
  unfold isBool at h
  split at h
  · assumption
  · cases h
theorem q_eqlB {t t' : TypeId} {x y : Operand} {a b : Bool} (hx : lookO env x = bV a) (hy : lookO env y = bV b) (ht : isBool P t = true) :
    Quiet P m ⟨dst, .binOp .eql t x y t', ty, pos, af, gd⟩ env own [] (bV (a == b)) := q_bin hx hy fun w => by
  simp [eqGuard, binOp, run_equal_bool w t a b (isBool_spec ht)]
theorem q_neqB {t t' : TypeId} {x y : Operand} {a b : Bool} (hx : lookO env x = bV a) (hy : lookO env y = bV b) (ht : isBool P t = true) :
    Quiet P m ⟨dst, .binOp .neq t x y t', ty, pos, af, gd⟩ env own [] (bV (!(a == b))) := q_bin hx hy fun w => by
  simp [eqGuard, binOp, run_equal_bool w t a b (isBool_spec ht)]
end
end Go.Proofs.YtjaipchlnnjaeaaDoor
end
