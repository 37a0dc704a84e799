/- The machine of abstract values: new variables and rows, stores. No program in sight; no condition. -/
import Derived.Test.YtffdhckilhhejaaKern6
namespace Go.Proofs.Ytffdhckilhhejaa
open Go.RowKit
set_option linter.unusedVariables false
set_option linter.unusedSimpArgs false

theorem cellsD_A {x : AV} {ds : List Dat} (h : cellsD x = some ds) : cellsA x = some (ds.map .d) ∧ ∀ y, x = .d (.v y) → y.oneCell' = true := by
  cases x with
  | d y =>
    cases y with
    | v u =>
      simp only [cellsD] at h
      split at h
      · rename_i hu
        obtain rfl : [Dat.v u] = ds := by simpa using h
        exact ⟨rfl, fun z hz => by cases hz; exact hu⟩
      · cases h
    | any => obtain rfl : [Dat.any] = ds := by simpa [cellsD] using h
             exact ⟨rfl, fun z hz => by cases hz⟩
    | sl sz l => obtain rfl : [Dat.sl sz l] = ds := by simpa [cellsD] using h
                 exact ⟨rfl, fun z hz => by cases hz⟩
  | agg l =>
    refine ⟨?_, fun z hz => by cases hz⟩
    have : ∀ (l : List AV) (ds : List Dat), l.mapM datOf = some ds → l = ds.map .d := fun l => by
      induction l with
      | nil => intro ds h; simp at h; subst h; rfl
      | cons x xs ih =>
        intro ds h
        rw [List.mapM_cons] at h
        simp only [Option.bind_eq_bind, Option.bind_eq_some_iff, Option.pure_def, Option.some.injEq] at h
        obtain ⟨p, hp, ps, hps, rfl⟩ := h
        have h1 : x = .d p := by
          cases x <;> simp [datOf] at hp
          rw [hp]
        rw [h1, ih ps hps]; rfl
    exact congrArg some (this l ds (by simpa [cellsD] using h))
  | _ => simp [cellsD] at h

theorem one_of_cellsA {F : Nat → Prop} {own : List Ent} {κ : List (Option Nat)} {w : World} {x : AV} {u : Value} (hx : oneA x = true) (hs : AV.sat F own κ w x u) : u.oneCell' = true := by
  cases x with
  | top => simp [oneA] at hx
  | tup l => simp [oneA] at hx
  | agg l => simp [oneA] at hx
  | d x =>
    rw [AV.sat] at hs
    cases x with
    | v y => rw [Dat.sat] at hs; subst hs; exact hx
    | any => rw [Dat.sat] at hs; exact hs
    | sl sz l => rw [Dat.sat] at hs; obtain ⟨A, c, rfl, _⟩ := hs; rfl
  | osl i ver o n => rw [AV.sat] at hs; obtain ⟨⟨_, _, _, h2⟩, _⟩ := hs; exact h2
  | rpt i ver j o => rw [AV.sat] at hs; obtain ⟨⟨_, _, _, h2⟩, _⟩ := hs; exact h2
  | opt i o => rw [AV.sat] at hs; obtain ⟨g, l, _, _, rfl⟩ := hs; rfl
  | fpt sz l j o => rw [AV.sat] at hs; obtain ⟨b, q, rfl, _⟩ := hs; rfl
  | fn f l => rw [AV.sat] at hs; obtain ⟨vs, rfl, _⟩ := hs; rfl
theorem oneL_sat {F : Nat → Prop} {own : List Ent} {κ : List (Option Nat)} {w : World} : ∀ {l : List AV} {us : List Value}, l.all oneA = true → AV.satL F own κ w l us → ∀ u ∈ us, u.oneCell' = true
  | [], [], _, _, u, hu => by cases hu
  | x :: xs, y :: us, h, hs, u, hu => by
    rw [AV.satL] at hs
    simp only [List.all_cons, Bool.and_eq_true] at h
    rcases List.mem_cons.1 hu with rfl | hu
    · exact one_of_cellsA h.1 hs.1
    · exact oneL_sat h.2 hs.2 u hu
  | [], _ :: _, _, hs, _, _ => by simp [AV.satL] at hs
  | _ :: _, [], _, hs, _, _ => by simp [AV.satL] at hs

section
variable {P : Program} {m : Nat} {env : List (Nat × AV)} {own : List Ent} {dst : Option Tmp} {ty : TypeId} {pos : String} {af : Array Edge} {gd : Option (Nat × Bool)}

/-- A new variable. -/
theorem e_box {t : TypeId} {x : Operand} {l : List AV} (hc : cellsA (lookO env x) = some l) (hok : okPart (lookO env x) = true) (h1 : l.all oneA = true) :
    Eff P m ⟨dst, .box t x, ty, pos, af, gd⟩ env own [own.length] (.opt own.length 0) (own ++ [.box l]) :=
  Eff.mk (fun i hi => by
    rcases Nat.lt_trichotomy i own.length with h | h | h
    · rw [List.getElem?_append_left h]
    · exact absurd (by simp [h]) hi
    · rw [List.getElem?_eq_none (by simp; omega), List.getElem?_eq_none (by omega)]) fun F κ a w hs ho hm => by
    have hx := hs x (by simp [Op.operands])
    have hl := cellsA_sat hc hx (okPart_spec hok)
    have hrun : (execOp a.eval ⟨dst, .box t x, ty, pos, af, gd⟩).run P w = .ok (.value (.pointer (some ⟨w.heap.size, 0, none⟩))) (w.alloc (.cells (a.eval x).cells t)) := exec_v (by simp [Instr.box, newVar, newRow])
    rw [hrun]
    obtain ⟨g1, g2⟩ := step_push (x := .box l) (og := some w.heap.size) (w' := w.alloc (.cells (a.eval x).cells t)) hm ho rfl rfl rfl (by simp) (fun b hb => Below.heap_alloc _ _ _ hb) (.inr ⟨_, rfl, Nat.le_refl _, by simp⟩) (fun hst =>
      ⟨w.heap.size, rfl, (a.eval x).cells, t, heap_alloc_new _ _, AV.satL_stab hst ho.kap l hl, oneL_sat h1 hl⟩)
    refine ⟨κ ++ [some w.heap.size], ?_, g1, g2⟩
    rw [AV.sat]
    exact ⟨w.heap.size, l, by simp, by rw [ho.len]; simp, rfl⟩
def zeroInfo (P : Program) (t : TypeId) : Option (List Value) := ((P.info? t).bind (·.zero)).map (·.cells.toList)
theorem e_alloc {t : TypeId} {zs : List Value} (hz : zeroInfo P t = some zs) (h1 : (zs.all (·.oneCell')) = true) :
    Eff P m ⟨dst, .alloc t, ty, pos, af, gd⟩ env own [own.length] (.opt own.length 0) (own ++ [.box (zs.map fun z => .d (.v z))]) :=
  Eff.mk (fun i hi => by
    rcases Nat.lt_trichotomy i own.length with h | h | h
    · rw [List.getElem?_append_left h]
    · exact absurd (by simp [h]) hi
    · rw [List.getElem?_eq_none (by simp; omega), List.getElem?_eq_none (by omega)]) fun F κ a w hs ho hm => by
    unfold zeroInfo at hz
    cases hi : P.info? t with
    | none => simp [hi] at hz
    | some i =>
      cases hzz : i.zero with
      | none => simp [hi, hzz] at hz
      | some z =>
        obtain rfl : z.cells.toList = zs := by simpa [hi, hzz] using hz
        have hrun : (execOp a.eval ⟨dst, .alloc t, ty, pos, af, gd⟩).run P w = .ok (.value (.pointer (some ⟨w.heap.size, 0, none⟩))) (w.alloc (.cells z.cells t)) := exec_v (by simp [Instr.alloc, zeroValue, typeInfo, hi, hzz, newVar, newRow])
        rw [hrun]
        obtain ⟨g1, g2⟩ := step_push (x := .box (z.cells.toList.map fun z => .d (.v z))) (og := some w.heap.size) (w' := w.alloc (.cells z.cells t)) hm ho rfl rfl rfl (by simp) (fun b hb => Below.heap_alloc _ _ _ hb) (.inr ⟨_, rfl, Nat.le_refl _, by simp⟩) (fun hst =>
          ⟨w.heap.size, rfl, z.cells, t, heap_alloc_new _ _, satL_of (by simp) (fun j y hy => by
            rw [List.getElem?_map] at hy
            cases hj : z.cells.toList[j]? with
            | none => rw [hj] at hy; cases hy
            | some u => rw [hj] at hy; obtain rfl : AV.d (.v u) = y := by simpa using hy
                        exact ⟨u, rfl, sat_v.2 rfl⟩), fun u hu => by simpa using List.all_eq_true.1 h1 u hu⟩)
        refine ⟨κ ++ [some w.heap.size], ?_, g1, g2⟩
        rw [AV.sat]
        exact ⟨w.heap.size, z.cells.toList.map fun z => .d (.v z), by simp, by rw [ho.len]; simp, rfl⟩

theorem run_storeAt {t : TypeId} {n : Nat} {b : Bool} (ht : tyInfo P t = some (b, n)) {g o : Nat} {cur : Array Value} {t2 : TypeId} {w : World} (hg : w.heap[g]? = some (.cells cur t2 (0, 0))) {v : Value} (hn : v.cells.size = n) (hfit : o + v.cells.size ≤ cur.size) (h1 : ∀ u ∈ v.cells.toList, u.oneCell' = true) :
    (Instr.storeAt t (.pointer (some ⟨g, o, none⟩)) v).run P w = .ok () (w.setRow g (cur.toList.take o ++ v.cells.toList ++ cur.toList.drop (o + v.cells.toList.length)).toArray) := by
  obtain ⟨_, i, h2, h3⟩ := tyInfo_spec ht
  have hst := run_storeCells_at P g o t2 v.cells.toList 0 cur w hg (by simpa using hfit) h1
  simp only [Nat.add_zero] at hst
  simp [Instr.storeAt, Instr.sureAddr, storeVar, sizeOf, typeInfo, h2, h3, hn, hst]

/-- A store into a variable. -/
theorem e_st_box {t : TypeId} {n : Nat} {b : Bool} {x y : Operand} {i o : Nat} {l cs : List AV} (ht : tyInfo P t = some (b, n)) (hx : lookO env x = .opt i o) (hl : own[i]? = some (.box l)) (hc : cellsA (lookO env y) = some cs) (hok : okPart (lookO env y) = true) (h1 : cs.all oneA = true) (hn : cs.length = n) (hfit : o + n ≤ l.length) :
    Eff P m ⟨dst, .store t x y, ty, pos, af, gd⟩ env own [i] (.d (.v undef)) (own.set i (.box (l.take o ++ cs ++ l.drop (o + cs.length)))) :=
  Eff.mk (fun j hj => by rw [List.getElem?_set_ne (by simpa using Ne.symm (by simpa using hj))]) fun F κ a w hs ho hm => by
    have hx1 := hs x (by simp [Op.operands]); rw [hx, AV.sat] at hx1
    have hy1 := hs y (by simp [Op.operands])
    have hcs := cellsA_sat hc hy1 (okPart_spec hok)
    have hcl := satL_length hcs
    obtain ⟨g, l2, h2, h3, h4⟩ := hx1
    obtain ⟨cur, t2, h5, h6, h7⟩ := box_block (l' := l) ho hl h3
    have hll := satL_length h6
    simp only [Array.length_toList] at hll hcl
    have hvn : (a.eval y).cells.size = n := by omega
    have hrun : (execOp a.eval ⟨dst, .store t x y, ty, pos, af, gd⟩).run P w = .ok .skip (w.setRow g (cur.toList.take o ++ (a.eval y).cells.toList ++ cur.toList.drop (o + (a.eval y).cells.toList.length)).toArray) :=
      exec_u (by rw [h4]; exact run_storeAt ht h5 hvn (by omega) (oneL_sat h1 hcs))
    rw [hrun]
    generalize hrow : (cur.toList.take o ++ (a.eval y).cells.toList ++ cur.toList.drop (o + (a.eval y).cells.toList.length)).toArray = row
    have hrs : AV.satL F own κ w (l.take o ++ cs ++ l.drop (o + cs.length)) row.toList := by
      rw [← hrow, hcl]
      simp only [Array.length_toList]
      exact satL_append (satL_append (satL_take _ h6) hcs) (satL_drop _ h6)
    have hone : ∀ u ∈ row.toList, u.oneCell' = true := fun u hu => by
      rw [← hrow] at hu
      simp only [List.append_assoc, List.mem_append] at hu
      rcases hu with hu | hu | hu
      · exact h7 u (List.mem_of_mem_take hu)
      · exact oneL_sat h1 hcs u hu
      · exact h7 u (List.mem_of_mem_drop hu)
    have hgl := (ho.lt' h3).1
    obtain ⟨g1, g2⟩ := step_upd (m := m) (x' := .box (l.take o ++ cs ++ l.drop (o + cs.length))) (og := some g) (og' := some g) (w' := w.setRow g row) ho hl h3 rfl rfl rfl (by simp [World.setRow]) (fun b hb hne => by
      simp only [World.setRow, Array.getElem?_modify]
      rw [if_neg (fun e => hne (by rw [e]))]) (.inl rfl) (.inr rfl) rfl (fun hst => ⟨g, rfl, row, t2, setRow_heap w g cur row t2 (0, 0) h5, AV.satL_stab hst ho.kap _ hrs, hone⟩)
    exact ⟨_, sat_v.2 rfl, g1, g2⟩
end
end Go.Proofs.Ytffdhckilhhejaa
