/- The machine of abstract values: slice literals, make, append, stores into rows. No program in sight; no condition. -/
import Derived.Test.YtffdhckilhhejaaKern10
namespace Go.Proofs.Ytffdhckilhhejaa
open Go.RowKit
set_option linter.unusedVariables false
set_option linter.unusedSimpArgs false

/-- The elements of a slice literal, all of them given, in order. -/
def litEl (env : List (Nat × AV)) : List (Nat × Operand) → Nat → List (List Dat) → Nat → Prop
  | [], _, [], _ => True
  | (i, x) :: ps, k, e :: es, sz => i = k ∧ cellsD (lookO env x) = some e ∧ e.length = sz ∧ ((e.map AV.d).all oneA) = true ∧ litEl env ps (k + 1) es sz
  | _, _, _, _ => False

theorem rowsSat_one {B : Nat → Prop} {w : World} {b sz o : Nat} {e : List Dat} : Dat.rowsSat B w b sz o [e] ↔ e.length = sz ∧ Dat.rowSat B w b o e := by simp [Dat.rowsSat]

theorem satL_rowSat {F : Nat → Prop} {own : List Ent} {κ : List (Option Nat)} {w : World} {b o : Nat} {ds : List Dat} {us : List Value} (h : AV.satL F own κ w (ds.map .d) us) (h1 : ∀ u ∈ us, u.oneCell' = true) (hc : ∀ j u, us[j]? = some u → w.cell? ⟨b, o + j, none⟩ = some u) : Dat.rowSat (badK F κ) w b o ds := by
  rw [Dat.rowSat_iff]
  intro j x hj
  obtain ⟨u, h2, h3⟩ := satL_get h j (.d x) (by rw [List.getElem?_map, hj]; rfl)
  exact ⟨u, hc j u h2, h1 u (List.mem_of_getElem? h2), by rw [AV.sat] at h3; exact h3⟩

theorem litEl_length {env : List (Nat × AV)} {sz : Nat} : ∀ {ps : List (Nat × Operand)} {k : Nat} {es : List (List Dat)}, litEl env ps k es sz → ps.length = es.length
  | [], _, [], _ => rfl
  | (i, x) :: ps, k, e :: es, h => by simp [litEl_length h.2.2.2.2]
  | [], _, _ :: _, h => h.elim
  | _ :: _, _, [], h => h.elim

/-- What a slice literal's cells are. -/
theorem fill_lit {F : Nat → Prop} {own : List Ent} {κ : List (Option Nat)} {w : World} {a : Act} {env : List (Nat × AV)} {sz : Nat} : ∀ (ps : List (Nat × Operand)) (k : Nat) (es : List (List Dat)) (cs : Array Value), litEl env ps k es sz →
    (∀ p ∈ ps, AV.sat F own κ w (lookO env p.2) (a.eval p.2)) → cs.size = (k + ps.length) * sz →
    ∃ rs : Array Value, Instr.fill (fun i => some (i * sz, sz)) cs (ps.map fun p => (p.1, a.eval p.2)) = some rs ∧ rs.size = cs.size ∧ (∀ j, j < k * sz → rs[j]? = cs[j]?) ∧
      (∀ j e, es[j]? = some e → ∃ us : List Value, AV.satL F own κ w (e.map .d) us ∧ (∀ u ∈ us, u.oneCell' = true) ∧ ∀ i u, us[i]? = some u → rs[(k + j) * sz + i]? = some u)
  | [], k, [], cs, _, _, _ => ⟨cs, rfl, rfl, fun _ _ => rfl, fun j e h => by simp at h⟩
  | (i, x) :: ps, k, e :: es, cs, h, hs, hsz => by
    obtain ⟨rfl, hc, hl, hone', h⟩ := h
    obtain ⟨hcA, hok⟩ := cellsD_A hc
    have hx := cellsA_sat hcA (hs (i, x) (by simp)) hok
    have hxl := satL_length hx
    simp only [List.length_map, Array.length_toList] at hxl
    have h1 : ∀ u ∈ (a.eval x).cells.toList, u.oneCell' = true := oneL_sat hone' hx
    have hone : (i + ((i, x) :: ps).length) * sz = i * sz + sz + ps.length * sz := by simp [Nat.add_mul]; omega
    have e1 : ((((a.eval x).cells).zipIdx).foldl (fun cs (p : Value × Nat) => cs.setIfInBounds (i * sz + p.2) p.1) cs) = (((a.eval x).cells.toList.zipIdx).foldl (fun cs (p : Value × Nat) => cs.setIfInBounds (i * sz + p.2) p.1) cs) := by
      rw [← Array.foldl_toList]; simp
    have e2 := foldl_set [] (a.eval x).cells.toList (i * sz) cs (by simp; omega)
    generalize hcs' : (((a.eval x).cells).zipIdx).foldl (fun cs (p : Value × Nat) => cs.setIfInBounds (i * sz + p.2) p.1) cs = cs' at e1
    rw [← e1] at e2
    have hcl : ((a.eval x).cells.toList).length = sz := by simp; omega
    have hsz' : cs'.size = cs.size := by
      have := congrArg List.length e2
      simp only [Array.length_toList, List.length_append, List.length_take, List.length_drop] at this
      simp only [Array.length_toList] at hcl
      omega
    obtain ⟨rs, g1, g2, g3, g4⟩ := fill_lit ps (i + 1) es cs' h (fun p hp => hs p (by simp [hp])) (by rw [hsz', hsz]; simp [Nat.add_mul]; omega)
    have hget : ∀ j, j < (i + 1) * sz → rs[j]? = ((cs.toList.take (i * sz) ++ (a.eval x).cells.toList ++ cs.toList.drop (i * sz + (a.eval x).cells.toList.length)))[j]? := fun j hj => by
      rw [g3 j hj, ← e2]; simp
    rw [Nat.add_mul, Nat.one_mul] at hget
    refine ⟨rs, ?_, by omega, fun j hj => ?_, fun j e' hj => ?_⟩
    · simp only [List.map_cons, Instr.fill]
      rw [if_neg]
      · rw [hcs']; exact g1
      · simp only [Bool.or_eq_true, bne_iff_ne, ne_eq, decide_eq_true_eq, not_or]
        exact ⟨by omega, by omega⟩
    · rw [hget j (by omega), List.append_assoc, List.getElem?_append_left (by simp; omega), List.getElem?_take, if_pos hj]; simp
    · cases j with
      | zero =>
        obtain rfl : e = e' := by simpa using hj
        refine ⟨_, hx, h1, fun q u hu => ?_⟩
        have hq : q < sz := by
          have : q < (a.eval x).cells.toList.length := (List.getElem?_eq_some_iff.1 hu).1
          omega
        rw [Nat.add_zero, hget _ (by omega), List.append_assoc, List.getElem?_append_right (by simp; omega), List.getElem?_append_left (by simp; simp at hcl; omega)]
        have : i * sz + q - (cs.toList.take (i * sz)).length = q := by simp; omega
        rw [this]; exact hu
      | succ j =>
        obtain ⟨us, u1, u2, u3⟩ := g4 j e' (by simpa using hj)
        exact ⟨us, u1, u2, fun q u hu => by rw [show i + (j + 1) = i + 1 + j from by omega]; exact u3 q u hu⟩
  | [], _, _ :: _, _, h, _, _ => h.elim
  | _ :: _, _, [], _, h, _, _ => h.elim

section
variable {P : Program} {m : Nat} {env : List (Nat × AV)} {own : List Ent} {dst : Option Tmp} {ty : TypeId} {pos : String} {af : Array Edge} {gd : Option (Nat × Bool)}

theorem run_buildSlice {F : Nat → Prop} {own' : List Ent} {κ : List (Option Nat)} {w : World} {a : Act} {t e : TypeId} {sz by' : Nat} {z : Value} {n : Nat} {parts : Array (Nat × Operand)} {es : List (List Dat)} (ht : slInfo P t = some (e, sz, by', z)) (hz : z.cells.size = sz) (hl : litEl env parts.toList 0 es sz) (hn : n = es.length) (hb : n * sz ≤ 16777216)
    (hs : ∀ p ∈ parts.toList, AV.sat F own' κ w (lookO env p.2) (a.eval p.2)) :
    ∃ rs : Array Value, (Instr.buildSlice t n (parts.map fun (i, x) => (i, a.eval x))).run P w = .ok (.slice (some ⟨w.heap.size, 0, none⟩) n n) (w.alloc (.cells rs e)) ∧ rs.size = n * sz ∧
      (∀ j e, es[j]? = some e → ∃ us : List Value, AV.satL F own' κ w (e.map .d) us ∧ (∀ u ∈ us, u.oneCell' = true) ∧ ∀ i u, us[i]? = some u → rs[j * sz + i]? = some u) := by
  obtain ⟨he, i, hi, rfl, hby, hzz⟩ := slInfo_spec ht
  have hlen := litEl_length hl
  let cs : Array Value := (Array.range (n * i.size)).map fun j => (if n * i.size = 0 then #[] else z.cells)[j % (if n * i.size = 0 then #[] else z.cells).size]!
  have hcs : cs.size = n * i.size := by simp [cs]
  obtain ⟨rs, h1, h2, _, h3⟩ := fill_lit (a := a) parts.toList 0 es cs hl hs (by rw [hcs, hn, hlen]; simp)
  refine ⟨rs, ?_, by omega, fun j e hj => by obtain ⟨us, u1, u2, u3⟩ := h3 j e hj; exact ⟨us, u1, u2, fun q u hu => by simpa using u3 q u hu⟩⟩
  have e2 : (parts.map fun (p : Nat × Operand) => (p.1, a.eval p.2)).toList = parts.toList.map fun p => (p.1, a.eval p.2) := by simp
  have hb' : ¬ (n * i.size > 2 ^ 24) := by omega
  simp only [Instr.buildSlice, Sem.run_bind, run_underlying he, Result.andThen_ok, sizeOf, typeInfo, run_program, hi, Sem.run_pure, hb', if_false]
  by_cases h0 : n * i.size = 0
  · simp only [h0, if_true, Sem.run_bind, Sem.run_pure, Result.andThen_ok]
    have hcs0 : cs = (Array.range 0).map fun j => (#[] : Array Value)[j % (#[] : Array Value).size]! := by simp only [cs, h0, if_true]
    rw [hcs0] at h1
    rw [e2, h1]
    simp [newRow]
  · simp only [h0, if_false, Sem.run_bind, zeroValue, typeInfo, run_program, Result.andThen_ok, hi, Sem.run_pure, hzz]
    have hcs0 : cs = (Array.range (n * i.size)).map fun j => z.cells[j % z.cells.size]! := by simp only [cs, h0, if_false]
    rw [hcs0] at h1
    rw [e2, h1]
    simp [newRow]

theorem lit_parts {t : TypeId} {n : Nat} {parts : Array (Nat × Operand)} {p : Nat × Operand} (hp : p ∈ parts.toList) : p.2 ∈ (Op.buildSlice t n parts).operands := by
  simp only [Op.operands, List.mem_toArray, List.mem_map]
  exact ⟨p, by simpa using hp, rfl⟩

theorem litEl_len {sz : Nat} : ∀ {ps : List (Nat × Operand)} {k : Nat} {es : List (List Dat)}, litEl env ps k es sz → ∀ (j : Nat) (e' : List Dat), es[j]? = some e' → e'.length = sz
  | [], _, [], _, j, e', hj => by simp at hj
  | (i, x) :: ps, k, e :: es, h, j, e', hj => by
    cases j with
    | zero => obtain rfl : e = e' := by simpa using hj
              exact h.2.2.1
    | succ j => exact litEl_len h.2.2.2.2 j e' (by simpa using hj)
  | [], _, _ :: _, h, _, _, _ => h.elim
  | _ :: _, _, [], h, _, _, _ => h.elim
theorem lit_rows {F : Nat → Prop} {own' : List Ent} {κ κ' : List (Option Nat)} {w : World} {e : TypeId} {sz k : Nat} {ps : List (Nat × Operand)} {es : List (List Dat)} {rs : Array Value} (hl : litEl env ps k es sz) (hst : Wide (badK F κ) (badK F κ') w (w.alloc (.cells rs e)))
    (h3 : ∀ (j : Nat) (e : List Dat), es[j]? = some e → ∃ us : List Value, AV.satL F own' κ w (e.map .d) us ∧ (∀ u ∈ us, u.oneCell' = true) ∧ ∀ (i : Nat) (u : Value), us[i]? = some u → rs[j * sz + i]? = some u) :
    Dat.rowsSat (badK F κ') (w.alloc (.cells rs e)) w.heap.size sz 0 es := by
  rw [Dat.rowsSat_iff]
  intro j e' hj
  obtain ⟨us, u1, u2, u3⟩ := h3 j e' hj
  refine ⟨litEl_len hl j e' hj, ?_⟩
  rw [Dat.rowSat_iff]
  intro q x hx
  obtain ⟨u, h4, h5⟩ := satL_get u1 q (.d x) (by rw [List.getElem?_map, hx]; rfl)
  rw [AV.sat] at h5
  refine ⟨u, ?_, u2 u (List.mem_of_getElem? h4), Dat.sat_wide hst x h5⟩
  rw [cell_of_row _ _ _ rs e (0, 0) (heap_alloc_new w _), Nat.zero_add]
  exact u3 q u h4

/-- A slice literal that no one writes to. -/
theorem q_lit {t e : TypeId} {sz by' : Nat} {z : Value} {n : Nat} {parts : Array (Nat × Operand)} (es : List (List Dat)) (ht : slInfo P t = some (e, sz, by', z)) (hz : z.cells.size = sz) (h0 : 0 < sz) (hl : litEl env parts.toList 0 es sz) (hn : n = es.length) (hb : n * sz ≤ 16777216) :
    Quiet P m ⟨dst, .buildSlice t n parts, ty, pos, af, gd⟩ env own [] (.d (.sl sz es)) :=
  Quiet.more fun F own' κ a w hs ho _ _ => by
    obtain ⟨rs, h1, h2, h3⟩ := run_buildSlice (P := P) (a := a) ht hz hl hn hb (fun p hp => hs p.2 (lit_parts hp))
    refine ⟨_, _, exec_v h1, ?_, rfl, rfl, rfl, by simp, fun b hb => Below.heap_alloc _ _ _ hb⟩
    have hst : Wide (badK F κ) (badK F κ) w (w.alloc (.cells rs e)) := ⟨by simp, fun b hb _ => Below.heap_alloc _ _ _ hb, fun b _ h => h⟩
    have hns := Nat.le_mul_of_pos_right n h0
    rw [AV.sat, Dat.sat]
    refine ⟨some ⟨w.heap.size, 0, none⟩, n, by rw [hn], by omega, by unfold maxLen; omega, fun hp => ⟨w.heap.size, 0, rfl, by simp, fun hbad => ?_, lit_rows hl hst h3⟩⟩
    rcases hbad with hbad | hbad
    · have := ho.frame _ hbad; omega
    · have := (ho.lt _ hbad).1; omega
theorem q_lit1 {t e : TypeId} {sz by' : Nat} {z : Value} {x : Operand} {c : List Dat} (ht : slInfo P t = some (e, sz, by', z)) (hz : z.cells.size = sz) (h0 : Nat.ble 1 sz = true) (hc : cellsD (lookO env x) = some c) (hl : c.length = sz) (h1 : ((c.map AV.d).all oneA) = true) (hb : Nat.ble sz 16777216 = true) :
    Quiet P m ⟨dst, .buildSlice t 1 #[(0, x)], ty, pos, af, gd⟩ env own [] (.d (.sl sz [c])) :=
  q_lit [c] ht hz (Nat.le_of_ble_eq_true h0) ⟨rfl, hc, hl, h1, trivial⟩ rfl (by have := Nat.le_of_ble_eq_true hb; omega)
theorem push_same (x : Ent) (i : Nat) (hi : i ∉ [own.length]) : (own ++ [x])[i]? = own[i]? := by
  rcases Nat.lt_trichotomy i own.length with h | h | h
  · rw [List.getElem?_append_left h]
  · exact absurd (by simp [h]) hi
  · rw [List.getElem?_eq_none (by simp; omega), List.getElem?_eq_none (by omega)]
/-- A slice literal that will be written to. -/
theorem e_lit {t e : TypeId} {sz by' : Nat} {z : Value} {n : Nat} {parts : Array (Nat × Operand)} (es : List (List Dat)) (ht : slInfo P t = some (e, sz, by', z)) (hz : z.cells.size = sz) (h0 : 0 < sz) (hl : litEl env parts.toList 0 es sz) (hn : n = es.length) (hb : n * sz ≤ 16777216) :
    Eff P m ⟨dst, .buildSlice t n parts, ty, pos, af, gd⟩ env own [own.length] (.osl own.length 0 0 n) (own ++ [.row 0 sz e es]) :=
  Eff.mk (push_same _) fun F κ a w hs ho hm => by
    obtain ⟨rs, h1, h2, h3⟩ := run_buildSlice (P := P) (a := a) ht hz hl hn hb (fun p hp => hs p.2 (lit_parts hp))
    have hrun : (execOp a.eval ⟨dst, .buildSlice t n parts, ty, pos, af, gd⟩).run P w = .ok (.value (.slice (some ⟨w.heap.size, 0, none⟩) n n)) (w.alloc (.cells rs e)) := exec_v h1
    have hns := Nat.le_mul_of_pos_right n h0
    rw [hrun]
    obtain ⟨g1, g2⟩ := step_push (x := .row 0 sz e es) (og := some w.heap.size) (w' := w.alloc (.cells rs e)) hm ho rfl rfl rfl (by simp) (fun b hb => Below.heap_alloc _ _ _ hb) (.inr ⟨_, rfl, Nat.le_refl _, by simp⟩) (fun hst =>
      ⟨h0, .inr ⟨w.heap.size, rfl, rs, heap_alloc_new _ _, by rw [h2, hn]; exact Nat.le_refl _, lit_rows hl hst.wide h3⟩⟩)
    refine ⟨κ ++ [some w.heap.size], ?_, g1, g2⟩
    rw [AV.sat]
    refine ⟨⟨.row 0 sz e es, by simp, Nat.le_refl _, rfl⟩, fun sz2 e2 c2 hc => ?_⟩
    obtain ⟨rfl, rfl, rfl⟩ : sz = sz2 ∧ e = e2 ∧ es = c2 := by simpa using hc
    refine ⟨by omega, _, n, rfl, Nat.le_refl _, by unfold maxLen; omega, fun _ => .inl ⟨w.heap.size, by rw [ho.len]; simp, by simp, rs, e, (0, 0), heap_alloc_new _ _, by rw [h2, Nat.zero_add]⟩⟩

theorem rowsSat_rep {B : Nat → Prop} {w : World} {b sz n : Nat} {zs : List Value} (hz : zs.length = sz) (h1 : ∀ z ∈ zs, z.oneCell' = true) (hc : ∀ j i u, j < n → zs[i]? = some u → w.cell? ⟨b, j * sz + i, none⟩ = some u) : Dat.rowsSat B w b sz 0 (List.replicate n (zs.map .v)) := by
  rw [Dat.rowsSat_iff]
  intro j e hj
  have hjn : j < n := by have := (List.getElem?_eq_some_iff.1 hj).1; simpa using this
  obtain rfl : zs.map Dat.v = e := by rw [List.getElem?_replicate] at hj; simpa [hjn] using hj
  refine ⟨by simpa using hz, ?_⟩
  rw [Dat.rowSat_iff]
  intro i x hx
  rw [List.getElem?_map] at hx
  cases hi : zs[i]? with
  | none => rw [hi] at hx; cases hx
  | some u =>
    rw [hi] at hx; obtain rfl : Dat.v u = x := by simpa using hx
    exact ⟨u, by rw [Nat.zero_add]; exact hc j i u hjn hi, h1 u (List.mem_of_getElem? hi), rfl⟩

/-- 'make([]T, n)'. -/
theorem e_make {t e : TypeId} {sz by' : Nat} {z : Value} {x y : Operand} {k k' : IntKind} {i : Int} (n : Nat) (ht : slInfo P t = some (e, sz, by', z)) (hz : z.cells.size = sz) (h0 : Nat.ble 1 sz = true) (h1 : (z.cells.toList.all (·.oneCell')) = true) (hby : Nat.ble by' 1024 = true)
    (hx : lookO env x = .d (.v (.int k i))) (hy : lookO env y = .d (.v (.int k' i))) (hi : i = n) (hn : n ≤ 1000000000) :
    Eff P m ⟨dst, .makeSlice t x y, ty, pos, af, gd⟩ env own [own.length] (.osl own.length 0 0 n) (own ++ [.row 0 sz e (List.replicate n (z.cells.toList.map .v))]) :=
  Eff.mk (push_same _) fun F κ a w hs ho hm => by
    have hx1 := hs x (by simp [Op.operands]); rw [hx, sat_v] at hx1
    have hy1 := hs y (by simp [Op.operands]); rw [hy, sat_v] at hy1
    have h0 := Nat.le_of_ble_eq_true h0
    have hby := Nat.le_of_ble_eq_true hby
    obtain ⟨he, inf, hi1, rfl, hb1, hzz⟩ := slInfo_spec ht
    have hbn : inf.bytes * n ≤ 281474976710656 := by
      have := Nat.mul_le_mul (hb1 ▸ hby) hn; omega
    obtain ⟨w', h2, h3, h4⟩ := run_make_full (P := P) w w.heap.size t e inf z inf.size he hi1 hzz rfl k k' n hbn (by unfold maxLen; omega) (Nat.le_refl _)
    have hrun : (execOp a.eval ⟨dst, .makeSlice t x y, ty, pos, af, gd⟩).run P w = .ok (.value (.slice (some ⟨w.heap.size, 0, none⟩) n n)) w' := exec_v (by rw [hx1, hy1, hi]; exact h2)
    rw [hrun]
    rcases h3.2 with ⟨hv, _⟩ | ⟨g, cap, cur, hv, _, hh, hnc, hcm, hcs, htake⟩
    · simp at hv
    · simp only [Value.slice.injEq, Option.some.injEq, Addr.mk.injEq, and_true] at hv
      obtain ⟨rfl, _, rfl⟩ := hv
      have hlt : w.heap.size < w'.heap.size := (Array.getElem?_eq_some_iff.1 hh).1
      have hcells : ∀ j i u, j < n → z.cells.toList[i]? = some u → w'.cell? ⟨w.heap.size, j * inf.size + i, none⟩ = some u := fun j i u hj hu => by
        rw [cell_of_row w' w.heap.size _ cur e (0, 0) hh]
        have hil : i < inf.size := by have := (List.getElem?_eq_some_iff.1 hu).1; simp [hz] at this; exact this
        have hjn : j * inf.size + i < n * inf.size := by
          have := Nat.mul_le_mul_right inf.size (show j + 1 ≤ n from hj)
          rw [Nat.succ_mul] at this; omega
        have e1 : cur.toList[j * inf.size + i]? = (madeCells z.cells (n * inf.size)).toList[j * inf.size + i]? := by
          rw [← htake, List.getElem?_take, if_pos hjn]
        have e2 : cur[j * inf.size + i]? = cur.toList[j * inf.size + i]? := by simp
        rw [e2, e1]
        have hmod : (j * inf.size + i) % z.cells.size = i := by rw [hz, Nat.mul_comm, Nat.mul_add_mod]; exact Nat.mod_eq_of_lt hil
        have hzi : z.cells[i]? = some u := by simpa using hu
        simp [madeCells, hjn, hmod]
        have hlz : i < z.cells.size := by omega
        rw [Array.getElem?_eq_getElem hlz] at hzi
        simpa [hlz] using hzi
      obtain ⟨g1, g2⟩ := step_push (x := .row 0 inf.size e (List.replicate n (z.cells.toList.map .v))) (og := some w.heap.size) (w' := w') hm ho h4.os h4.tape h4.output h4.size (fun b hb => h4.block b hb (by simp)) (.inr ⟨_, rfl, Nat.le_refl _, hlt⟩) (fun hst =>
        ⟨h0, .inr ⟨w.heap.size, rfl, cur, hh, by rw [hcs, List.length_replicate]; exact Nat.le_refl _, rowsSat_rep (by simpa using hz) (fun u hu => by simpa using List.all_eq_true.1 h1 u hu) hcells⟩⟩)
      refine ⟨κ ++ [some w.heap.size], ?_, g1, g2⟩
      rw [AV.sat]
      refine ⟨⟨_, by rw [List.getElem?_concat_length], Nat.le_refl _, rfl⟩, fun sz2 e2 c2 hc => ?_⟩
      rw [List.getElem?_concat_length] at hc
      obtain ⟨rfl, rfl, rfl⟩ : inf.size = sz2 ∧ e = e2 ∧ List.replicate n (z.cells.toList.map Dat.v) = c2 := by simpa using hc
      refine ⟨by simp, _, n, rfl, Nat.le_refl _, by unfold maxLen; omega, fun _ => .inl ⟨w.heap.size, by rw [ho.len]; simp, by simp, cur, e, (0, 0), hh, by rw [hcs, Nat.zero_add]⟩⟩
end
end Go.Proofs.Ytffdhckilhhejaa
