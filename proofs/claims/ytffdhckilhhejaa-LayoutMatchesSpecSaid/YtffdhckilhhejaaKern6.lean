/- The machine of abstract values: struct and slice literals; variables, stores, append, make. No program in sight; no condition. -/
import Derived.Test.YtffdhckilhhejaaKern5
import Derived.Maps.AppendAt
namespace Go.Proofs.Ytffdhckilhhejaa
open Go.RowKit
set_option linter.unusedVariables false
set_option linter.unusedSimpArgs false

/-- A struct type: where its fields lie, and its zero cells. -/
def bldInfo (P : Program) (t : TypeId) : Option (List (Nat × Nat) × List Value) :=
  match P.underlying t with
  | some (.struct fields) => match (P.info? t).bind (·.zero), fields.toList.mapM (fun f => (P.info? f.type).map fun i => (f.offset, i.size)) with
    | some z, some pl => some (pl, z.cells.toList)
    | _, _ => none
  | _ => none
theorem run_places {P : Program} {w : World} : ∀ (l : List Field) (pl : List (Nat × Nat)), l.mapM (fun f => (P.info? f.type).map fun i => (f.offset, i.size)) = some pl → (l.mapM (m := Sem) fun f => do pure (f.offset, ← sizeOf f.type)).run P w = .ok pl w
  | [], pl, h => by simp at h; subst h; rfl
  | f :: fs, pl, h => by
    rw [List.mapM_cons] at h
    simp only [Option.bind_eq_bind, Option.bind_eq_some_iff, Option.pure_def, Option.some.injEq, Option.map_eq_some_iff] at h
    obtain ⟨p, ⟨i, hi, rfl⟩, ps, hps, rfl⟩ := h
    have ih := run_places (w := w) fs ps hps
    rw [List.mapM_cons]
    simp only [Sem.run_bind, sizeOf, typeInfo, run_program, Result.andThen_ok, hi, Sem.run_pure] at ih ⊢
    rw [ih]
    rfl

/-- The cells of a composite literal, part by part. -/
def fillA (pl : List (Nat × Nat)) (cells : List AV) : List (Nat × AV) → Option (List AV)
  | [] => some cells
  | (i, x) :: rest => match pl[i]?, cellsA x with
    | some (off, sz), some cs => if cs.length = sz ∧ off + cs.length ≤ cells.length then fillA pl (cells.take off ++ cs ++ cells.drop (off + cs.length)) rest else none
    | _, _ => none

theorem cellsA_sat {F : Nat → Prop} {own : List Ent} {κ : List (Option Nat)} {w : World} {x : AV} {cs : List AV} {u : Value} (hc : cellsA x = some cs) (hs : AV.sat F own κ w x u) (h1 : ∀ y, x = .d (.v y) → y.oneCell' = true) : AV.satL F own κ w cs u.cells.toList := by
  have one : ∀ y : AV, some [y] = some cs → AV.sat F own κ w y u → u.oneCell' = true → AV.satL F own κ w cs u.cells.toList := fun y hy hsy hu => by
    obtain rfl : [y] = cs := by simpa using hy
    have : u.cells = #[u] := by cases u <;> first | rfl | simp [Value.oneCell'] at hu
    rw [this]; simp [AV.satL, hsy]
  cases x with
  | top => simp [cellsA] at hc
  | tup l => simp [cellsA] at hc
  | agg l =>
    obtain rfl : l = cs := by simpa [cellsA] using hc
    rw [AV.sat] at hs
    obtain ⟨vs, rfl, h2⟩ := hs
    exact h2
  | d x =>
    refine one _ hc hs ?_
    rw [AV.sat] at hs
    cases x with
    | v y => rw [Dat.sat] at hs; subst hs; exact h1 u rfl
    | any => rw [Dat.sat] at hs; exact hs
    | sl sz l => rw [Dat.sat] at hs; obtain ⟨A, c, rfl, _⟩ := hs; rfl
  | osl i ver o n =>
    have hs' := hs
    rw [AV.sat] at hs'
    obtain ⟨⟨_, _, _, h2⟩, _⟩ := hs'
    exact one _ hc hs h2
  | rpt i ver j o =>
    have hs' := hs
    rw [AV.sat] at hs'
    obtain ⟨⟨_, _, _, h2⟩, _⟩ := hs'
    exact one _ hc hs h2
  | opt i o => rw [AV.sat] at hs; have hs' := hs; obtain ⟨g, l, _, _, rfl⟩ := hs'; exact one _ hc (by rw [AV.sat]; exact hs) rfl
  | fpt sz l j o => rw [AV.sat] at hs; have hs' := hs; obtain ⟨b, q, rfl, _⟩ := hs'; exact one _ hc (by rw [AV.sat]; exact hs) rfl
  | fn f l => rw [AV.sat] at hs; have hs' := hs; obtain ⟨vs, rfl, _⟩ := hs'; exact one _ hc (by rw [AV.sat]; exact hs) rfl

theorem foldl_set (cs : List Value) : ∀ (us : List Value) (off : Nat) (xs : Array Value), off + us.length ≤ xs.size →
    ((us.zipIdx).foldl (fun cs (p : Value × Nat) => cs.setIfInBounds (off + p.2) p.1) xs).toList = xs.toList.take off ++ us ++ xs.toList.drop (off + us.length) := by
  have key : ∀ (us : List Value) (k off : Nat) (xs : Array Value), off + k + us.length ≤ xs.size →
      ((us.zipIdx k).foldl (fun cs (p : Value × Nat) => cs.setIfInBounds (off + p.2) p.1) xs).toList = xs.toList.take (off + k) ++ us ++ xs.toList.drop (off + k + us.length) := fun us => by
    induction us with
    | nil => intro k off xs h; simp
    | cons u us ih =>
      intro k off xs h
      simp only [List.length_cons] at h
      rw [List.zipIdx_cons, List.foldl_cons]
      have := ih (k + 1) off (xs.setIfInBounds (off + k) u) (by simp; omega)
      rw [this]
      have e := list_seg_step xs.toList (off + k) u us (by simp; omega)
      simpa [Array.toList_setIfInBounds, Nat.add_assoc] using e
  intro us off xs h
  exact key us 0 off xs (by simpa using h)

theorem satL_append {F : Nat → Prop} {own : List Ent} {κ : List (Option Nat)} {w : World} : ∀ {l l' : List AV} {us us' : List Value}, AV.satL F own κ w l us → AV.satL F own κ w l' us' → AV.satL F own κ w (l ++ l') (us ++ us')
  | [], l', [], us', _, h => by simpa using h
  | x :: xs, l', u :: us, us', h1, h => by rw [AV.satL] at h1; rw [List.cons_append, List.cons_append, AV.satL]; exact ⟨h1.1, satL_append h1.2 h⟩
  | [], _, _ :: _, _, h, _ => by simp [AV.satL] at h
  | _ :: _, _, [], _, h, _ => by simp [AV.satL] at h
theorem satL_take {F : Nat → Prop} {own : List Ent} {κ : List (Option Nat)} {w : World} : ∀ {l : List AV} {us : List Value} (n : Nat), AV.satL F own κ w l us → AV.satL F own κ w (l.take n) (us.take n)
  | [], [], n, h => by simpa using h
  | x :: xs, u :: us, 0, h => by simp [AV.satL]
  | x :: xs, u :: us, n + 1, h => by rw [AV.satL] at h; rw [List.take_succ_cons, List.take_succ_cons, AV.satL]; exact ⟨h.1, satL_take n h.2⟩
  | [], _ :: _, _, h => by simp [AV.satL] at h
  | _ :: _, [], _, h => by simp [AV.satL] at h
theorem satL_drop {F : Nat → Prop} {own : List Ent} {κ : List (Option Nat)} {w : World} : ∀ {l : List AV} {us : List Value} (n : Nat), AV.satL F own κ w l us → AV.satL F own κ w (l.drop n) (us.drop n)
  | [], [], n, h => by simpa using h
  | x :: xs, u :: us, 0, h => by simpa using h
  | x :: xs, u :: us, n + 1, h => by rw [AV.satL] at h; rw [List.drop_succ_cons, List.drop_succ_cons]; exact satL_drop n h.2
  | [], _ :: _, _, h => by simp [AV.satL] at h
  | _ :: _, [], _, h => by simp [AV.satL] at h

def okPart (x : AV) : Bool := match x with | .d (.v y) => y.oneCell' | _ => true
theorem okPart_spec {x : AV} (h : okPart x = true) : ∀ y, x = .d (.v y) → y.oneCell' = true := fun y e => by subst e; exact h

section
variable {P : Program} {m : Nat} {env : List (Nat × AV)} {own : List Ent} {dst : Option Tmp} {ty : TypeId} {pos : String} {af : Array Edge} {gd : Option (Nat × Bool)}

theorem fill_sat {F : Nat → Prop} {own' : List Ent} {κ : List (Option Nat)} {w : World} {a : Act} {pl : List (Nat × Nat)} : ∀ (ps : List (Nat × Operand)) (cells : List AV) (cs : Array Value) (r : List AV), AV.satL F own' κ w cells cs.toList →
    (∀ p ∈ ps, AV.sat F own' κ w (lookO env p.2) (a.eval p.2)) → (ps.all fun p => okPart (lookO env p.2)) = true → fillA pl cells (ps.map fun p => (p.1, lookO env p.2)) = some r →
    ∃ rs, Instr.fill (fun i => pl[i]?) cs (ps.map fun p => (p.1, a.eval p.2)) = some rs ∧ AV.satL F own' κ w r rs.toList
  | [], cells, cs, r, h, _, _, hr => by
    simp only [List.map_nil, fillA, Option.some.injEq] at hr
    subst hr
    exact ⟨cs, rfl, h⟩
  | (i, x) :: ps, cells, cs, r, h, hs, hok, hr => by
    simp only [List.map_cons, fillA] at hr
    have hx := hs (i, x) (by simp)
    simp only [List.all_cons, Bool.and_eq_true] at hok
    cases hp : pl[i]? with
    | none => simp [hp] at hr
    | some p =>
      obtain ⟨off, sz⟩ := p
      cases hc : cellsA (lookO env x) with
      | none => simp [hp, hc] at hr
      | some xs =>
        simp only [hp, hc] at hr
        split at hr
        · rename_i hcond
          have hxs := cellsA_sat hc hx (okPart_spec hok.1)
          have hlx := satL_length hxs
          have hlc := satL_length h
          obtain ⟨rs, h1, h2⟩ := fill_sat ps _ ((((a.eval x).cells).zipIdx).foldl (fun cs (p : Value × Nat) => cs.setIfInBounds (off + p.2) p.1) cs) r (by
            have : ((((a.eval x).cells).zipIdx).foldl (fun cs (p : Value × Nat) => cs.setIfInBounds (off + p.2) p.1) cs) = (((a.eval x).cells.toList.zipIdx).foldl (fun cs (p : Value × Nat) => cs.setIfInBounds (off + p.2) p.1) cs) := by
              rw [← Array.foldl_toList]; simp
            rw [this, foldl_set []]
            · rw [← hlx]
              exact satL_append (satL_append (satL_take _ h) hxs) (satL_drop _ h)
            · rw [← hlx]; simp at hlc; omega) (fun p hp => hs p (by simp [hp])) hok.2 hr
          refine ⟨rs, ?_, h2⟩
          simp only [List.map_cons, Instr.fill, hp]
          simp only [Array.length_toList] at hlx hlc
          rw [if_neg]
          · exact h1
          · simp only [Bool.or_eq_true, bne_iff_ne, ne_eq, decide_eq_true_eq, not_or]
            exact ⟨by omega, by omega⟩
        · cases hr

/-- A struct literal. -/
theorem q_build {t : TypeId} {parts : Array (Nat × Operand)} {pl : List (Nat × Nat)} {zs : List Value} {r : List AV} (ht : bldInfo P t = some (pl, zs)) (hok : (parts.toList.all fun p => okPart (lookO env p.2)) = true)
    (hr : fillA pl (zs.map fun z => .d (.v z)) (parts.toList.map fun p => (p.1, lookO env p.2)) = some r) : Quiet P m ⟨dst, .build t parts, ty, pos, af, gd⟩ env own [] (.agg r) :=
  Quiet.val fun F own' κ a w hs _ _ _ => by
    unfold bldInfo at ht
    cases hu : P.underlying t with
    | none => simp [hu] at ht
    | some d =>
      cases d <;> simp only [hu] at ht <;> first | (cases ht; done) | skip
      rename_i fields
      cases hz : (P.info? t).bind (·.zero) with
      | none => simp [hz] at ht
      | some z =>
        cases hm : fields.toList.mapM (fun f => (P.info? f.type).map fun i => (f.offset, i.size)) with
        | none => simp [hz, hm] at ht
        | some pl' =>
          simp only [hz, hm, Option.some.injEq, Prod.mk.injEq] at ht
          obtain ⟨rfl, rfl⟩ := ht
          have hpl := run_places (P := P) (w := w) _ _ hm
          obtain ⟨rs, h1, h2⟩ := fill_sat (F := F) (own' := own') (κ := κ) (w := w) (a := a) (env := env) parts.toList _ z.cells r (by
            refine satL_of (by simp) fun j y hy => ?_
            rw [List.getElem?_map] at hy
            cases hj : z.cells.toList[j]? with
            | none => rw [hj] at hy; cases hy
            | some u => rw [hj] at hy; obtain rfl : AV.d (.v u) = y := by simpa using hy
                        exact ⟨u, rfl, sat_v.2 rfl⟩) (fun p hp => hs p.2 (by
              simp only [Op.operands]
              simp only [List.mem_toArray, List.mem_map]
              exact ⟨p, by simpa using hp, rfl⟩)) hok hr
          cases hi : P.info? t with
          | none => simp [hi] at hz
          | some i =>
            have hzz : i.zero = some z := by simpa [hi] using hz
            refine ⟨.agg rs, exec_v ?_, ?_⟩
            · have e : (fields.mapM (m := Sem) fun f => do pure (f.offset, ← sizeOf f.type)).run P w = .ok pl'.toArray w := by
                rw [Array.mapM_eq_mapM_toList, Sem.run_map, hpl]
                rfl
              have e2 : (parts.map fun (p : Nat × Operand) => (p.1, a.eval p.2)).toList = parts.toList.map fun p => (p.1, a.eval p.2) := by simp
              have e3 : (fun (i : Nat) => pl'.toArray[i]?) = fun (i : Nat) => pl'[i]? := by funext i; simp
              simp only [Instr.build]
              simp only [Sem.run_bind, zeroValue, typeInfo, run_program, Result.andThen_ok, hi, Sem.run_pure, hzz, run_underlying hu, e]
              rw [e2, e3, h1]
              rfl
            · rw [AV.sat]; exact ⟨rs, rfl, h2⟩
end
end Go.Proofs.Ytffdhckilhhejaa
