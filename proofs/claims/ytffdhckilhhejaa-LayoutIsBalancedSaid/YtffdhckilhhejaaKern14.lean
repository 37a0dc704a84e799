/- The machine of abstract values: rules by the kind of an operation, for a quick walk; rows of one-cell elements that are written. No program in sight; no condition. -/
import Derived.Test.YtffdhckilhhejaaKern12
namespace Go.Proofs.Ytffdhckilhhejaa
open Go.RowKit
set_option linter.unusedVariables false
set_option linter.unusedSimpArgs false

/-! ### Lists of values, laid out in full by the evaluation itself -/
def cellsF : AV → Option (List AV)
  | .agg l => some l
  | .d y => some [.d y]
  | .osl i v o n => some [.osl i v o n]
  | .rpt i v j o => some [.rpt i v j o]
  | .opt i o => some [.opt i o]
  | .fpt sz l j o => some [.fpt sz l j o]
  | .fn f l => some [.fn f l]
  | .top => none
  | .tup _ => none
theorem cellsF_A {x : AV} {cs : List AV} (h : cellsF x = some cs) : cellsA x = some cs := by
  cases x <;> simp [cellsF] at h <;> subst h <;> rfl
def spliceF : Nat → List AV → List AV → Option (List AV)
  | 0, [], l => some l
  | 0, c :: cs, _ :: l => match spliceF 0 cs l with | some r => some (c :: r) | none => none
  | n + 1, cs, z :: l => match spliceF n cs l with | some r => some (z :: r) | none => none
  | 0, _ :: _, [] => none
  | _ + 1, _, [] => none
theorem spliceF_spec : ∀ {n : Nat} {cs l r : List AV}, spliceF n cs l = some r → r = l.take n ++ cs ++ l.drop (n + cs.length) ∧ n + cs.length ≤ l.length
  | 0, [], l, r, h => by simp [spliceF] at h; subst h; simp
  | 0, c :: cs, z :: l, r, h => by
    simp only [spliceF] at h
    cases hq : spliceF 0 cs l with
    | none => simp [hq] at h
    | some r' =>
      simp only [hq, Option.some.injEq] at h
      subst h
      obtain ⟨h1, h2⟩ := spliceF_spec hq
      subst h1
      refine ⟨?_, by simp at h2 ⊢; omega⟩
      have : 0 + (c :: cs).length = cs.length + 1 := by simp
      rw [this]
      simp
  | n + 1, cs, z :: l, r, h => by
    simp only [spliceF] at h
    cases hq : spliceF n cs l with
    | none => simp [hq] at h
    | some r' =>
      simp only [hq, Option.some.injEq] at h
      subst h
      obtain ⟨h1, h2⟩ := spliceF_spec hq
      subst h1
      refine ⟨?_, by simp at h2 ⊢; omega⟩
      have : n + 1 + cs.length = n + cs.length + 1 := by omega
      rw [this]
      simp
  | 0, _ :: _, [], r, h => by simp [spliceF] at h
  | _ + 1, _, [], r, h => by simp [spliceF] at h
def fillF (env : List (Nat × AV)) (pl : List (Nat × Nat)) : List (Nat × Operand) → List AV → Option (List AV)
  | [], cells => some cells
  | (i, x) :: rest, cells => match pl[i]? with
    | none => none
    | some (off, sz) => match cellsF (lookO env x) with
      | none => none
      | some cs => match Nat.beq cs.length sz with
        | false => none
        | true => match spliceF off cs cells with
          | none => none
          | some cells' => fillF env pl rest cells'
theorem fillF_A {env : List (Nat × AV)} {pl : List (Nat × Nat)} : ∀ {ps : List (Nat × Operand)} {cells r : List AV}, fillF env pl ps cells = some r → fillA pl cells (ps.map fun p => (p.1, lookO env p.2)) = some r
  | [], cells, r, h => by simpa [fillF, fillA] using h
  | (i, x) :: rest, cells, r, h => by
    simp only [fillF] at h
    cases h1 : pl[i]? with
    | none => simp [h1] at h
    | some p =>
      obtain ⟨off, sz⟩ := p
      cases h2 : cellsF (lookO env x) with
      | none => simp [h1, h2] at h
      | some cs =>
        cases h3 : Nat.beq cs.length sz with
        | false => simp [h1, h2, h3] at h
        | true =>
          cases h4 : spliceF off cs cells with
          | none => simp [h1, h2, h3, h4] at h
          | some cells' =>
            simp only [h1, h2, h3, h4] at h
            obtain ⟨h5, h6⟩ := spliceF_spec h4
            simp only [List.map_cons, fillA, h1, cellsF_A h2]
            rw [if_pos ⟨Nat.eq_of_beq_eq_true h3, h6⟩, ← h5]
            exact fillF_A h
/-- The first k of a list, laid out. -/
def takeF : Nat → List AV → Option (List AV)
  | 0, _ => some []
  | k + 1, x :: l => match takeF k l with | some r => some (x :: r) | none => none
  | _ + 1, [] => none
theorem takeF_spec : ∀ {k : Nat} {l r : List AV}, takeF k l = some r → r = l.take k ∧ k ≤ l.length
  | 0, l, r, h => by simp [takeF] at h; subst h; simp
  | k + 1, x :: l, r, h => by
    simp only [takeF] at h
    cases hq : takeF k l with
    | none => simp [hq] at h
    | some r' =>
      simp only [hq, Option.some.injEq] at h
      subst h
      obtain ⟨h1, h2⟩ := takeF_spec hq
      subst h1
      simp; omega
  | _ + 1, [], r, h => by simp [takeF] at h

/-- A small number, laid out. -/
def natF : Nat → Option Nat
  | 0 => some 0
  | 1 => some 1
  | 2 => some 2
  | 3 => some 3
  | 4 => some 4
  | 5 => some 5
  | 6 => some 6
  | 7 => some 7
  | 8 => some 8
  | 9 => some 9
  | 10 => some 10
  | 11 => some 11
  | 12 => some 12
  | 13 => some 13
  | 14 => some 14
  | 15 => some 15
  | 16 => some 16
  | 17 => some 17
  | 18 => some 18
  | 19 => some 19
  | 20 => some 20
  | 21 => some 21
  | 22 => some 22
  | 23 => some 23
  | 24 => some 24
  | 25 => some 25
  | 26 => some 26
  | 27 => some 27
  | 28 => some 28
  | 29 => some 29
  | 30 => some 30
  | 31 => some 31
  | 32 => some 32
  | 33 => some 33
  | 34 => some 34
  | 35 => some 35
  | 36 => some 36
  | 37 => some 37
  | 38 => some 38
  | 39 => some 39
  | 40 => some 40
  | 41 => some 41
  | 42 => some 42
  | 43 => some 43
  | 44 => some 44
  | 45 => some 45
  | 46 => some 46
  | 47 => some 47
  | _ => none
theorem natF_spec {n k : Nat} (h : natF n = some k) : k = n := by
  unfold natF at h
  split at h <;> first | (injection h with h; exact h.symm) | cases h
def setF : List Ent → Nat → Ent → Option (List Ent)
  | [], _, _ => none
  | _ :: l, 0, x => some (x :: l)
  | y :: l, i + 1, x => match setF l i x with | some r => some (y :: r) | none => none
theorem setF_spec : ∀ {l : List Ent} {i : Nat} {x : Ent} {r : List Ent}, setF l i x = some r → r = l.set i x
  | [], i, x, r, h => by simp [setF] at h
  | y :: l, 0, x, r, h => by simp [setF] at h; subst h; rfl
  | y :: l, i + 1, x, r, h => by
    simp only [setF] at h
    cases hq : setF l i x with
    | none => simp [hq] at h
    | some r' => simp only [hq, Option.some.injEq] at h; subst h; rw [setF_spec hq]; rfl
def pushF : List Ent → Ent → Option (List Ent)
  | [], x => some [x]
  | y :: l, x => match pushF l x with | some r => some (y :: r) | none => none
theorem pushF_spec : ∀ {l : List Ent} {x : Ent} {r : List Ent}, pushF l x = some r → r = l ++ [x]
  | [], x, r, h => by simp [pushF] at h; subst h; rfl
  | y :: l, x, r, h => by
    simp only [pushF] at h
    cases hq : pushF l x with
    | none => simp [hq] at h
    | some r' => simp only [hq, Option.some.injEq] at h; subst h; rw [pushF_spec hq]; rfl
def lenF : List Ent → Nat → Option Nat
  | [], k => some k
  | _ :: l, k => lenF l (Nat.succ k)
theorem lenF_spec : ∀ {l : List Ent} {k n : Nat}, lenF l k = some n → n = l.length + k
  | [], k, n, h => by simp [lenF] at h; simp [h]
  | _ :: l, k, n, h => by simp only [lenF] at h; have := lenF_spec h; simp; omega

section
variable {P : Program} {m : Nat} {env : List (Nat × AV)} {own : List Ent} {dst : Option Tmp} {ty : TypeId} {pos : String} {af : Array Edge} {gd : Option (Nat × Bool)}
/-- A call by a contract on data. -/
theorem q_callC {fo : Operand} {args : Array Operand} {ts : Array TypeId} {f : FuncId} {caps l : List AV} {r : AV} (hc : ACalls P f l [] r []) (hfo : lookO env fo = .fn f caps) (ha : args.toList.map (lookO env) ++ caps = l) (hp : AV.pureL l = true) (hr : AV.pure r = true) (hf : isFn P f = true) :
    Quiet P m ⟨dst, .call ⟨.value fo, args, ts⟩, ty, pos, af, gd⟩ env own [] r := by
  subst ha
  exact q_call hf hfo hc hp hr
/-- A conversion to int, of a number that fits. -/
theorem q_convI {src dst' : TypeId} {x : Operand} {k : IntKind} {n : Int} (hs : (P.underlying src).isSome = true) (hd : isInt P dst' .i64 = true) (hx : lookO env x = .d (.v (.int k n))) (h : -9223372036854775808 ≤ n ∧ n < 9223372036854775808) :
    Quiet P m ⟨dst, .convert src dst' x, ty, pos, af, gd⟩ env own [] (iV n) := by
  have := q_conv (P := P) (m := m) (env := env) (own := own) (dst := dst) (ty := ty) (pos := pos) (af := af) (gd := gd) (src := src) .i64 hs hd hx
  rwa [wrap_in h] at this

/-- A struct literal. -/
theorem q_buildF {t : TypeId} {parts : Array (Nat × Operand)} {pl : List (Nat × Nat)} {zs : List Value} {r : List AV} (ht : bldInfo P t = some (pl, zs)) (hr : fillF env pl parts.toList (zs.map fun z => .d (.v z)) = some r) (hok : (parts.toList.all fun p => okPart (lookO env p.2)) = true) :
    Quiet P m ⟨dst, .build t parts, ty, pos, af, gd⟩ env own [] (.agg r) := q_build ht hok (fillF_A hr)
theorem q_fieldsF {s f off k : Nat} {t : TypeId} {x : Operand} {l r : List AV} (hx : lookO env x = .agg l) (h : fldInfo P s f = some (off, t)) (ht : tyInfo P t = some (true, k)) (hr : takeF k (l.drop off) = some r) : Quiet P m ⟨dst, .field s x f, ty, pos, af, gd⟩ env own [] (.agg r) := by
  rw [(takeF_spec hr).1]; exact q_fields h ht hx
theorem q_ld_boxF {t : TypeId} {k : Nat} {x : Operand} {i o : Nat} {l r : List AV} (hx : lookO env x = .opt i o) (hl : own[i]? = some (.box l)) (ht : tyInfo P t = some (true, k)) (hr : takeF k (l.drop o) = some r) :
    Quiet P m ⟨dst, .load t x, ty, pos, af, gd⟩ env own [i] (.agg r) := by
  rw [(takeF_spec hr).1]
  by_cases hk : o + k ≤ l.length
  · exact q_ld_boxs ht hx hl hk
  · have h1 := (takeF_spec hr).2
    simp only [List.length_drop] at h1
    have hk0 : k = 0 := by omega
    subst hk0
    by_cases ho : o ≤ l.length
    · exact q_ld_boxs ht hx hl (by omega)
    · rw [List.drop_eq_nil_of_le (by omega)]
      refine Quiet.val fun F own' κ a w hs ho' hsame _ => ?_
      have h1 := hs x (by simp [Op.operands]); rw [hx, AV.sat] at h1
      obtain ⟨g, l2, h2, h3, h4⟩ := h1
      exact ⟨.agg #[], exec_v (by rw [h4]; exact run_loadAt_agg ht [] rfl (fun j u hu => by simp at hu)), by rw [AV.sat]; exact ⟨#[], rfl, by simp [AV.satL]⟩⟩

/-! ### Rows of the call's own, known element by element -/
theorem q_ix_oslm {t e e' : TypeId} {sz by' : Nat} {z : Value} {x y : Operand} {p ver q n : Nat} {l : List (List Dat)} {k : IntKind} {i : Int} {j : Nat} (hx : lookO env x = .osl p ver q n) (hp : own[p]? = some (.row ver sz e' l)) (ht : slInfo P t = some (e, sz, by', z)) (hy : lookO env y = .d (.v (.int k i))) (hij : i = j) (hj : j < n) :
    Quiet P m ⟨dst, .indexAddr t x y, ty, pos, af, gd⟩ env own [p] (.rpt p ver (q + j) 0) := q_ix_osl i j ht hx hp hy hij hj
theorem q_ix_osl0 {t e e' : TypeId} {sz by' : Nat} {z : Value} {x y : Operand} {p ver n : Nat} {l : List (List Dat)} {k : IntKind} {i : Int} {j : Nat} (hx : lookO env x = .osl p ver 0 n) (hp : own[p]? = some (.row ver sz e' l)) (ht : slInfo P t = some (e, sz, by', z)) (hy : lookO env y = .d (.v (.int k i))) (hij : i = j) (hj : j < n) :
    Quiet P m ⟨dst, .indexAddr t x y, ty, pos, af, gd⟩ env own [p] (.rpt p ver j 0) := by
  have := q_ix_osl (P := P) (m := m) (dst := dst) (ty := ty) (pos := pos) (af := af) (gd := gd) i j ht hx hp hy hij hj
  rwa [Nat.zero_add] at this
theorem q_ld_rptm {α : Type} {f : α → List Dat} {l : List α} {t : TypeId} {k : Nat} {x : Operand} {i ver j o sz : Nat} {e : TypeId} {y : Dat} (hx : lookO env x = .rpt i ver j o) (hi : own[i]? = some (.row ver sz e (l.map f))) (ht : tyInfo P t = some (false, k)) (hj : j < l.length) (hy : (f (l[j]'hj))[o]? = some y) :
    Quiet P m ⟨dst, .load t x, ty, pos, af, gd⟩ env own [i] (.d y) := q_ld_rpt ht hx hi (by rw [List.getElem?_map, List.getElem?_eq_getElem hj]; rfl) hy
/-- A store of a whole element of one cell. -/
theorem e_st_rptm {α : Type} {f : α → List Dat} {l : List α} {t : TypeId} {x y : Operand} {i ver j : Nat} {e : TypeId} {d : Dat} {own' : List Ent} (v : α) (hx : lookO env x = .rpt i ver j 0) (hi : own[i]? = some (.row ver 1 e (l.map f))) (ht : tyInfo P t = some (false, 1)) (hy : cellsD (lookO env y) = some [d]) (hv : f v = [d]) (ho : setF own i (.row ver 1 e ((l.set j v).map f)) = some own') (h1 : oneA (.d d) = true) (hl : ∀ a, (f a).length = 1) (hj : j < l.length) :
    Eff P m ⟨dst, .store t x y, ty, pos, af, gd⟩ env own [i] (.d (.v undef)) own' := by
  have := e_st_rpt (P := P) (m := m) (dst := dst) (ty := ty) (pos := pos) (af := af) (gd := gd) (c := f l[j]) ht rfl hx hi (by rw [List.getElem?_map, List.getElem?_eq_getElem hj]; rfl) (by omega) hy h1
  have e1 : (l.map f).set j ((f l[j]).set 0 d) = (l.set j v).map f := by
    rw [List.map_set, hv]
    congr 1
    have := hl l[j]
    match hq : f l[j], this with
    | [c], _ => rfl
  rw [setF_spec ho]
  rwa [e1] at this

/-! ### Memory, laid out -/
theorem e_boxF {t : TypeId} {x : Operand} {l : List AV} {n : Nat} {own' : List Ent} (hc : cellsF (lookO env x) = some l) (hn : lenF own 0 = some n) (ho : pushF own (.box l) = some own') (hok : okPart (lookO env x) = true) (h1 : l.all oneA = true) :
    Eff P m ⟨dst, .box t x, ty, pos, af, gd⟩ env own [n] (.opt n 0) own' := by
  have e := lenF_spec hn
  rw [Nat.add_zero] at e
  rw [pushF_spec ho, e]; exact e_box (cellsF_A hc) hok h1
theorem e_allocF {t : TypeId} {zs : List Value} {n : Nat} {own' : List Ent} (hz : zeroInfo P t = some zs) (hn : lenF own 0 = some n) (ho : pushF own (.box (zs.map fun z => .d (.v z))) = some own') (h1 : (zs.all (·.oneCell')) = true) :
    Eff P m ⟨dst, .alloc t, ty, pos, af, gd⟩ env own [n] (.opt n 0) own' := by
  have e := lenF_spec hn
  rw [Nat.add_zero] at e
  rw [pushF_spec ho, e]; exact e_alloc hz h1
theorem e_st_boxF {t : TypeId} {n : Nat} {b : Bool} {x y : Operand} {i o : Nat} {l cs l' : List AV} {own' : List Ent} (hx : lookO env x = .opt i o) (hl : own[i]? = some (.box l)) (hc : cellsF (lookO env y) = some cs) (hs : spliceF o cs l = some l') (ho : setF own i (.box l') = some own') (ht : tyInfo P t = some (b, n)) (hok : okPart (lookO env y) = true) (h1 : cs.all oneA = true) (hn : Nat.beq cs.length n = true) :
    Eff P m ⟨dst, .store t x y, ty, pos, af, gd⟩ env own [i] (.d (.v undef)) own' := by
  have hn := Nat.eq_of_beq_eq_true hn
  obtain ⟨h2, h3⟩ := spliceF_spec hs
  rw [setF_spec ho, h2]
  exact e_st_box ht hx hl (cellsF_A hc) hok h1 hn (by omega)
/-- 'append(row, data...)', data not empty. -/
theorem e_appF {t e : TypeId} {sz by' : Nat} {z : Value} {x y : Operand} {p ver n : Nat} {l l2 : List (List Dat)} {own' : List Ent} (hx : lookO env x = .osl p ver 0 n) (hp : own[p]? = some (.row ver sz e l)) (hy : lookO env y = .d (.sl sz l2)) (ho : setF own p (.row (ver + 1) sz e (l ++ l2)) = some own') (ht : slInfo P t = some (e, sz, by', z)) (hz : z.cells.size = sz) (hby : Nat.ble by' 1024 = true) (hm : Nat.ble m p = true) (hn : n = l.length)
    (hpos : 0 < l2.length) (hb : l.length + l2.length ≤ 1000000000) :
    Eff P m ⟨dst, .call ⟨.builtin .append, #[x, y], #[t, t]⟩, ty, pos, af, gd⟩ env own [p] (.osl p (ver + 1) 0 (l.length + l2.length)) own' := by
  rw [setF_spec ho]; exact e_app ht hz hby hx hp hy (Nat.le_of_ble_eq_true hm) hn hpos hb
/-- 'append(row, x)'. -/
theorem e_app1F {α : Type} {f : α → List Dat} {l : List α} {t e : TypeId} {sz by' : Nat} {z : Value} {x y : Operand} {p ver : Nat} {own' : List Ent} (v : α) (hx : lookO env x = .osl p ver 0 l.length) (hp : own[p]? = some (.row ver sz e (l.map f))) (hy : lookO env y = .d (.sl sz [f v])) (ho : setF own p (.row (ver + 1) sz e ((l ++ [v]).map f)) = some own') (ht : slInfo P t = some (e, sz, by', z)) (hz : z.cells.size = sz) (hby : Nat.ble by' 1024 = true) (hm : Nat.ble m p = true)
    (hb : l.length + 1 ≤ 1000000000) :
    Eff P m ⟨dst, .call ⟨.builtin .append, #[x, y], #[t, t]⟩, ty, pos, af, gd⟩ env own [p] (.osl p (ver + 1) 0 (l ++ [v]).length) own' := by
  rw [setF_spec ho]; exact e_app1 v ht hz hby hx hp hy hm hb
/-- 'make([]T, n)' of one-cell elements. -/
theorem e_makeF {t e : TypeId} {by' : Nat} {z : Value} {x y : Operand} {k k' : IntKind} {i : Int} {n q : Nat} {own' : List Ent} (hx : lookO env x = .d (.v (.int k i))) (hy : lookO env y = .d (.v (.int k' i))) (hi : i = n) (hq : lenF own 0 = some q) (ht : slInfo P t = some (e, 1, by', z)) (ho : pushF own (.row 0 1 e ((List.replicate n z).map fun z => [.v z])) = some own') (hz : z.cells = #[z]) (h1 : z.oneCell' = true) (hby : Nat.ble by' 1024 = true) (hn : n ≤ 1000000000) :
    Eff P m ⟨dst, .makeSlice t x y, ty, pos, af, gd⟩ env own [q] (.osl q 0 0 n) own' := by
  have e1 := lenF_spec hq
  rw [Nat.add_zero] at e1
  have := e_make (P := P) (m := m) (env := env) (own := own) (dst := dst) (ty := ty) (pos := pos) (af := af) (gd := gd) n ht (by rw [hz]; rfl) rfl (by rw [hz]; simpa using h1) hby hx hy hi hn
  rw [pushF_spec ho, e1]
  rw [hz] at this
  rw [List.map_replicate]
  exact this
/-! ### Structs of integers that are compared -/
theorem q_eqsI {t t' : TypeId} {os : List Nat} {x y : Operand} {l1 l2 : List AV} {vs1 vs2 : List Value} {b : Bool} (hf : fldsInt P t = some os) (hx : lookO env x = .agg l1) (hy : lookO env y = .agg l2) (h1 : l1.mapM valA = some vs1) (h2 : l2.mapM valA = some vs2) (hb : eqOffs vs1.toArray vs2.toArray os = some b) :
    Quiet P m ⟨dst, .binOp .eql t x y t', ty, pos, af, none⟩ env own [] (bV b) := q_eqs hx hy h1 h2 fun x y w => (run_eqs hf hb x y w).1
theorem q_nesI {t t' : TypeId} {os : List Nat} {x y : Operand} {l1 l2 : List AV} {vs1 vs2 : List Value} {b : Bool} (hf : fldsInt P t = some os) (hx : lookO env x = .agg l1) (hy : lookO env y = .agg l2) (h1 : l1.mapM valA = some vs1) (h2 : l2.mapM valA = some vs2) (hb : eqOffs vs1.toArray vs2.toArray os = some b) :
    Quiet P m ⟨dst, .binOp .neq t x y t', ty, pos, af, none⟩ env own [] (bV (!b)) := q_nes hx hy h1 h2 fun x y w => (run_eqs hf hb x y w).2
/-! ### Remainders of any kind; slice literals -/
theorem q_remK {t t' : TypeId} {x y : Operand} {k : IntKind} {a b : Int} (hx : lookO env x = .d (.v (.int k a))) (hy : lookO env y = .d (.v (.int k b))) (ha : 0 ≤ a) (hb : 0 < b) :
    Quiet P m ⟨dst, .binOp .rem t x y t', ty, pos, af, gd⟩ env own [] (.d (.v (.int k (a % b)))) := q_bin hx hy fun w => by
  have h0 : b ≠ 0 := by omega
  have h1 : a.tmod b = a % b := Int.tmod_eq_emod_of_nonneg ha
  simp [eqGuard, binOp, Op.intDiv, h0, h1]
def datsF : List AV → Option (List Dat)
  | [] => some []
  | .d x :: l => match datsF l with | some r => some (x :: r) | none => none
  | _ :: _ => none
theorem datsF_spec : ∀ {l : List AV} {r : List Dat}, datsF l = some r → l.mapM datOf = some r
  | [], r, h => by simp [datsF] at h; subst h; rfl
  | x :: l, r, h => by
    cases x <;> simp only [datsF, reduceCtorEq] at h
    cases hq : datsF l with
    | none => simp [hq] at h
    | some r' => simp only [hq, Option.some.injEq] at h; subst h; rw [List.mapM_cons, datsF_spec hq]; rfl
def cellsDF : AV → Option (List Dat)
  | .d (.v u) => match u.oneCell' with | true => some [.v u] | false => none
  | .d .any => some [.any]
  | .d (.sl sz l) => some [.sl sz l]
  | .agg l => datsF l
  | _ => none
theorem cellsDF_D {x : AV} {r : List Dat} (h : cellsDF x = some r) : cellsD x = some r := by
  cases x with
  | d y =>
    cases y with
    | v u => simp only [cellsDF] at h
             cases hu : u.oneCell' with
             | true => simp only [hu] at h; simp [cellsD, hu]; simpa using h
             | false => simp [hu] at h
    | any => simpa [cellsDF, cellsD] using h
    | sl sz l => simpa [cellsDF, cellsD] using h
  | agg l => exact datsF_spec h
  | _ => simp [cellsDF] at h
def litF (env : List (Nat × AV)) : List (Nat × Operand) → Nat → Option (List (List Dat))
  | [], _ => some []
  | (i, x) :: ps, k => match Nat.beq i k with
    | false => none
    | true => match cellsDF (lookO env x) with
      | none => none
      | some e => match litF env ps (k + 1) with
        | none => none
        | some r => some (e :: r)
theorem litF_spec {env : List (Nat × AV)} {sz : Nat} : ∀ {ps : List (Nat × Operand)} {k : Nat} {es : List (List Dat)}, litF env ps k = some es → (es.all fun e => Nat.beq e.length sz && (e.map AV.d).all oneA) = true → litEl env ps k es sz
  | [], k, es, h, _ => by simp [litF] at h; subst h; trivial
  | (i, x) :: ps, k, es, h, ha => by
    simp only [litF] at h
    cases h1 : Nat.beq i k with
    | false => simp [h1] at h
    | true =>
      cases h2 : cellsDF (lookO env x) with
      | none => simp [h1, h2] at h
      | some e =>
        cases h3 : litF env ps (k + 1) with
        | none => simp [h1, h2, h3] at h
        | some r =>
          simp only [h1, h2, h3, Option.some.injEq] at h
          subst h
          simp only [List.all_cons, Bool.and_eq_true] at ha
          exact ⟨Nat.eq_of_beq_eq_true h1, cellsDF_D h2, Nat.eq_of_beq_eq_true ha.1.1, ha.1.2, litF_spec h3 (by simpa using ha.2)⟩
theorem q_litF {t e : TypeId} {sz sz' by' : Nat} {z : Value} {n : Nat} {parts : Array (Nat × Operand)} {es : List (List Dat)} (hl : litF env parts.toList 0 = some es) (ht : slInfo P t = some (e, sz, by', z)) (hs : natF sz = some sz') (hz : z.cells.size = sz) (h0 : Nat.ble 1 sz = true) (ha : (es.all fun e => Nat.beq e.length sz && (e.map AV.d).all oneA) = true) (hn : Nat.beq n es.length = true) (hb : Nat.ble (n * sz) 16777216 = true) :
    Quiet P m ⟨dst, .buildSlice t n parts, ty, pos, af, gd⟩ env own [] (.d (.sl sz' es)) := by
  rw [natF_spec hs]
  exact q_lit es ht hz (Nat.le_of_ble_eq_true h0) (litF_spec hl ha) (Nat.eq_of_beq_eq_true hn) (Nat.le_of_ble_eq_true hb)
/-! ### Places, laid out -/
theorem q_fld_optF {s f off o' : Nat} {t : TypeId} {x : Operand} {i o : Nat} (hx : lookO env x = .opt i o) (h : fldInfo P s f = some (off, t)) (hn : natF (o + off) = some o') : Quiet P m ⟨dst, .fieldAddr s x f, ty, pos, af, gd⟩ env own [] (.opt i o') := by
  rw [natF_spec hn]; exact q_fld_opt h hx
theorem q_fld_fptF {s f off o' : Nat} {t : TypeId} {x : Operand} {sz j o : Nat} {l : List (List Dat)} (hx : lookO env x = .fpt sz l j o) (h : fldInfo P s f = some (off, t)) (hn : natF (o + off) = some o') : Quiet P m ⟨dst, .fieldAddr s x f, ty, pos, af, gd⟩ env own [] (.fpt sz l j o') := by
  rw [natF_spec hn]; exact q_fld_fpt h hx
theorem q_ix_slF {t e : TypeId} {sz sz' by' : Nat} {z : Value} {x y : Operand} {l : List (List Dat)} {k : IntKind} {i : Int} {j : Nat} (hx : lookO env x = .d (.sl sz l)) (hy : lookO env y = .d (.v (.int k i))) (hs : natF sz = some sz') (ht : slInfo P t = some (e, sz, by', z)) (hij : i = j) (hj : j < l.length) :
    Quiet P m ⟨dst, .indexAddr t x y, ty, pos, af, gd⟩ env own [] (.fpt sz' l j 0) := by
  rw [natF_spec hs]; exact q_ix_sl i j ht hx hy hij hj
end
end Go.Proofs.Ytffdhckilhhejaa
