import Derived.Test.YtjaipchlnnjaeaaDoorA1
import Derived.Laws.IdiomStrings
/- Joined texts: Kern14 Kern15 Kern16 Kern17 Kern18 Kern19 Kern20 Kern21. -/
section
/- The machine of abstract values: rules by the kind of an operation, for a quick walk; rows of one-cell elements that are written. No program in sight; no condition. -/
namespace Go.Proofs.YtjaipchlnnjaeaaDoor
open Go.RowKit
set_option linter.unusedVariables false
set_option linter.unusedSimpArgs false

/-! ### Lists of values, laid out in full by the evaluation itself -/
def cellsF : AV → Option (List AV)
  | .agg l => some l
  | .d y => some [.d y]
  | .osl i v o n => some [.osl i v o n]
  | .rpt i v j o => some [.rpt i v j o]
  | .opt i o => some [.opt i o]
  | .fpt sz l j o => some [.fpt sz l j o]
  | .fn f l => some [.fn f l]
  | .top => none
  | .tup _ => none
theorem cellsF_A {x : AV} {cs : List AV} (h : cellsF x = some cs) : cellsA x = some cs := by
  cases x <;> simp [cellsF] at h <;> subst h <;> rfl
def spliceF : Nat → List AV → List AV → Option (List AV)
  | 0, [], l => some l
  | 0, c :: cs, _ :: l => match spliceF 0 cs l with | some r => some (c :: r) | none => none
  | n + 1, cs, z :: l => match spliceF n cs l with | some r => some (z :: r) | none => none
  | 0, _ :: _, [] => none
  | _ + 1, _, [] => none
theorem spliceF_spec : ∀ {n : Nat} {cs l r : List AV}, spliceF n cs l = some r → r = l.take n ++ cs ++ l.drop (n + cs.length) ∧ n + cs.length ≤ l.length
  | 0, [], l, r, h => by simp [spliceF] at h; subst h; simp
  | 0, c :: cs, z :: l, r, h => by
    simp only [spliceF] at h
    cases hq : spliceF 0 cs l with
    | none => simp [hq] at h
    | some r' =>
      simp only [hq, Option.some.injEq] at h
      subst h
      obtain ⟨h1, h2⟩ := spliceF_spec hq
      subst h1
      refine ⟨?_, by simp at h2 ⊢; omega⟩
      have : 0 + (c :: cs).length = cs.length + 1 := by simp
      rw [this]
      simp
  | n + 1, cs, z :: l, r, h => by
    simp only [spliceF] at h
    cases hq : spliceF n cs l with
    | none => simp [hq] at h
    | some r' =>
      simp only [hq, Option.some.injEq] at h
      subst h
      obtain ⟨h1, h2⟩ := spliceF_spec hq
      subst h1
      refine ⟨?_, by simp at h2 ⊢; omega⟩
      have : n + 1 + cs.length = n + cs.length + 1 := by omega
      rw [this]
      simp
  | 0, _ :: _, [], r, h => by simp [spliceF] at h
  | _ + 1, _, [], r, h => by simp [spliceF] at h
def fillF (env : List (Nat × AV)) (pl : List (Nat × Nat)) : List (Nat × Operand) → List AV → Option (List AV)
  | [], cells => some cells
  | (i, x) :: rest, cells => match pl[i]? with
    | none => none
    | some (off, sz) => match cellsF (lookO env x) with
      | none => none
      | some cs => match Nat.beq cs.length sz with
        | false => none
        | true => match spliceF off cs cells with
          | none => none
          | some cells' => fillF env pl rest cells'
theorem fillF_A {env : List (Nat × AV)} {pl : List (Nat × Nat)} : ∀ {ps : List (Nat × Operand)} {cells r : List AV}, fillF env pl ps cells = some r → fillA pl cells (ps.map fun p => (p.1, lookO env p.2)) = some r
  | [], cells, r, h => by simpa [fillF, fillA] using h
  | (i, x) :: rest, cells, r, h => by
    simp only [fillF] at h
    cases h1 : pl[i]? with
    | none => simp [h1] at h
    | some p =>
      obtain ⟨off, sz⟩ := p
      cases h2 : cellsF (lookO env x) with
      | none => simp [h1, h2] at h
      | some cs =>
        cases h3 : Nat.beq cs.length sz with
        | false => simp [h1, h2, h3] at h
        | true =>
          cases h4 : spliceF off cs cells with
          | none => simp [h1, h2, h3, h4] at h
          | some cells' =>
            simp only [h1, h2, h3, h4] at h
            obtain ⟨h5, h6⟩ := spliceF_spec h4
            simp only [List.map_cons, fillA, h1, cellsF_A h2]
            rw [if_pos ⟨Nat.eq_of_beq_eq_true h3, h6⟩, ← h5]
            exact fillF_A h
/-- The first k of a list, laid out. -/
def takeF : Nat → List AV → Option (List AV)
  | 0, _ => some []
  | k + 1, x :: l => match takeF k l with | some r => some (x :: r) | none => none
  | _ + 1, [] => none
theorem takeF_spec : ∀ {k : Nat} {l r : List AV}, takeF k l = some r → r = l.take k ∧ k ≤ l.length
  | 0, l, r, h => by simp [takeF] at h; subst h; simp
  | k + 1, x :: l, r, h => by
    simp only [takeF] at h
    cases hq : takeF k l with
    | none => simp [hq] at h
    | some r' =>
      simp only [hq, Option.some.injEq] at h
      subst h
      obtain ⟨h1, h2⟩ := takeF_spec hq
      subst h1
      simp; omega
  | _ + 1, [], r, h => by simp [takeF] at h

/-- A small number, laid out. -/
def natF : Nat → Option Nat
  | 0 => some 0
  | 1 => some 1
  | 2 => some 2
  | 3 => some 3
  | 4 => some 4
  | 5 => some 5
  | 6 => some 6
  | 7 => some 7
  | 8 => some 8
  | 9 => some 9
  | 10 => some 10
  | 11 => some 11
  | 12 => some 12
  | 13 => some 13
  | 14 => some 14
  | 15 => some 15
  | 16 => some 16
  | 17 => some 17
  | 18 => some 18
  | 19 => some 19
  | 20 => some 20
  | 21 => some 21
  | 22 => some 22
  | 23 => some 23
  | 24 => some 24
  | 25 => some 25
  | 26 => some 26
  | 27 => some 27
  | 28 => some 28
  | 29 => some 29
  | 30 => some 30
  | 31 => some 31
  | 32 => some 32
  | 33 => some 33
  | 34 => some 34
  | 35 => some 35
  | 36 => some 36
  | 37 => some 37
  | 38 => some 38
  | 39 => some 39
  | 40 => some 40
  | 41 => some 41
  | 42 => some 42
  | 43 => some 43
  | 44 => some 44
  | 45 => some 45
  | 46 => some 46
  | 47 => some 47
  | _ => none
theorem natF_spec {n k : Nat} (h : natF n = some k) : k = n := by
  unfold natF at h
  split at h <;> first | (injection h with h; exact h.symm) | cases h
def natI : Int → Option Nat
  | .ofNat k => natF k
  | .negSucc _ => none
theorem natI_spec {b : Int} {n : Nat} (h : natI b = some n) : b = (n : Int) := by
  cases b with
  | ofNat k => rw [natF_spec h]; rfl
  | negSucc k => cases h
def setF : List Ent → Nat → Ent → Option (List Ent)
  | [], _, _ => none
  | _ :: l, 0, x => some (x :: l)
  | y :: l, i + 1, x => match setF l i x with | some r => some (y :: r) | none => none
theorem setF_spec : ∀ {l : List Ent} {i : Nat} {x : Ent} {r : List Ent}, setF l i x = some r → r = l.set i x
  | [], i, x, r, h => by simp [setF] at h
  | y :: l, 0, x, r, h => by simp [setF] at h; subst h; rfl
  | y :: l, i + 1, x, r, h => by
    simp only [setF] at h
    cases hq : setF l i x with
    | none => simp [hq] at h
    | some r' => simp only [hq, Option.some.injEq] at h; subst h; rw [setF_spec hq]; rfl
def pushF : List Ent → Ent → Option (List Ent)
  | [], x => some [x]
  | y :: l, x => match pushF l x with | some r => some (y :: r) | none => none
theorem pushF_spec : ∀ {l : List Ent} {x : Ent} {r : List Ent}, pushF l x = some r → r = l ++ [x]
  | [], x, r, h => by simp [pushF] at h; subst h; rfl
  | y :: l, x, r, h => by
    simp only [pushF] at h
    cases hq : pushF l x with
    | none => simp [hq] at h
    | some r' => simp only [hq, Option.some.injEq] at h; subst h; rw [pushF_spec hq]; rfl
def lenF : List Ent → Nat → Option Nat
  | [], k => some k
  | _ :: l, k => lenF l (Nat.succ k)
theorem lenF_spec : ∀ {l : List Ent} {k n : Nat}, lenF l k = some n → n = l.length + k
  | [], k, n, h => by simp [lenF] at h; simp [h]
  | _ :: l, k, n, h => by simp only [lenF] at h; have := lenF_spec h; simp; omega

section
variable {P : Program} {m : Nat} {env : List (Nat × AV)} {own : List Ent} {dst : Option Tmp} {ty : TypeId} {pos : String} {af : Array Edge} {gd : Option (Nat × Bool)}
/-- A call by a contract on data. -/
theorem q_callC {fo : Operand} {args : Array Operand} {ts : Array TypeId} {f : FuncId} {caps l : List AV} {r : AV} (hc : ACalls P f l [] r []) (hfo : lookO env fo = .fn f caps) (ha : args.toList.map (lookO env) ++ caps = l) (hp : AV.pureL l = true) (hr : AV.pure r = true) (hf : isFn P f = true) :
    Quiet P m ⟨dst, .call ⟨.value fo, args, ts⟩, ty, pos, af, gd⟩ env own [] r := by
  subst ha
  exact q_call hf hfo hc hp hr
/-- A conversion to int, of a number that fits. -/
theorem q_convI {src dst' : TypeId} {x : Operand} {k : IntKind} {n : Int} (hs : (P.underlying src).isSome = true) (hd : isInt P dst' .i64 = true) (hx : lookO env x = .d (.v (.int k n))) (h : -9223372036854775808 ≤ n ∧ n < 9223372036854775808) :
    Quiet P m ⟨dst, .convert src dst' x, ty, pos, af, gd⟩ env own [] (iV n) := by
  have := q_conv (P := P) (m := m) (env := env) (own := own) (dst := dst) (ty := ty) (pos := pos) (af := af) (gd := gd) (src := src) .i64 hs hd hx
  rwa [wrap_in h] at this

/-- A struct literal. -/
theorem q_buildF {t : TypeId} {parts : Array (Nat × Operand)} {pl : List (Nat × Nat)} {zs : List Value} {r : List AV} (ht : bldInfo P t = some (pl, zs)) (hr : fillF env pl parts.toList (zs.map fun z => .d (.v z)) = some r) (hok : (parts.toList.all fun p => okPart (lookO env p.2)) = true) :
    Quiet P m ⟨dst, .build t parts, ty, pos, af, gd⟩ env own [] (.agg r) := q_build ht hok (fillF_A hr)
theorem q_fieldsF {s f off k : Nat} {t : TypeId} {x : Operand} {l r : List AV} (hx : lookO env x = .agg l) (h : fldInfo P s f = some (off, t)) (ht : tyInfo P t = some (true, k)) (hr : takeF k (l.drop off) = some r) : Quiet P m ⟨dst, .field s x f, ty, pos, af, gd⟩ env own [] (.agg r) := by
  rw [(takeF_spec hr).1]; exact q_fields h ht hx
theorem q_ld_boxF {t : TypeId} {k : Nat} {x : Operand} {i o : Nat} {l r : List AV} (hx : lookO env x = .opt i o) (hl : own[i]? = some (.box l)) (ht : tyInfo P t = some (true, k)) (hr : takeF k (l.drop o) = some r) :
    Quiet P m ⟨dst, .load t x, ty, pos, af, gd⟩ env own [i] (.agg r) := by
  rw [(takeF_spec hr).1]
  by_cases hk : o + k ≤ l.length
  · exact q_ld_boxs ht hx hl hk
  · have h1 := (takeF_spec hr).2
    simp only [List.length_drop] at h1
    have hk0 : k = 0 := by omega
    subst hk0
    by_cases ho : o ≤ l.length
    · exact q_ld_boxs ht hx hl (by omega)
    · rw [List.drop_eq_nil_of_le (by omega)]
      refine Quiet.val fun F own' κ a w hs ho' hsame _ => ?_
      have h1 := hs x (by simp [Op.operands]); rw [hx, AV.sat] at h1
      obtain ⟨g, l2, h2, h3, h4⟩ := h1
      exact ⟨.agg #[], exec_v (by rw [h4]; exact run_loadAt_agg ht [] rfl (fun j u hu => by simp at hu)), by rw [AV.sat]; exact ⟨#[], rfl, by simp [AV.satL]⟩⟩

/-! ### Rows of the call's own, known element by element -/
theorem q_ix_oslm {t e e' : TypeId} {sz by' : Nat} {z : Value} {x y : Operand} {p ver q n : Nat} {l : List (List Dat)} {k : IntKind} {i : Int} {j : Nat} (hx : lookO env x = .osl p ver q n) (hp : own[p]? = some (.row ver sz e' l)) (ht : slInfo P t = some (e, sz, by', z)) (hy : lookO env y = .d (.v (.int k i))) (hij : i = j) (hj : j < n) :
    Quiet P m ⟨dst, .indexAddr t x y, ty, pos, af, gd⟩ env own [p] (.rpt p ver (q + j) 0) := q_ix_osl i j ht hx hp hy hij hj
theorem q_ix_osl0 {t e e' : TypeId} {sz by' : Nat} {z : Value} {x y : Operand} {p ver n : Nat} {l : List (List Dat)} {k : IntKind} {i : Int} {j : Nat} (hx : lookO env x = .osl p ver 0 n) (hp : own[p]? = some (.row ver sz e' l)) (ht : slInfo P t = some (e, sz, by', z)) (hy : lookO env y = .d (.v (.int k i))) (hij : i = j) (hj : j < n) :
    Quiet P m ⟨dst, .indexAddr t x y, ty, pos, af, gd⟩ env own [p] (.rpt p ver j 0) := by
  have := q_ix_osl (P := P) (m := m) (dst := dst) (ty := ty) (pos := pos) (af := af) (gd := gd) i j ht hx hp hy hij hj
  rwa [Nat.zero_add] at this
theorem q_ld_rptm {α : Type} {f : α → List Dat} {l : List α} {t : TypeId} {k : Nat} {x : Operand} {i ver j o sz : Nat} {e : TypeId} {y : Dat} (hx : lookO env x = .rpt i ver j o) (hi : own[i]? = some (.row ver sz e (l.map f))) (ht : tyInfo P t = some (false, k)) (hj : j < l.length) (hy : (f (l[j]'hj))[o]? = some y) :
    Quiet P m ⟨dst, .load t x, ty, pos, af, gd⟩ env own [i] (.d y) := q_ld_rpt ht hx hi (by rw [List.getElem?_map, List.getElem?_eq_getElem hj]; rfl) hy
/-- A store of a whole element of one cell. -/
theorem e_st_rptm {α : Type} {f : α → List Dat} {l : List α} {t : TypeId} {x y : Operand} {i ver j : Nat} {e : TypeId} {d : Dat} {own' : List Ent} (v : α) (hx : lookO env x = .rpt i ver j 0) (hi : own[i]? = some (.row ver 1 e (l.map f))) (ht : tyInfo P t = some (false, 1)) (hy : cellsD (lookO env y) = some [d]) (hv : f v = [d]) (ho : setF own i (.row ver 1 e ((l.set j v).map f)) = some own') (h1 : oneA (.d d) = true) (hl : ∀ a, (f a).length = 1) (hj : j < l.length) :
    Eff P m ⟨dst, .store t x y, ty, pos, af, gd⟩ env own [i] (.d (.v undef)) own' := by
  have := e_st_rpt (P := P) (m := m) (dst := dst) (ty := ty) (pos := pos) (af := af) (gd := gd) (c := f l[j]) ht rfl hx hi (by rw [List.getElem?_map, List.getElem?_eq_getElem hj]; rfl) (by omega) hy h1
  have e1 : (l.map f).set j ((f l[j]).set 0 d) = (l.set j v).map f := by
    rw [List.map_set, hv]
    congr 1
    have := hl l[j]
    match hq : f l[j], this with
    | [c], _ => rfl
  rw [setF_spec ho]
  rwa [e1] at this

/-! ### Memory, laid out -/
theorem e_boxF {t : TypeId} {x : Operand} {l : List AV} {n : Nat} {own' : List Ent} (hc : cellsF (lookO env x) = some l) (hn : lenF own 0 = some n) (ho : pushF own (.box l) = some own') (hok : okPart (lookO env x) = true) (h1 : l.all oneA = true) :
    Eff P m ⟨dst, .box t x, ty, pos, af, gd⟩ env own [n] (.opt n 0) own' := by
  have e := lenF_spec hn
  rw [Nat.add_zero] at e
  rw [pushF_spec ho, e]; exact e_box (cellsF_A hc) hok h1
theorem e_allocF {t : TypeId} {zs : List Value} {n : Nat} {own' : List Ent} (hz : zeroInfo P t = some zs) (hn : lenF own 0 = some n) (ho : pushF own (.box (zs.map fun z => .d (.v z))) = some own') (h1 : (zs.all (·.oneCell')) = true) :
    Eff P m ⟨dst, .alloc t, ty, pos, af, gd⟩ env own [n] (.opt n 0) own' := by
  have e := lenF_spec hn
  rw [Nat.add_zero] at e
  rw [pushF_spec ho, e]; exact e_alloc hz h1
theorem e_st_boxF {t : TypeId} {n : Nat} {b : Bool} {x y : Operand} {i o : Nat} {l cs l' : List AV} {own' : List Ent} (hx : lookO env x = .opt i o) (hl : own[i]? = some (.box l)) (hc : cellsF (lookO env y) = some cs) (hs : spliceF o cs l = some l') (ho : setF own i (.box l') = some own') (ht : tyInfo P t = some (b, n)) (hok : okPart (lookO env y) = true) (h1 : cs.all oneA = true) (hn : Nat.beq cs.length n = true) :
    Eff P m ⟨dst, .store t x y, ty, pos, af, gd⟩ env own [i] (.d (.v undef)) own' := by
  have hn := Nat.eq_of_beq_eq_true hn
  obtain ⟨h2, h3⟩ := spliceF_spec hs
  rw [setF_spec ho, h2]
  exact e_st_box ht hx hl (cellsF_A hc) hok h1 hn (by omega)
/-- 'append(row, data...)', data not empty. -/
theorem e_appF {t e : TypeId} {sz by' : Nat} {z : Value} {x y : Operand} {p ver n : Nat} {l l2 : List (List Dat)} {own' : List Ent} (hx : lookO env x = .osl p ver 0 n) (hp : own[p]? = some (.row ver sz e l)) (hy : lookO env y = .d (.sl sz l2)) (ho : setF own p (.row (ver + 1) sz e (l ++ l2)) = some own') (ht : slInfo P t = some (e, sz, by', z)) (hz : z.cells.size = sz) (hby : Nat.ble by' 1024 = true) (hm : Nat.ble m p = true) (hn : n = l.length)
    (hpos : 0 < l2.length) (hb : l.length + l2.length ≤ 1000000000) :
    Eff P m ⟨dst, .call ⟨.builtin .append, #[x, y], #[t, t]⟩, ty, pos, af, gd⟩ env own [p] (.osl p (ver + 1) 0 (l.length + l2.length)) own' := by
  rw [setF_spec ho]; exact e_app ht hz hby hx hp hy (Nat.le_of_ble_eq_true hm) hn hpos hb
/-- 'append(row, x)'. -/
theorem e_app1F {α : Type} {f : α → List Dat} {l : List α} {t e : TypeId} {sz by' : Nat} {z : Value} {x y : Operand} {p ver : Nat} {own' : List Ent} (v : α) (hx : lookO env x = .osl p ver 0 l.length) (hp : own[p]? = some (.row ver sz e (l.map f))) (hy : lookO env y = .d (.sl sz [f v])) (ho : setF own p (.row (ver + 1) sz e ((l ++ [v]).map f)) = some own') (ht : slInfo P t = some (e, sz, by', z)) (hz : z.cells.size = sz) (hby : Nat.ble by' 1024 = true) (hm : Nat.ble m p = true)
    (hb : l.length + 1 ≤ 1000000000) :
    Eff P m ⟨dst, .call ⟨.builtin .append, #[x, y], #[t, t]⟩, ty, pos, af, gd⟩ env own [p] (.osl p (ver + 1) 0 (l ++ [v]).length) own' := by
  rw [setF_spec ho]; exact e_app1 v ht hz hby hx hp hy hm hb
/-- 'make([]T, n)' of one-cell elements. -/
theorem e_makeF {t e : TypeId} {by' : Nat} {z : Value} {x y : Operand} {k k' : IntKind} {i : Int} {n q : Nat} {own' : List Ent} (hx : lookO env x = .d (.v (.int k i))) (hy : lookO env y = .d (.v (.int k' i))) (hi : i = n) (hq : lenF own 0 = some q) (ht : slInfo P t = some (e, 1, by', z)) (ho : pushF own (.row 0 1 e ((List.replicate n z).map fun z => [.v z])) = some own') (hz : z.cells = #[z]) (h1 : z.oneCell' = true) (hby : Nat.ble by' 1024 = true) (hn : n ≤ 1000000000) :
    Eff P m ⟨dst, .makeSlice t x y, ty, pos, af, gd⟩ env own [q] (.osl q 0 0 n) own' := by
  have e1 := lenF_spec hq
  rw [Nat.add_zero] at e1
  have := e_make (P := P) (m := m) (env := env) (own := own) (dst := dst) (ty := ty) (pos := pos) (af := af) (gd := gd) n ht (by rw [hz]; rfl) rfl (by rw [hz]; simpa using h1) hby hx hy hi hn
  rw [pushF_spec ho, e1]
  rw [hz] at this
  rw [List.map_replicate]
  exact this
/-! ### Structs of integers that are compared -/
theorem q_eqsI {t t' : TypeId} {os : List Nat} {x y : Operand} {l1 l2 : List AV} {vs1 vs2 : List Value} {b : Bool} (hf : fldsInt P t = some os) (hx : lookO env x = .agg l1) (hy : lookO env y = .agg l2) (h1 : l1.mapM valA = some vs1) (h2 : l2.mapM valA = some vs2) (hb : eqOffs vs1.toArray vs2.toArray os = some b) :
    Quiet P m ⟨dst, .binOp .eql t x y t', ty, pos, af, none⟩ env own [] (bV b) := q_eqs hx hy h1 h2 fun x y w => (run_eqs hf hb x y w).1
theorem q_nesI {t t' : TypeId} {os : List Nat} {x y : Operand} {l1 l2 : List AV} {vs1 vs2 : List Value} {b : Bool} (hf : fldsInt P t = some os) (hx : lookO env x = .agg l1) (hy : lookO env y = .agg l2) (h1 : l1.mapM valA = some vs1) (h2 : l2.mapM valA = some vs2) (hb : eqOffs vs1.toArray vs2.toArray os = some b) :
    Quiet P m ⟨dst, .binOp .neq t x y t', ty, pos, af, none⟩ env own [] (bV (!b)) := q_nes hx hy h1 h2 fun x y w => (run_eqs hf hb x y w).2
/-! ### Remainders of any kind; slice literals -/
theorem q_remK {t t' : TypeId} {x y : Operand} {k : IntKind} {a b : Int} (hx : lookO env x = .d (.v (.int k a))) (hy : lookO env y = .d (.v (.int k b))) (ha : 0 ≤ a) (hb : 0 < b) :
    Quiet P m ⟨dst, .binOp .rem t x y t', ty, pos, af, gd⟩ env own [] (.d (.v (.int k (a % b)))) := q_bin hx hy fun w => by
  have h0 : b ≠ 0 := by omega
  have h1 : a.tmod b = a % b := Int.tmod_eq_emod_of_nonneg ha
  simp [eqGuard, binOp, Op.intDiv, h0, h1]
def datsF : List AV → Option (List Dat)
  | [] => some []
  | .d x :: l => match datsF l with | some r => some (x :: r) | none => none
  | _ :: _ => none
theorem datsF_spec : ∀ {l : List AV} {r : List Dat}, datsF l = some r → l.mapM datOf = some r
  | [], r, h => by simp [datsF] at h; subst h; rfl
  | x :: l, r, h => by
    cases x <;> simp only [datsF, reduceCtorEq] at h
    cases hq : datsF l with
    | none => simp [hq] at h
    | some r' => simp only [hq, Option.some.injEq] at h; subst h; rw [List.mapM_cons, datsF_spec hq]; rfl
def cellsDF : AV → Option (List Dat)
  | .d (.v u) => match u.oneCell' with | true => some [.v u] | false => none
  | .d .any => some [.any]
  | .d (.sl sz l) => some [.sl sz l]
  | .agg l => datsF l
  | _ => none
theorem cellsDF_D {x : AV} {r : List Dat} (h : cellsDF x = some r) : cellsD x = some r := by
  cases x with
  | d y =>
    cases y with
    | v u => simp only [cellsDF] at h
             cases hu : u.oneCell' with
             | true => simp only [hu] at h; simp [cellsD, hu]; simpa using h
             | false => simp [hu] at h
    | any => simpa [cellsDF, cellsD] using h
    | sl sz l => simpa [cellsDF, cellsD] using h
  | agg l => exact datsF_spec h
  | _ => simp [cellsDF] at h
def litF (env : List (Nat × AV)) : List (Nat × Operand) → Nat → Option (List (List Dat))
  | [], _ => some []
  | (i, x) :: ps, k => match Nat.beq i k with
    | false => none
    | true => match cellsDF (lookO env x) with
      | none => none
      | some e => match litF env ps (k + 1) with
        | none => none
        | some r => some (e :: r)
theorem litF_spec {env : List (Nat × AV)} {sz : Nat} : ∀ {ps : List (Nat × Operand)} {k : Nat} {es : List (List Dat)}, litF env ps k = some es → (es.all fun e => Nat.beq e.length sz && (e.map AV.d).all oneA) = true → litEl env ps k es sz
  | [], k, es, h, _ => by simp [litF] at h; subst h; trivial
  | (i, x) :: ps, k, es, h, ha => by
    simp only [litF] at h
    cases h1 : Nat.beq i k with
    | false => simp [h1] at h
    | true =>
      cases h2 : cellsDF (lookO env x) with
      | none => simp [h1, h2] at h
      | some e =>
        cases h3 : litF env ps (k + 1) with
        | none => simp [h1, h2, h3] at h
        | some r =>
          simp only [h1, h2, h3, Option.some.injEq] at h
          subst h
          simp only [List.all_cons, Bool.and_eq_true] at ha
          exact ⟨Nat.eq_of_beq_eq_true h1, cellsDF_D h2, Nat.eq_of_beq_eq_true ha.1.1, ha.1.2, litF_spec h3 (by simpa using ha.2)⟩
theorem q_litF {t e : TypeId} {sz sz' by' : Nat} {z : Value} {n : Nat} {parts : Array (Nat × Operand)} {es : List (List Dat)} (hl : litF env parts.toList 0 = some es) (ht : slInfo P t = some (e, sz, by', z)) (hs : natF sz = some sz') (hz : z.cells.size = sz) (h0 : Nat.ble 1 sz = true) (ha : (es.all fun e => Nat.beq e.length sz && (e.map AV.d).all oneA) = true) (hn : Nat.beq n es.length = true) (hb : Nat.ble (n * sz) 16777216 = true) :
    Quiet P m ⟨dst, .buildSlice t n parts, ty, pos, af, gd⟩ env own [] (.d (.sl sz' es)) := by
  rw [natF_spec hs]
  exact q_lit es ht hz (Nat.le_of_ble_eq_true h0) (litF_spec hl ha) (Nat.eq_of_beq_eq_true hn) (Nat.le_of_ble_eq_true hb)
/-! ### Places, laid out -/
theorem q_fld_optF {s f off o' : Nat} {t : TypeId} {x : Operand} {i o : Nat} (hx : lookO env x = .opt i o) (h : fldInfo P s f = some (off, t)) (hn : natF (o + off) = some o') : Quiet P m ⟨dst, .fieldAddr s x f, ty, pos, af, gd⟩ env own [] (.opt i o') := by
  rw [natF_spec hn]; exact q_fld_opt h hx
theorem q_fld_fptF {s f off o' : Nat} {t : TypeId} {x : Operand} {sz j o : Nat} {l : List (List Dat)} (hx : lookO env x = .fpt sz l j o) (h : fldInfo P s f = some (off, t)) (hn : natF (o + off) = some o') : Quiet P m ⟨dst, .fieldAddr s x f, ty, pos, af, gd⟩ env own [] (.fpt sz l j o') := by
  rw [natF_spec hn]; exact q_fld_fpt h hx
theorem q_ix_slF {t e : TypeId} {sz sz' by' : Nat} {z : Value} {x y : Operand} {l : List (List Dat)} {k : IntKind} {i : Int} {j : Nat} (hx : lookO env x = .d (.sl sz l)) (hy : lookO env y = .d (.v (.int k i))) (hs : natF sz = some sz') (ht : slInfo P t = some (e, sz, by', z)) (hij : i = j) (hj : j < l.length) :
    Quiet P m ⟨dst, .indexAddr t x y, ty, pos, af, gd⟩ env own [] (.fpt sz' l j 0) := by
  rw [natF_spec hs]; exact q_ix_sl i j ht hx hy hij hj
end
end Go.Proofs.YtjaipchlnnjaeaaDoor
end

section
/- The machine of abstract values: calls that work on memory of the caller's own. No program in sight; no condition. -/
namespace Go.Proofs.YtjaipchlnnjaeaaDoor
open Go.RowKit
set_option linter.unusedVariables false
set_option linter.unusedSimpArgs false

mutual
/-- A value, seen by a callee that is handed the entries js: what refers to others is unknown to it. -/
def AV.ren (js : List Nat) : AV → AV
  | .osl i ver o n => match plc js i with | some k => .osl k ver o n | none => .top
  | .rpt i ver j o => match plc js i with | some k => .rpt k ver j o | none => .top
  | .opt i o => match plc js i with | some k => .opt k o | none => .top
  | .fn f l => .fn f (AV.renL js l)
  | .agg l => .agg (AV.renL js l)
  | .tup l => .tup (AV.renL js l)
  | .top => .top
  | .d x => .d x
  | .fpt sz l j o => .fpt sz l j o
def AV.renL (js : List Nat) : List AV → List AV
  | [] => []
  | x :: xs => AV.ren js x :: AV.renL js xs
end
def Ent.ren (js : List Nat) : Option Ent → Ent
  | some (.box l) => .box (AV.renL js l)
  | some (.row v s e c) => .row v s e c
  | none => .box []
def selR (own : List Ent) (js : List Nat) : List Ent := js.map fun i => Ent.ren js own[i]?
/-- What a callee may not touch: the frame, and the entries that it is not handed. -/
def restF (F : Nat → Prop) (κ : List (Option Nat)) (js : List Nat) (b : Nat) : Prop := F b ∨ ∃ i : Nat, κ[i]? = some (some b) ∧ i ∉ js
/-- The place of the callee's entry k among the caller's. -/
def phi (js : List Nat) (n k : Nat) : Nat := match js[k]? with | some i => i | none => n + (k - js.length)
mutual
/-- A value of the callee's, seen by the caller. -/
def AV.bk (js : List Nat) (n : Nat) : AV → AV
  | .osl i ver o c => .osl (phi js n i) ver o c
  | .rpt i ver j o => .rpt (phi js n i) ver j o
  | .opt i o => .opt (phi js n i) o
  | .fn f l => .fn f (AV.bkL js n l)
  | .agg l => .agg (AV.bkL js n l)
  | .tup l => .tup (AV.bkL js n l)
  | .top => .top
  | .d x => .d x
  | .fpt sz l j o => .fpt sz l j o
def AV.bkL (js : List Nat) (n : Nat) : List AV → List AV
  | [] => []
  | x :: xs => AV.bk js n x :: AV.bkL js n xs
end
def Ent.bk (js : List Nat) (n : Nat) : Ent → Ent
  | .box l => .box (AV.bkL js n l)
  | .row v s e c => .row v s e c
/-- The caller's memory behind the call. -/
def bkOwn (js : List Nat) (own ownC : List Ent) : List Ent :=
  ((List.range own.length).map fun j => match plc js j with
    | some k => (match ownC[k]? with | some x => Ent.bk js own.length x | none => .box [])
    | none => own.getD j (.box [])) ++ (ownC.drop js.length).map (Ent.bk js own.length)

theorem plc_at : ∀ {js : List Nat}, nodupB js = true → ∀ {k i : Nat}, js[k]? = some i → plc js i = some k
  | [], _, k, i, h => by simp at h
  | j :: js, hn, k, i, h => by
    simp only [nodupB, Bool.and_eq_true, Bool.not_eq_true'] at hn
    cases k with
    | zero => obtain rfl : j = i := by simpa using h
              simp [plc]
    | succ k =>
      have h' : js[k]? = some i := by simpa using h
      have : j ≠ i := fun e => by
        have hm : i ∈ js := List.mem_of_getElem? h'
        rw [e] at hn
        have := hn.1
        simp_all
      simp only [plc, if_neg this, plc_at hn.2 h']

section
variable {F : Nat → Prop} {own : List Ent} {κ : List (Option Nat)} {w : World} {js : List Nat}
theorem selK_mem (hj : selOk own js = true) (ho : OwnSat F own κ w) {b : Nat} (h : some b ∈ selK κ js) : ∃ k i : Nat, js[k]? = some i ∧ κ[i]? = some (some b) := by
  obtain ⟨i, hi, he⟩ := List.mem_map.1 h
  obtain ⟨k, hk⟩ := List.mem_iff_getElem?.1 hi
  refine ⟨k, i, hk, ?_⟩
  rw [List.getD_eq_getElem?_getD] at he
  cases h9 : κ[i]? with
  | none => rw [h9] at he; cases he
  | some og => rw [h9] at he; simp at he; rw [he]
theorem selK_of {k i b : Nat} (hk : js[k]? = some i) (h : κ[i]? = some (some b)) : some b ∈ selK κ js := by
  have : (selK κ js)[k]? = some (some b) := by rw [selK_get hk, getD_some h]
  exact List.mem_of_getElem? this
theorem badR {b : Nat} : badK (restF F κ js) (selK κ js) b → badK F κ b := fun h => by
  rcases h with (h | ⟨i, h, _⟩) | h
  · exact .inl h
  · exact .inr (List.mem_of_getElem? h)
  · obtain ⟨i, hi, he⟩ := List.mem_map.1 h
    rw [List.getD_eq_getElem?_getD] at he
    cases h9 : κ[i]? with
    | none => rw [h9] at he; cases he
    | some og => rw [h9] at he; simp at he; rw [he] at h9; exact .inr (List.mem_of_getElem? h9)
theorem badR' {b : Nat} (h : badK F κ b) : badK (restF F κ js) (selK κ js) b := by
  rcases h with h | h
  · exact .inl (.inl h)
  · obtain ⟨i, hi⟩ := List.mem_iff_getElem?.1 h
    by_cases hm : i ∈ js
    · obtain ⟨k, hk⟩ := List.mem_iff_getElem?.1 hm
      exact .inr (selK_of hk hi)
    · exact .inl (.inr ⟨i, hi, hm⟩)
theorem ren_wide : Wide (badK F κ) (badK (restF F κ js) (selK κ js)) w w := ⟨Nat.le_refl _, fun _ _ _ => rfl, fun b _ hb h => hb (badR h)⟩
theorem selR_get {k i : Nat} (h : js[k]? = some i) : (selR own js)[k]? = some (Ent.ren js own[i]?) := by simp [selR, h]

mutual
theorem AV.ren_sat (ho : OwnSat F own κ w) : ∀ (x : AV) {u : Value}, AV.sat F own κ w x u → AV.sat (restF F κ js) (selR own js) (selK κ js) w (AV.ren js x) u
  | .top, u, hs => by simp [AV.ren, AV.sat]
  | .d x, u, hs => by
    rw [AV.ren]; rw [AV.sat] at hs ⊢
    exact Dat.sat_wide ren_wide x hs
  | .fpt sz l j o, u, hs => by
    rw [AV.ren]; rw [AV.sat] at hs ⊢
    obtain ⟨b, q, h1, h2, h3, h4⟩ := hs
    exact ⟨b, q, h1, h2, fun h => h3 (badR h), Dat.rowsSat_wide ren_wide rfl l h4⟩
  | .osl i ver o n, u, hs => by
    rw [AV.ren]
    cases hp : plc js i with
    | none => simp [AV.sat]
    | some k =>
      have hk := plc_spec hp
      rw [AV.sat] at hs
      obtain ⟨⟨y, hy, hv, h1c⟩, hs2⟩ := hs
      cases y with
      | box l => exact hv.elim
      | row v sz e l =>
        show AV.sat _ (selR own js) (selK κ js) w (.osl k ver o n) u
        have hown : (selR own js)[k]? = some (.row v sz e l) := by rw [selR_get hk, hy]; rfl
        rw [AV.sat]
        refine ⟨⟨_, hown, hv, h1c⟩, fun sz2 e2 c2 hc => ?_⟩
        rw [hown] at hc
        obtain ⟨rfl, rfl, rfl, rfl⟩ : v = ver ∧ sz = sz2 ∧ e = e2 ∧ l = c2 := by simpa using hc
        obtain ⟨h1, A, c, h2, h3, h4, h5⟩ := hs2 sz e l hy
        refine ⟨h1, A, c, h2, h3, h4, fun hpos => ?_⟩
        rcases h5 hpos with ⟨g, g1, g2, g3⟩ | ⟨g1, g2⟩
        · exact .inl ⟨g, by rw [selK_get hk, getD_some g1], g2, g3⟩
        · refine .inr ⟨by rw [selK_get hk]; simp [List.getD_eq_getElem?_getD, g1], g2⟩
  | .rpt i ver j o, u, hs => by
    rw [AV.ren]
    cases hp : plc js i with
    | none => simp [AV.sat]
    | some k =>
      have hk := plc_spec hp
      rw [AV.sat] at hs
      obtain ⟨⟨y, hy, hv, h1c⟩, hs2⟩ := hs
      cases y with
      | box l => exact hv.elim
      | row v sz e l =>
        show AV.sat _ (selR own js) (selK κ js) w (.rpt k ver j o) u
        have hown : (selR own js)[k]? = some (.row v sz e l) := by rw [selR_get hk, hy]; rfl
        rw [AV.sat]
        refine ⟨⟨_, hown, hv, h1c⟩, fun sz2 e2 c2 hc => ?_⟩
        rw [hown] at hc
        obtain ⟨rfl, rfl, rfl, rfl⟩ : v = ver ∧ sz = sz2 ∧ e = e2 ∧ l = c2 := by simpa using hc
        obtain ⟨h1, g, g1, g2⟩ := hs2 sz e l hy
        exact ⟨h1, g, by rw [selK_get hk, getD_some g1], g2⟩
  | .opt i o, u, hs => by
    rw [AV.ren]
    cases hp : plc js i with
    | none => simp [AV.sat]
    | some k =>
      have hk := plc_spec hp
      rw [AV.sat] at hs
      obtain ⟨g, l, h1, h2, h3⟩ := hs
      show AV.sat _ (selR own js) (selK κ js) w (.opt k o) u
      rw [AV.sat]
      exact ⟨g, _, by rw [selR_get hk, h1]; rfl, by rw [selK_get hk, getD_some h2], h3⟩
  | .fn f l, u, hs => by
    rw [AV.ren]; rw [AV.sat] at hs ⊢
    obtain ⟨vs, h1, h2⟩ := hs
    exact ⟨vs, h1, AV.renL_sat ho l h2⟩
  | .agg l, u, hs => by
    rw [AV.ren]; rw [AV.sat] at hs ⊢
    obtain ⟨vs, h1, h2⟩ := hs
    exact ⟨vs, h1, AV.renL_sat ho l h2⟩
  | .tup l, u, hs => by
    rw [AV.ren]; rw [AV.sat] at hs ⊢
    obtain ⟨vs, h1, h2⟩ := hs
    exact ⟨vs, h1, AV.renL_sat ho l h2⟩
theorem AV.renL_sat (ho : OwnSat F own κ w) : ∀ (l : List AV) {us : List Value}, AV.satL F own κ w l us → AV.satL (restF F κ js) (selR own js) (selK κ js) w (AV.renL js l) us
  | [], [], hs => by simp [AV.renL, AV.satL]
  | x :: xs, u :: us, hs => by
    rw [AV.satL] at hs
    rw [AV.renL, AV.satL]
    exact ⟨AV.ren_sat ho x hs.1, AV.renL_sat ho xs hs.2⟩
  | [], _ :: _, hs => by simp [AV.satL] at hs
  | _ :: _, [], hs => by simp [AV.satL] at hs
end

theorem selR_own (ho : OwnSat F own κ w) (hj : selOk own js = true) : OwnSat (restF F κ js) (selR own js) (selK κ js) w := by
  have hj' := hj
  simp only [selOk, Bool.and_eq_true] at hj'
  have hlt : ∀ k i : Nat, js[k]? = some i → i < own.length := fun k i h => by
    have := List.all_eq_true.1 hj'.1 i (List.mem_of_getElem? h)
    simpa using this
  have back : ∀ (k g : Nat), (selK κ js)[k]? = some (some g) → ∃ i : Nat, js[k]? = some i ∧ κ[i]? = some (some g) := fun k g h => by
    unfold selK at h
    rw [List.getElem?_map] at h
    cases hk : js[k]? with
    | none => rw [hk] at h; cases h
    | some i =>
      rw [hk] at h
      have h : κ.getD i none = some g := by simpa using h
      refine ⟨i, rfl, ?_⟩
      rw [List.getD_eq_getElem?_getD] at h
      cases h9 : κ[i]? with
      | none => rw [h9] at h; cases h
      | some og => rw [h9] at h; simp at h; rw [h]
  refine ⟨by simp [selR, selK], fun b hb => ?_, fun g hg => ?_, fun a b g ha hb => ?_, fun k y hy => ?_, glb_keep ho.glb (Nat.le_refl _) (fun _ _ _ => rfl) fun b hb => .inl (by
    obtain ⟨k, i, _, h2⟩ := selK_mem hj ho hb
    exact List.mem_of_getElem? h2)⟩
  · rcases hb with hb | ⟨i, hi, _⟩
    · exact ho.frame b hb
    · exact (ho.lt' hi).1
  · obtain ⟨k, i, h1, h2⟩ := selK_mem hj ho hg
    refine ⟨(ho.lt' h2).1, fun hr => ?_⟩
    rcases hr with hr | ⟨i', h3, h4⟩
    · exact (ho.lt' h2).2 hr
    · obtain rfl := ho.inj i i' g h2 h3
      exact h4 (List.mem_of_getElem? h1)
  · obtain ⟨i, h1, h2⟩ := back a g ha
    obtain ⟨i', h3, h4⟩ := back b g hb
    obtain rfl := ho.inj i i' g h2 h4
    exact nodup_inj hj'.2 h1 h3
  · cases hk : js[k]? with
    | none => unfold selR at hy; rw [List.getElem?_map, hk] at hy; cases hy
    | some i =>
      rw [selR_get hk] at hy
      have hi := hlt k i hk
      have hoi := List.getElem?_eq_getElem hi
      have hent := ho.ent i _ hoi
      have e1 : (selK κ js).getD k none = κ.getD i none := by simp [List.getD_eq_getElem?_getD, selK_get hk]
      rw [e1]
      rw [hoi] at hy
      generalize own[i] = x at hy hent
      cases x with
      | box l =>
        obtain rfl : Ent.box (AV.renL js l) = y := by simpa [Ent.ren] using hy
        rcases hent with ⟨hn1, rfl⟩ | ⟨g, hg, cur, t, h1, h2, h3⟩
        · exact .inl ⟨hn1, rfl⟩
        · exact .inr ⟨g, hg, cur, t, h1, AV.renL_sat ho l h2, h3⟩
      | row v s e c =>
        obtain rfl : Ent.row v s e c = y := by simpa [Ent.ren] using hy
        obtain ⟨h0, h1⟩ := hent
        refine ⟨h0, h1.imp id ?_⟩
        rintro ⟨g, hg, cur, h2, h3, h4⟩
        exact ⟨g, hg, cur, h2, h3, Dat.rowsSat_wide ren_wide rfl c h4⟩
end

/-! ### Back from the call -/
section
variable {F Fc : Nat → Prop} {own' ownC : List Ent} {κ' κC : List (Option Nat)} {w : World} {js : List Nat} {n : Nat}
mutual
theorem AV.bk_sat (h1 : ∀ (k : Nat) (x : Ent), ownC[k]? = some x → own'[phi js n k]? = some (Ent.bk js n x)) (h2 : ∀ (k : Nat) (og : Option Nat), κC[k]? = some og → κ'[phi js n k]? = some og) (h3 : ∀ b, ¬ badK Fc κC b → ¬ badK F κ' b) :
    ∀ (x : AV) {u : Value}, AV.sat Fc ownC κC w x u → AV.sat F own' κ' w (AV.bk js n x) u
  | .top, u, hs => by simp [AV.bk, AV.sat]
  | .d x, u, hs => by
    rw [AV.bk]; rw [AV.sat] at hs ⊢
    exact Dat.sat_wide ⟨Nat.le_refl _, fun _ _ _ => rfl, fun b _ h => h3 b h⟩ x hs
  | .fpt sz l j o, u, hs => by
    rw [AV.bk]; rw [AV.sat] at hs ⊢
    obtain ⟨b, q, g1, g2, g3, g4⟩ := hs
    exact ⟨b, q, g1, g2, h3 b g3, Dat.rowsSat_wide ⟨Nat.le_refl _, fun _ _ _ => rfl, fun b _ h => h3 b h⟩ rfl l g4⟩
  | .osl i ver o c, u, hs => by
    rw [AV.bk]; rw [AV.sat] at hs ⊢
    obtain ⟨⟨y, hy, hv, h1c⟩, hs2⟩ := hs
    cases y with
    | box l => exact hv.elim
    | row v s e l =>
      have e1 := h1 i _ hy
      refine ⟨⟨_, e1, hv, h1c⟩, fun sz2 e2 c2 hc => ?_⟩
      rw [e1] at hc
      obtain ⟨rfl, rfl, rfl, rfl⟩ : v = ver ∧ s = sz2 ∧ e = e2 ∧ l = c2 := by simpa [Ent.bk] using hc
      obtain ⟨g1, A, cc, g2, g3, g4, g5⟩ := hs2 s e l hy
      refine ⟨g1, A, cc, g2, g3, g4, fun hp => ?_⟩
      rcases g5 hp with ⟨g, q1, q2⟩ | ⟨q1, q2⟩
      · exact .inl ⟨g, h2 _ _ q1, q2⟩
      · exact .inr ⟨h2 _ _ q1, q2⟩
  | .rpt i ver j o, u, hs => by
    rw [AV.bk]; rw [AV.sat] at hs ⊢
    obtain ⟨⟨y, hy, hv, h1c⟩, hs2⟩ := hs
    cases y with
    | box l => exact hv.elim
    | row v s e l =>
      have e1 := h1 i _ hy
      refine ⟨⟨_, e1, hv, h1c⟩, fun sz2 e2 c2 hc => ?_⟩
      rw [e1] at hc
      obtain ⟨rfl, rfl, rfl, rfl⟩ : v = ver ∧ s = sz2 ∧ e = e2 ∧ l = c2 := by simpa [Ent.bk] using hc
      obtain ⟨g1, g, g2, g3⟩ := hs2 s e l hy
      exact ⟨g1, g, h2 _ _ g2, g3⟩
  | .opt i o, u, hs => by
    rw [AV.bk]; rw [AV.sat] at hs ⊢
    obtain ⟨g, l, g1, g2, g3⟩ := hs
    exact ⟨g, _, h1 i _ g1, h2 _ _ g2, g3⟩
  | .fn f l, u, hs => by
    rw [AV.bk]; rw [AV.sat] at hs ⊢
    obtain ⟨vs, g1, g2⟩ := hs
    exact ⟨vs, g1, AV.bkL_sat h1 h2 h3 l g2⟩
  | .agg l, u, hs => by
    rw [AV.bk]; rw [AV.sat] at hs ⊢
    obtain ⟨vs, g1, g2⟩ := hs
    exact ⟨vs, g1, AV.bkL_sat h1 h2 h3 l g2⟩
  | .tup l, u, hs => by
    rw [AV.bk]; rw [AV.sat] at hs ⊢
    obtain ⟨vs, g1, g2⟩ := hs
    exact ⟨vs, g1, AV.bkL_sat h1 h2 h3 l g2⟩
theorem AV.bkL_sat (h1 : ∀ (k : Nat) (x : Ent), ownC[k]? = some x → own'[phi js n k]? = some (Ent.bk js n x)) (h2 : ∀ (k : Nat) (og : Option Nat), κC[k]? = some og → κ'[phi js n k]? = some og) (h3 : ∀ b, ¬ badK Fc κC b → ¬ badK F κ' b) :
    ∀ (l : List AV) {us : List Value}, AV.satL Fc ownC κC w l us → AV.satL F own' κ' w (AV.bkL js n l) us
  | [], [], hs => by simp [AV.bkL, AV.satL]
  | x :: xs, u :: us, hs => by
    rw [AV.satL] at hs
    rw [AV.bkL, AV.satL]
    exact ⟨AV.bk_sat h1 h2 h3 x hs.1, AV.bkL_sat h1 h2 h3 xs hs.2⟩
  | [], _ :: _, hs => by simp [AV.satL] at hs
  | _ :: _, [], hs => by simp [AV.satL] at hs
end
end

theorem bkOwn_len (js : List Nat) (own ownC : List Ent) : (bkOwn js own ownC).length = own.length + (ownC.length - js.length) := by simp [bkOwn]
theorem bkOwn_keep {js : List Nat} {own ownC : List Ent} {i : Nat} (hi : i < own.length) (hp : plc js i = none) : (bkOwn js own ownC)[i]? = own[i]? := by
  unfold bkOwn
  rw [List.getElem?_append_left (by simpa using hi), List.getElem?_map, List.getElem?_range hi]
  simp only [Option.map_some, hp]
  simp [List.getD_eq_getElem?_getD, List.getElem?_eq_getElem hi]
theorem bkOwn_phi {js : List Nat} {own ownC : List Ent} (hj : selOk own js = true) {k : Nat} {x : Ent} (hx : ownC[k]? = some x) : (bkOwn js own ownC)[phi js own.length k]? = some (Ent.bk js own.length x) := by
  simp only [selOk, Bool.and_eq_true] at hj
  unfold phi bkOwn
  cases hk : js[k]? with
  | some i =>
    have hi : i < own.length := by
      have := List.all_eq_true.1 hj.1 i (List.mem_of_getElem? hk)
      simpa using this
    dsimp only
    rw [List.getElem?_append_left (by simpa using hi), List.getElem?_map, List.getElem?_range hi]
    simp only [Option.map_some, plc_at hj.2 hk, hx]
  | none =>
    have hkl : js.length ≤ k := by simpa using hk
    dsimp only
    rw [List.getElem?_append_right (by simp), List.length_map, List.length_range, Nat.add_sub_cancel_left, List.getElem?_map, List.getElem?_drop, Nat.add_sub_cancel' hkl, hx]
    rfl
end Go.Proofs.YtjaipchlnnjaeaaDoor
end

section
/- The machine of abstract values: calls that work on memory of the caller's own, the rule. No program in sight; no condition. -/
namespace Go.Proofs.YtjaipchlnnjaeaaDoor
open Go.RowKit
set_option linter.unusedVariables false
set_option linter.unusedSimpArgs false

/-! ### References kept, all values kept -/
section
variable {F F' : Nat → Prop} {own own' : List Ent} {κ κ' : List (Option Nat)} {w w' : World}
mutual
theorem keepAll (ref : ∀ (x : AV) {u : Value}, (∃ i ver o n, x = .osl i ver o n) ∨ (∃ i ver j o, x = .rpt i ver j o) ∨ (∃ i o, x = .opt i o) → AV.sat F own κ w x u → AV.sat F' own' κ' w' x u) (hw : Wide (badK F κ) (badK F' κ') w w') : ∀ (x : AV) (u : Value), AV.sat F own κ w x u → AV.sat F' own' κ' w' x u
  | .top, u, hs => by simp [AV.sat]
  | .d x, u, hs => by
    rw [AV.sat] at hs ⊢
    exact Dat.sat_wide hw x hs
  | .fpt sz l j o, u, hs => by
    rw [AV.sat] at hs ⊢
    obtain ⟨b, q, h1, h2, h3, h4⟩ := hs
    exact ⟨b, q, h1, Nat.lt_of_lt_of_le h2 hw.size, hw.free b h2 h3, Dat.rowsSat_wide hw (hw.same b h2 h3) l h4⟩
  | .osl i ver o n, u, hs => ref _ (.inl ⟨i, ver, o, n, rfl⟩) hs
  | .rpt i ver j o, u, hs => ref _ (.inr (.inl ⟨i, ver, j, o, rfl⟩)) hs
  | .opt i o, u, hs => ref _ (.inr (.inr ⟨i, o, rfl⟩)) hs
  | .fn f l, u, hs => by
    rw [AV.sat] at hs ⊢
    obtain ⟨vs, h1, h2⟩ := hs
    exact ⟨vs, h1, keepAllL ref hw l vs.toList h2⟩
  | .agg l, u, hs => by
    rw [AV.sat] at hs ⊢
    obtain ⟨vs, h1, h2⟩ := hs
    exact ⟨vs, h1, keepAllL ref hw l vs.toList h2⟩
  | .tup l, u, hs => by
    rw [AV.sat] at hs ⊢
    obtain ⟨vs, h1, h2⟩ := hs
    exact ⟨vs, h1, keepAllL ref hw l vs.toList h2⟩
theorem keepAllL (ref : ∀ (x : AV) {u : Value}, (∃ i ver o n, x = .osl i ver o n) ∨ (∃ i ver j o, x = .rpt i ver j o) ∨ (∃ i o, x = .opt i o) → AV.sat F own κ w x u → AV.sat F' own' κ' w' x u) (hw : Wide (badK F κ) (badK F' κ') w w') : ∀ (l : List AV) (us : List Value), AV.satL F own κ w l us → AV.satL F' own' κ' w' l us
  | [], [], hs => by simp [AV.satL]
  | x :: xs, u :: us, hs => by
    rw [AV.satL] at hs ⊢
    exact ⟨keepAll ref hw x u hs.1, keepAllL ref hw xs us hs.2⟩
  | [], _ :: _, hs => by simp [AV.satL] at hs
  | _ :: _, [], hs => by simp [AV.satL] at hs
end
theorem keepL (keep : ∀ (x : AV) (u : Value), AV.sat F own κ w x u → AV.sat F' own' κ' w' x u) : ∀ (l : List AV) {us : List Value}, AV.satL F own κ w l us → AV.satL F' own' κ' w' l us
  | [], [], hs => by simp [AV.satL]
  | x :: xs, u :: us, hs => by
    rw [AV.satL] at hs ⊢
    exact ⟨keep x u hs.1, keepL keep xs hs.2⟩
  | [], _ :: _, hs => by simp [AV.satL] at hs
  | _ :: _, [], hs => by simp [AV.satL] at hs
end

theorem call_back {F : Nat → Prop} {m : Nat} {own ownC : List Ent} {κ κC : List (Option Nat)} {w w' : World} {js : List Nat} {rC : AV} {v : Value} (ho : OwnSat F own κ w) (hj : selOk own js = true) (hm : m ≤ κ.length)
    (hv : AV.sat (restF F κ js) ownC κC w' rC v) (hoC : OwnSat (restF F κ js) ownC κC w') (tr : Tr (restF F κ js) js.length (selR own js) (selK κ js) w ownC κC w') :
    ∃ κ', AV.sat F (bkOwn js own ownC) κ' w' (AV.bk js own.length rC) v ∧ OwnSat F (bkOwn js own ownC) κ' w' ∧ Tr F m own κ w (bkOwn js own ownC) κ' w' := by
  have hj' := hj
  simp only [selOk, Bool.and_eq_true] at hj'
  have hlt : ∀ k i : Nat, js[k]? = some i → i < own.length := fun k i h => by
    have := List.all_eq_true.1 hj'.1 i (List.mem_of_getElem? h)
    simpa using this
  have hKlen : (selK κ js).length = js.length := by simp [selK]
  have hpre : κC.take js.length = selK κ js := by
    have := tr.pre
    rwa [List.take_of_length_le (by omega : (selK κ js).length ≤ js.length)] at this
  have hCle : js.length ≤ κC.length := by
    have := congrArg List.length hpre
    simp only [List.length_take, hKlen] at this
    omega
  have hold : ∀ k : Nat, k < js.length → κC[k]? = (selK κ js)[k]? := fun k hk => by
    rw [← hpre, List.getElem?_take, if_pos hk]
  have nk : ∀ i : Nat, plc js i = none → i ∉ js := fun i h hm => by
    obtain ⟨k, hk⟩ := List.mem_iff_getElem?.1 hm
    exact plc_none h k hk
  -- the places of the callee's entries
  have hphi : ∀ (k : Nat) (og : Option Nat), κC[k]? = some og → (κ ++ κC.drop js.length)[phi js own.length k]? = some og := fun k og h => by
    unfold phi
    cases hk : js[k]? with
    | some i =>
      have hi := hlt k i hk
      have hkl : k < js.length := (List.getElem?_eq_some_iff.1 hk).1
      rw [hold k hkl, selK_get hk] at h
      dsimp only
      rw [List.getElem?_append_left (by rw [← ho.len]; exact hi)]
      have hik : i < κ.length := by rw [← ho.len]; exact hi
      rw [List.getElem?_eq_getElem hik]
      have : κ.getD i none = κ[i] := by simp [List.getD_eq_getElem?_getD, List.getElem?_eq_getElem hik]
      rw [← this]; exact h
    | none =>
      have hkl : js.length ≤ k := by simpa using hk
      dsimp only
      rw [ho.len, List.getElem?_append_right (by omega), Nat.add_sub_cancel_left, List.getElem?_drop, Nat.add_sub_cancel' hkl]
      exact h
  have hbad : ∀ b, ¬ badK (restF F κ js) κC b → ¬ badK F (κ ++ κC.drop js.length) b := fun b h hb => by
    refine h ?_
    rcases hb with hb | hb
    · exact .inl (.inl hb)
    · rcases List.mem_append.1 hb with hb | hb
      · have : badK (restF F κ js) (selK κ js) b := badR' (.inr hb)
        rcases this with h1 | h1
        · exact .inl h1
        · rw [← hpre] at h1
          exact .inr (List.mem_of_mem_take h1)
      · exact .inr (List.mem_of_mem_drop hb)
  have hnew : ∀ b, some b ∈ κ ++ κC.drop js.length → some b ∈ κ ∨ w.heap.size ≤ b := fun b hb => by
    rcases List.mem_append.1 hb with hb | hb
    · exact .inl hb
    · rcases tr.new b (List.mem_of_mem_drop hb) with h1 | h1
      · obtain ⟨k, i, _, h2⟩ := selK_mem hj ho h1
        exact .inl (List.mem_of_getElem? h2)
      · exact .inr h1
  have hsame : ∀ b, b < w.heap.size → some b ∉ selK κ js → w'.heap[b]? = w.heap[b]? := tr.old
  have hselK : ∀ b, some b ∈ selK κ js → some b ∈ κ := fun b h => by
    obtain ⟨k, i, _, h2⟩ := selK_mem hj ho h
    exact List.mem_of_getElem? h2
  have hwide : Wide (badK F κ) (badK F (κ ++ κC.drop js.length)) w w' := Tr.wide tr.size (fun b hb h => hsame b hb fun h2 => h (hselK b h2)) hnew
  -- what an entry that was not handed over is
  have hkeepB : ∀ (i g : Nat), κ[i]? = some (some g) → i ∉ js → w'.heap[g]? = w.heap[g]? := fun i g hi hn => by
    refine hsame g (ho.lt' hi).1 fun h => ?_
    obtain ⟨k, i', h1, h2⟩ := selK_mem hj ho h
    obtain rfl := ho.inj i i' g hi h2
    exact hn (List.mem_of_getElem? h1)
  have hK0 : ∀ (i : Nat), i < own.length → (κ ++ κC.drop js.length)[i]? = κ[i]? := fun i hi => List.getElem?_append_left (by rw [← ho.len]; exact hi)
  have bk := fun (x : AV) {u : Value} => AV.bk_sat (F := F) (own' := bkOwn js own ownC) (κ' := κ ++ κC.drop js.length) (w := w') (js := js) (n := own.length) (fun k x hx => bkOwn_phi hj hx) hphi hbad x (u := u)
  -- references that the caller holds
  have ref : ∀ (x : AV) {u : Value}, (∃ i ver o n, x = .osl i ver o n) ∨ (∃ i ver j o, x = .rpt i ver j o) ∨ (∃ i o, x = .opt i o) → AV.sat F own κ w x u → AV.sat F (bkOwn js own ownC) (κ ++ κC.drop js.length) w' x u := by
    intro x u hx hs
    have viaC : ∀ (y : AV), AV.bk js own.length y = x → AV.ren js x = y → AV.sat F (bkOwn js own ownC) (κ ++ κC.drop js.length) w' x u := fun y e1 e2 => by
      have h1 := AV.ren_sat (js := js) ho x hs
      rw [e2] at h1
      have h2 := bk y (tr.keep y u h1)
      rwa [e1] at h2
    rcases hx with ⟨i, ver, o, n, rfl⟩ | ⟨i, ver, j, o, rfl⟩ | ⟨i, o, rfl⟩
    · cases hp : plc js i with
      | some k => exact viaC (.osl k ver o n) (by simp only [AV.bk, phi, plc_spec hp]) (by simp only [AV.ren, hp])
      | none =>
        rw [AV.sat] at hs ⊢
        obtain ⟨⟨y, hy, hv, h1c⟩, hs2⟩ := hs
        have hi : i < own.length := (List.getElem?_eq_some_iff.1 hy).1
        have e1 : (bkOwn js own ownC)[i]? = own[i]? := bkOwn_keep hi hp
        refine ⟨⟨y, by rw [e1]; exact hy, hv, h1c⟩, fun sz e cells hc => ?_⟩
        rw [e1] at hc
        obtain ⟨h1, A, c, h2, h3, h4, h5⟩ := hs2 sz e cells hc
        refine ⟨h1, A, c, h2, h3, h4, fun hpos => ?_⟩
        rcases h5 hpos with ⟨g, g1, g2, cur, t, fz, g3, g4⟩ | ⟨g1, g2⟩
        · exact .inl ⟨g, by rw [hK0 i hi]; exact g1, g2, cur, t, fz, by rw [hkeepB i g g1 (nk i hp)]; exact g3, g4⟩
        · exact .inr ⟨by rw [hK0 i hi]; exact g1, g2⟩
    · cases hp : plc js i with
      | some k => exact viaC (.rpt k ver j o) (by simp only [AV.bk, phi, plc_spec hp]) (by simp only [AV.ren, hp])
      | none =>
        rw [AV.sat] at hs ⊢
        obtain ⟨⟨y, hy, hv, h1c⟩, hs2⟩ := hs
        have hi : i < own.length := (List.getElem?_eq_some_iff.1 hy).1
        have e1 : (bkOwn js own ownC)[i]? = own[i]? := bkOwn_keep hi hp
        refine ⟨⟨y, by rw [e1]; exact hy, hv, h1c⟩, fun sz e cells hc => ?_⟩
        rw [e1] at hc
        obtain ⟨h1, g, h2, h3⟩ := hs2 sz e cells hc
        exact ⟨h1, g, by rw [hK0 i hi]; exact h2, h3⟩
    · cases hp : plc js i with
      | some k => exact viaC (.opt k o) (by simp only [AV.bk, phi, plc_spec hp]) (by simp only [AV.ren, hp])
      | none =>
        rw [AV.sat] at hs ⊢
        obtain ⟨g, l, h1, h2, h3⟩ := hs
        have hi : i < own.length := (List.getElem?_eq_some_iff.1 h1).1
        exact ⟨g, l, by rw [bkOwn_keep hi hp]; exact h1, by rw [hK0 i hi]; exact h2, h3⟩
  have keep := keepAll (F := F) (own := own) (κ := κ) (w := w) ref hwide
  refine ⟨κ ++ κC.drop js.length, bk rC hv, ⟨?_, fun b hb => Nat.lt_of_lt_of_le (ho.frame b hb) tr.size, fun g hg => ?_, fun a b g ha hb => ?_, fun i y hy => ?_, glb_keep ho.glb tr.size (fun b hb hk => hsame b hb fun h => hk (hselK b h)) hnew⟩,
    ⟨tr.os, tr.tape, tr.output, tr.size, fun b hb hk => hsame b hb fun h => hk (hselK b h), hnew, List.take_append_of_le_length hm, keep⟩⟩
  · rw [bkOwn_len, List.length_append, List.length_drop, ho.len, hoC.len]
  · rcases List.mem_append.1 hg with h1 | h1
    · have := ho.lt g h1; have := tr.size; exact ⟨by omega, (ho.lt g h1).2⟩
    · have := hoC.lt g (List.mem_of_mem_drop h1)
      exact ⟨this.1, fun h => this.2 (.inl h)⟩
  · have key : ∀ i : Nat, (κ ++ κC.drop js.length)[i]? = some (some g) → (i < κ.length ∧ κ[i]? = some (some g)) ∨ (κ.length ≤ i ∧ κC[js.length + (i - κ.length)]? = some (some g)) := fun i h => by
      by_cases hi : i < κ.length
      · rw [List.getElem?_append_left hi] at h; exact .inl ⟨hi, h⟩
      · rw [List.getElem?_append_right (by omega), List.getElem?_drop] at h; exact .inr ⟨by omega, h⟩
    have mix : ∀ i i' : Nat, κ[i]? = some (some g) → κC[js.length + i']? = some (some g) → False := fun i i' h1 h2 => by
      rcases tr.new g (List.mem_of_getElem? h2) with h3 | h3
      · obtain ⟨k, hk⟩ := List.mem_iff_getElem?.1 h3
        have hkl : k < js.length := by have := (List.getElem?_eq_some_iff.1 hk).1; omega
        rw [← hold k hkl] at hk
        have := hoC.inj _ _ g h2 hk
        omega
      · have := (ho.lt' h1).1; omega
    rcases key a ha with ⟨h1, h2⟩ | ⟨h1, h2⟩ <;> rcases key b hb with ⟨h3, h4⟩ | ⟨h3, h4⟩
    · exact ho.inj a b g h2 h4
    · exact (mix a _ h2 h4).elim
    · exact (mix b _ h4 h2).elim
    · have := hoC.inj _ _ g h2 h4; omega
  · -- entries
    have viaC : ∀ (k : Nat) (x : Ent), ownC[k]? = some x → i = phi js own.length k → y = Ent.bk js own.length x → EntSat F (bkOwn js own ownC) (κ ++ κC.drop js.length) w' ((κ ++ κC.drop js.length).getD i none) y := fun k x hx hi hyx => by
      subst hi; subst hyx
      have hent := hoC.ent k x hx
      obtain ⟨og, hog⟩ := hoC.kap k x hx
      have e1 : κC.getD k none = og := by simp [List.getD_eq_getElem?_getD, hog]
      have e2 : (κ ++ κC.drop js.length).getD (phi js own.length k) none = og := by rw [List.getD_eq_getElem?_getD, hphi k og hog]; rfl
      rw [e1] at hent
      rw [e2]
      cases x with
      | box l =>
        rcases hent with ⟨hn1, rfl⟩ | ⟨g, hg, cur, t, h1, h2, h3⟩
        · exact .inl ⟨hn1, rfl⟩
        exact .inr ⟨g, hg, cur, t, h1, AV.bkL_sat (fun k x hx => bkOwn_phi hj hx) hphi hbad l h2, h3⟩
      | row v s e c =>
        obtain ⟨h0, h1⟩ := hent
        refine ⟨h0, h1.imp id ?_⟩
        rintro ⟨g, hg, cur, h2, h3, h4⟩
        exact ⟨g, hg, cur, h2, h3, Dat.rowsSat_wide ⟨Nat.le_refl _, fun _ _ _ => rfl, fun b _ h => hbad b h⟩ rfl c h4⟩
    by_cases hi : i < own.length
    · cases hp : plc js i with
      | some k =>
        have hk := plc_spec hp
        have hkl : k < js.length := (List.getElem?_eq_some_iff.1 hk).1
        have hkC : k < ownC.length := by rw [hoC.len]; omega
        have e1 := bkOwn_phi hj (List.getElem?_eq_getElem hkC)
        have e2 : phi js own.length k = i := by simp only [phi, hk]
        rw [e2] at e1
        rw [hy] at e1
        exact viaC k _ (List.getElem?_eq_getElem hkC) e2.symm (by simpa using e1)
      | none =>
        rw [bkOwn_keep hi hp] at hy
        have hent := ho.ent i y hy
        obtain ⟨og, hog⟩ := ho.kap i y hy
        have e1 : κ.getD i none = og := by simp [List.getD_eq_getElem?_getD, hog]
        have e2 : (κ ++ κC.drop js.length).getD i none = og := by rw [List.getD_eq_getElem?_getD, hK0 i hi, hog]; rfl
        rw [e1] at hent
        rw [e2]
        cases y with
        | box l =>
          rcases hent with ⟨hn1, rfl⟩ | ⟨g, hg, cur, t, h1, h2, h3⟩
          · exact .inl ⟨hn1, rfl⟩
          subst hg
          exact .inr ⟨g, rfl, cur, t, by rw [hkeepB i g hog (nk i hp)]; exact h1, keepL keep l h2, h3⟩
        | row v s e c =>
          obtain ⟨h0, h1⟩ := hent
          refine ⟨h0, h1.imp id ?_⟩
          rintro ⟨g, hg, cur, h2, h3, h4⟩
          subst hg
          have hb := hkeepB i g hog (nk i hp)
          exact ⟨g, rfl, cur, by rw [hb]; exact h2, h3, Dat.rowsSat_wide hwide hb c h4⟩
    · have hil := (List.getElem?_eq_some_iff.1 hy).1
      rw [bkOwn_len] at hil
      have hkC : js.length + (i - own.length) < ownC.length := by omega
      have e2 : phi js own.length (js.length + (i - own.length)) = i := by
        unfold phi
        rw [List.getElem?_eq_none (by omega)]
        dsimp only
        omega
      have e1 := bkOwn_phi hj (List.getElem?_eq_getElem hkC)
      rw [e2, hy] at e1
      exact viaC _ _ (List.getElem?_eq_getElem hkC) e2.symm (by simpa using e1)
end Go.Proofs.YtjaipchlnnjaeaaDoor
end

section
/- The machine of abstract values: the rule of a call that works on memory of the caller's own. No program in sight; no condition. -/
namespace Go.Proofs.YtjaipchlnnjaeaaDoor
open Go.RowKit
set_option linter.unusedVariables false
set_option linter.unusedSimpArgs false

/-- Memory, laid out. -/
def normF : List Ent → Option (List Ent)
  | [] => some []
  | .box l :: r => match normF r with | some r' => some (.box l :: r') | none => none
  | .row v s e c :: r => match normF r with | some r' => some (.row v s e c :: r') | none => none
theorem normF_spec : ∀ {l r : List Ent}, normF l = some r → r = l
  | [], r, h => by simp [normF] at h; exact h.symm ▸ rfl
  | .box l :: l', r, h => by
    simp only [normF] at h
    cases hq : normF l' with
    | none => simp [hq] at h
    | some r' => simp only [hq, Option.some.injEq] at h; rw [← h, normF_spec hq]
  | .row v s e c :: l', r, h => by
    simp only [normF] at h
    cases hq : normF l' with
    | none => simp [hq] at h
    | some r' => simp only [hq, Option.some.injEq] at h; rw [← h, normF_spec hq]
theorem selR_len (own : List Ent) (js : List Nat) : (selR own js).length = js.length := by simp [selR]
def modJ (js : List Nat) (n k : Nat) : List Nat := js ++ (List.range k).map (n + ·)

section
variable {P : Program} {m : Nat} {env : List (Nat × AV)} {own : List Ent} {dst : Option Tmp} {ty : TypeId} {pos : String} {af : Array Edge} {gd : Option (Nat × Bool)}
/-- A call that is handed the entries js. -/
theorem e_callJ {js : List Nat} {fo : Operand} {args : Array Operand} {ts : Array TypeId} {f : FuncId} {caps argsC : List AV} {ownC ownC' own' : List Ent} {rC r : AV}
    (hc : ACalls P f argsC ownC rC ownC') (hfo : lookO env fo = .fn f caps) (hown : selR own js = ownC) (hargs : AV.renL js (args.toList.map (lookO env) ++ caps) = argsC)
    (ho : normF (bkOwn js own ownC') = some own') (hr : AV.bk js own.length rC = r) (hj : selOk own js = true) (hf : isFn P f = true) :
    Eff P m ⟨dst, .call ⟨.value fo, args, ts⟩, ty, pos, af, gd⟩ env own (modJ js own.length (ownC'.length - js.length)) r own' := by
  have ho' := normF_spec ho
  subst ho'; subst hr; subst hown; subst hargs
  refine Eff.mk (fun i hi => ?_) fun F κ a w hs hO hm => ?_
  · simp only [modJ, List.mem_append, List.mem_map, List.mem_range, not_or, not_exists, not_and] at hi
    by_cases hlt : i < own.length
    · refine bkOwn_keep hlt ?_
      cases hp : plc js i with
      | none => rfl
      | some k => exact absurd (List.mem_of_getElem? (plc_spec hp)) hi.1
    · rw [List.getElem?_eq_none (show own.length ≤ i by omega), List.getElem?_eq_none]
      rw [bkOwn_len]
      have := hi.2 (i - own.length)
      by_cases h2 : i - own.length < ownC'.length - js.length
      · exact absurd (by omega) (this h2)
      · omega
  · obtain ⟨vs, h1, h2⟩ := exec_call (P := P) (dst := dst) (ty := ty) (pos := pos) (af := af) (gd := gd) hf hfo hs
    rw [h1]
    refine (hc (restF F κ js) (selK κ js) w vs (selR_own hO hj) (AV.renL_sat hO _ h2)).mono ?_
    rintro e w' ⟨v, κC, he, h3, h4, h5⟩
    rw [selR_len] at h5
    exact ⟨v, he, call_back hO hj hm h3 h4 h5⟩
end
end Go.Proofs.YtjaipchlnnjaeaaDoor
end

section
/- The machine of abstract values: operations on bits; package-level variables; elements of arrays. No program in sight; no condition. -/
namespace Go.Proofs.YtjaipchlnnjaeaaDoor
open Go.RowKit
set_option linter.unusedVariables false
set_option linter.unusedSimpArgs false

theorem bits_nat {n x : Nat} (h : x < 2 ^ n) : (BitVec.ofInt n (x : Int)).toNat = x := by
  rw [BitVec.ofInt_natCast, BitVec.toNat_ofNat, Nat.mod_eq_of_lt h]
/-- How large a number that is not negative may be. -/
def capK : IntKind → Nat
  | .i64 => 9223372036854775808
  | .u8 => 256
  | .u16 => 65536
  | .u64 => 18446744073709551616
  | _ => 0
theorem capK_bits {k : IntKind} {x : Nat} (h : x < capK k) : x < 2 ^ k.bits := by
  cases k <;> simp only [capK] at h <;> first | (exact absurd h (Nat.not_lt_zero _)) | (simp only [IntKind.bits]; omega)
theorem capK_wrap {k : IntKind} {x : Nat} (h : x < capK k) : k.wrap (x : Int) = x := by
  cases k <;> simp only [capK] at h <;> first | (exact absurd h (Nat.not_lt_zero _)) | (simp [IntKind.wrap, IntKind.bits, IntKind.signed]; omega)
theorem capK_pow {k : IntKind} {x : Nat} (h : x < capK k) : ∃ n, capK k = 2 ^ n := by
  cases k <;> simp only [capK] at h <;> first | (exact absurd h (Nat.not_lt_zero _)) | exact ⟨63, by decide⟩ | exact ⟨8, by decide⟩ | exact ⟨16, by decide⟩ | exact ⟨64, by decide⟩
theorem capK_xor {k : IntKind} {x y : Nat} (hx : x < capK k) (hy : y < capK k) : x ^^^ y < capK k := by
  obtain ⟨n, hn⟩ := capK_pow hx
  rw [hn] at hx hy ⊢; exact Nat.xor_lt_two_pow hx hy
theorem capK_or {k : IntKind} {x y : Nat} (hx : x < capK k) (hy : y < capK k) : x ||| y < capK k := by
  obtain ⟨n, hn⟩ := capK_pow hx
  rw [hn] at hx hy ⊢; exact Nat.or_lt_two_pow hx hy
theorem capK_and {k : IntKind} {x y : Nat} (hx : x < capK k) : x &&& y < capK k := Nat.lt_of_le_of_lt Nat.and_le_left hx

section
variable {P : Program} {m : Nat} {env : List (Nat × AV)} {own : List Ent} {dst : Option Tmp} {ty : TypeId} {pos : String} {af : Array Edge} {gd : Option (Nat × Bool)}
theorem q_xorN {t t' : TypeId} {x y : Operand} {k : IntKind} {a b : Int} {xn yn : Nat} (hx : lookO env x = .d (.v (.int k a))) (hy : lookO env y = .d (.v (.int k b))) (ha : a = (xn : Int)) (hb : b = (yn : Int)) (h1 : xn < capK k) (h2 : yn < capK k) :
    Quiet P m ⟨dst, .binOp .xor t x y t', ty, pos, af, gd⟩ env own [] (.d (.v (.int k ((xn ^^^ yn : Nat) : Int)))) := q_bin hx hy fun w => by
  subst ha; subst hb
  simp [eqGuard, binOp, Op.intBits, Nat.mod_eq_of_lt (capK_bits h1), Nat.mod_eq_of_lt (capK_bits h2), capK_wrap (capK_xor h1 h2)]
theorem q_orN {t t' : TypeId} {x y : Operand} {k : IntKind} {a b : Int} {xn yn : Nat} (hx : lookO env x = .d (.v (.int k a))) (hy : lookO env y = .d (.v (.int k b))) (ha : a = (xn : Int)) (hb : b = (yn : Int)) (h1 : xn < capK k) (h2 : yn < capK k) :
    Quiet P m ⟨dst, .binOp .or t x y t', ty, pos, af, gd⟩ env own [] (.d (.v (.int k ((xn ||| yn : Nat) : Int)))) := q_bin hx hy fun w => by
  subst ha; subst hb
  simp [eqGuard, binOp, Op.intBits, Nat.mod_eq_of_lt (capK_bits h1), Nat.mod_eq_of_lt (capK_bits h2), capK_wrap (capK_or h1 h2)]
theorem q_andN {t t' : TypeId} {x y : Operand} {k : IntKind} {a b : Int} {xn yn : Nat} (hx : lookO env x = .d (.v (.int k a))) (hy : lookO env y = .d (.v (.int k b))) (ha : a = (xn : Int)) (hb : b = (yn : Int)) (h1 : xn < capK k) (h2 : yn < capK k) :
    Quiet P m ⟨dst, .binOp .and t x y t', ty, pos, af, gd⟩ env own [] (.d (.v (.int k ((xn &&& yn : Nat) : Int)))) := q_bin hx hy fun w => by
  subst ha; subst hb
  simp [eqGuard, binOp, Op.intBits, Nat.mod_eq_of_lt (capK_bits h1), Nat.mod_eq_of_lt (capK_bits h2), capK_wrap (capK_and (y := yn) h1)]
theorem q_shlN {t t' : TypeId} {x y : Operand} {k k' : IntKind} {a b : Int} {xn n : Nat} (hx : lookO env x = .d (.v (.int k a))) (hy : lookO env y = .d (.v (.int k' b))) (ha : a = (xn : Int)) (hb : b = (n : Int)) (hn : Nat.ble 64 k.bits = true) (h1 : n < 64) (h2 : xn <<< n < capK k) :
    Quiet P m ⟨dst, .binOp .shl t x y t', ty, pos, af, gd⟩ env own [] (.d (.v (.int k ((xn <<< n : Nat) : Int)))) := q_bin hx hy fun w => by
  subst ha; subst hb
  have hn := Nat.le_of_ble_eq_true hn
  have e1 : min n k.bits = n := Nat.min_eq_left (by omega)
  have e2 : ((xn : Int) * 2 ^ n) = ((xn <<< n : Nat) : Int) := by rw [Nat.shiftLeft_eq]; simp
  have e3 : ¬ ((n : Int) < 0) := by omega
  simp only [eqGuard, binOp, Op.shift, e3, if_false, Int.toNat_natCast, e1, e2, capK_wrap h2]
  rfl
theorem q_shrN {t t' : TypeId} {x y : Operand} {k k' : IntKind} {a b : Int} {xn n : Nat} (hx : lookO env x = .d (.v (.int k a))) (hy : lookO env y = .d (.v (.int k' b))) (ha : a = (xn : Int)) (hb : b = (n : Int)) (h1 : n ≤ k.bits) :
    Quiet P m ⟨dst, .binOp .shr t x y t', ty, pos, af, gd⟩ env own [] (.d (.v (.int k ((xn >>> n : Nat) : Int)))) := q_bin hx hy fun w => by
  subst ha; subst hb
  have e1 : min n k.bits = n := Nat.min_eq_left h1
  have e2 : (xn : Int).fdiv (2 ^ n) = ((xn >>> n : Nat) : Int) := by
    rw [Nat.shiftRight_eq_div_pow, Int.natCast_ediv, Int.fdiv_eq_ediv_of_nonneg _ (by exact Int.le_of_lt (Int.pow_pos (by omega)))]
    simp
  have e3 : ¬ ((n : Int) < 0) := by omega
  simp only [eqGuard, binOp, Op.shift, e3, if_false, Int.toNat_natCast, e1, e2]
  rfl

/-- What a package-level variable holds. -/
def glbAt (g : Nat) : List (Nat × Array Value) → Option (List Value)
  | [] => none
  | (b, c) :: r => match Nat.beq b g with | true => some c.toList | false => glbAt g r
theorem glbAt_mem {g : Nat} : ∀ {l : List (Nat × Array Value)} {c : List Value}, glbAt g l = some c → (g, c.toArray) ∈ l
  | [], c, h => by simp [glbAt] at h
  | (b, a) :: r, c, h => by
    simp only [glbAt] at h
    cases hb : Nat.beq b g with
    | true =>
      have := Nat.eq_of_beq_eq_true hb
      simp only [hb, Option.some.injEq] at h
      subst h; subst this; simp
    | false => simp only [hb] at h; exact List.mem_cons_of_mem _ (glbAt_mem h)
def valsF : List Value → Option (List AV)
  | [] => some []
  | v :: l => match valsF l with | some r => some (.d (.v v) :: r) | none => none
theorem valsF_spec : ∀ {l : List Value} {r : List AV}, valsF l = some r → r = l.map fun v => .d (.v v)
  | [], r, h => by simp [valsF] at h; subst h; rfl
  | v :: l, r, h => by
    simp only [valsF] at h
    cases hq : valsF l with
    | none => simp [hq] at h
    | some r' => simp only [hq, Option.some.injEq] at h; subst h; rw [valsF_spec hq]; rfl
theorem q_ld_glb {t : TypeId} {k g : Nat} {x : Operand} {c : List Value} {r : List AV} (hx : lookO env x = .d (.v (.pointer (some ⟨g, 0, none⟩)))) (hg : glbAt g glbs = some c) (hr : valsF c = some r) (ht : tyInfo P t = some (true, k)) (hl : Nat.beq c.length k = true) :
    Quiet P m ⟨dst, .load t x, ty, pos, af, gd⟩ env own [] (.agg r) :=
  Quiet.val fun F own' κ a w hs ho hsame _ => by
    have h1 := hs x (by simp [Op.operands]); rw [hx, sat_v] at h1
    obtain ⟨h2, h3, t2, fz, h4⟩ := ho.glb _ (glbAt_mem hg)
    refine ⟨.agg c.toArray, exec_v (by rw [h1]; exact run_loadAt_agg ht c (Nat.eq_of_beq_eq_true hl) (fun j u hu => by rw [cell_of_row w g _ c.toArray t2 fz h4, Nat.zero_add]; simpa using hu)), ?_⟩
    rw [valsF_spec hr, AV.sat]
    refine ⟨_, rfl, satL_of (by simp) fun j y hy => ?_⟩
    rw [List.getElem?_map] at hy
    cases hj : c[j]? with
    | none => rw [hj] at hy; cases hy
    | some u => rw [hj] at hy; obtain rfl : AV.d (.v u) = y := by simpa using hy
                exact ⟨u, rfl, sat_v.2 rfl⟩

/-- An array type: how many elements, their type, whether they are structs, their size. -/
def arInfo (P : Program) (t : TypeId) : Option (Nat × TypeId) := match P.underlying t with | some (.array n e) => some (n, e) | _ => none
theorem arInfo_spec {P : Program} {t e : TypeId} {n : Nat} (h : arInfo P t = some (n, e)) : P.underlying t = some (.array n e) := by
  unfold arInfo at h
  split at h
  · rename_i n' e' he; obtain ⟨rfl, rfl⟩ : n' = n ∧ e' = e := by simpa using h
    exact he
  · cases h
/-- An element, a struct, of an array value. -/
theorem q_ix_ags {t e : TypeId} {n k j : Nat} {x y : Operand} {l r : List AV} {ik : IntKind} {i : Int} (hx : lookO env x = .agg l) (hy : lookO env y = .d (.v (.int ik i))) (ht : arInfo P t = some (n, e)) (he : tyInfo P e = some (true, k)) (hi : i = (j : Int)) (hr : takeF k (l.drop (j * k)) = some r) (hj : j < n) :
    Quiet P m ⟨dst, .index t x y, ty, pos, af, gd⟩ env own [] (.agg r) :=
  Quiet.val fun F own' κ a w hs _ _ _ => by
    have h1 := hs x (by simp [Op.operands]); rw [hx, AV.sat] at h1
    have h2 := hs y (by simp [Op.operands]); rw [hy, sat_v] at h2
    obtain ⟨vs, h3, h4⟩ := h1
    obtain ⟨h6, i', h7, h8⟩ := tyInfo_spec he
    subst hi
    refine ⟨.agg (vs.extract (j * k) (j * k + k)), exec_v ?_, ?_⟩
    · rw [h3, h2]
      simp [Instr.index, asIntOf, run_underlying (arInfo_spec ht), hj, part, h6 w, sizeOf, typeInfo, h7, h8]
    · rw [AV.sat]
      refine ⟨_, rfl, ?_⟩
      obtain ⟨h9, h10⟩ := takeF_spec hr
      have hl := satL_length h4
      rw [h9]
      have : (vs.extract (j * k) (j * k + k)).toList = (vs.toList.drop (j * k)).take k := by
        apply List.ext_getElem?
        intro q
        simp only [Array.getElem?_toList, Array.getElem?_extract, List.getElem?_take, List.getElem?_drop]
        simp only [List.length_drop] at h10
        simp only [Array.length_toList] at hl
        by_cases hq : q < k
        · rw [if_pos hq, if_pos (by omega)]
        · rw [if_neg hq, if_neg (by omega)]
      rw [this]
      exact satL_take _ (satL_drop _ h4)
end
end Go.Proofs.YtjaipchlnnjaeaaDoor
end

section
/- The machine of abstract values: functions that work on memory that they are handed. No program in sight; no condition. -/
namespace Go.Proofs.YtjaipchlnnjaeaaDoor
open Go.RowKit
set_option linter.unusedVariables false
set_option linter.unusedSimpArgs false

/-- How a body ends that was handed m entries: its results, when the entries js are kept. -/
def EndsO (P : Program) (m : Nat) (rs : List ResultVar) (r : AV) (own' : List Ent) (e : Exit) (s : St) : Prop :=
  (e = .ret ∨ e = .normal) ∧ ∃ js xs, selOk s.own js = true ∧ js.take m = List.range m ∧ ResL P s rs xs ∧ AVle (AV.frz s.own js (tupA xs)) r ∧ selOwn s.own js = own'

theorem acalls_of_bodyO {P : Program} {f : FuncId} {fn : Func} {c : Code} {args : List AV} {r : AV} {own own' : List Ent} (hf : P.funcs[f]? = some fn) (hb : fn.body = some c) (hn : args.length ≤ fn.ntmps)
    (h : AWP P fn.ntmps own.length c (EndsO P own.length fn.results.toList r own') ⟨env0 0 args, own⟩) : ACalls P f args own r own' := fun F κ w vs ho hsat => by
  have hlen := satL_length hsat
  refine calls_of_wp hf hb ?_
  refine wp_mono (AWP.wp h F ⟨w, own⟩ κ { tmps := vs.toArray ++ Array.replicate (fn.ntmps - vs.toArray.size) undef, defers := [] } κ w ho.len.symm ⟨by simp; omega, rfl, fun t => ?_, ho, by simp, rfl, rfl, rfl, Nat.le_refl _, fun _ _ _ => rfl, (fun b hb => .inl hb), ho.len, fun _ _ h => h⟩) ?_
  · rw [look_env0, if_pos (Nat.zero_le _), Nat.sub_zero]
    cases ht : args[t]? with
    | none => simp [AV.sat]
    | some x =>
      obtain ⟨u, h1, h2⟩ := satL_get hsat t x ht
      have hlt : t < vs.length := (List.getElem?_eq_some_iff.1 h1).1
      have : (vs.toArray ++ Array.replicate (fn.ntmps - vs.toArray.size) undef).getD t undef = u := by
        have : (vs.toArray ++ Array.replicate (fn.ntmps - vs.toArray.size) undef)[t]? = some u := by
          rw [Array.getElem?_append_left (by simpa using hlt)]; simpa using h1
        rw [Array.getD_eq_getD_getElem?, this]; rfl
      rw [this]
      exact h2
  · rintro e a' w' ⟨s, κ', ⟨he, js, xs, h1, h1', h2, h3, h4⟩, hs⟩
    obtain ⟨us, h5, h6⟩ := run_results hs.env hs.own fn.results.toList xs h2
    have hfin : ∃ v, (results fn a'.tmps).run P w' = .ok v w' ∧ AV.sat F s.own κ' w' (tupA xs) v := by
      have hmap : (fn.results.mapM (resOne a')).run P w' = .ok us.toArray w' := by
        rw [Array.mapM_eq_mapM_toList, Sem.run_map, h5]; rfl
      rw [results_eq, Sem.run_bind, hmap]
      simp only [Result.andThen_ok, Sem.run_pure]
      have hl2 := satL_length h6
      match xs, us, h6, hl2 with
      | [x], [u], h6, _ => exact ⟨u, rfl, by rw [AV.satL] at h6; exact h6.1⟩
      | [], [], h6, _ =>
        refine ⟨.tuple #[], rfl, ?_⟩
        show AV.sat F s.own κ' w' (.tup []) _
        rw [AV.sat]; exact ⟨#[], rfl, h6⟩
      | x :: y :: xs, u :: v :: us, h6, _ =>
        refine ⟨.tuple (u :: v :: us).toArray, by simp, ?_⟩
        show AV.sat F s.own κ' w' (.tup (x :: y :: xs)) _
        rw [AV.sat]; exact ⟨_, rfl, h6⟩
    obtain ⟨v, h7, h8⟩ := hfin
    have hfz := h3 _ _ _ _ _ (AV.frz_sat (js := js) hs.own _ h8)
    have hw := hs.wkK (s' := ⟨[], own'⟩) ho.len.symm h1 h1' h4.symm trivial
    have htr : Tr F own.length own κ w own' (selK κ' js) w' := ⟨hw.os, hw.tape, hw.output, hw.size, hw.old, hw.new, by
      have := hw.pre
      rw [ho.len, this, List.take_of_length_le (Nat.le_refl _)], hw.keep⟩
    rw [h4] at hfz
    rcases he with rfl | rfl
    · exact ⟨hs.df, v, h7, v, _, rfl, hfz, hw.own, htr⟩
    · exact ⟨hs.df, v, h7, v, _, rfl, hfz, hw.own, htr⟩

section
variable {P : Program} {m : Nat} {env : List (Nat × AV)} {own : List Ent} {dst : Option Tmp} {ty : TypeId} {pos : String} {af : Array Edge} {gd : Option (Nat × Bool)}
/-- A call that is handed all memory, and leaves it as it was. -/
theorem e_callS {fo : Operand} {args : Array Operand} {ts : Array TypeId} {f : FuncId} {caps l : List AV} {r : AV} (hc : ACalls P f l own r own) (hfo : lookO env fo = .fn f caps) (ha : args.toList.map (lookO env) ++ caps = l) (hf : isFn P f = true) :
    Eff P m ⟨dst, .call ⟨.value fo, args, ts⟩, ty, pos, af, gd⟩ env own [] r own :=
  Eff.mk (fun _ _ => rfl) fun F κ a w hs hO hm => by
    obtain ⟨vs, h1, h2⟩ := exec_call (P := P) (dst := dst) (ty := ty) (pos := pos) (af := af) (gd := gd) hf hfo hs
    rw [h1]
    subst ha
    refine (hc F κ w vs hO h2).mono ?_
    rintro e w' ⟨v, κ', he, h3, h4, h5⟩
    refine ⟨v, he, κ', h3, h4, h5.os, h5.tape, h5.output, h5.size, h5.old, h5.new, ?_, h5.keep⟩
    have := congrArg (List.take m) h5.pre
    rwa [List.take_take, List.take_take, Nat.min_eq_left (by rw [hO.len]; exact hm)] at this
end
end Go.Proofs.YtjaipchlnnjaeaaDoor
end

section
/- The machine of abstract values: walks over memory that is not known entry by entry. No program in sight; no condition. -/
namespace Go.Proofs.YtjaipchlnnjaeaaDoor
open Go.RowKit
set_option linter.unusedVariables false
set_option linter.unusedSimpArgs false

/-- Slots that are named are as they were. -/
def EnvSub (env : List (Nat × AV)) : List (Nat × AV) → Prop
  | [] => True
  | (t, x) :: rest => x = look env t ∧ EnvSub env rest
theorem EnvSub.look {env : List (Nat × AV)} : ∀ {env' : List (Nat × AV)}, EnvSub env env' → ∀ t, look env' t = .top ∨ look env' t = look env t
  | [], _, t => .inl rfl
  | (s, x) :: rest, h, t => by
    simp only [Go.Proofs.YtjaipchlnnjaeaaDoor.look]
    by_cases e : s = t
    · rw [if_pos e, ← e]; exact .inr h.1
    · rw [if_neg e]; exact EnvSub.look h.2 t
/-- State s' says no more than s of the slots; memory is the same. -/
def WkE (s s' : St) : Prop := s'.own = s.own ∧ EnvSub s.env s'.env

section
variable {Γ : Ctx} {P : Program} {n m : Nat} {Q : Exit → St → Prop} {s : St}
theorem Sim.wkE {F : Nat → Prop} {W : Root} {κ0 : List (Option Nat)} {s s' : St} {a : Act} {κ : List (Option Nat)} {w : World} (hs : Sim F W κ0 n s a κ w) (h : WkE s s') : Sim F W κ0 n s' a κ w := by
  obtain ⟨h1, h2⟩ := h
  refine ⟨hs.tm, hs.df, fun t => ?_, by rw [h1]; exact hs.own, hs.pre, hs.os, hs.tape, hs.output, hs.size, hs.old, hs.new, hs.len, by rw [h1]; exact hs.keep⟩
  rw [h1]
  rcases EnvSub.look h2 t with h | h
  · rw [h]; simp [AV.sat]
  · rw [h]; exact hs.env t
theorem AWP.wkE {c : Code} (s' : St) (h : WkE s s') (hc : AWPG Γ P n m c Q s') : AWPG Γ P n m c Q s := fun F W κ0 a κ w hH hm hs => hc F W κ0 a κ w hH hm (hs.wkE h)
/-- A loop, its states counted by some type; slots may be forgotten. -/
theorem AWP.loopE {body : Code} {α : Type} (pre : α → Prop) (st : α → St) (μ : α → Nat) (x0 : α) (h0 : pre x0) (hs0 : WkE s (st x0))
    (hr : ∀ x, pre x → AWPG Γ P n m body (ACont P n m (fun s' => ∃ x', pre x' ∧ μ x' < μ x ∧ WkE s' (st x')) Q) (st x)) : AWPG Γ P n m (.loop body) Q s := by
  refine AWP.wkE (st x0) hs0 fun F W κ0 a κ w hH hm hs => ?_
  refine wpIn_loop_ghost (fun k a w => ∃ x κ, pre x ∧ μ x = k ∧ Sim F W κ0 n (st x) a κ w) (μ x0) ⟨x0, κ, h0, rfl, hs⟩ fun k a w ⟨x, κ, hp, hk, hs⟩ => ?_
  refine wpIn_mono (hr x hp F W κ0 a κ w hH hm hs) fun e a' w' ⟨s', κ', hq, hs'⟩ => ?_
  cases e with
  | normal =>
    obtain ⟨x', h1, h2, h3⟩ := hq
    exact ⟨μ x', by omega, x', κ', h1, rfl, hs'.wkE h3⟩
  | _ => exact ⟨s', κ', hq, hs'⟩
end

/-- How a body ends, all memory kept. -/
def EndsS (P : Program) (rs : List ResultVar) (r : AV) (own' : List Ent) (e : Exit) (s : St) : Prop :=
  (e = .ret ∨ e = .normal) ∧ ∃ xs, ResL P s rs xs ∧ AVle (tupA xs) r ∧ s.own = own'
theorem acalls_of_bodyS {P : Program} {f : FuncId} {fn : Func} {c : Code} {args : List AV} {r : AV} {own own' : List Ent} (hf : P.funcs[f]? = some fn) (hb : fn.body = some c) (hn : args.length ≤ fn.ntmps)
    (h : AWP P fn.ntmps own.length c (EndsS P fn.results.toList r own') ⟨env0 0 args, own⟩) : ACalls P f args own r own' := fun F κ w vs ho hsat => by
  have hlen := satL_length hsat
  refine calls_of_wp hf hb ?_
  refine wp_mono (AWP.wp h F ⟨w, own⟩ κ { tmps := vs.toArray ++ Array.replicate (fn.ntmps - vs.toArray.size) undef, defers := [] } κ w ho.len.symm ⟨by simp; omega, rfl, fun t => ?_, ho, by simp, rfl, rfl, rfl, Nat.le_refl _, fun _ _ _ => rfl, (fun b hb => .inl hb), ho.len, fun _ _ h => h⟩) ?_
  · rw [look_env0, if_pos (Nat.zero_le _), Nat.sub_zero]
    cases ht : args[t]? with
    | none => simp [AV.sat]
    | some x =>
      obtain ⟨u, h1, h2⟩ := satL_get hsat t x ht
      have hlt : t < vs.length := (List.getElem?_eq_some_iff.1 h1).1
      have : (vs.toArray ++ Array.replicate (fn.ntmps - vs.toArray.size) undef).getD t undef = u := by
        have : (vs.toArray ++ Array.replicate (fn.ntmps - vs.toArray.size) undef)[t]? = some u := by
          rw [Array.getElem?_append_left (by simpa using hlt)]; simpa using h1
        rw [Array.getD_eq_getD_getElem?, this]; rfl
      rw [this]
      exact h2
  · rintro e a' w' ⟨s, κ', ⟨he, xs, h2, h3, h4⟩, hs⟩
    obtain ⟨us, h5, h6⟩ := run_results hs.env hs.own fn.results.toList xs h2
    have hfin : ∃ v, (results fn a'.tmps).run P w' = .ok v w' ∧ AV.sat F s.own κ' w' (tupA xs) v := by
      have hmap : (fn.results.mapM (resOne a')).run P w' = .ok us.toArray w' := by
        rw [Array.mapM_eq_mapM_toList, Sem.run_map, h5]; rfl
      rw [results_eq, Sem.run_bind, hmap]
      simp only [Result.andThen_ok, Sem.run_pure]
      have hl2 := satL_length h6
      match xs, us, h6, hl2 with
      | [x], [u], h6, _ => exact ⟨u, rfl, by rw [AV.satL] at h6; exact h6.1⟩
      | [], [], h6, _ =>
        refine ⟨.tuple #[], rfl, ?_⟩
        show AV.sat F s.own κ' w' (.tup []) _
        rw [AV.sat]; exact ⟨#[], rfl, h6⟩
      | x :: y :: xs, u :: v :: us, h6, _ =>
        refine ⟨.tuple (u :: v :: us).toArray, by simp, ?_⟩
        show AV.sat F s.own κ' w' (.tup (x :: y :: xs)) _
        rw [AV.sat]; exact ⟨_, rfl, h6⟩
    obtain ⟨v, h7, h8⟩ := hfin
    have hfz := h3 _ _ _ _ _ h8
    have htr : Tr F own.length own κ w s.own κ' w' := ⟨hs.os, hs.tape, hs.output, hs.size, hs.old, hs.new, by
      have := hs.pre
      rw [ho.len, this, List.take_of_length_le (Nat.le_refl _)], hs.keep⟩
    subst h4
    rcases he with rfl | rfl
    · exact ⟨hs.df, v, h7, v, _, rfl, hfz, hs.own, htr⟩
    · exact ⟨hs.df, v, h7, v, _, rfl, hfz, hs.own, htr⟩
section
variable {P : Program} {env : List (Nat × AV)} {own : List Ent} {t : Nat}
theorem EndsS.d {y : Dat} {r : AV} (hx : look env t = .d y) (hr : AV.d y = r) : EndsS P [.tmp t] r own .ret ⟨env, own⟩ := ⟨.inl rfl, [.d y], ⟨hx, trivial⟩, AVle.of_eq hr, rfl⟩
theorem EndsS.b {b b' : Bool} (hx : look env t = bV b) (h : b = b') : EndsS P [.tmp t] (bV b') own .ret ⟨env, own⟩ := EndsS.d hx (by rw [h])
theorem EndsS.i {k : IntKind} {n n' : Int} (hx : look env t = .d (.v (.int k n))) (h : n = n') : EndsS P [.tmp t] (.d (.v (.int k n'))) own .ret ⟨env, own⟩ := EndsS.d hx (by rw [h])
/-- Two results in slots. -/
theorem EndsS.two {t' : Nat} {x y r : AV} (hx : look env t = x) (hy : look env t' = y) (hr : AV.tup [x, y] = r) : EndsS P [.tmp t, .tmp t'] r own .ret ⟨env, own⟩ := ⟨.inl rfl, [x, y], ⟨hx, hy, trivial⟩, AVle.of_eq hr, rfl⟩
theorem Ends.two {t' : Nat} {x y r : AV} (hx : look env t = x) (hy : look env t' = y) (hr : AV.frz own [] (.tup [x, y]) = r) : Ends P [.tmp t, .tmp t'] r [] .ret ⟨env, own⟩ := ⟨.inl rfl, [], [x, y], rfl, ⟨hx, hy, trivial⟩, AVle.of_eq hr, rfl⟩
end
section
variable {P : Program} {m : Nat} {ops : Array Oper} {Q : List Part → List (Nat × AV) → List Ent → Prop} {done : List Part} {op : Op} {ty : TypeId} {pos : String} {af : Array Edge} {rest : List Oper} {env : List (Nat × AV)} {own : List Ent} {fp : List Nat} {r : AV}
theorem W.qn (hq : Quiet P m ⟨none, op, ty, pos, af, none⟩ env own fp r) (h : Walk P m ops Q (.q fp :: done) rest env own) : Walk P m ops Q done (⟨none, op, ty, pos, af, none⟩ :: rest) env own := Walk.q fp r trivial hq h
end
end Go.Proofs.YtjaipchlnnjaeaaDoor
end

section
/- The machine of abstract values: bytes and strings as lists of numbers; rows that are made. No program in sight; no condition. -/
namespace Go.Proofs.YtjaipchlnnjaeaaDoor
open Go.RowKit
set_option linter.unusedVariables false
set_option linter.unusedSimpArgs false

def iD (n : Int) : List Dat := [.v (.int .i64 n)]
def nD (n : Nat) : List Dat := [.v (.int .u8 n)]
def tD (b : Bool) : List Dat := [.v (.bool b)]
def bytesOf (l : List Nat) : ByteArray := ⟨(l.map UInt8.ofNat).toArray⟩
def sD (l : List Nat) : List Dat := [.v (.string (bytesOf l))]
def rD (l : List Int) : List Dat := [.sl 1 (l.map iD)]
abbrev ints (l : List Int) : AV := .d (.sl 1 (l.map iD))
abbrev strs (l : List (List Nat)) : AV := .d (.sl 1 (l.map sD))
abbrev rowsA (l : List (List Int)) : AV := .d (.sl 1 (l.map rD))
abbrev bools (l : List Bool) : AV := .d (.sl 1 (l.map tD))
abbrev bS (l : List Nat) : AV := .d (.v (.string (bytesOf l)))
/-- Bytes. -/
def isB (l : List Nat) : Prop := ∀ x ∈ l, x < 256
theorem bytesOf_size (l : List Nat) : (bytesOf l).size = l.length := by simp [bytesOf, ByteArray.size]
theorem bytesOf_get {l : List Nat} (hb : isB l) (j : Nat) (hj : j < l.length) (h : j < (bytesOf l).size) : ((bytesOf l)[j]'h).toNat = l[j] := by
  have h1 : (bytesOf l)[j]'h = UInt8.ofNat l[j] := by simp [bytesOf, ByteArray.getElem_eq_getElem_data]
  rw [h1, UInt8.toNat_ofNat']
  exact Nat.mod_eq_of_lt (hb _ (List.getElem_mem hj))
theorem bytesOf_nat (s : ByteArray) : bytesOf (s.data.toList.map (·.toNat)) = s := by
  unfold bytesOf
  have : (List.map (fun x : UInt8 => x.toNat) s.data.toList).map UInt8.ofNat = s.data.toList := by
    rw [List.map_map]
    conv => rhs; rw [← List.map_id s.data.toList]
    apply List.map_congr_left
    intro x _
    simp
  rw [this]
theorem isB_nat (s : ByteArray) : isB (s.data.toList.map (·.toNat)) := fun x hx => by
  obtain ⟨b, _, rfl⟩ := List.mem_map.1 hx
  exact b.toNat_lt
theorem bytesOf_inj {l l' : List Nat} (h1 : isB l) (h2 : isB l') (h : bytesOf l = bytesOf l') : l = l' := by
  have h3 : l.map UInt8.ofNat = l'.map UInt8.ofNat := by
    have := congrArg (fun s : ByteArray => s.data.toList) h
    simpa [bytesOf] using this
  have e : ∀ l : List Nat, isB l → (l.map UInt8.ofNat).map (·.toNat) = l := fun l hl => by
    rw [List.map_map]
    conv => rhs; rw [← List.map_id l]
    apply List.map_congr_left
    intro x hx
    simp [Nat.mod_eq_of_lt (hl x hx)]
  rw [← e l h1, ← e l' h2, h3]

section
variable {P : Program} {m : Nat} {env : List (Nat × AV)} {own : List Ent} {dst : Option Tmp} {ty : TypeId} {pos : String} {af : Array Edge} {gd : Option (Nat × Bool)}
theorem q_len_bs {t : TypeId} {x : Operand} {l : List Nat} (hx : lookO env x = bS l) (ht : P.underlying t = some .string) :
    Quiet P m ⟨dst, .call ⟨.builtin .len, #[x], #[t]⟩, ty, pos, af, gd⟩ env own [] (iV l.length) := by
  have := q_len_str (P := P) (m := m) (own := own) (dst := dst) (ty := ty) (pos := pos) (af := af) (gd := gd) ht hx
  rwa [bytesOf_size] at this
theorem q_ix_bs {t : TypeId} {x y : Operand} {l : List Nat} {k : IntKind} {i : Int} {j : Nat} (hx : lookO env x = bS l) (hy : lookO env y = .d (.v (.int k i))) (ht : P.underlying t = some .string) (hij : i = j) (hj : j < l.length) (hb : isB l) :
    Quiet P m ⟨dst, .index t x y, ty, pos, af, gd⟩ env own [] (.d (.v (.int .u8 ((l[j]'hj : Nat) : Int)))) := by
  have := q_index_str (P := P) (m := m) (own := own) (dst := dst) (ty := ty) (pos := pos) (af := af) (gd := gd) i j ht hx hy hij (by rw [bytesOf_size]; exact hj)
  rwa [bytesOf_get hb j hj] at this
theorem q_slc_bs {t : TypeId} {x : Operand} {lo hi : Option Operand} {l : List Nat} (va vb : Nat) (hx : lookO env x = bS l) (ht : P.underlying t = some .string) (h1 : bnd env lo 0 va) (h2 : bnd env hi l.length vb) (hab : va ≤ vb) (hbn : vb ≤ l.length) :
    Quiet P m ⟨dst, .slice t x lo hi none, ty, pos, af, gd⟩ env own [] (bS ((l.drop va).take (vb - va))) := by
  have := q_slc_str (P := P) (m := m) (own := own) (dst := dst) (ty := ty) (pos := pos) (af := af) (gd := gd) va vb ht hx h1 (by rw [bytesOf_size]; exact h2) hab (by rw [bytesOf_size]; exact hbn)
  have e : (bytesOf l).extract va vb = bytesOf ((l.drop va).take (vb - va)) := by
    apply ByteArray.ext
    apply Array.ext'
    simp [bytesOf, ByteArray.data_extract, List.extract_eq_take_drop]
  rwa [e] at this

/-- Bytes' cells are read back as a string. -/
theorem run_str {w : World} {src dst' e : TypeId} {A : Option Addr} {c : Nat} {l : List Nat} (hb : isB l) (hs : P.underlying src = some (.slice e)) (he : P.underlying e = some (.int .u8)) (hd : P.underlying dst' = some .string)
    (hc : 0 < l.length → ∃ b o, A = some ⟨b, o, none⟩ ∧ ∀ j (hj : j < l.length), w.cell? ⟨b, o + j, none⟩ = some (.int .u8 ((l[j] : Nat) : Int))) :
    (convert src dst' (.slice A l.length c)).run P w = .ok (.string (bytesOf l)) w := by
  by_cases h0 : 0 < l.length
  · obtain ⟨b, o, rfl, h2⟩ := hc h0
    have := run_convert_bytes_back (P := P) w src dst' e ⟨b, o, none⟩ c (l.map UInt8.ofNat) hs he hd (fun j hj => by
      have hj' : j < l.length := by simpa using hj
      rw [add_none, h2 j hj']
      simp [Nat.mod_eq_of_lt (hb _ (List.getElem_mem hj'))])
    rwa [List.length_map] at this
  · have : l = [] := List.eq_nil_of_length_eq_zero (by omega)
    subst this
    rw [List.length_nil, run_convert_bytes_string w src dst' e A 0 c hs he hd]
    cases A with
    | none => rfl
    | some a =>
      have := run_bytesToString (P := P) w a 0 c [] (by simpa using run_loadCells_list (P := P) w a [] (fun j v hj => by simp at hj))
      rw [this]; rfl
def isByteSl (P : Program) (t : TypeId) : Bool := match P.underlying t with | some (.slice e) => (match P.underlying e with | some (.int .u8) => true | _ => false) | _ => false
theorem isByteSl_spec {t : TypeId} (h : isByteSl P t = true) : ∃ e, P.underlying t = some (.slice e) ∧ P.underlying e = some (.int .u8) := by
  unfold isByteSl at h
  split at h
  · rename_i e he
    split at h
    · rename_i h2; exact ⟨e, he, h2⟩
    · cases h
  · cases h
theorem q_str_osl {src dst' e' : TypeId} {x : Operand} {p ver n : Nat} {l : List Nat} (hx : lookO env x = .osl p ver 0 n) (hp : own[p]? = some (.row ver 1 e' (l.map nD))) (hs : isByteSl P src = true) (hd : P.underlying dst' = some .string) (hn : n = l.length) (hb : isB l) :
    Quiet P m ⟨dst, .convert src dst' x, ty, pos, af, gd⟩ env own [p] (bS l) :=
  Quiet.val fun F own' κ a w hsat ho hsame _ => by
    subst hn
    obtain ⟨e, he1, he2⟩ := isByteSl_spec hs
    have h1 := hsat x (by simp [Op.operands]); rw [hx, AV.sat] at h1
    have hp' : own'[p]? = some (.row ver 1 e' (l.map nD)) := by rw [hsame p (by simp)]; exact hp
    obtain ⟨h2, A, c, h3, h4, h5, h6⟩ := h1.2 1 e' _ hp'
    obtain ⟨h0, hent⟩ := ho.ent p _ hp'
    refine ⟨.string (bytesOf l), exec_v ?_, sat_v.2 rfl⟩
    rw [h3]
    refine run_str hb he1 he2 hd fun h0 => ?_
    rcases h6 (.inl h0) with ⟨g, g1, rfl, _⟩ | ⟨_, _, rfl⟩
    · rw [getD_some g1] at hent
      rcases hent with ⟨hxx, _⟩ | ⟨g', hg', cur, h7, h8, h9⟩
      · cases hxx
      · obtain rfl : g = g' := by simpa using hg'
        refine ⟨g, 0 * 1, rfl, fun j hj => ?_⟩
        obtain ⟨_, h10⟩ := Dat.rowsSat_iff.1 h9 j (nD l[j]) (by simp [hj])
        obtain ⟨u, h11, _, h12⟩ := Dat.rowSat_iff.1 h10 0 (.v (.int .u8 ((l[j] : Nat) : Int))) rfl
        rw [Dat.sat] at h12
        rw [← h12, ← h11]
        simp
    · omega
theorem e_makeG {α : Type} {f : α → List Dat} {t e : TypeId} {by' : Nat} {z : Value} {x y : Operand} {k k' : IntKind} {i : Int} {n q : Nat} {own' : List Ent} (v0 : α) (hx : lookO env x = .d (.v (.int k i))) (hy : lookO env y = .d (.v (.int k' i))) (hi : i = n) (hq : lenF own 0 = some q) (ht : slInfo P t = some (e, 1, by', z)) (hz : f v0 = [.v z]) (ho : pushF own (.row 0 1 e ((List.replicate n v0).map f)) = some own') (hz' : z.cells = #[z]) (h1 : z.oneCell' = true) (hby : Nat.ble by' 1024 = true) (hn : n ≤ 1000000000) :
    Eff P m ⟨dst, .makeSlice t x y, ty, pos, af, gd⟩ env own [q] (.osl q 0 0 n) own' := by
  refine e_makeF (z := z) hx hy hi hq ht ?_ hz' h1 hby hn
  rw [List.map_replicate, hz] at ho
  rw [List.map_replicate]; exact ho
/-- A conversion to a byte, of a number that fits. -/
theorem q_conv8 {src dst' : TypeId} {x : Operand} {k : IntKind} {n : Int} {v : Nat} (hx : lookO env x = .d (.v (.int k n))) (hs : (P.underlying src).isSome = true) (hd : isInt P dst' .u8 = true) (hn : n = (v : Int)) (h : v < 256) :
    Quiet P m ⟨dst, .convert src dst' x, ty, pos, af, gd⟩ env own [] (.d (.v (.int .u8 (v : Int)))) := by
  have := q_conv (P := P) (m := m) (env := env) (own := own) (dst := dst) (ty := ty) (pos := pos) (af := af) (gd := gd) (src := src) .u8 hs hd hx
  rwa [hn, capK_wrap (k := .u8) h] at this
end
end Go.Proofs.YtjaipchlnnjaeaaDoor
end
