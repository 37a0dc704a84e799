/- The machine of abstract values: reading memory. No program in sight; no condition. -/
import Derived.Test.YtffdhckilhhejaaKern3
namespace Go.Proofs.Ytffdhckilhhejaa
open Go.RowKit
set_option linter.unusedVariables false
set_option linter.unusedSimpArgs false

/-! ### What a type's rows say -/
/-- A slice type: its element type, the size, the bytes and the zero of an element. -/
def slInfo (P : Program) (t : TypeId) : Option (TypeId × Nat × Nat × Value) :=
  match P.underlying t with
  | some (.slice e) => match P.info? e with
    | some i => match i.zero with
      | some z => some (e, i.size, i.bytes, z)
      | none => none
    | none => none
  | _ => none
theorem slInfo_spec {P : Program} {t e : TypeId} {sz by' : Nat} {z : Value} (h : slInfo P t = some (e, sz, by', z)) : P.underlying t = some (.slice e) ∧ ∃ i, P.info? e = some i ∧ i.size = sz ∧ i.bytes = by' ∧ i.zero = some z := by
  unfold slInfo at h
  split at h
  · rename_i e' he
    split at h
    · rename_i i hi
      split at h
      · rename_i z' hz
        simp only [Option.some.injEq, Prod.mk.injEq] at h
        obtain ⟨rfl, h2, h3, rfl⟩ := h
        exact ⟨he, i, hi, h2, h3, hz⟩
      · cases h
    · cases h
  · cases h
/-- Is a value of the type an aggregate? Its size. -/
def tyInfo (P : Program) (t : TypeId) : Option (Bool × Nat) :=
  match P.underlying t, P.info? t with
  | some (.struct _), some i => some (true, i.size)
  | some (.array _ _), some i => some (true, i.size)
  | some _, some i => some (false, i.size)
  | _, _ => none
theorem tyInfo_spec {P : Program} {t : TypeId} {b : Bool} {n : Nat} (h : tyInfo P t = some (b, n)) : (∀ w, (isAgg t).run P w = .ok b w) ∧ ∃ i, P.info? t = some i ∧ i.size = n := by
  unfold tyInfo at h
  split at h
  · rename_i fs i h1 h2
    simp only [Option.some.injEq, Prod.mk.injEq] at h
    obtain ⟨rfl, h3⟩ := h
    exact ⟨fun w => by simp [isAgg, run_underlying h1], i, h2, h3⟩
  · rename_i k e i h1 h2
    simp only [Option.some.injEq, Prod.mk.injEq] at h
    obtain ⟨rfl, h3⟩ := h
    exact ⟨fun w => by simp [isAgg, run_underlying h1], i, h2, h3⟩
  · rename_i d i h0 h1 h2 h3
    simp only [Option.some.injEq, Prod.mk.injEq] at h
    obtain ⟨rfl, h4⟩ := h
    refine ⟨fun w => ?_, i, h3, h4⟩
    unfold isAgg
    rw [Sem.run_bind, run_underlying h2]
    simp only [Result.andThen_ok]
    rfl
  · cases h
/-- A struct's field: its offset (its type is not of size 0). -/
def fldInfo (P : Program) (s f : Nat) : Option (Nat × TypeId) :=
  match P.underlying s with
  | some (.struct fields) => match fields[f]? with
    | some fl => match P.info? fl.type with
      | some i => if i.size = 0 then none else some (fl.offset, fl.type)
      | none => none
    | none => none
  | _ => none
theorem fldInfo_spec {P : Program} {s f off : Nat} {t : TypeId} (h : fldInfo P s f = some (off, t)) : ∃ fields fl i, P.underlying s = some (.struct fields) ∧ fields[f]? = some fl ∧ P.info? fl.type = some i ∧ i.size ≠ 0 ∧ fl.offset = off ∧ fl.type = t := by
  unfold fldInfo at h
  split at h
  · rename_i fields h1
    split at h
    · rename_i fl h2
      split at h
      · rename_i i h3
        split at h
        · cases h
        · rename_i h4
          simp only [Option.some.injEq, Prod.mk.injEq] at h
          exact ⟨fields, fl, i, h1, h2, h3, h4, h.1, h.2⟩
      · cases h
    · cases h
  · cases h

section
variable {P : Program} {m : Nat} {env : List (Nat × AV)} {own : List Ent} {dst : Option Tmp} {ty : TypeId} {pos : String} {af : Array Edge} {gd : Option (Nat × Bool)}

theorem exec_builtin {a : Act} {b : Builtin} {args : Array Operand} {ts : Array TypeId} {w : World} :
    (execOp a.eval ⟨dst, .call ⟨.builtin b, args, ts⟩, ty, pos, af, gd⟩).run P w = (builtin b ts ty (args.map fun | .const _ => true | _ => false) (args.map a.eval)).run P w := by
  simp [execOp, resolve, invoke]
  rfl

def isSl (P : Program) (t : TypeId) : Bool := match P.underlying t with | some (.slice _) => true | _ => false
theorem isSl_spec {t : TypeId} (h : isSl P t = true) : ∃ e, P.underlying t = some (.slice e) := by
  unfold isSl at h
  split at h
  · rename_i e he; exact ⟨e, he⟩
  · cases h
theorem run_len_sl {t : TypeId} (h : isSl P t = true) (A : Option Addr) (n c : Nat) (w : World) : (Builtin.len_ #[t] ty #[.slice A n c]).run P w = .ok (.int .i64 n) w := by
  obtain ⟨e, he⟩ := isSl_spec h
  simp [Builtin.len_, run_underlying he, goInt]
theorem q_len_sl {t : TypeId} {x : Operand} {sz : Nat} {l : List (List Dat)} (ht : isSl P t = true) (hx : lookO env x = .d (.sl sz l)) :
    Quiet P m ⟨dst, .call ⟨.builtin .len, #[x], #[t]⟩, ty, pos, af, gd⟩ env own [] (iV l.length) :=
  Quiet.val fun F own' κ a w hs _ _ _ => by
    have h1 := hs x (by simp [Op.operands, Call.operands]); rw [hx, AV.sat, Dat.sat] at h1
    obtain ⟨A, c, h2, _⟩ := h1
    refine ⟨.int .i64 l.length, ?_, sat_v.2 rfl⟩
    rw [exec_builtin]
    simp only [builtin]
    exact exec_v (by simp only [List.map_toArray, List.map_cons, List.map_nil, h2]; exact run_len_sl ht A _ c w)
theorem q_len_osl {t : TypeId} {x : Operand} {i ver j n sz : Nat} {e : TypeId} {l : List (List Dat)} (ht : isSl P t = true) (hx : lookO env x = .osl i ver j n) (hi : own[i]? = some (.row ver sz e l)) :
    Quiet P m ⟨dst, .call ⟨.builtin .len, #[x], #[t]⟩, ty, pos, af, gd⟩ env own [i] (iV n) :=
  Quiet.val fun F own' κ a w hs _ hsame _ => by
    have h1 := hs x (by simp [Op.operands, Call.operands]); rw [hx, AV.sat] at h1
    obtain ⟨_, A, c, h2, _⟩ := h1.2 sz e l (by rw [hsame i (by simp)]; exact hi)
    refine ⟨.int .i64 n, ?_, sat_v.2 rfl⟩
    rw [exec_builtin]
    simp only [builtin]
    exact exec_v (by simp only [List.map_toArray, List.map_cons, List.map_nil, h2]; exact run_len_sl ht A _ c w)
theorem q_len_nil {t : TypeId} {x : Operand} {A : Option Addr} {n c : Nat} (ht : isSl P t = true) (hx : lookO env x = .d (.v (.slice A n c))) :
    Quiet P m ⟨dst, .call ⟨.builtin .len, #[x], #[t]⟩, ty, pos, af, gd⟩ env own [] (iV n) :=
  Quiet.val fun F own' κ a w hs _ hsame _ => by
    have h1 := hs x (by simp [Op.operands, Call.operands]); rw [hx, sat_v] at h1
    refine ⟨.int .i64 n, ?_, sat_v.2 rfl⟩
    rw [exec_builtin]
    simp only [builtin]
    exact exec_v (by simp only [List.map_toArray, List.map_cons, List.map_nil, h1]; exact run_len_sl ht A _ c w)
theorem q_len_str {t : TypeId} {x : Operand} {s : ByteArray} (ht : P.underlying t = some .string) (hx : lookO env x = .d (.v (.string s))) :
    Quiet P m ⟨dst, .call ⟨.builtin .len, #[x], #[t]⟩, ty, pos, af, gd⟩ env own [] (iV s.size) :=
  Quiet.val fun F own' κ a w hs _ hsame _ => by
    have h1 := hs x (by simp [Op.operands, Call.operands]); rw [hx, sat_v] at h1
    refine ⟨.int .i64 s.size, ?_, sat_v.2 rfl⟩
    rw [exec_builtin]
    simp only [builtin]
    exact exec_v (by simp [h1, Builtin.len_, run_underlying ht, goInt])
theorem q_min {x y : Operand} {ts : Array TypeId} {k : IntKind} {a b : Int} (hx : lookO env x = .d (.v (.int k a))) (hy : lookO env y = .d (.v (.int k b))) :
    Quiet P m ⟨dst, .call ⟨.builtin .min, #[x, y], ts⟩, ty, pos, af, gd⟩ env own [] (.d (.v (.int k (if b < a then b else a)))) :=
  Quiet.val fun F own' κ ac w hs _ hsame _ => by
    have h1 := hs x (by simp [Op.operands, Call.operands]); rw [hx, sat_v] at h1
    have h2 := hs y (by simp [Op.operands, Call.operands]); rw [hy, sat_v] at h2
    refine ⟨.int k (if b < a then b else a), ?_, sat_v.2 rfl⟩
    rw [exec_builtin]
    simp only [builtin]
    refine exec_v ?_
    simp [h1, h2, Builtin.min_, Builtin.min2]
    try (split <;> rfl)
theorem q_max {x y : Operand} {ts : Array TypeId} {k : IntKind} {a b : Int} (hx : lookO env x = .d (.v (.int k a))) (hy : lookO env y = .d (.v (.int k b))) :
    Quiet P m ⟨dst, .call ⟨.builtin .max, #[x, y], ts⟩, ty, pos, af, gd⟩ env own [] (.d (.v (.int k (if b > a then b else a)))) :=
  Quiet.val fun F own' κ ac w hs _ hsame _ => by
    have h1 := hs x (by simp [Op.operands, Call.operands]); rw [hx, sat_v] at h1
    have h2 := hs y (by simp [Op.operands, Call.operands]); rw [hy, sat_v] at h2
    refine ⟨.int k (if b > a then b else a), ?_, sat_v.2 rfl⟩
    rw [exec_builtin]
    simp only [builtin]
    refine exec_v ?_
    simp [h1, h2, Builtin.max_, Builtin.max2]
    try (split <;> rfl)

/-! ### Addresses -/
theorem add_none (b o n : Nat) : (⟨b, o, none⟩ : Addr).add n = ⟨b, o + n, none⟩ := by unfold Addr.add; split <;> simp_all
theorem run_indexAt {t e : TypeId} {sz by' : Nat} {z : Value} (ht : slInfo P t = some (e, sz, by', z)) (b o n c : Nat) (k : IntKind) (j : Nat) (hj : j < n) (w : World) :
    (Instr.indexAt t (.slice (some ⟨b, o, none⟩) n c) (.int k (j : Int))).run P w = .ok (.pointer (some ⟨b, o + j * sz, none⟩)) w := by
  obtain ⟨h1, i, h2, rfl, _, _⟩ := slInfo_spec ht
  simp [Instr.indexAt, asIntOf, run_underlying h1, sizeOf, typeInfo, h2, hj, add_none]
theorem q_ix_sl {t e : TypeId} {sz by' : Nat} {z : Value} {x y : Operand} {l : List (List Dat)} {k : IntKind} (i : Int) (j : Nat) (ht : slInfo P t = some (e, sz, by', z)) (hx : lookO env x = .d (.sl sz l)) (hy : lookO env y = .d (.v (.int k i))) (hij : i = j) (hj : j < l.length) :
    Quiet P m ⟨dst, .indexAddr t x y, ty, pos, af, gd⟩ env own [] (.fpt sz l j 0) :=
  Quiet.val fun F own' κ a w hs _ _ _ => by
    have h1 := hs x (by simp [Op.operands]); rw [hx, AV.sat, Dat.sat] at h1
    have h2 := hs y (by simp [Op.operands]); rw [hy, sat_v] at h2
    obtain ⟨A, c, h3, h4, h5, h6⟩ := h1
    obtain ⟨b, o, rfl, h7, h8, h9⟩ := h6 (by omega)
    refine ⟨.pointer (some ⟨b, o + j * sz, none⟩), exec_v ?_, ?_⟩
    · rw [h3, h2, hij]; exact run_indexAt ht b o _ c k j hj w
    · rw [AV.sat]; exact ⟨b, o, by simp, h7, h8, h9⟩
theorem q_ix_osl {t e e' : TypeId} {sz by' : Nat} {z : Value} {x y : Operand} {p ver q n : Nat} {l : List (List Dat)} {k : IntKind} (i : Int) (j : Nat) (ht : slInfo P t = some (e, sz, by', z)) (hx : lookO env x = .osl p ver q n) (hp : own[p]? = some (.row ver sz e' l)) (hy : lookO env y = .d (.v (.int k i))) (hij : i = j) (hj : j < n) :
    Quiet P m ⟨dst, .indexAddr t x y, ty, pos, af, gd⟩ env own [p] (.rpt p ver (q + j) 0) :=
  Quiet.val fun F own' κ a w hs _ hsame _ => by
    have h1 := hs x (by simp [Op.operands]); rw [hx, AV.sat] at h1
    have h2 := hs y (by simp [Op.operands]); rw [hy, sat_v] at h2
    have hp' : own'[p]? = some (.row ver sz e' l) := by rw [hsame p (by simp)]; exact hp
    obtain ⟨h3, A, c, h4, h5, h6, h7⟩ := h1.2 sz e' l hp'
    rcases h7 (.inl (by omega)) with ⟨g, g1, g2, _⟩ | ⟨_, _, rfl⟩
    · refine ⟨.pointer (some ⟨g, q * sz + j * sz, none⟩), exec_v ?_, ?_⟩
      · rw [h4, h2, hij, g2]; exact run_indexAt ht g _ _ c k j hj w
      · rw [AV.sat]
        refine ⟨by obtain ⟨y1, y2, y3, _⟩ := h1.1; exact ⟨y1, y2, y3, rfl⟩, fun sz2 e2 c2 hc => ?_⟩
        rw [hp'] at hc
        obtain ⟨rfl, rfl, rfl⟩ : sz = sz2 ∧ e' = e2 ∧ l = c2 := by simpa using hc
        exact ⟨by omega, g, g1, by rw [Nat.add_mul]; simp⟩
    · omega
theorem run_fieldAt {s f off : Nat} {t : TypeId} (h : fldInfo P s f = some (off, t)) (b o : Nat) (w : World) : (Instr.fieldAt s (.pointer (some ⟨b, o, none⟩)) f).run P w = .ok (.pointer (some ⟨b, o + off, none⟩)) w := by
  obtain ⟨fields, fl, i, h1, h2, h3, h4, rfl, rfl⟩ := fldInfo_spec h
  simp [Instr.fieldAt, run_underlying h1, h2, Instr.sureAddr, fieldPlace, sizeOf, typeInfo, h3, h4, add_none]
theorem q_fld_opt {s f off : Nat} {t : TypeId} {x : Operand} {i o : Nat} (h : fldInfo P s f = some (off, t)) (hx : lookO env x = .opt i o) : Quiet P m ⟨dst, .fieldAddr s x f, ty, pos, af, gd⟩ env own [] (.opt i (o + off)) :=
  Quiet.val fun F own' κ a w hs _ _ _ => by
    have h1 := hs x (by simp [Op.operands]); rw [hx, AV.sat] at h1
    obtain ⟨g, l, h2, h3, h4⟩ := h1
    refine ⟨_, exec_v (by rw [h4]; exact run_fieldAt h g o w), ?_⟩
    rw [AV.sat]; exact ⟨g, l, h2, h3, rfl⟩
theorem q_fld_fpt {s f off : Nat} {t : TypeId} {x : Operand} {sz j o : Nat} {l : List (List Dat)} (h : fldInfo P s f = some (off, t)) (hx : lookO env x = .fpt sz l j o) : Quiet P m ⟨dst, .fieldAddr s x f, ty, pos, af, gd⟩ env own [] (.fpt sz l j (o + off)) :=
  Quiet.val fun F own' κ a w hs _ _ _ => by
    have h1 := hs x (by simp [Op.operands]); rw [hx, AV.sat] at h1
    obtain ⟨b, q, h2, h3, h4, h5⟩ := h1
    refine ⟨_, exec_v (by rw [h2]; exact run_fieldAt h b _ w), ?_⟩
    rw [AV.sat]; exact ⟨b, q, by rw [show q + j * sz + (o + off) = q + j * sz + o + off from by omega], h3, h4, h5⟩
theorem q_fld_rpt {s f off : Nat} {t : TypeId} {x : Operand} {i ver j o : Nat} (h : fldInfo P s f = some (off, t)) (hx : lookO env x = .rpt i ver j o) {sz : Nat} {e : TypeId} {l : List (List Dat)} (hi : own[i]? = some (.row ver sz e l)) : Quiet P m ⟨dst, .fieldAddr s x f, ty, pos, af, gd⟩ env own [i] (.rpt i ver j (o + off)) :=
  Quiet.val fun F own' κ a w hs _ hsame _ => by
    have h1 := hs x (by simp [Op.operands]); rw [hx, AV.sat] at h1
    have hp' : own'[i]? = some (.row ver sz e l) := by rw [hsame i (by simp)]; exact hi
    obtain ⟨h2, g, h3, h4⟩ := h1.2 sz e l hp'
    refine ⟨_, exec_v (by rw [h4]; exact run_fieldAt h g _ w), ?_⟩
    rw [AV.sat]
    refine ⟨by obtain ⟨y1, y2, y3, _⟩ := h1.1; exact ⟨y1, y2, y3, rfl⟩, fun sz2 e2 c2 hc => ?_⟩
    rw [hp'] at hc
    obtain ⟨rfl, rfl, rfl⟩ : sz = sz2 ∧ e = e2 ∧ l = c2 := by simpa using hc
    exact ⟨h2, g, h3, by rw [show j * sz + (o + off) = j * sz + o + off from by omega]⟩

/-! ### Loads -/
theorem run_loadAt_one {t : TypeId} {n : Nat} (ht : tyInfo P t = some (false, n)) {b o : Nat} {w : World} {u : Value} (hc : w.cell? ⟨b, o, none⟩ = some u) : (Instr.loadAt t (.pointer (some ⟨b, o, none⟩))).run P w = .ok u w := by
  obtain ⟨h1, i, h2, h3⟩ := tyInfo_spec ht
  simp [Instr.loadAt, Instr.sureAddr, loadVar, h1 w, run_load, hc]
theorem run_loadAt_agg {t : TypeId} {n : Nat} (ht : tyInfo P t = some (true, n)) {b o : Nat} {w : World} (us : List Value) (hl : us.length = n) (hc : ∀ j u, us[j]? = some u → w.cell? ⟨b, o + j, none⟩ = some u) : (Instr.loadAt t (.pointer (some ⟨b, o, none⟩))).run P w = .ok (.agg us.toArray) w := by
  obtain ⟨h1, i, h2, h3⟩ := tyInfo_spec ht
  have hq := run_loadCells_list (P := P) w ⟨b, o, none⟩ us (fun j u hu => by rw [add_none]; exact hc j u hu)
  simp [Instr.loadAt, Instr.sureAddr, loadVar, h1 w, sizeOf, typeInfo, h2, h3, ← hl, hq]
theorem q_ld_fpt {t : TypeId} {k : Nat} {x : Operand} {sz j o : Nat} {l : List (List Dat)} {e : List Dat} {y : Dat} (ht : tyInfo P t = some (false, k)) (hx : lookO env x = .fpt sz l j o) (he : l[j]? = some e) (hy : e[o]? = some y) :
    Quiet P m ⟨dst, .load t x, ty, pos, af, gd⟩ env own [] (.d y) :=
  Quiet.val fun F own' κ a w hs _ _ _ => by
    have h1 := hs x (by simp [Op.operands]); rw [hx, AV.sat] at h1
    obtain ⟨b, q, h2, h3, h4, h5⟩ := h1
    obtain ⟨h6, h7⟩ := Dat.rowsSat_iff.1 h5 j e he
    obtain ⟨u, h8, h9, h10⟩ := Dat.rowSat_iff.1 h7 o y hy
    exact ⟨u, exec_v (by rw [h2]; exact run_loadAt_one ht h8), by rw [AV.sat]; exact h10⟩
theorem q_ld_fpts {t : TypeId} {k : Nat} {x : Operand} {sz j : Nat} {l : List (List Dat)} {e : List Dat} (ht : tyInfo P t = some (true, k)) (hx : lookO env x = .fpt sz l j 0) (hk : k = sz) (he : l[j]? = some e) :
    Quiet P m ⟨dst, .load t x, ty, pos, af, gd⟩ env own [] (.agg (e.map .d)) :=
  Quiet.val fun F own' κ a w hs _ _ _ => by
    have h1 := hs x (by simp [Op.operands]); rw [hx, AV.sat] at h1
    obtain ⟨b, q, h2, h3, h4, h5⟩ := h1
    obtain ⟨h6, h7⟩ := Dat.rowsSat_iff.1 h5 j e he
    have h7 := Dat.rowSat_iff.1 h7
    let us := (List.range e.length).map fun i => ((w.cell? ⟨b, q + j * sz + i, none⟩).getD undef)
    have hus : ∀ (i : Nat) (y : Dat), e[i]? = some y → ∃ u, us[i]? = some u ∧ w.cell? ⟨b, q + j * sz + i, none⟩ = some u ∧ Dat.sat (badK F κ) w y u := fun i y hy => by
      obtain ⟨u, h8, h9, h10⟩ := h7 i y hy
      have hlt : i < e.length := (List.getElem?_eq_some_iff.1 hy).1
      exact ⟨u, by simp [us, hlt, h8], h8, h10⟩
    have hrun : (Instr.loadAt t (.pointer (some ⟨b, q + j * sz + 0, none⟩))).run P w = .ok (.agg us.toArray) w := by
      refine run_loadAt_agg ht us (by simp [us, h6, hk]) fun i u hu => ?_
      have hlt : i < e.length := by have := (List.getElem?_eq_some_iff.1 hu).1; simpa [us] using this
      obtain ⟨u', h8, h9, _⟩ := hus i _ (List.getElem?_eq_getElem hlt)
      rw [hu] at h8; obtain rfl : u = u' := by simpa using h8
      rw [Nat.add_zero]; exact h9
    refine ⟨.agg us.toArray, exec_v (by rw [h2]; exact hrun), ?_⟩
    · rw [AV.sat]
      refine ⟨_, rfl, satL_of (by simp [us]) fun i y hy => ?_⟩
      rw [List.getElem?_map] at hy
      cases he' : e[i]? with
      | none => simp [he'] at hy
      | some d =>
        obtain rfl : AV.d d = y := by simpa [he'] using hy
        obtain ⟨u, h8, _, h9⟩ := hus i d he'
        exact ⟨u, by simpa using h8, by rw [AV.sat]; exact h9⟩
theorem box_block {F : Nat → Prop} {own' : List Ent} {κ : List (Option Nat)} {w : World} (ho : OwnSat F own' κ w) {i g : Nat} {l l' : List AV} (hl : own'[i]? = some (.box l)) (hg : κ[i]? = some (some g)) :
    ∃ cur t, w.heap[g]? = some (.cells cur t (0, 0)) ∧ AV.satL F own' κ w l cur.toList ∧ ∀ u ∈ cur.toList, u.oneCell' = true := by
  obtain ⟨g', hg', cur, t, h1, h2, h3⟩ := ho.ent i _ hl
  rw [getD_some hg] at hg'
  obtain rfl : g = g' := by simpa using hg'
  exact ⟨cur, t, h1, h2, h3⟩
theorem q_ld_box {t : TypeId} {k : Nat} {x : Operand} {i o : Nat} {l : List AV} {y : AV} (ht : tyInfo P t = some (false, k)) (hx : lookO env x = .opt i o) (hl : own[i]? = some (.box l)) (hy : l[o]? = some y) :
    Quiet P m ⟨dst, .load t x, ty, pos, af, gd⟩ env own [i] y :=
  Quiet.val fun F own' κ a w hs ho hsame _ => by
    have h1 := hs x (by simp [Op.operands]); rw [hx, AV.sat] at h1
    have hl' : own'[i]? = some (.box l) := by rw [hsame i (by simp)]; exact hl
    obtain ⟨g, l2, h2, h3, h4⟩ := h1
    obtain ⟨cur, t2, h5, h6, h7⟩ := box_block (l' := l) ho hl' h3
    obtain ⟨u, h8, h9⟩ := satL_get h6 o y hy
    have hc : w.cell? ⟨g, o, none⟩ = some u := by rw [cell_of_row w g o cur t2 (0, 0) h5]; simpa using h8
    exact ⟨u, exec_v (by rw [h4]; exact run_loadAt_one ht hc), h9⟩
theorem q_ld_boxs {t : TypeId} {k : Nat} {x : Operand} {i o : Nat} {l : List AV} (ht : tyInfo P t = some (true, k)) (hx : lookO env x = .opt i o) (hl : own[i]? = some (.box l)) (hk : o + k ≤ l.length) :
    Quiet P m ⟨dst, .load t x, ty, pos, af, gd⟩ env own [i] (.agg ((l.drop o).take k)) :=
  Quiet.val fun F own' κ a w hs ho hsame _ => by
    have h1 := hs x (by simp [Op.operands]); rw [hx, AV.sat] at h1
    have hl' : own'[i]? = some (.box l) := by rw [hsame i (by simp)]; exact hl
    obtain ⟨g, l2, h2, h3, h4⟩ := h1
    obtain ⟨cur, t2, h5, h6, h7⟩ := box_block (l' := l) ho hl' h3
    have hcl := satL_length h6
    have hrun : (Instr.loadAt t (.pointer (some ⟨g, o, none⟩))).run P w = .ok (.agg ((cur.toList.drop o).take k).toArray) w := by
      refine run_loadAt_agg ht _ (by simp; simp at hcl; omega) fun j u hu => ?_
      rw [cell_of_row w g (o + j) cur t2 (0, 0) h5]
      rw [List.getElem?_take] at hu
      split at hu
      · rw [List.getElem?_drop] at hu; simpa using hu
      · cases hu
    refine ⟨.agg ((cur.toList.drop o).take k).toArray, exec_v (by rw [h4]; exact hrun), ?_⟩
    rw [AV.sat]
    refine ⟨_, rfl, satL_of (by simp; simp at hcl; omega) fun j y hy => ?_⟩
    rw [List.getElem?_take] at hy
    split at hy
    · rename_i hlt
      rw [List.getElem?_drop] at hy
      obtain ⟨u, h8, h9⟩ := satL_get h6 _ y hy
      refine ⟨u, ?_, h9⟩
      rw [List.getElem?_take, if_pos hlt, List.getElem?_drop]; exact h8
    · cases hy
theorem q_ld_rpt {t : TypeId} {k : Nat} {x : Operand} {i ver j o sz : Nat} {e : TypeId} {l : List (List Dat)} {c : List Dat} {y : Dat} (ht : tyInfo P t = some (false, k)) (hx : lookO env x = .rpt i ver j o) (hi : own[i]? = some (.row ver sz e l)) (hc : l[j]? = some c) (hy : c[o]? = some y) :
    Quiet P m ⟨dst, .load t x, ty, pos, af, gd⟩ env own [i] (.d y) :=
  Quiet.val fun F own' κ a w hs ho hsame _ => by
    have h1 := hs x (by simp [Op.operands]); rw [hx, AV.sat] at h1
    have hp' : own'[i]? = some (.row ver sz e l) := by rw [hsame i (by simp)]; exact hi
    obtain ⟨h2, g, h3, h4⟩ := h1.2 sz e l hp'
    obtain ⟨h0, h5⟩ := ho.ent i _ hp'
    rw [getD_some h3] at h5
    rcases h5 with ⟨h5, _⟩ | ⟨g', h5, cur, h6, h7, h8⟩
    · cases h5
    · obtain rfl : g = g' := by simpa using h5
      obtain ⟨h9, h10⟩ := Dat.rowsSat_iff.1 h8 j c hc
      obtain ⟨u, h11, h12, h13⟩ := Dat.rowSat_iff.1 h10 o y hy
      refine ⟨u, exec_v (by rw [h4]; exact run_loadAt_one ht (by rw [Nat.zero_add] at h11; exact h11)), by rw [AV.sat]; exact h13⟩
end
end Go.Proofs.Ytffdhckilhhejaa
