/- The machine of abstract values: slices of slices and strings, literals, function values. No program in sight; no condition. -/
import Derived.Test.YtffdhckilhhejaaKern4
namespace Go.Proofs.Ytffdhckilhhejaa
open Go.RowKit
set_option linter.unusedVariables false
set_option linter.unusedSimpArgs false

/-- A bound of a slice expression: left out, or a number. -/
def bnd (env : List (Nat × AV)) (y : Option Operand) (d v : Nat) : Prop :=
  match y with
  | none => v = d
  | some y => ∃ k i, lookO env y = .d (.v (.int k i)) ∧ i = (v : Int)

/-- Cells of a value: of an aggregate, or the value itself. -/
def cellsA : AV → Option (List AV)
  | .agg l => some l
  | .top | .tup _ => none
  | x => some [x]
def oneA : AV → Bool
  | .d (.v u) => u.oneCell'
  | .top | .agg _ | .tup _ => false
  | _ => true
def datOf : AV → Option Dat
  | .d x => some x
  | _ => none
def cellsD : AV → Option (List Dat)
  | .d (.v u) => if u.oneCell' then some [.v u] else none
  | .d x => some [x]
  | .agg l => l.mapM datOf
  | _ => none

section
variable {P : Program} {m : Nat} {env : List (Nat × AV)} {own : List Ent} {dst : Option Tmp} {ty : TypeId} {pos : String} {af : Array Edge} {gd : Option (Nat × Bool)}

theorem run_bound {F : Nat → Prop} {own' : List Ent} {κ : List (Option Nat)} {w : World} {a : Act} {y : Operand} {d v : Nat} (h : bnd env (some y) d v) (hs : AV.sat F own' κ w (lookO env y) (a.eval y)) {top : Nat} (hle : v ≤ top) (code : BoundsCode) :
    (Instr.sliceBound (a.eval y) top code).run P w = .ok v w := by
  obtain ⟨k, i, h1, h2⟩ := h
  rw [h1, sat_v] at hs
  rw [hs, h2]
  simp [Instr.sliceBound, asIntOf, hle]

theorem run_bounds {F : Nat → Prop} {own' : List Ent} {κ : List (Option Nat)} {w : World} {a : Act} {lo hi mx : Option Operand} {n c va vb vm : Nat} (isS : Bool) (hsat : ∀ y, y ∈ lo ∨ y ∈ hi ∨ y ∈ mx → AV.sat F own' κ w (lookO env y) (a.eval y))
    (h1 : bnd env lo 0 va) (h2 : bnd env hi n vb) (h3 : bnd env mx c vm) (hab : va ≤ vb) (hbm : vb ≤ vm) (hmc : vm ≤ c) (hmx : mx = none ∨ hi.isSome = true) :
    (Instr.sliceBounds isS n c (lo.map a.eval) (hi.map a.eval) (mx.map a.eval)).run P w = .ok (va, vb, vm) w := by
  have e1 : ∀ code, (match lo.map a.eval with | some v => Instr.sliceBound v vb code | none => pure 0 : Sem Nat).run P w = .ok va w := fun code => by
    cases lo with
    | none => simp [bnd] at h1; subst h1; rfl
    | some y => exact run_bound h1 (hsat y (by simp)) hab code
  cases mx with
  | none =>
    simp only [bnd] at h3; subst h3
    cases hi with
    | none =>
      simp only [bnd] at h2; subst h2
      have := e1 .sliceB
      cases lo with
      | none => simp [bnd] at h1; subst h1; simp [Instr.sliceBounds]
      | some y =>
        simp only [Option.map_some] at this
        simp [Instr.sliceBounds, this]
    | some z =>
      have e2 := fun code => run_bound (P := P) h2 (hsat z (by simp)) hbm code
      have := e1 .sliceB
      cases lo with
      | none => simp [bnd] at h1; subst h1; simp [Instr.sliceBounds, e2]
      | some y =>
        simp only [Option.map_some] at this
        simp [Instr.sliceBounds, this, e2]
  | some x =>
    have e3 := fun code => run_bound (P := P) h3 (hsat x (by simp)) hmc code
    cases hi with
    | none => simp at hmx
    | some z =>
      have e2 := fun code => run_bound (P := P) h2 (hsat z (by simp)) hbm code
      have := e1 .slice3C
      cases lo with
      | none => simp [bnd] at h1; subst h1; simp [Instr.sliceBounds, e2, e3]
      | some y =>
        simp only [Option.map_some] at this
        simp [Instr.sliceBounds, this, e2, e3]

theorem mem_slice {x : Operand} {t : TypeId} {lo hi mx : Option Operand} {y : Operand} (h : y ∈ lo ∨ y ∈ hi ∨ y ∈ mx) : y ∈ (Op.slice t x lo hi mx).operands := by
  simp only [Op.operands, Array.mem_append]
  rcases h with h | h | h <;> simp_all

/-- 'x[lo:hi:mx]' of data. -/
theorem q_slc_sl {t e : TypeId} {sz by' : Nat} {z : Value} {x : Operand} {lo hi mx : Option Operand} {l : List (List Dat)} (va vb : Nat) (ht : slInfo P t = some (e, sz, by', z)) (hx : lookO env x = .d (.sl sz l))
    (h1 : bnd env lo 0 va) (h2 : bnd env hi l.length vb) (hab : va ≤ vb) (hbn : vb ≤ l.length) (h3 : mx = none ∨ (mx.isSome = true ∧ hi.isSome = true ∧ ∃ vm, bnd env mx 0 vm ∧ vb ≤ vm ∧ vm ≤ l.length)) :
    Quiet P m ⟨dst, .slice t x lo hi mx, ty, pos, af, gd⟩ env own [] (.d (.sl sz ((l.drop va).take (vb - va)))) :=
  Quiet.val fun F own' κ a w hs _ _ _ => by
    have hh := hs x (by simp [Op.operands]); rw [hx, AV.sat, Dat.sat] at hh
    obtain ⟨A, c, h4, h5, h6, h7⟩ := hh
    obtain ⟨he, i, hi1, hi2, _, _⟩ := slInfo_spec ht
    obtain ⟨vm, h8, h9, h10, h11⟩ : ∃ vm, bnd env mx c vm ∧ vb ≤ vm ∧ vm ≤ c ∧ (mx = none ∨ hi.isSome = true) := by
      rcases h3 with rfl | ⟨h0, h11, vm, h8, h9, h10⟩
      · exact ⟨c, rfl, by omega, Nat.le_refl _, .inl rfl⟩
      · refine ⟨vm, ?_, h9, by omega, .inr h11⟩
        cases mx with
        | none => simp at h0
        | some _ => exact h8
    have hb := run_bounds (P := P) (a := a) true (fun y hy => hs y (mem_slice hy)) h1 h2 h8 hab h9 h10 h11
    refine ⟨.slice (if vm = va then A else A.map (·.add (va * sz))) (vb - va) (vm - va), exec_v ?_, ?_⟩
    · simp [h4, Instr.sliceAt, run_underlying he, Instr.slice, hb, sizeOf, typeInfo, hi1, hi2]
    · rw [AV.sat, Dat.sat]
      have hlen : ((l.drop va).take (vb - va)).length = vb - va := by simp; omega
      refine ⟨_, vm - va, by rw [hlen], by omega, by omega, fun hp => ?_⟩
      obtain ⟨b, o, rfl, h12, h13, h14⟩ := h7 (by omega)
      rw [if_neg (by omega)]
      refine ⟨b, o + va * sz, by simp [add_none], h12, h13, ?_⟩
      rw [Dat.rowsSat_iff] at h14 ⊢
      intro j e' hj
      rw [List.getElem?_take] at hj
      split at hj
      · rw [List.getElem?_drop] at hj
        have := h14 _ e' hj
        rwa [show o + va * sz + j * sz = o + (va + j) * sz from by rw [Nat.add_mul]; omega]
      · cases hj

/-- 'x[lo:hi]' of a row of the call's own. -/
theorem q_slc_osl {t e e' : TypeId} {sz by' : Nat} {z : Value} {x : Operand} {lo hi : Option Operand} {p ver q n : Nat} {l : List (List Dat)} (va vb : Nat) (ht : slInfo P t = some (e, sz, by', z)) (hx : lookO env x = .osl p ver q n) (hp : own[p]? = some (.row ver sz e' l))
    (h1 : bnd env lo 0 va) (h2 : bnd env hi n vb) (hab : va ≤ vb) (hbn : vb ≤ n) : Quiet P m ⟨dst, .slice t x lo hi none, ty, pos, af, gd⟩ env own [p] (.osl p ver (q + va) (vb - va)) :=
  Quiet.val fun F own' κ a w hs _ hsame _ => by
    have hh := hs x (by simp [Op.operands]); rw [hx, AV.sat] at hh
    have hp' : own'[p]? = some (.row ver sz e' l) := by rw [hsame p (by simp)]; exact hp
    obtain ⟨h3, A, c, h4, h5, h6, h7⟩ := hh.2 sz e' l hp'
    obtain ⟨he, i, hi1, hi2, _, _⟩ := slInfo_spec ht
    have hb := run_bounds (P := P) (a := a) (mx := none) true (fun y hy => hs y (mem_slice (x := x) (t := t) hy)) h1 h2 (show bnd env none c c from rfl) hab (by omega) (Nat.le_refl _) (.inl rfl)
    refine ⟨.slice (if c = va then A else A.map (·.add (va * sz))) (vb - va) (c - va), exec_v ?_, ?_⟩
    · simp only [Option.map_none] at hb
      simp [h4, Instr.sliceAt, run_underlying he, Instr.slice, hb, sizeOf, typeInfo, hi1, hi2]
    · rw [AV.sat]
      refine ⟨by obtain ⟨y1, y2, y3, _⟩ := hh.1; exact ⟨y1, y2, y3, rfl⟩, fun sz2 e2 c2 hc => ?_⟩
      rw [hp'] at hc
      obtain ⟨rfl, rfl, rfl⟩ : sz = sz2 ∧ e' = e2 ∧ l = c2 := by simpa using hc
      refine ⟨by omega, _, c - va, rfl, by omega, by omega, fun hpos => ?_⟩
      have hcond : 0 < n ∨ q = 0 := by omega
      rcases h7 hcond with ⟨g, g1, rfl, cur, e3, fz, g3, g4⟩ | ⟨g1, rfl, rfl⟩
      · refine .inl ⟨g, g1, ?_, cur, e3, fz, g3, by rwa [show q + va + (c - va) = q + c from by omega]⟩
        split
        · have : va = 0 := by omega
          subst this; rfl
        · simp [add_none, Nat.add_mul]
      · refine .inr ⟨g1, ?_, by omega⟩
        split <;> simp
/-- 'x[lo:hi]' of a string. -/
theorem q_slc_str {t : TypeId} {x : Operand} {lo hi : Option Operand} {s : ByteArray} (va vb : Nat) (ht : P.underlying t = some .string) (hx : lookO env x = .d (.v (.string s)))
    (h1 : bnd env lo 0 va) (h2 : bnd env hi s.size vb) (hab : va ≤ vb) (hbn : vb ≤ s.size) : Quiet P m ⟨dst, .slice t x lo hi none, ty, pos, af, gd⟩ env own [] (.d (.v (.string (s.extract va vb)))) :=
  Quiet.val fun F own' κ a w hs _ hsame _ => by
    have hh := hs x (by simp [Op.operands]); rw [hx, sat_v] at hh
    have hb := run_bounds (P := P) (a := a) (mx := none) false (fun y hy => hs y (mem_slice (x := x) (t := t) hy)) h1 h2 (show bnd env none s.size s.size from rfl) hab hbn (Nat.le_refl _) (.inl rfl)
    refine ⟨.string (s.extract va vb), exec_v ?_, sat_v.2 rfl⟩
    simp only [Option.map_none] at hb
    simp [hh, Instr.sliceAt, run_underlying ht, Instr.slice, hb]

theorem q_index_str {t : TypeId} {x y : Operand} {s : ByteArray} {k : IntKind} (i : Int) (j : Nat) (ht : P.underlying t = some .string) (hx : lookO env x = .d (.v (.string s))) (hy : lookO env y = .d (.v (.int k i))) (hij : i = j) (hj : j < s.size) :
    Quiet P m ⟨dst, .index t x y, ty, pos, af, gd⟩ env own [] (.d (.v (.int .u8 (s[j]'hj).toNat))) :=
  Quiet.val fun F own' κ a w hs _ _ _ => by
    have h1 := hs x (by simp [Op.operands]); rw [hx, sat_v] at h1
    have h2 := hs y (by simp [Op.operands]); rw [hy, sat_v] at h2
    refine ⟨.int .u8 (s[j]'hj).toNat, exec_v ?_, sat_v.2 rfl⟩
    have : s[j]? = some s[j] := by simp [hj]
    simp [h1, h2, hij, Instr.index, asIntOf, run_underlying ht, this]

theorem q_pick {c x y : Operand} {b : Bool} (hc : lookO env c = bV b) : Quiet P m ⟨dst, .pick c x y, ty, pos, af, gd⟩ env own [] (if b then lookO env x else lookO env y) :=
  Quiet.val fun F own' κ a w hs _ _ _ => by
    have h1 := hs c (by simp [Op.operands]); rw [hc, sat_v] at h1
    have h2 := hs x (by simp [Op.operands])
    have h3 := hs y (by simp [Op.operands])
    refine ⟨if b then a.eval x else a.eval y, ?_, ?_⟩
    · simp [execOp, h1, asBool]
    · cases b
      · exact h3
      · exact h2
theorem q_nil_opt {x : Operand} {i o : Nat} (hx : lookO env x = .opt i o) : Quiet P m ⟨dst, .nilCheck x, ty, pos, af, gd⟩ env own [] (.opt i o) :=
  Quiet.val fun F own' κ a w hs _ _ _ => by
    have h1 := hs x (by simp [Op.operands]); rw [hx] at h1
    have h2 := h1
    rw [AV.sat] at h1
    obtain ⟨g, l, _, _, h4⟩ := h1
    refine ⟨a.eval x, ?_, h2⟩
    simp only [execOp]
    rw [h4]
    rfl
theorem q_nil_fpt {x : Operand} {sz j o : Nat} {l : List (List Dat)} (hx : lookO env x = .fpt sz l j o) : Quiet P m ⟨dst, .nilCheck x, ty, pos, af, gd⟩ env own [] (.fpt sz l j o) :=
  Quiet.val fun F own' κ a w hs _ _ _ => by
    have h1 := hs x (by simp [Op.operands]); rw [hx] at h1
    have h2 := h1
    rw [AV.sat] at h1
    obtain ⟨b, q, h4, _⟩ := h1
    refine ⟨a.eval x, ?_, h2⟩
    simp only [execOp]
    rw [h4]
    rfl
theorem q_nil_fn {x : Operand} {f : FuncId} {l : List AV} (hx : lookO env x = .fn f l) : Quiet P m ⟨dst, .nilCheck x, ty, pos, af, gd⟩ env own [] (.fn f l) :=
  Quiet.val fun F own' κ a w hs _ _ _ => by
    have h1 := hs x (by simp [Op.operands]); rw [hx] at h1
    have h2 := h1
    rw [AV.sat] at h1
    obtain ⟨vs, h4, _⟩ := h1
    refine ⟨a.eval x, ?_, h2⟩
    simp only [execOp]
    rw [h4]
    rfl
theorem q_makeFunc {f : FuncId} {caps : Array Operand} : Quiet P m ⟨dst, .makeFunc (.func f) #[] caps, ty, pos, af, gd⟩ env own [] (.fn f (caps.toList.map (lookO env))) :=
  Quiet.val fun F own' κ a w hs _ _ _ => by
    refine ⟨.func (.func f) #[] (caps.map a.eval), exec_v ?_, ?_⟩
    · simp [Instr.makeFunc]
    · rw [AV.sat]
      refine ⟨_, rfl, satL_of (by simp) fun j y hy => ?_⟩
      rw [List.getElem?_map] at hy
      cases h : caps.toList[j]? with
      | none => simp [h] at hy
      | some c =>
        obtain rfl : lookO env c = y := by simpa [h] using hy
        have hmem : c ∈ caps := by have := List.mem_of_getElem? h; simpa using this
        refine ⟨a.eval c, ?_, hs c (by simp [Op.operands, hmem])⟩
        have : caps[j]? = some c := by simpa using h
        simp [this]

/-- A part of a struct value. -/
theorem q_field {s f off k : Nat} {t : TypeId} {x : Operand} {l : List AV} {y : AV} (h : fldInfo P s f = some (off, t)) (ht : tyInfo P t = some (false, k)) (hx : lookO env x = .agg l) (hy : l[off]? = some y) : Quiet P m ⟨dst, .field s x f, ty, pos, af, gd⟩ env own [] y :=
  Quiet.val fun F own' κ a w hs _ _ _ => by
    have h1 := hs x (by simp [Op.operands]); rw [hx, AV.sat] at h1
    obtain ⟨vs, h2, h3⟩ := h1
    obtain ⟨u, h4, h5⟩ := satL_get h3 off y hy
    obtain ⟨fields, fl, i, g1, g2, g3, g4, g5, g6⟩ := fldInfo_spec h
    obtain ⟨h6, i', h7, h8⟩ := tyInfo_spec ht
    have h4' : vs[off]? = some u := by simpa using h4
    refine ⟨u, exec_v ?_, h5⟩
    rw [← g6] at h6
    simp [h2, Instr.field, run_underlying g1, g2, asAgg, part, h6 w, g5, h4']
theorem q_fields {s f off k : Nat} {t : TypeId} {x : Operand} {l : List AV} (h : fldInfo P s f = some (off, t)) (ht : tyInfo P t = some (true, k)) (hx : lookO env x = .agg l) : Quiet P m ⟨dst, .field s x f, ty, pos, af, gd⟩ env own [] (.agg ((l.drop off).take k)) :=
  Quiet.val fun F own' κ a w hs _ _ _ => by
    have h1 := hs x (by simp [Op.operands]); rw [hx, AV.sat] at h1
    obtain ⟨vs, h2, h3⟩ := h1
    obtain ⟨fields, fl, i, g1, g2, g3, g4, g5, g6⟩ := fldInfo_spec h
    obtain ⟨h6, i', h7, h8⟩ := tyInfo_spec ht
    refine ⟨.agg (vs.extract off (off + k)), exec_v ?_, ?_⟩
    · rw [← g6] at h6 h7
      simp [h2, Instr.field, run_underlying g1, g2, asAgg, part, h6 w, g5, sizeOf, typeInfo, h7, h8]
    · rw [AV.sat]
      refine ⟨_, rfl, ?_⟩
      have hl := satL_length h3
      refine satL_of (by simp; simp at hl; omega) fun j y hy => ?_
      rw [List.getElem?_take] at hy
      split at hy
      · rename_i hlt
        rw [List.getElem?_drop] at hy
        obtain ⟨u, h9, h10⟩ := satL_get h3 _ y hy
        refine ⟨u, ?_, h10⟩
        simp only [Array.getElem?_toList] at h9 ⊢
        rw [Array.getElem?_extract]
        have hlt2 := (Array.getElem?_eq_some_iff.1 h9).1
        rw [if_pos (by omega)]; exact h9
      · cases hy
end
end Go.Proofs.Ytffdhckilhhejaa
