/- The machine of abstract values: operations, regions in whatever order, statements. No program in sight; no condition. -/
import Derived.Test.YtffdhckilhhejaaKern1
import Derived.Deep.LoopGhost
namespace Go.Proofs.Ytffdhckilhhejaa
open Go.RowKit
set_option linter.unusedVariables false
set_option linter.unusedSimpArgs false

def look : List (Nat × AV) → Nat → AV
  | [], _ => .top
  | (s, x) :: rest, t => if s = t then x else look rest t
def lookO (env : List (Nat × AV)) : Operand → AV
  | .tmp t => look env t
  | .const v => .d (.v v)
  | .func f => .fn f []
  | .global g => .d (.v (.pointer (some ⟨g, 0, none⟩)))
def putE (env : List (Nat × AV)) (dst : Option Tmp) (x : AV) : List (Nat × AV) :=
  match dst with
  | some d => (d, x) :: env
  | none => env

def EnvSat (F : Nat → Prop) (own : List Ent) (κ : List (Option Nat)) (w : World) (env : List (Nat × AV)) (a : Act) : Prop := ∀ t, AV.sat F own κ w (look env t) (a.tmps.getD t undef)

theorem EnvSat.eval {F : Nat → Prop} {own : List Ent} {κ : List (Option Nat)} {w : World} {env : List (Nat × AV)} {a : Act} (h : EnvSat F own κ w env a) (x : Operand) : AV.sat F own κ w (lookO env x) (a.eval x) := by
  cases x with
  | tmp t => exact h t
  | const v => simp [lookO, Act.eval, AV.sat, Dat.sat]
  | func f => simp [lookO, Act.eval, AV.sat, AV.satL]
  | global g => simp [lookO, Act.eval, AV.sat, Dat.sat]

/-- What an operation may do: yield a value, or call a function that returns one. -/
def OutOk (P : Program) (R : Value → World → Prop) : Result Next → Prop
  | .ok (.value v) w' => R v w'
  | .ok .skip w' => R undef w'
  | .ok (.enter f args) w' => Calls P f args w' fun e w'' => ∃ v, e = .returned v ∧ R v w''
  | _ => False

/-- In memory 'own' and slots 'env' the operation yields r and leaves memory 'own''. -/
def OpOk (P : Program) (m : Nat) (o : Oper) (env : List (Nat × AV)) (own : List Ent) (r : AV) (own' : List Ent) : Prop :=
  ∀ (F : Nat → Prop) (κ : List (Option Nat)) (a : Act) (w : World), EnvSat F own κ w env a → OwnSat F own κ w → m ≤ κ.length →
    OutOk P (fun v w' => ∃ κ', AV.sat F own' κ' w' r v ∧ OwnSat F own' κ' w' ∧ Tr F m own κ w own' κ' w') ((execOp a.eval o).run P w)

def seenOf (o : Oper) : List Tmp := o.op.operands.toList.filterMap fun | .tmp t => some t | _ => none
def same (l : List Nat) (own own' : List Ent) : Prop := ∀ i ∈ l, own'[i]? = own[i]?

/-- The operation yields r wherever the slots that it looks at, and the entries fp, are these; it leaves the call's own memory alone. -/
def Quiet (P : Program) (m : Nat) (o : Oper) (env : List (Nat × AV)) (own : List Ent) (fp : List Nat) (r : AV) : Prop :=
  ∀ env' own', (∀ t ∈ (seenOf o), look env' t = look env t) → same fp own own' → OpOk P m o env' own' r own'
/-- The operation yields r and leaves memory own', wherever the slots that it looks at are these; it changes the entries 'mod' alone. -/
def Eff (P : Program) (m : Nat) (o : Oper) (env : List (Nat × AV)) (own : List Ent) (mod : List Nat) (r : AV) (own' : List Ent) : Prop :=
  (∀ env', (∀ t ∈ (seenOf o), look env' t = look env t) → OpOk P m o env' own r own') ∧ ∀ i, i ∉ mod → own'[i]? = own[i]?

theorem lookO_seen {o : Oper} {env env' : List (Nat × AV)} (h : ∀ t ∈ (seenOf o), look env' t = look env t) {x : Operand} (hx : x ∈ o.op.operands) : lookO env' x = lookO env x := by
  cases x with
  | tmp t => exact h t (List.mem_filterMap.2 ⟨.tmp t, by simpa using hx, rfl⟩)
  | _ => rfl

/-- How an operation took part in a region: it did not run; it was quiet; it had an effect. -/
inductive Part where
  | off
  | q (fp : List Nat)
  | e (mod : List Nat)

/-- May i and j come in either order? -/
def clash (ops : Array Oper) (x y : Oper) (p q : Part) : Bool :=
  !(x.apart ops y && y.apart ops x) ||
  match p, q with
  | .e _, .e _ => true
  | .q fp, .e mod | .e mod, .q fp => fp.any mod.contains
  | _, _ => false
/-- The operations that must come before those of l: by the edges. -/
def anc (ops : Array Oper) : Nat → List Nat → List Nat
  | 0, l => l
  | k + 1, l => anc ops k (l ++ (l.flatMap fun i => ((ops.getD i default).after.toList.filter (Region.binds .any)).map (·.on)))
def chkPair (ops : Array Oper) (ps : List Part) (j i : Nat) : Bool := !clash ops (ops.getD i default) (ops.getD j default) (ps.getD i .off) (ps.getD j .off) || (anc ops ops.size [j]).contains i
/-- The lexical order speaks for every order. -/
def chkOps (ops : Array Oper) (ps : List Part) : Bool :=
  (List.range ops.size).all fun j => (((ops.getD j default).after.toList.filter (Region.binds .any)).all fun e => decide (e.on < j)) && (List.range j).all (chkPair ops ps j) &&
    (match (ops.getD j default).op with | .select _ _ => false | _ => true)

def GuardOn (ops : Array Oper) (o : Oper) (env : List (Nat × AV)) : Prop :=
  match o.guard with
  | none => True
  | some (j, want) => ∃ d, (ops[j]?).bind (·.dst) = some d ∧ look env d = .d (.v (.bool want))
def GuardOff (ops : Array Oper) (o : Oper) (env : List (Nat × AV)) : Prop :=
  ∃ j want d x, o.guard = some (j, want) ∧ (ops[j]?).bind (·.dst) = some d ∧ look env d = .d (.v x) ∧ x ≠ .bool want

/-- The walk through a region's operations, in the order of the text. -/
inductive Walk (P : Program) (m : Nat) (ops : Array Oper) (Q : List Part → List (Nat × AV) → List Ent → Prop) : List Part → List Oper → List (Nat × AV) → List Ent → Prop where
  | nil {done : List Part} {env : List (Nat × AV)} {own : List Ent} (h : Q done env own) : Walk P m ops Q done [] env own
  | off {done : List Part} {o : Oper} {rest : List Oper} {env : List (Nat × AV)} {own : List Ent} (hg : GuardOff ops o env) (h : Walk P m ops Q (.off :: done) rest (putE env o.dst (.d (.v undef))) own) : Walk P m ops Q done (o :: rest) env own
  | q {done : List Part} {o : Oper} {rest : List Oper} {env : List (Nat × AV)} {own : List Ent} (fp : List Nat) (r : AV) (hg : GuardOn ops o env) (hq : Quiet P m o env own fp r) (h : Walk P m ops Q (.q fp :: done) rest (putE env o.dst r) own) : Walk P m ops Q done (o :: rest) env own
  | e {done : List Part} {o : Oper} {rest : List Oper} {env : List (Nat × AV)} {own : List Ent} (mod : List Nat) (r : AV) (own' : List Ent) (hg : GuardOn ops o env) (hq : Eff P m o env own mod r own') (h : Walk P m ops Q (.e mod :: done) rest (putE env o.dst r) own') : Walk P m ops Q done (o :: rest) env own

def StepOk (P : Program) (m : Nat) (ops : Array Oper) (o : Oper) (env : List (Nat × AV)) (own : List Ent) (r : AV) (own' : List Ent) : Part → Prop
  | .off => GuardOff ops o env ∧ r = .d (.v undef) ∧ own' = own
  | .q fp => GuardOn ops o env ∧ Quiet P m o env own fp r ∧ own' = own
  | .e mod => GuardOn ops o env ∧ Eff P m o env own mod r own'

theorem walk_chain {P : Program} {m : Nat} {ops : Array Oper} {Q : List Part → List (Nat × AV) → List Ent → Prop} {done : List Part} {l : List Oper} {env : List (Nat × AV)} {own : List Ent} (h : Walk P m ops Q done l env own) :
    ∃ (E : Nat → List (Nat × AV)) (O : Nat → List Ent) (r : Nat → AV) (ps : List Part), E 0 = env ∧ O 0 = own ∧ ps.length = l.length ∧
      (∀ k o, l[k]? = some o → E (k + 1) = putE (E k) o.dst (r k) ∧ StepOk P m ops o (E k) (O k) (r k) (O (k + 1)) (ps.getD k .off)) ∧ Q (ps.reverse ++ done) (E l.length) (O l.length) := by
  induction h with
  | @nil done env own h => exact ⟨fun _ => env, fun _ => own, fun _ => .top, [], rfl, rfl, rfl, fun k o hk => by simp at hk, by simpa using h⟩
  | @off done o rest env own hg h ih =>
    obtain ⟨E, O, r, ps, h1, h2, h3, h4, h5⟩ := ih
    refine ⟨fun | 0 => env | k + 1 => E k, fun | 0 => own | k + 1 => O k, fun | 0 => .d (.v undef) | k + 1 => r k, .off :: ps, rfl, rfl, by simp [h3], fun k o' hk => ?_, by simpa using h5⟩
    cases k with
    | zero => obtain rfl : o = o' := by simpa using hk
              exact ⟨h1, hg, rfl, h2⟩
    | succ k => exact h4 k o' (by simpa using hk)
  | @q done o rest env own fp r0 hg hq h ih =>
    obtain ⟨E, O, r, ps, h1, h2, h3, h4, h5⟩ := ih
    refine ⟨fun | 0 => env | k + 1 => E k, fun | 0 => own | k + 1 => O k, fun | 0 => r0 | k + 1 => r k, .q fp :: ps, rfl, rfl, by simp [h3], fun k o' hk => ?_, by simpa using h5⟩
    cases k with
    | zero => obtain rfl : o = o' := by simpa using hk
              exact ⟨h1, hg, hq, h2⟩
    | succ k => exact h4 k o' (by simpa using hk)
  | @e done o rest env own mod r0 own' hg hq h ih =>
    obtain ⟨E, O, r, ps, h1, h2, h3, h4, h5⟩ := ih
    refine ⟨fun | 0 => env | k + 1 => E k, fun | 0 => own | k + 1 => O k, fun | 0 => r0 | k + 1 => r k, .e mod :: ps, rfl, rfl, by simp [h3], fun k o' hk => ?_, by simpa using h5⟩
    cases k with
    | zero => obtain rfl : o = o' := by simpa using hk
              exact ⟨h1, hg, by simpa [h2] using hq⟩
    | succ k => exact h4 k o' (by simpa using hk)

theorem wanted_on {ops : Array Oper} {o : Oper} {env : List (Nat × AV)} {F : Nat → Prop} {own : List Ent} {κ : List (Option Nat)} {w : World} {a : Act} (hg : GuardOn ops o env)
    (hs : ∀ t ∈ o.looksAt ops, AV.sat F own κ w (look env t) (a.tmps.getD t undef)) (hsz : ∀ t ∈ o.looksAt ops, t < a.tmps.size) : Region.wanted o (yielded ops a.tmps) = true := by
  unfold Region.wanted
  cases hgd : o.guard with
  | none => rfl
  | some gw =>
    obtain ⟨j, want⟩ := gw
    simp only [GuardOn, hgd] at hg
    obtain ⟨d, hd, hl⟩ := hg
    have hm : d ∈ o.looksAt ops := by simp [Oper.looksAt, hgd, hd]
    have h1 := hs d hm
    rw [hl] at h1
    simp only [AV.sat, Dat.sat] at h1
    have h2 := hsz d hm
    have h3 : a.tmps[d]? = some (.bool want) := by rw [Array.getElem?_eq_getElem h2]; simpa [Array.getD_eq_getD_getElem?, Array.getElem?_eq_getElem h2] using h1
    simp [yielded, hd, h3]
theorem wanted_off {ops : Array Oper} {o : Oper} {env : List (Nat × AV)} {F : Nat → Prop} {own : List Ent} {κ : List (Option Nat)} {w : World} {a : Act} (hg : GuardOff ops o env)
    (hs : ∀ t ∈ o.looksAt ops, AV.sat F own κ w (look env t) (a.tmps.getD t undef)) : Region.wanted o (yielded ops a.tmps) = false := by
  obtain ⟨j, want, d, x, hgd, hd, hl, hx⟩ := hg
  have hm : d ∈ o.looksAt ops := by simp [Oper.looksAt, hgd, hd]
  have h1 := hs d hm
  rw [hl] at h1
  simp only [AV.sat, Dat.sat] at h1
  unfold Region.wanted
  simp only [hgd]
  have : yielded ops a.tmps j ≠ some want := by
    unfold yielded
    rw [hd]
    simp only [Option.bind_some]
    intro hy
    cases h3 : a.tmps[d]? with
    | none => simp [h3] at hy
    | some u =>
      have : u = x := by simpa [Array.getD_eq_getD_getElem?, h3] using h1
      subst this
      rw [h3] at hy
      cases u <;> simp at hy
      subst hy; exact hx rfl
  simpa using this
theorem upon_of_out {P : Program} {o : Oper} {a : Act} {next : Act → World → Prop} {Q : Exit → Act → World → Prop} {R : Value → World → Prop} {res : Result Next} (h : OutOk P R res) (hn : ∀ v w', R v w' → next (a.put o.dst v) w') : o.upon P a next Q res := by
  cases res with
  | ok n w' =>
    cases n <;> simp only [OutOk] at h <;> simp only [Oper.upon]
    case value v => exact hn v w' h
    case skip => exact hn _ w' h
    case enter f args => exact h.mono fun e w'' ⟨v, he, hr⟩ => by subst he; exact hn v w'' hr
  | halt x w' => exact h.elim

theorem look_putE_self (env : List (Nat × AV)) (d : Nat) (x : AV) : look (putE env (some d) x) d = x := by simp [putE, look]
theorem look_putE_ne (env : List (Nat × AV)) {dst : Option Tmp} {t : Nat} (x : AV) (h : dst ≠ some t) : look (putE env dst x) t = look env t := by
  cases dst with
  | none => rfl
  | some d => have : d ≠ t := fun e => h (by rw [e])
              simp [putE, look, this]
theorem put_getD_self {a : Act} {d : Nat} (h : d < a.tmps.size) (v : Value) : (a.put (some d) v).tmps.getD d undef = v := by simp [Act.put, h]
theorem put_getD_ne {a : Act} {dst : Option Tmp} {t : Nat} (h : dst ≠ some t) (v : Value) : (a.put dst v).tmps.getD t undef = a.tmps.getD t undef := by
  cases dst with
  | none => rfl
  | some d => have : d ≠ t := fun e => h (by rw [e])
              simp [Act.put, Array.getElem?_setIfInBounds_ne this]
theorem put_size (a : Act) (dst : Option Tmp) (v : Value) : (a.put dst v).tmps.size = a.tmps.size := by cases dst <;> simp [Act.put]
theorem put_defs (a : Act) (dst : Option Tmp) (v : Value) : (a.put dst v).defers = a.defers := by cases dst <;> rfl

/-! ### A region in whatever order -/
theorem Tr.trans {F : Nat → Prop} {m : Nat} {o1 o2 o3 : List Ent} {k1 k2 k3 : List (Option Nat)} {w1 w2 w3 : World} (h : Tr F m o1 k1 w1 o2 k2 w2) (g : Tr F m o2 k2 w2 o3 k3 w3) : Tr F m o1 k1 w1 o3 k3 w3 :=
  ⟨g.os.trans h.os, g.tape.trans h.tape, g.output.trans h.output, Nat.le_trans h.size g.size,
    fun b hb hk => (g.old b (Nat.lt_of_lt_of_le hb h.size) fun h2 => by
      rcases h.new b h2 with h3 | h3
      · exact hk h3
      · omega).trans (h.old b hb hk),
    fun b hb => by
      rcases g.new b hb with h1 | h1
      · exact h.new b h1
      · have := h.size; exact .inr (by omega),
    g.pre.trans h.pre, fun x u hx => g.keep x u (h.keep x u hx)⟩
theorem Tr.le {F : Nat → Prop} {m : Nat} {o1 o2 : List Ent} {k1 k2 : List (Option Nat)} {w1 w2 : World} (h : Tr F m o1 k1 w1 o2 k2 w2) (hm : m ≤ k1.length) : m ≤ k2.length := by
  have := congrArg List.length h.pre
  simp only [List.length_take] at this
  omega

def inX (listed : Array Bool) (i : Nat) : Prop := listed.getD i false = true

section
variable {P : Program} {m n : Nat} {own0 : List Ent} {κ0 : List (Option Nat)} {w0 : World} {ops : Array Oper} {E : Nat → List (Nat × AV)} {O : Nat → List Ent} {r : Nat → AV} {ps : List Part}

def stepAll (P : Program) (m : Nat) (ops : Array Oper) (E : Nat → List (Nat × AV)) (O : Nat → List Ent) (r : Nat → AV) (ps : List Part) : Prop :=
  ∀ k o, ops[k]? = some o → E (k + 1) = putE (E k) o.dst (r k) ∧ StepOk P m ops o (E k) (O k) (r k) (O (k + 1)) (ps.getD k .off)

def isE (ps : List Part) (k : Nat) : Bool := match ps.getD k .off with | .e _ => true | _ => false

/-- What holds when the operations in X have been done. -/
structure Mid (F : Nat → Prop) (m : Nat) (own0 : List Ent) (κ0 : List (Option Nat)) (w0 : World) (n : Nat) (ops : Array Oper) (E : Nat → List (Nat × AV)) (O : Nat → List Ent) (ps : List Part) (listed : Array Bool) (a : Act) (κ : List (Option Nat)) (w : World) : Prop where
  size : listed.size = ops.size
  down : ∀ k o, inX listed k → ops[k]? = some o → ∀ e ∈ o.after, Region.binds .any e = true → inX listed e.on
  tm : a.tmps.size = n
  df : a.defers = []
  cur : ∃ k, k ≤ ops.size ∧ (∀ i, i < ops.size → isE ps i = true → (i < k ↔ inX listed i)) ∧ OwnSat F (O k) κ w ∧ Tr F m own0 κ0 w0 (O k) κ w ∧
    ∀ t j, j ≤ ops.size → (∀ i o, ops[i]? = some o → o.dst = some t → (i < j ↔ inX listed i)) → AV.sat F (O k) κ w (look (E j) t) (a.tmps.getD t undef)

theorem anc_in {X : Nat → Prop} (hd : ∀ k, X k → ∀ e ∈ (ops.getD k default).after, Region.binds .any e = true → X e.on) : ∀ (f : Nat) (l : List Nat), (∀ i ∈ l, X i) → ∀ i ∈ anc ops f l, X i
  | 0, l, h, i, hi => h i hi
  | f + 1, l, h, i, hi => by
    refine anc_in hd f _ (fun i hi => ?_) i hi
    rcases List.mem_append.1 hi with h1 | h1
    · exact h i h1
    · obtain ⟨k, hk, h2⟩ := List.mem_flatMap.1 h1
      obtain ⟨e, he, rfl⟩ := List.mem_map.1 h2
      have he := List.mem_filter.1 he
      exact hd k (h k hk) e (by simpa using he.1) (by simpa using he.2)

theorem getD_of {ops : Array Oper} {i : Nat} {o : Oper} (h : ops[i]? = some o) : ops.getD i default = o := by
  simp [Array.getD_eq_getD_getElem?, h]

theorem chk_pair (hc : chkOps ops ps = true) {i j : Nat} {x y : Oper} (hi : ops[i]? = some x) (hj : ops[j]? = some y) (hij : i < j) (hcl : clash ops x y (ps.getD i .off) (ps.getD j .off) = true) : i ∈ anc ops ops.size [j] := by
  have hjl : j < ops.size := (Array.getElem?_eq_some_iff.1 hj).1
  have h := List.all_eq_true.1 hc j (by simpa using hjl)
  simp only [Bool.and_eq_true] at h
  have h2 := List.all_eq_true.1 h.1.2 i (by simpa using hij)
  simp only [chkPair, getD_of hi, getD_of hj, hcl, Bool.not_true, Bool.false_or] at h2
  simpa using h2
theorem chk_edge (hc : chkOps ops ps = true) {j : Nat} {y : Oper} (hj : ops[j]? = some y) {e : Edge} (he : e ∈ y.after) (hb : Region.binds .any e = true) : e.on < j := by
  have hjl : j < ops.size := (Array.getElem?_eq_some_iff.1 hj).1
  have h := List.all_eq_true.1 hc j (by simpa using hjl)
  simp only [Bool.and_eq_true, getD_of hj] at h
  have := List.all_eq_true.1 h.1.1 e (List.mem_filter.2 ⟨by simpa using he, hb⟩)
  simpa using this
theorem chk_sel (hc : chkOps ops ps = true) {j : Nat} {y : Oper} (hj : ops[j]? = some y) : ∀ cs b, y.op ≠ .select cs b := by
  have hjl : j < ops.size := (Array.getElem?_eq_some_iff.1 hj).1
  have h := List.all_eq_true.1 hc j (by simpa using hjl)
  simp only [Bool.and_eq_true, getD_of hj] at h
  intro cs b e
  rw [e] at h
  simp at h

/-- What clashes with an operation that comes up now, and stands ahead of it, is done; what stands behind it is not. -/
theorem clash_before {F : Nat → Prop} {listed : Array Bool} {a : Act} {κ : List (Option Nat)} {w : World} (hc : chkOps ops ps = true) (hM : Mid F m own0 κ0 w0 n ops E O ps listed a κ w)
    {j : Nat} {y : Oper} (hj : ops[j]? = some y) (hr : j ∈ Region.ready .any ops listed) {i : Nat} {x : Oper} (hi : ops[i]? = some x) (hne : i ≠ j)
    (hcl : (i < j → clash ops x y (ps.getD i .off) (ps.getD j .off) = true) ∧ (j < i → clash ops y x (ps.getD j .off) (ps.getD i .off) = true)) : i < j ↔ inX listed i := by
  obtain ⟨h0, y', hy', hall⟩ := mem_ready.1 hr
  obtain rfl : y = y' := by rw [hj] at hy'; simpa using hy'
  have hjl : j < ops.size := (Array.getElem?_eq_some_iff.1 hj).1
  have hnot : ¬ inX listed j := fun h => by
    unfold inX at h
    have hjs : j < listed.size := by rw [hM.size]; exact hjl
    simp [Array.getD_eq_getD_getElem?, hjs] at h0 h
    rw [h] at h0; cases h0
  constructor
  · intro hlt
    have h1 := chk_pair hc hi hj hlt (hcl.1 hlt)
    have h2 := anc_in (ops := ops) (X := fun k => inX listed k ∨ k = j) (fun k hk e he hb => by
      rcases hk with hk | rfl
      · cases ho : ops[k]? with
        | none =>
          have : ops.getD k default = default := by simp [Array.getD_eq_getD_getElem?, ho]
          rw [this] at he
          exact absurd (show e ∈ (#[] : Array Edge) from he) (Array.not_mem_empty e)
        | some o => rw [getD_of ho] at he; exact .inl (hM.down k o hk ho e he hb)
      · rw [getD_of hj] at he; exact .inl (hall e he hb)) ops.size [j] (by simp) i h1
    exact h2.resolve_right (by omega)
  · intro hin
    rcases Nat.lt_trichotomy i j with h | h | h
    · exact h
    · exact absurd h hne
    · have h1 := chk_pair hc hj hi h (hcl.2 h)
      have h2 := anc_in (ops := ops) (X := inX listed) (fun k hk e he hb => by
        cases ho : ops[k]? with
        | none =>
          have : ops.getD k default = default := by simp [Array.getD_eq_getD_getElem?, ho]
          rw [this] at he
          exact absurd (show e ∈ (#[] : Array Edge) from he) (Array.not_mem_empty e)
        | some o => rw [getD_of ho] at he; exact hM.down k o hk ho e he hb) ops.size [i] (by simpa using hin) j h1
      exact absurd h2 hnot

theorem clash_apart {x y : Oper} {p q : Part} (h : clash ops x y p q = false) : x.apart ops y = true ∧ y.apart ops x = true := by
  simp only [clash, Bool.or_eq_false_iff, Bool.not_eq_false', Bool.and_eq_true] at h
  exact h.1
theorem clash_of_not {x y : Oper} {p q : Part} (h : ¬ (x.apart ops y = true ∧ y.apart ops x = true)) : clash ops x y p q = true := by
  cases hcl : clash ops x y p q with
  | true => rfl
  | false => exact absurd (clash_apart hcl) h

theorem own_eq (hs : stepAll P m ops E O r ps) : ∀ (d a : Nat), a + d ≤ ops.size → (∀ i, a ≤ i → i < a + d → isE ps i = false) → O (a + d) = O a
  | 0, a, _, _ => rfl
  | d + 1, a, hle, h => by
    have hlt : a + d < ops.size := by omega
    have h1 := (hs (a + d) _ (Array.getElem?_eq_getElem hlt)).2
    have h2 := h (a + d) (by omega) (by omega)
    have h3 := own_eq hs d a (by omega) fun i h4 h5 => h i h4 (by omega)
    rw [show a + (d + 1) = a + d + 1 from by omega]
    unfold isE at h2
    cases hp : ps.getD (a + d) .off with
    | off => rw [hp] at h1; exact h1.2.2.trans h3
    | q fp => rw [hp] at h1; exact h1.2.2.trans h3
    | e mod => rw [hp] at h2; simp at h2

/-- Between two states of the lexical order the entries fp differ only by effects that name them. -/
theorem own_same (hs : stepAll P m ops E O r ps) (fp : List Nat) : ∀ (d a : Nat), a + d ≤ ops.size → (∀ i mod, a ≤ i → i < a + d → ps.getD i .off = .e mod → ∀ t ∈ fp, t ∉ mod) → ∀ t ∈ fp, (O (a + d))[t]? = (O a)[t]?
  | 0, a, _, _, t, _ => rfl
  | d + 1, a, hle, h, t, ht => by
    have hlt : a + d < ops.size := by omega
    have h1 := (hs (a + d) _ (Array.getElem?_eq_getElem hlt)).2
    have h3 := own_same hs fp d a (by omega) (fun i mod h4 h5 => h i mod h4 (by omega)) t ht
    rw [show a + (d + 1) = a + d + 1 from by omega]
    cases hp : ps.getD (a + d) .off with
    | off => rw [hp] at h1; rw [h1.2.2]; exact h3
    | q fp => rw [hp] at h1; rw [h1.2.2]; exact h3
    | e mod => rw [hp] at h1; rw [h1.2.2 t (h (a + d) mod (by omega) (by omega) hp t ht)]; exact h3

theorem seen_looks {o : Oper} {t : Nat} (h : t ∈ (seenOf o)) : t ∈ o.looksAt ops := List.mem_append_left _ h

/-- One operation comes up. -/
theorem mid_step {F : Nat → Prop} {listed : Array Bool} {a : Act} {κ : List (Option Nat)} {w : World} (hc : chkOps ops ps = true) (hs : stepAll P m ops E O r ps)
    (hdst : ∀ (i : Nat) (o : Oper), ops[i]? = some o → (∀ d, o.dst = some d → d < n) ∧ ∀ t ∈ o.looksAt ops, t < n) (hm0 : m ≤ κ0.length) (hM : Mid F m own0 κ0 w0 n ops E O ps listed a κ w)
    {j : Nat} (hr : j ∈ Region.ready .any ops listed) {K : Act → World → Prop} {Q : Exit → Act → World → Prop}
    (hK : ∀ a' κ' w', Mid F m own0 κ0 w0 n ops E O ps (listed.setIfInBounds j true) a' κ' w' → K a' w') : wpOp P ops Q j K a w := by
  obtain ⟨h0, y, hy, hall⟩ := mem_ready.1 hr
  have hjl : j < ops.size := (Array.getElem?_eq_some_iff.1 hy).1
  have hjs : j < listed.size := by rw [hM.size]; exact hjl
  have hnot : ¬ inX listed j := fun h => by
    unfold inX at h
    simp [Array.getD_eq_getD_getElem?, hjs] at h0 h
    rw [h] at h0; cases h0
  obtain ⟨k, hk, hkE, hown, htr0, henv⟩ := hM.cur
  have hm := htr0.le hm0
  have hset : ∀ i, inX (listed.setIfInBounds j true) i ↔ inX listed i ∨ i = j := fun i => by
    unfold inX
    by_cases hij : j = i
    · subst hij; simp [Array.getD_eq_getD_getElem?, hjs]
    · rw [getD_set_ne false hij]; constructor
      · exact .inl
      · rintro (h | h)
        · exact h
        · exact absurd h.symm hij
  -- what the operation looks at is as in the lexical order
  have hlook : ∀ t ∈ y.looksAt ops, AV.sat F (O k) κ w (look (E j) t) (a.tmps.getD t undef) := fun t ht => by
    refine henv t j (by omega) fun i o hi hd => ?_
    by_cases hij : i = j
    · subst hij; constructor
      · intro h; omega
      · intro h; exact absurd h hnot
    · refine clash_before hc hM hy hr hi hij ⟨fun _ => clash_of_not fun h => ?_, fun _ => clash_of_not fun h => ?_⟩
      · exact (Oper.apart_spec h.1).1 t hd ht
      · exact (Oper.apart_spec h.2).1 t hd ht
  have hlsz : ∀ t ∈ y.looksAt ops, t < a.tmps.size := fun t ht => by rw [hM.tm]; exact (hdst j y hy).2 t ht
  obtain ⟨hE, hst⟩ := hs j y hy
  -- the frame behind it
  have next : ∀ (own' : List Ent) (κ' : List (Option Nat)) (v : Value) (w' : World) (k' : Nat), k' ≤ ops.size → (∀ i, i < ops.size → isE ps i = true → (i < k' ↔ inX (listed.setIfInBounds j true) i)) → O k' = own' →
      AV.sat F own' κ' w' (r j) v → OwnSat F own' κ' w' → Tr F m (O k) κ w own' κ' w' → K (a.put y.dst v) w' := fun own' κ' v w' k' hk' hkE' hO' hrv hown' htr => by
    refine hK _ κ' w' ⟨by simp [hM.size], fun i o hi ho e he hb => ?_, by rw [put_size]; exact hM.tm, by rw [put_defs]; exact hM.df, k', hk', hkE', by rw [hO']; exact hown', by rw [hO']; exact htr0.trans htr, fun t i hi hcur => ?_⟩
    · rw [hset] at hi ⊢
      rcases hi with hi | rfl
      · exact .inl (hM.down i o hi ho e he hb)
      · obtain rfl : y = o := by rw [hy] at ho; simpa using ho
        exact .inl (hall e he hb)
    · rw [hO']
      by_cases hd : y.dst = some t
      · have hji : j < i := (hcur j y hy hd).2 ((hset j).2 (.inr rfl))
        have hval : look (E i) t = r j := by
          have : ∀ d, j + 1 + d ≤ i → look (E (j + 1 + d)) t = r j := fun d => by
            induction d with
            | zero => intro _; rw [Nat.add_zero, hE, hd, look_putE_self]
            | succ d ih =>
              intro hle
              have hlt : j + 1 + d < ops.size := by omega
              have ho := Array.getElem?_eq_getElem hlt
              rw [show j + 1 + (d + 1) = j + 1 + d + 1 from by omega, (hs _ _ ho).1, look_putE_ne _ _ ?_]
              · exact ih (by omega)
              · intro hdt
                have h1 := (hset _).1 ((hcur _ _ ho hdt).1 (by omega))
                have h2 := clash_before hc hM hy hr ho (by omega) ⟨fun h => by omega, fun _ => clash_of_not fun h => (Oper.apart_spec h.1).2.1 t hd hdt⟩
                have := h2.2 (h1.resolve_right (by omega))
                omega
          have := this (i - (j + 1)) (by omega)
          rwa [show j + 1 + (i - (j + 1)) = i from by omega] at this
        rw [hval]
        have : t < a.tmps.size := by rw [hM.tm]; exact (hdst j y hy).1 t hd
        rw [hd, put_getD_self this]; exact hrv
      · rw [put_getD_ne hd]
        refine htr.keep _ _ (henv t i hi fun x o hx hxd => ?_)
        rw [hcur x o hx hxd, hset]
        have : x ≠ j := fun e => by subst e; rw [hy] at hx; obtain rfl : y = o := by simpa using hx
                                    exact hd hxd
        simp [this]
  have hkq : isE ps j = false → ∀ i, i < ops.size → isE ps i = true → (i < k ↔ inX (listed.setIfInBounds j true) i) := fun hj i hi he => by
    rw [hkE i hi he, hset]
    have : i ≠ j := fun e => by subst e; rw [hj] at he; cases he
    simp [this]
  -- effects between the lexical place and now
  have hbetween : ∀ i o, ops[i]? = some o → i ≠ j → isE ps i = true → (k ≤ i ∧ i < j ∨ j ≤ i ∧ i < k) → clash ops o y (ps.getD i .off) (ps.getD j .off) = false ∨ clash ops y o (ps.getD j .off) (ps.getD i .off) = false := fun i o hi hne he hb => by
    have hil : i < ops.size := (Array.getElem?_eq_some_iff.1 hi).1
    cases h1 : clash ops o y (ps.getD i .off) (ps.getD j .off) with
    | false => exact .inl rfl
    | true =>
      cases h2 : clash ops y o (ps.getD j .off) (ps.getD i .off) with
      | false => exact .inr rfl
      | true =>
        have h3 := clash_before hc hM hy hr hi hne ⟨fun _ => h1, fun _ => h2⟩
        have h4 := hkE i hil he
        exfalso
        rcases hb with ⟨h5, h6⟩ | ⟨h5, h6⟩
        · have := h4.2 (h3.1 h6); omega
        · have := h3.2 (h4.1 h6); omega
  unfold wpOp
  simp only [hy]
  -- the frame that the step asks: what it sees, no more
  have hmini : ∀ own κ w, EnvSat F own κ w ((seenOf y).map fun t => (t, look (E j) t)) a ↔ ∀ t ∈ (seenOf y), AV.sat F own κ w (look (E j) t) (a.tmps.getD t undef) := fun own κ w => by
    have hl : ∀ (l : List Nat) t, look (l.map fun t => (t, look (E j) t)) t = if t ∈ l then look (E j) t else .top := fun l t => by
      induction l with
      | nil => rfl
      | cons x xs ih =>
        simp only [List.map_cons, look, ih]
        by_cases h : x = t
        · subst h; simp
        · simp [h, Ne.symm h]
    constructor
    · intro h t ht; have := h t; rw [hl, if_pos ht] at this; exact this
    · intro h t; rw [hl]; split
      · exact h t ‹_›
      · simp [AV.sat]
  have hagree : ∀ t ∈ (seenOf y), look ((seenOf y).map fun t => (t, look (E j) t)) t = look (E j) t := fun t ht => by
    have hl : ∀ (l : List Nat), t ∈ l → look (l.map fun t => (t, look (E j) t)) t = look (E j) t := fun l => by
      induction l with
      | nil => intro h; cases h
      | cons x xs ih =>
        intro h
        simp only [List.map_cons, look]
        by_cases hx : x = t
        · subst hx; simp
        · rw [if_neg hx]; exact ih ((List.mem_cons.1 h).resolve_left (Ne.symm hx))
    exact hl _ ht
  cases hp : ps.getD j .off with
  | off =>
    rw [hp] at hst
    obtain ⟨hg, hrj, hO⟩ := hst
    rw [wanted_off hg hlook]
    simp only [Bool.false_eq_true, if_false]
    exact next (O k) κ undef w k hk (hkq (by unfold isE; rw [hp])) rfl (by rw [hrj]; simp [AV.sat, Dat.sat]) hown (Tr.refl _ _ _ _ _)
  | q fp =>
    rw [hp] at hst
    obtain ⟨hg, hq, hO⟩ := hst
    rw [wanted_on hg hlook hlsz]
    simp only [if_true]
    refine .inl ?_
    have hsame : same fp (O j) (O k) := fun t ht => by
      have hno : ∀ i mod, (k ≤ i ∧ i < j ∨ j ≤ i ∧ i < k) → ps.getD i .off = .e mod → ∀ t ∈ fp, t ∉ mod := fun i mod hb hpi t ht htm => by
        have hil : i < ops.size := by omega
        have hne : i ≠ j := fun e => by subst e; rw [hp] at hpi; cases hpi
        rcases hbetween i _ (Array.getElem?_eq_getElem hil) hne (by unfold isE; rw [hpi]) hb with h | h
        · rw [hp, hpi] at h
          simp only [clash, Bool.or_eq_false_iff] at h
          have := h.2
          rw [List.any_eq_false] at this
          exact absurd (by simpa using htm) (this t ht)
        · rw [hp, hpi] at h
          simp only [clash, Bool.or_eq_false_iff] at h
          have := h.2
          rw [List.any_eq_false] at this
          exact absurd (by simpa using htm) (this t ht)
      rcases Nat.le_total k j with hkj | hjk
      · have := own_same hs fp (j - k) k (by omega) (fun i mod h1 h2 => hno i mod (by omega)) t ht
        rw [show k + (j - k) = j from by omega] at this
        exact this.symm
      · have := own_same hs fp (k - j) j (by omega) (fun i mod h1 h2 => hno i mod (by omega)) t ht
        rw [show j + (k - j) = k from by omega] at this
        exact this
    have h1 := hq _ (O k) hagree hsame F κ a w ((hmini _ _ _).2 fun t ht => hlook t (seen_looks ht)) hown hm
    exact upon_of_out h1 fun v w' ⟨κ', h2, h3, h4⟩ => next (O k) κ' v w' k hk (hkq (by unfold isE; rw [hp])) rfl h2 h3 h4
  | e mod =>
    rw [hp] at hst
    obtain ⟨hg, hq⟩ := hst
    rw [wanted_on hg hlook hlsz]
    simp only [if_true]
    refine .inl ?_
    have hno : ∀ i, (k ≤ i ∧ i < j ∨ j ≤ i ∧ i < k) → i ≠ j → isE ps i = false := fun i hb hne => by
      cases he : isE ps i with
      | false => rfl
      | true =>
        have hil : i < ops.size := by omega
        obtain ⟨mod', hpi⟩ : ∃ mod', ps.getD i .off = .e mod' := by
          unfold isE at he
          cases h : ps.getD i .off with
          | off => rw [h] at he; cases he
          | q _ => rw [h] at he; cases he
          | e mod' => exact ⟨mod', rfl⟩
        rcases hbetween i _ (Array.getElem?_eq_getElem hil) hne he hb with h | h <;> (rw [hp, hpi] at h; simp [clash] at h)
    have hkj : k ≤ j := by
      rcases Nat.lt_or_ge j k with h | h
      · exact absurd ((hkE j hjl (by unfold isE; rw [hp])).1 h) hnot
      · exact h
    have hOk : O j = O k := by
      have := own_eq hs (j - k) k (by omega) fun i h1 h2 => hno i (by omega) (by omega)
      rwa [show k + (j - k) = j from by omega] at this
    have h1 := hq.1 _ hagree F κ a w ((hmini _ _ _).2 fun t ht => by rw [hOk]; exact hlook t (seen_looks ht)) (by rw [hOk]; exact hown) hm
    refine upon_of_out h1 fun v w' ⟨κ', h2, h3, h4⟩ => next (O (j + 1)) κ' v w' (j + 1) (by omega) (fun i hi he => ?_) rfl h2 h3 (by rw [← hOk]; exact h4)
    rw [hset]
    by_cases hij : i = j
    · subst hij; simp
    · have hpi : ∃ mod', ps.getD i .off = .e mod' := by
        unfold isE at he
        cases h : ps.getD i .off with
        | off => rw [h] at he; cases he
        | q _ => rw [h] at he; cases he
        | e mod' => exact ⟨mod', rfl⟩
      obtain ⟨mod', hpi⟩ := hpi
      have := clash_before hc hM hy hr (Array.getElem?_eq_getElem hi) hij ⟨fun _ => by rw [hp, hpi]; simp [clash], fun _ => by rw [hp, hpi]; simp [clash]⟩
      rw [← this]
      omega
end

section
variable {P : Program} {m n : Nat} {own0 : List Ent} {κ0 : List (Option Nat)} {w0 : World} {ops : Array Oper} {E : Nat → List (Nat × AV)} {O : Nat → List Ent} {r : Nat → AV} {ps : List Part}

def openOps (ops : Array Oper) (listed : Array Bool) : List Nat := (List.range ops.size).filter fun i => !listed.getD i false

theorem ready_nil {F : Nat → Prop} {listed : Array Bool} {a : Act} {κ : List (Option Nat)} {w : World} (hc : chkOps ops ps = true) (hM : Mid F m own0 κ0 w0 n ops E O ps listed a κ w) (h : Region.ready .any ops listed = []) : ∀ i, i < ops.size → inX listed i := by
  intro i
  induction i using Nat.strongRecOn with
  | _ i ih =>
    intro hi
    cases hx : listed.getD i false with
    | true => exact hx
    | false =>
      have his : i < listed.size := by rw [hM.size]; exact hi
      have : i ∈ Region.ready .any ops listed := mem_ready.2 ⟨by simpa [Array.getD_eq_getD_getElem?, his] using hx, _, Array.getElem?_eq_getElem hi, fun e he hb => by
        have hlt := chk_edge hc (Array.getElem?_eq_getElem hi) he hb
        exact ih e.on hlt (by omega)⟩
      rw [h] at this; cases this

theorem open_lt {listed : Array Bool} {j : Nat} (hj : j ∈ Region.ready .any ops listed) (hsz : listed.size = ops.size) : (openOps ops (listed.setIfInBounds j true)).length < (openOps ops listed).length := by
  obtain ⟨h0, y, hy, _⟩ := mem_ready.1 hj
  have hjl : j < ops.size := (Array.getElem?_eq_some_iff.1 hy).1
  have hjs : j < listed.size := by omega
  have h0' : listed.getD j false = false := by simp [Array.getD_eq_getD_getElem?, hjs] at h0 ⊢; exact h0
  have e : openOps ops (listed.setIfInBounds j true) = (openOps ops listed).filter fun i => !(listed.setIfInBounds j true).getD i false := by
    unfold openOps
    rw [List.filter_filter]
    congr 1
    funext i
    by_cases hij : j = i
    · subst hij; simp [Array.getD_eq_getD_getElem?, hjs]
    · rw [getD_set_ne false hij]; simp
  rw [e]
  refine List.length_filter_lt_length_iff_exists.2 ⟨j, ?_, ?_⟩
  · unfold openOps; exact List.mem_filter.2 ⟨by simpa using hjl, by rw [h0']; rfl⟩
  · simp [Array.getD_eq_getD_getElem?, hjs]

theorem wpAny_of_mid {Q : Exit → Act → World → Prop} {F : Nat → Prop} (hc : chkOps ops ps = true) (hs : stepAll P m ops E O r ps)
    (hdst : ∀ (i : Nat) (o : Oper), ops[i]? = some o → (∀ d, o.dst = some d → d < n) ∧ ∀ t ∈ o.looksAt ops, t < n) (hm : m ≤ κ0.length)
    (hQ : ∀ a κ w, a.tmps.size = n → a.defers = [] → OwnSat F (O ops.size) κ w → EnvSat F (O ops.size) κ w (E ops.size) a → Tr F m own0 κ0 w0 (O ops.size) κ w → Q .normal a w) :
    ∀ (fuel : Nat) (listed : Array Bool) (a : Act) (κ : List (Option Nat)) (w : World), (openOps ops listed).length ≤ fuel → Mid F m own0 κ0 w0 n ops E O ps listed a κ w → wpAny P .any ops Q fuel listed a w := by
  have fin : ∀ listed a κ w, Mid F m own0 κ0 w0 n ops E O ps listed a κ w → (∀ i, i < ops.size → inX listed i) → Q .normal a w := fun listed a κ w hM hall => by
    obtain ⟨k, hk, hkE, hown, htr, henv⟩ := hM.cur
    have hO : O ops.size = O k := by
      have := own_eq hs (ops.size - k) k (by omega) fun i h1 h2 => by
        cases he : isE ps i with
        | false => rfl
        | true => have := (hkE i (by omega) he).2 (hall i (by omega)); omega
      rwa [show k + (ops.size - k) = ops.size from by omega] at this
    refine hQ a κ w hM.tm hM.df (by rw [hO]; exact hown) (fun t => ?_) (by rw [hO]; exact htr)
    rw [hO]
    refine henv t ops.size (Nat.le_refl _) fun i o hi _ => ?_
    have hil : i < ops.size := (Array.getElem?_eq_some_iff.1 hi).1
    exact ⟨fun _ => hall i hil, fun _ => hil⟩
  intro fuel
  induction fuel with
  | zero =>
    intro listed a κ w hf hM
    have hnil : openOps ops listed = [] := List.eq_nil_of_length_eq_zero (by omega)
    have hall : ∀ i, i < ops.size → inX listed i := fun i hi => by
      cases hx : listed.getD i false with
      | true => exact hx
      | false =>
        have : i ∈ openOps ops listed := List.mem_filter.2 ⟨by simpa using hi, by rw [hx]; rfl⟩
        rw [hnil] at this; cases this
    refine ⟨?_, fin listed a κ w hM hall⟩
    cases hr : Region.ready .any ops listed with
    | nil => rfl
    | cons x xs =>
      have hx : x ∈ Region.ready .any ops listed := by rw [hr]; simp
      have := open_lt hx hM.size
      omega
  | succ fuel ih =>
    intro listed a κ w hf hM
    refine ⟨fun h => fin listed a κ w hM (ready_nil hc hM h), fun j hj => ?_⟩
    refine mid_step hc hs hdst hm hM hj fun a' κ' w' hM' => ih _ a' κ' w' ?_ hM'
    have := open_lt hj hM.size
    omega
end

/-! ### States and statements -/
/-- The slots that are known, and the memory of the call's own. -/
structure St where
  env : List (Nat × AV)
  own : List Ent

/-- A frame and a world are in state s: of what was there in W nothing has changed but the m entries handed in. -/
structure Sim (F : Nat → Prop) (W : World) (κ0 : List (Option Nat)) (n : Nat) (s : St) (a : Act) (κ : List (Option Nat)) (w : World) : Prop where
  tm : a.tmps.size = n
  df : a.defers = []
  env : EnvSat F s.own κ w s.env a
  own : OwnSat F s.own κ w
  pre : κ.take κ0.length = κ0
  os : w.os = W.os
  tape : w.tape = W.tape
  output : w.output = W.output
  size : W.heap.size ≤ w.heap.size
  old : ∀ b, b < W.heap.size → some b ∉ κ0 → w.heap[b]? = W.heap[b]?
  new : ∀ b, some b ∈ κ → some b ∈ κ0 ∨ W.heap.size ≤ b

/-- From state s the code ends as Q says. -/
def AWP (P : Program) (n m : Nat) (c : Code) (Q : Exit → St → Prop) (s : St) : Prop :=
  ∀ (F : Nat → Prop) (W : World) (κ0 : List (Option Nat)) (a : Act) (κ : List (Option Nat)) (w : World), κ0.length = m → Sim F W κ0 n s a κ w → c.wp P (fun e a' w' => ∃ s' κ', Q e s' ∧ Sim F W κ0 n s' a' κ' w') a w

def ACont (P : Program) (n m : Nat) (K : St → Prop) (Q : Exit → St → Prop) : Exit → St → Prop
  | .normal, s => K s
  | e, s => Q e s
def ABlock (id : Nat) (Q : Exit → St → Prop) : Exit → St → Prop
  | .exit id', s => if id' = id then Q .normal s else Q (.exit id') s
  | e, s => Q e s

section
variable {P : Program} {n m : Nat} {Q : Exit → St → Prop} {s : St}

theorem AWP.skip (h : Q .normal s) : AWP P n m .skip Q s := fun F W κ0 a κ w hm hs => wp_skip ⟨s, κ, h, hs⟩
theorem AWP.exit {id : Nat} (h : Q (.exit id) s) : AWP P n m (.exit id) Q s := fun F W κ0 a κ w hm hs => wp_exit ⟨s, κ, h, hs⟩
theorem AWP.ret (h : Q .ret s) : AWP P n m .ret Q s := fun F W κ0 a κ w hm hs => wp_ret ⟨s, κ, h, hs⟩
theorem AWP.seq {x y : Code} (h : AWP P n m x (ACont P n m (AWP P n m y Q) Q) s) : AWP P n m (.seq x y) Q s := fun F W κ0 a κ w hm hs => by
  refine wp_seq (wp_mono (h F W κ0 a κ w hm hs) fun e a' w' he => ?_)
  obtain ⟨s', κ', hq, hs'⟩ := he
  cases e with
  | normal => exact hq F W κ0 a' κ' w' hm hs'
  | _ => exact ⟨s', κ', hq, hs'⟩
theorem AWP.block {id : Nat} {x : Code} (h : AWP P n m x (ABlock id Q) s) : AWP P n m (.block id x) Q s := fun F W κ0 a κ w hm hs => by
  refine wp_block (wp_mono (h F W κ0 a κ w hm hs) fun e a' w' he => ?_)
  obtain ⟨s', κ', hq, hs'⟩ := he
  cases e with
  | exit id' =>
    simp only [Exit.inBlock]
    simp only [ABlock] at hq
    split
    · rename_i h1; rw [if_pos h1] at hq; exact ⟨s', κ', hq, hs'⟩
    · rename_i h1; rw [if_neg h1] at hq; exact ⟨s', κ', hq, hs'⟩
  | _ => exact ⟨s', κ', hq, hs'⟩
theorem AWP.mono {c : Code} {Q' : Exit → St → Prop} (h : AWP P n m c Q s) (hq : ∀ e s, Q e s → Q' e s) : AWP P n m c Q' s := fun F W κ0 a κ w hm hs =>
  wp_mono (h F W κ0 a κ w hm hs) fun e a' w' ⟨s', κ', h1, h2⟩ => ⟨s', κ', hq _ _ h1, h2⟩
theorem AWP.cond {c : Operand} {x y : Code} (b : Bool) (hc : lookO s.env c = .d (.v (.bool b))) (ht : b = true → AWP P n m x Q s) (hf : b = false → AWP P n m y Q s) : AWP P n m (.cond c x y) Q s := fun F W κ0 a κ w hm hs => by
  have h1 := hs.env.eval c
  rw [hc] at h1
  simp only [AV.sat, Dat.sat] at h1
  exact wp_cond_split h1 (fun h => ht h F W κ0 a κ w hm hs) (fun h => hf h F W κ0 a κ w hm hs)

/-- A loop, its states counted by some type. -/
theorem AWP.loop {body : Code} {α : Type} (pre : α → Prop) (st : α → St) (μ : α → Nat) (x0 : α) (h0 : pre x0) (hs0 : s = st x0)
    (hr : ∀ x, pre x → AWP P n m body (ACont P n m (fun s' => ∃ x', pre x' ∧ μ x' < μ x ∧ s' = st x') Q) (st x)) : AWP P n m (.loop body) Q s := fun F W κ0 a κ w hm hs => by
  subst hs0
  refine wp_loop_ghost (fun k a w => ∃ x κ, pre x ∧ μ x = k ∧ Sim F W κ0 n (st x) a κ w) (μ x0) ⟨x0, κ, h0, rfl, hs⟩ fun k a w ⟨x, κ, hp, hk, hs⟩ => ?_
  refine wp_mono (hr x hp F W κ0 a κ w hm hs) fun e a' w' ⟨s', κ', hq, hs'⟩ => ?_
  cases e with
  | normal =>
    obtain ⟨x', h1, h2, rfl⟩ := hq
    exact ⟨μ x', by omega, x', κ', h1, rfl, hs'⟩
  | _ => exact ⟨s', κ', hq, hs'⟩

theorem Sim.step {F : Nat → Prop} {W : World} {κ0 : List (Option Nat)} {s : St} {a a' : Act} {κ κ' : List (Option Nat)} {w w' : World} {env' : List (Nat × AV)} {own' : List Ent} (hm : κ0.length = m) (hs : Sim F W κ0 n s a κ w)
    (ht : Tr F m s.own κ w own' κ' w') (htm : a'.tmps.size = n) (hdf : a'.defers = []) (he : EnvSat F own' κ' w' env' a') (ho : OwnSat F own' κ' w') : Sim F W κ0 n ⟨env', own'⟩ a' κ' w' := by
  refine ⟨htm, hdf, he, ho, ?_, ht.os.trans hs.os, ht.tape.trans hs.tape, ht.output.trans hs.output, Nat.le_trans hs.size ht.size, fun b hb hk => ?_, fun b hb => ?_⟩
  · rw [hm, ht.pre, ← hm]; exact hs.pre
  · refine (ht.old b (Nat.lt_of_lt_of_le hb hs.size) fun h2 => ?_).trans (hs.old b hb hk)
    rcases hs.new b h2 with h3 | h3
    · exact hk h3
    · omega
  · rcases ht.new b hb with h1 | h1
    · exact hs.new b h1
    · have := hs.size; exact .inr (by omega)
end

def fitsB (n : Nat) (ops : Array Oper) : Bool := ops.all fun o => (match o.dst with | some d => decide (d < n) | none => true) && (o.looksAt ops).all fun t => decide (t < n)
theorem fitsB_spec {n : Nat} {ops : Array Oper} (h : fitsB n ops = true) : ∀ (i : Nat) (o : Oper), ops[i]? = some o → (∀ d, o.dst = some d → d < n) ∧ ∀ t ∈ o.looksAt ops, t < n := fun i o hi => by
  have := Array.all_eq_true_iff_forall_mem.1 h o (Array.mem_of_getElem? hi)
  simp only [Bool.and_eq_true] at this
  refine ⟨fun d hd => ?_, fun t ht => ?_⟩
  · rw [hd] at this; simpa using this.1
  · simpa using List.all_eq_true.1 this.2 t ht

theorem seq_of_chain {P : Program} {m n : Nat} {own0 : List Ent} {κ0 : List (Option Nat)} {w0 : World} {ops : Array Oper} {E : Nat → List (Nat × AV)} {O : Nat → List Ent} {r : Nat → AV} {ps : List Part} {F : Nat → Prop} {Q : Exit → Act → World → Prop}
    (hs : stepAll P m ops E O r ps) (hdst : ∀ (i : Nat) (o : Oper), ops[i]? = some o → (∀ d, o.dst = some d → d < n) ∧ ∀ t ∈ o.looksAt ops, t < n) (hm : m ≤ κ0.length)
    (hQ : ∀ a κ w, a.tmps.size = n → a.defers = [] → OwnSat F (O ops.size) κ w → EnvSat F (O ops.size) κ w (E ops.size) a → Tr F m own0 κ0 w0 (O ops.size) κ w → Q .normal a w) :
    ∀ (d k : Nat) (a : Act) (κ : List (Option Nat)) (w : World), k + d = ops.size → a.tmps.size = n → a.defers = [] → OwnSat F (O k) κ w → EnvSat F (O k) κ w (E k) a → Tr F m own0 κ0 w0 (O k) κ w → wpOps P ops Q (List.range' k d) a w := by
  intro d
  induction d with
  | zero =>
    intro k a κ w hk htm hdf ho he ht
    obtain rfl : k = ops.size := by omega
    exact hQ a κ w htm hdf ho he ht
  | succ d ih =>
    intro k a κ w hk htm hdf ho he ht
    have hlt : k < ops.size := by omega
    have hy := Array.getElem?_eq_getElem hlt
    generalize ops[k] = y at hy
    obtain ⟨hE, hst⟩ := hs k y hy
    rw [List.range'_succ, wpOps_cons]
    unfold wpOp
    simp only [hy]
    have next : ∀ (κ' : List (Option Nat)) (v : Value) (w' : World), AV.sat F (O (k + 1)) κ' w' (r k) v → OwnSat F (O (k + 1)) κ' w' → Tr F m (O k) κ w (O (k + 1)) κ' w' → wpOps P ops Q (List.range' (k + 1) d) (a.put y.dst v) w' := fun κ' v w' hrv hown' htr => by
      refine ih (k + 1) _ κ' w' (by omega) (by rw [put_size]; exact htm) (by rw [put_defs]; exact hdf) hown' (fun t => ?_) (ht.trans htr)
      rw [hE]
      by_cases hd : y.dst = some t
      · rw [hd, look_putE_self, put_getD_self (by rw [htm]; exact (hdst k y hy).1 t hd)]; exact hrv
      · rw [look_putE_ne _ _ hd, put_getD_ne hd]; exact htr.keep _ _ (he t)
    cases hp : ps.getD k .off with
    | off =>
      rw [hp] at hst
      obtain ⟨hg, hrj, hO⟩ := hst
      rw [wanted_off hg fun t _ => he t]
      simp only [Bool.false_eq_true, if_false]
      refine next κ undef w ?_ (by rw [hO]; exact ho) (by rw [hO]; exact Tr.refl _ _ _ _ _)
      rw [hrj]; simp [AV.sat, Dat.sat]
    | q fp =>
      rw [hp] at hst
      obtain ⟨hg, hq, hO⟩ := hst
      rw [wanted_on hg (fun t _ => he t) fun t ht => by rw [htm]; exact (hdst k y hy).2 t ht]
      simp only [if_true]
      have h1 := hq (E k) (O k) (fun _ _ => rfl) (fun _ _ => rfl) F κ a w he ho (ht.le hm)
      exact .inl (upon_of_out h1 fun v w' ⟨κ', h2, h3, h4⟩ => next κ' v w' (by rw [hO]; exact h2) (by rw [hO]; exact h3) (by rw [hO]; exact h4))
    | e mod =>
      rw [hp] at hst
      obtain ⟨hg, hq⟩ := hst
      rw [wanted_on hg (fun t _ => he t) fun t ht => by rw [htm]; exact (hdst k y hy).2 t ht]
      simp only [if_true]
      have h1 := hq.1 (E k) (fun _ _ => rfl) F κ a w he ho (ht.le hm)
      exact .inl (upon_of_out h1 fun v w' ⟨κ', h2, h3, h4⟩ => next κ' v w' h2 h3 h4)

theorem OwnSat.drawn {F : Nat → Prop} {own : List Ent} {κ : List (Option Nat)} {w : World} (h : OwnSat F own κ w) (m k : Nat) : OwnSat F own κ { w with drawn := k } ∧ Tr F m own κ w own κ { w with drawn := k } :=
  step_more (w' := { w with drawn := k }) h rfl rfl rfl (Nat.le_refl _) fun _ _ => rfl

section
variable {P : Program} {n m : Nat} {Q : Exit → St → Prop} {s : St}
theorem AWP.region {id : Nat} {ops : Array Oper} (hf : fitsB n ops = true) (h : Walk P m ops (fun _ env own => Q .normal ⟨env, own⟩) [] ops.toList s.env s.own) : AWP P n m (.region id ops false) Q s := fun F W κ0 a κ w hm hs => by
  obtain ⟨E, O, r, ps, h1, h2, h3, h4, h5⟩ := walk_chain h
  have hle : m ≤ κ.length := by have := congrArg List.length hs.pre; simp only [List.length_take] at this; omega
  refine wp_region ?_
  rw [List.range_eq_range']
  refine seq_of_chain (own0 := s.own) (κ0 := κ) (w0 := w) (E := E) (O := O) (r := r) (ps := ps) (fun k o hk => h4 k o (by simpa using hk)) (fitsB_spec hf) hle (fun a' κ' w' htm hdf ho he ht => ?_) ops.size 0 a κ w (by omega) hs.tm hs.df (by rw [h2]; exact hs.own) (by rw [h1, h2]; exact hs.env) (by rw [h2]; exact Tr.refl _ _ _ _ _)
  simp only [Array.length_toList] at h5
  exact ⟨_, κ', h5, hs.step hm ht htm hdf he ho⟩
theorem AWP.regionD {id : Nat} {ops : Array Oper} (hmo : P.follows .mixedOrders = true) (hf : fitsB n ops = true) (h : Walk P m ops (fun done env own => chkOps ops done.reverse = true ∧ Q .normal ⟨env, own⟩) [] ops.toList s.env s.own) : AWP P n m (.region id ops true) Q s := fun F W κ0 a κ w hm hs => by
  obtain ⟨E, O, r, ps, h1, h2, h3, h4, h5, h6⟩ := walk_chain h
  have hle : m ≤ κ.length := by have := congrArg List.length hs.pre; simp only [List.length_take] at this; omega
  obtain ⟨hd1, hd2⟩ := hs.own.drawn m (w.drawn + 1)
  refine wp_region_any hmo ?_
  simp only [Array.length_toList] at h6
  have hc : chkOps ops ps = true := by simpa using h5
  refine wpAny_of_mid (own0 := s.own) (κ0 := κ) (w0 := w) (F := F) (E := E) (O := O) (r := r) (ps := ps) hc (fun k o hk => h4 k o (by simpa using hk)) (fitsB_spec hf) hle (fun a' κ' w' htm hdf ho he ht => ?_) ops.size _ a κ _ ?_
    ⟨by simp, fun k o hk => ?_, hs.tm, hs.df, 0, Nat.zero_le _, fun i hi _ => ?_, by rw [h2]; exact hd1, by rw [h2]; exact hd2, fun t j hj hcur => ?_⟩
  · exact ⟨_, κ', h6, hs.step hm ht htm hdf he ho⟩
  · unfold openOps; exact Nat.le_trans (List.length_filter_le _ _) (by simp)
  · unfold inX at hk
    by_cases hlt : k < ops.size <;> simp [Array.getD_eq_getD_getElem?, hlt] at hk
  · constructor
    · intro h; omega
    · intro h; unfold inX at h; simp [Array.getD_eq_getD_getElem?, hi] at h
  · rw [h2]
    have : look (E j) t = look (E 0) t := by
      have hgo : ∀ d, d ≤ j → look (E d) t = look (E 0) t := fun d => by
        induction d with
        | zero => intro _; rfl
        | succ d ih =>
          intro hd
          have hlt : d < ops.size := by omega
          have hy := Array.getElem?_eq_getElem hlt
          rw [(h4 d ops[d] (by rw [Array.getElem?_toList]; exact hy)).1, look_putE_ne _ _ ?_]
          · exact ih (by omega)
          · intro hdt
            have := (hcur d _ hy hdt).1 (by omega)
            unfold inX at this
            simp [Array.getD_eq_getD_getElem?, hlt] at this
      exact hgo j (Nat.le_refl _)
    rw [this, h1]
    exact hd2.keep _ _ (hs.env t)
end
end Go.Proofs.Ytffdhckilhhejaa
