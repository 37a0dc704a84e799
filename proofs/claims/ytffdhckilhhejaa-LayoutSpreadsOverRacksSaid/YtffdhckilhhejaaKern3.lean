/- The machine of abstract values: what the operations that leave the call's own memory alone yield. No program in sight; no condition. -/
import Derived.Test.YtffdhckilhhejaaKern2
namespace Go.Proofs.Ytffdhckilhhejaa
open Go.RowKit
set_option linter.unusedVariables false
set_option linter.unusedSimpArgs false

/-! ### How a rule is shown -/
theorem exec_v {P : Program} {s : Sem Value} {w w' : World} {v : Value} (h : s.run P w = .ok v w') : (do pure (Next.value (← s)) : Sem Next).run P w = .ok (.value v) w' := by
  simp [h]
theorem exec_u {P : Program} {s : Sem Unit} {w w' : World} (h : s.run P w = .ok () w') : (do s; pure Next.skip : Sem Next).run P w = .ok .skip w' := by
  simp [h]

section
variable {P : Program} {m : Nat} {env : List (Nat × AV)} {own : List Ent} {o : Oper} {fp : List Nat} {r : AV}

theorem Quiet.mk (h : ∀ (F : Nat → Prop) (own' : List Ent) (κ : List (Option Nat)) (a : Act) (w : World), (∀ x ∈ o.op.operands, AV.sat F own' κ w (lookO env x) (a.eval x)) → OwnSat F own' κ w → same fp own own' → m ≤ κ.length →
    OutOk P (fun v w' => AV.sat F own' κ w' r v ∧ OwnSat F own' κ w' ∧ Tr F m own' κ w own' κ w') ((execOp a.eval o).run P w)) : Quiet P m o env own fp r := by
  intro env' own' hag hsame F κ a w he ho hm
  have h1 := h F own' κ a w (fun x hx => by rw [← lookO_seen hag hx]; exact he.eval x) ho hsame hm
  generalize (execOp a.eval o).run P w = res at h1
  cases res with
  | ok n w' =>
    cases n <;> simp only [OutOk] at h1 ⊢
    case value v => exact ⟨κ, h1⟩
    case skip => exact ⟨κ, h1⟩
    case enter f args => exact h1.mono fun e w'' ⟨v, he, h2⟩ => ⟨v, he, κ, h2⟩
  | halt x w' => exact h1.elim
/-- A value, the world as it was. -/
theorem Quiet.val (h : ∀ (F : Nat → Prop) (own' : List Ent) (κ : List (Option Nat)) (a : Act) (w : World), (∀ x ∈ o.op.operands, AV.sat F own' κ w (lookO env x) (a.eval x)) → OwnSat F own' κ w → same fp own own' → m ≤ κ.length →
    ∃ v, (execOp a.eval o).run P w = .ok (.value v) w ∧ AV.sat F own' κ w r v) : Quiet P m o env own fp r :=
  Quiet.mk fun F own' κ a w hx ho hs hm => by
    obtain ⟨v, h1, h2⟩ := h F own' κ a w hx ho hs hm
    rw [h1]
    exact ⟨h2, ho, Tr.refl _ _ _ _ _⟩
/-- A value, and new blocks of no one's. -/
theorem Quiet.more (h : ∀ (F : Nat → Prop) (own' : List Ent) (κ : List (Option Nat)) (a : Act) (w : World), (∀ x ∈ o.op.operands, AV.sat F own' κ w (lookO env x) (a.eval x)) → OwnSat F own' κ w → same fp own own' → m ≤ κ.length →
    ∃ v w', (execOp a.eval o).run P w = .ok (.value v) w' ∧ AV.sat F own' κ w' r v ∧ w'.os = w.os ∧ w'.tape = w.tape ∧ w'.output = w.output ∧ w.heap.size ≤ w'.heap.size ∧ ∀ b, b < w.heap.size → w'.heap[b]? = w.heap[b]?) : Quiet P m o env own fp r :=
  Quiet.mk fun F own' κ a w hx ho hs hm => by
    obtain ⟨v, w', h1, h2, h3, h4, h5, h6, h7⟩ := h F own' κ a w hx ho hs hm
    rw [h1]
    obtain ⟨h8, h9⟩ := step_more (m := m) ho h3 h4 h5 h6 h7
    exact ⟨h2, h8, h9⟩
theorem Eff.mk {own' : List Ent} {mod : List Nat} (hf : ∀ i, i ∉ mod → own'[i]? = own[i]?) (h : ∀ (F : Nat → Prop) (κ : List (Option Nat)) (a : Act) (w : World), (∀ x ∈ o.op.operands, AV.sat F own κ w (lookO env x) (a.eval x)) → OwnSat F own κ w → m ≤ κ.length →
    OutOk P (fun v w' => ∃ κ', AV.sat F own' κ' w' r v ∧ OwnSat F own' κ' w' ∧ Tr F m own κ w own' κ' w') ((execOp a.eval o).run P w)) : Eff P m o env own mod r own' :=
  ⟨fun env' hag F κ a w he ho hm => h F κ a w (fun x hx => by rw [← lookO_seen hag hx]; exact he.eval x) ho hm, hf⟩
end

theorem sat_v {F : Nat → Prop} {own : List Ent} {κ : List (Option Nat)} {w : World} {x u : Value} : AV.sat F own κ w (.d (.v x)) u ↔ u = x := by simp [AV.sat, Dat.sat]
theorem satL_length {F : Nat → Prop} {own : List Ent} {κ : List (Option Nat)} {w : World} : ∀ {l : List AV} {us : List Value}, AV.satL F own κ w l us → l.length = us.length
  | [], [], _ => rfl
  | x :: xs, u :: us, h => by rw [AV.satL] at h; simp [satL_length h.2]
  | [], _ :: _, h => by simp [AV.satL] at h
  | _ :: _, [], h => by simp [AV.satL] at h
theorem satL_get {F : Nat → Prop} {own : List Ent} {κ : List (Option Nat)} {w : World} : ∀ {l : List AV} {us : List Value}, AV.satL F own κ w l us → ∀ (j : Nat) (x : AV), l[j]? = some x → ∃ u, us[j]? = some u ∧ AV.sat F own κ w x u
  | [], [], _, j, x, hx => by simp at hx
  | y :: xs, u :: us, h, j, x, hx => by
    rw [AV.satL] at h
    cases j with
    | zero => obtain rfl : y = x := by simpa using hx
              exact ⟨u, by simp, h.1⟩
    | succ j => simpa using satL_get h.2 j x (by simpa using hx)
  | [], _ :: _, h, _, _, _ => by simp [AV.satL] at h
  | _ :: _, [], h, _, _, _ => by simp [AV.satL] at h
theorem satL_of {F : Nat → Prop} {own : List Ent} {κ : List (Option Nat)} {w : World} : ∀ {l : List AV} {us : List Value}, l.length = us.length → (∀ (j : Nat) (x : AV), l[j]? = some x → ∃ u, us[j]? = some u ∧ AV.sat F own κ w x u) → AV.satL F own κ w l us
  | [], [], _, _ => by simp [AV.satL]
  | y :: xs, u :: us, hl, h => by
    rw [AV.satL]
    refine ⟨?_, satL_of (by simpa using hl) fun j x hx => by simpa using h (j + 1) x (by simpa using hx)⟩
    obtain ⟨u', h1, h2⟩ := h 0 y (by simp)
    obtain rfl : u = u' := by simpa using h1
    exact h2
  | [], _ :: _, h, _ => by simp at h
  | _ :: _, [], h, _ => by simp at h

abbrev iV (n : Int) : AV := .d (.v (.int .i64 n))
abbrev bV (b : Bool) : AV := .d (.v (.bool b))

section
variable {P : Program} {m : Nat} {env : List (Nat × AV)} {own : List Ent} {dst : Option Tmp} {ty : TypeId} {pos : String} {af : Array Edge} {gd : Option (Nat × Bool)}

theorem q_move (x : Operand) : Quiet P m ⟨dst, .move x, ty, pos, af, gd⟩ env own [] (lookO env x) :=
  Quiet.val fun F own' κ a w hx _ _ _ => ⟨a.eval x, rfl, hx x (by simp [Op.operands])⟩
theorem q_assign (x : Operand) : Quiet P m ⟨dst, .assign x, ty, pos, af, gd⟩ env own [] (lookO env x) :=
  Quiet.val fun F own' κ a w hx _ _ _ => ⟨a.eval x, rfl, hx x (by simp [Op.operands])⟩

/-- An operation on two values. -/
theorem q_bin {op : BinOp} {t t' : TypeId} {x y : Operand} {u1 u2 v : Value} (hx : lookO env x = .d (.v u1)) (hy : lookO env y = .d (.v u2))
    (hr : ∀ w : World, (do eqGuard op t x y u1 u2; binOp op t u1 u2 : Sem Value).run P w = .ok v w) : Quiet P m ⟨dst, .binOp op t x y t', ty, pos, af, gd⟩ env own [] (.d (.v v)) :=
  Quiet.val fun F own' κ a w hs _ _ _ => by
    have h1 := hs x (by simp [Op.operands]); rw [hx, sat_v] at h1
    have h2 := hs y (by simp [Op.operands]); rw [hy, sat_v] at h2
    refine ⟨v, exec_v ?_, sat_v.2 rfl⟩
    rw [h1, h2]; exact hr w

theorem wrap_in {z : Int} (h : -9223372036854775808 ≤ z ∧ z < 9223372036854775808) : IntKind.i64.wrap z = z := Go.IntWalk.i64_in z (by omega)
theorem beq_int (a b : Int) : (a == b) = decide (a = b) := by rw [Bool.eq_iff_iff]; simp

theorem q_add {t t' : TypeId} {x y : Operand} {a b : Int} (hx : lookO env x = iV a) (hy : lookO env y = iV b) (h : -9223372036854775808 ≤ a + b ∧ a + b < 9223372036854775808) :
    Quiet P m ⟨dst, .binOp .add t x y t', ty, pos, af, gd⟩ env own [] (iV (a + b)) := q_bin hx hy fun w => by
  simp [eqGuard, binOp, Op.intArith, wrap_in h]
theorem q_sub {t t' : TypeId} {x y : Operand} {a b : Int} (hx : lookO env x = iV a) (hy : lookO env y = iV b) (h : -9223372036854775808 ≤ a - b ∧ a - b < 9223372036854775808) :
    Quiet P m ⟨dst, .binOp .sub t x y t', ty, pos, af, gd⟩ env own [] (iV (a - b)) := q_bin hx hy fun w => by
  simp [eqGuard, binOp, Op.intArith, wrap_in h]
theorem q_mul {t t' : TypeId} {x y : Operand} {a b : Int} (hx : lookO env x = iV a) (hy : lookO env y = iV b) (h : -9223372036854775808 ≤ a * b ∧ a * b < 9223372036854775808) :
    Quiet P m ⟨dst, .binOp .mul t x y t', ty, pos, af, gd⟩ env own [] (iV (a * b)) := q_bin hx hy fun w => by
  simp [eqGuard, binOp, Op.intArith, wrap_in h]
theorem q_addw {t t' : TypeId} {x y : Operand} {k : IntKind} {a b : Int} (hx : lookO env x = .d (.v (.int k a))) (hy : lookO env y = .d (.v (.int k b))) :
    Quiet P m ⟨dst, .binOp .add t x y t', ty, pos, af, gd⟩ env own [] (.d (.v (.int k (k.wrap (a + b))))) := q_bin hx hy fun w => by simp [eqGuard, binOp, Op.intArith]
theorem q_subw {t t' : TypeId} {x y : Operand} {k : IntKind} {a b : Int} (hx : lookO env x = .d (.v (.int k a))) (hy : lookO env y = .d (.v (.int k b))) :
    Quiet P m ⟨dst, .binOp .sub t x y t', ty, pos, af, gd⟩ env own [] (.d (.v (.int k (k.wrap (a - b))))) := q_bin hx hy fun w => by simp [eqGuard, binOp, Op.intArith]
theorem q_mulw {t t' : TypeId} {x y : Operand} {k : IntKind} {a b : Int} (hx : lookO env x = .d (.v (.int k a))) (hy : lookO env y = .d (.v (.int k b))) :
    Quiet P m ⟨dst, .binOp .mul t x y t', ty, pos, af, gd⟩ env own [] (.d (.v (.int k (k.wrap (a * b))))) := q_bin hx hy fun w => by simp [eqGuard, binOp, Op.intArith]
/-- '/' and '%' of numbers that are not negative. -/
theorem q_quo {t t' : TypeId} {x y : Operand} {a b : Int} (hx : lookO env x = iV a) (hy : lookO env y = iV b) (ha : 0 ≤ a) (hb : 0 < b) (hi : a < 9223372036854775808) :
    Quiet P m ⟨dst, .binOp .quo t x y t', ty, pos, af, gd⟩ env own [] (iV (a / b)) := q_bin hx hy fun w => by
  have h0 : b ≠ 0 := by omega
  have h1 : a.tdiv b = a / b := Int.tdiv_eq_ediv_of_nonneg ha
  have h2 : 0 ≤ a / b := Int.ediv_nonneg ha (by omega)
  have h3 : a / b ≤ a := Int.ediv_le_self _ ha
  simp [eqGuard, binOp, Op.intDiv, h0, h1, wrap_in (show -9223372036854775808 ≤ a / b ∧ a / b < 9223372036854775808 by omega)]
theorem q_rem {t t' : TypeId} {x y : Operand} {a b : Int} (hx : lookO env x = iV a) (hy : lookO env y = iV b) (ha : 0 ≤ a) (hb : 0 < b) :
    Quiet P m ⟨dst, .binOp .rem t x y t', ty, pos, af, gd⟩ env own [] (iV (a % b)) := q_bin hx hy fun w => by
  have h0 : b ≠ 0 := by omega
  have h1 : a.tmod b = a % b := Int.tmod_eq_emod_of_nonneg ha
  simp [eqGuard, binOp, Op.intDiv, h0, h1]
theorem q_remt {t t' : TypeId} {x y : Operand} {a b : Int} (hx : lookO env x = iV a) (hy : lookO env y = iV b) (hb : b ≠ 0) :
    Quiet P m ⟨dst, .binOp .rem t x y t', ty, pos, af, gd⟩ env own [] (iV (a.tmod b)) := q_bin hx hy fun w => by
  simp [eqGuard, binOp, Op.intDiv, hb]
theorem q_lss {t t' : TypeId} {x y : Operand} {k : IntKind} {a b : Int} (hx : lookO env x = .d (.v (.int k a))) (hy : lookO env y = .d (.v (.int k b))) :
    Quiet P m ⟨dst, .binOp .lss t x y t', ty, pos, af, gd⟩ env own [] (bV (decide (a < b))) := q_bin hx hy fun w => by simp [eqGuard, binOp, Op.intCmp]
theorem q_leq {t t' : TypeId} {x y : Operand} {k : IntKind} {a b : Int} (hx : lookO env x = .d (.v (.int k a))) (hy : lookO env y = .d (.v (.int k b))) :
    Quiet P m ⟨dst, .binOp .leq t x y t', ty, pos, af, gd⟩ env own [] (bV (decide (a ≤ b))) := q_bin hx hy fun w => by simp [eqGuard, binOp, Op.intCmp]
theorem q_gtr {t t' : TypeId} {x y : Operand} {k : IntKind} {a b : Int} (hx : lookO env x = .d (.v (.int k a))) (hy : lookO env y = .d (.v (.int k b))) :
    Quiet P m ⟨dst, .binOp .gtr t x y t', ty, pos, af, gd⟩ env own [] (bV (decide (b < a))) := q_bin hx hy fun w => by simp [eqGuard, binOp, Op.intCmp]
theorem q_geq {t t' : TypeId} {x y : Operand} {k : IntKind} {a b : Int} (hx : lookO env x = .d (.v (.int k a))) (hy : lookO env y = .d (.v (.int k b))) :
    Quiet P m ⟨dst, .binOp .geq t x y t', ty, pos, af, gd⟩ env own [] (bV (decide (b ≤ a))) := q_bin hx hy fun w => by simp [eqGuard, binOp, Op.intCmp]
theorem q_eql {t t' : TypeId} {x y : Operand} {k : IntKind} {a b : Int} (hx : lookO env x = .d (.v (.int k a))) (hy : lookO env y = .d (.v (.int k b))) :
    Quiet P m ⟨dst, .binOp .eql t x y t', ty, pos, af, gd⟩ env own [] (bV (decide (a = b))) := q_bin hx hy fun w => by
  simp [eqGuard, binOp, Op.intCmp, beq_int]
theorem q_neq {t t' : TypeId} {x y : Operand} {k : IntKind} {a b : Int} (hx : lookO env x = .d (.v (.int k a))) (hy : lookO env y = .d (.v (.int k b))) :
    Quiet P m ⟨dst, .binOp .neq t x y t', ty, pos, af, gd⟩ env own [] (bV (!decide (a = b))) := q_bin hx hy fun w => by
  simp [eqGuard, binOp, Op.intCmp, bne, beq_int]
theorem q_un {op : UnOp} {t : TypeId} {x : Operand} {u v : Value} (hx : lookO env x = .d (.v u)) (hr : ∀ w : World, (Op.unary op u).run P w = .ok v w) :
    Quiet P m ⟨dst, .unOp op t x, ty, pos, af, gd⟩ env own [] (.d (.v v)) :=
  Quiet.val fun F own' κ a w hs _ _ _ => by
    have h1 := hs x (by simp [Op.operands]); rw [hx, sat_v] at h1
    refine ⟨v, exec_v ?_, sat_v.2 rfl⟩
    rw [h1]; exact hr w
theorem q_not {t : TypeId} {x : Operand} {b : Bool} (hx : lookO env x = bV b) : Quiet P m ⟨dst, .unOp .not t x, ty, pos, af, gd⟩ env own [] (bV (!b)) := q_un hx fun w => by simp [Op.unary]
theorem q_neg {t : TypeId} {x : Operand} {a : Int} (hx : lookO env x = iV a) (h : -9223372036854775808 < a ∧ a < 9223372036854775808) : Quiet P m ⟨dst, .unOp .neg t x, ty, pos, af, gd⟩ env own [] (iV (-a)) := q_un hx fun w => by
  simp [Op.unary, Op.intArith, wrap_in (show -9223372036854775808 ≤ -a ∧ -a < 9223372036854775808 by omega)]

def isInt (P : Program) (t : TypeId) (k : IntKind) : Bool := match P.underlying t with | some (.int j) => j == k | _ => false
/-- A conversion between kinds of integers. -/
theorem q_conv {src dst' : TypeId} {x : Operand} {k : IntKind} (k' : IntKind) {n : Int} (hs : (P.underlying src).isSome = true) (hd : isInt P dst' k' = true) (hx : lookO env x = .d (.v (.int k n))) :
    Quiet P m ⟨dst, .convert src dst' x, ty, pos, af, gd⟩ env own [] (.d (.v (.int k' (k'.wrap n)))) :=
  Quiet.val fun F own' κ a w hsat _ _ _ => by
    have h1 := hsat x (by simp [Op.operands]); rw [hx, sat_v] at h1
    obtain ⟨d, hd1⟩ := Option.isSome_iff_exists.1 hs
    have hd2 : P.underlying dst' = some (.int k') := by
      unfold isInt at hd
      cases h : P.underlying dst' with
      | none => simp [h] at hd
      | some d => cases d <;> simp [h] at hd
                  subst hd; rfl
    refine ⟨_, exec_v ?_, sat_v.2 rfl⟩
    rw [h1]
    simp [convert, run_underlying hd1, run_underlying hd2, Conv.intToInt]

theorem q_extract {x : Operand} {l : List AV} {ix : Nat} {y : AV} (hx : lookO env x = .tup l) (hy : l[ix]? = some y) : Quiet P m ⟨dst, .extract x ix, ty, pos, af, gd⟩ env own [] y :=
  Quiet.val fun F own' κ a w hs _ _ _ => by
    have h1 := hs x (by simp [Op.operands]); rw [hx, AV.sat] at h1
    obtain ⟨vs, h2, h3⟩ := h1
    obtain ⟨u, h4, h5⟩ := satL_get h3 ix y hy
    refine ⟨u, exec_v ?_, h5⟩
    rw [h2]
    have : vs[ix]? = some u := by simpa using h4
    simp [Instr.extract, this]
end
end Go.Proofs.Ytffdhckilhhejaa
