/- The machine of abstract values: rules in the form in which a walk applies them. No program in sight; no condition. -/
import Derived.Test.YtffdhckilhhejaaKern9
namespace Go.Proofs.Ytffdhckilhhejaa
open Go.RowKit
set_option linter.unusedVariables false
set_option linter.unusedSimpArgs false

section
variable {P : Program} {n m : Nat} {Q : Exit → St → Prop} {env : List (Nat × AV)} {own : List Ent}
theorem W.region {id : Nat} {l : List Oper} (hf : fitsB n ⟨l⟩ = true) (h : Walk P m ⟨l⟩ (fun _ env own => Q .normal ⟨env, own⟩) [] l env own) : AWP P n m (.region id ⟨l⟩ false) Q ⟨env, own⟩ := AWP.region hf h
theorem W.regionD {id : Nat} {l : List Oper} (hmo : P.follows .mixedOrders = true) (hf : fitsB n ⟨l⟩ = true) (h : Walk P m ⟨l⟩ (fun done env own => chkOps ⟨l⟩ done.reverse = true ∧ Q .normal ⟨env, own⟩) [] l env own) : AWP P n m (.region id ⟨l⟩ true) Q ⟨env, own⟩ := AWP.regionD hmo hf h
theorem W.cond {c : Operand} {x y : Code} (b : Bool) (hc : lookO env c = .d (.v (.bool b))) (ht : b = true → AWP P n m x Q ⟨env, own⟩) (hf : b = false → AWP P n m y Q ⟨env, own⟩) : AWP P n m (.cond c x y) Q ⟨env, own⟩ := AWP.cond b hc ht hf
theorem W.condT {c : Operand} {x y : Code} (hc : lookO env c = .d (.v (.bool true))) (ht : AWP P n m x Q ⟨env, own⟩) : AWP P n m (.cond c x y) Q ⟨env, own⟩ := AWP.cond true hc (fun _ => ht) (fun h => by cases h)
theorem W.condF {c : Operand} {x y : Code} (hc : lookO env c = .d (.v (.bool false))) (hf : AWP P n m y Q ⟨env, own⟩) : AWP P n m (.cond c x y) Q ⟨env, own⟩ := AWP.cond false hc (fun h => by cases h) (fun _ => hf)
theorem W.chk {ops : Array Oper} {l : List Part} {R : Prop} (h : chkOps ops l = true) (hr : R) : chkOps ops l = true ∧ R := ⟨h, hr⟩
theorem ACont_normal {K : St → Prop} {s : St} (h : K s) : ACont P n m K Q .normal s := h
theorem ACont_exit {K : St → Prop} {s : St} {id : Nat} (h : Q (.exit id) s) : ACont P n m K Q (.exit id) s := h
theorem ACont_ret {K : St → Prop} {s : St} (h : Q .ret s) : ACont P n m K Q .ret s := h
theorem ABlock_normal {s : St} {id : Nat} (h : Q .normal s) : ABlock id Q .normal s := h
theorem ABlock_exit {s : St} {id : Nat} (h : Q .normal s) : ABlock id Q (.exit id) s := by simp only [ABlock, if_true]; exact h
theorem ABlock_exit' {s : St} {id id' : Nat} (hn : (id' == id) = false) (h : Q (.exit id') s) : ABlock id Q (.exit id') s := by
  have : ¬ id' = id := by simpa using hn
  simp only [ABlock, if_neg this]; exact h
theorem ABlock_ret {s : St} {id : Nat} (h : Q .ret s) : ABlock id Q .ret s := h
end

section
variable {P : Program} {m : Nat} {ops : Array Oper} {Q : List Part → List (Nat × AV) → List Ent → Prop} {done : List Part} {dst : Option Tmp} {op : Op} {ty : TypeId} {pos : String} {af : Array Edge} {rest : List Oper} {env : List (Nat × AV)} {own : List Ent} {fp : List Nat} {r : AV}
/-- The next operation, unguarded, is quiet. -/
theorem W.q (hq : Quiet P m ⟨dst, op, ty, pos, af, none⟩ env own fp r) (h : Walk P m ops Q (.q fp :: done) rest (putE env dst r) own) : Walk P m ops Q done (⟨dst, op, ty, pos, af, none⟩ :: rest) env own := Walk.q fp r trivial hq h
theorem W.e {mod : List Nat} {own' : List Ent} (hq : Eff P m ⟨dst, op, ty, pos, af, none⟩ env own mod r own') (h : Walk P m ops Q (.e mod :: done) rest (putE env dst r) own') : Walk P m ops Q done (⟨dst, op, ty, pos, af, none⟩ :: rest) env own := Walk.e mod r own' trivial hq h
theorem Quiet.gd {gd gd' : Option (Nat × Bool)} (h : Quiet P m ⟨dst, op, ty, pos, af, gd⟩ env own fp r) : Quiet P m ⟨dst, op, ty, pos, af, gd'⟩ env own fp r := h
theorem W.qd {d : Nat} (hq : Quiet P m ⟨some d, op, ty, pos, af, none⟩ env own fp r) (h : Walk P m ops Q (.q fp :: done) rest ((d, r) :: env) own) : Walk P m ops Q done (⟨some d, op, ty, pos, af, none⟩ :: rest) env own := Walk.q fp r trivial hq h
theorem W.ed {d : Nat} {mod : List Nat} {own' : List Ent} (hq : Eff P m ⟨some d, op, ty, pos, af, none⟩ env own mod r own') (h : Walk P m ops Q (.e mod :: done) rest ((d, r) :: env) own') : Walk P m ops Q done (⟨some d, op, ty, pos, af, none⟩ :: rest) env own := Walk.e mod r own' trivial hq h
theorem W.en {mod : List Nat} {own' : List Ent} (hq : Eff P m ⟨none, op, ty, pos, af, none⟩ env own mod r own') (h : Walk P m ops Q (.e mod :: done) rest env own') : Walk P m ops Q done (⟨none, op, ty, pos, af, none⟩ :: rest) env own := Walk.e mod r own' trivial hq h
/-- The next operation is guarded. -/
theorem W.g {d g : Nat} {want : Bool} (b : Bool) (dg : Nat) (hdg : (ops[g]?).bind (·.dst) = some dg) (hb : look env dg = .d (.v (.bool b)))
    (hon : b = want → Walk P m ops Q done (⟨some d, op, ty, pos, af, none⟩ :: rest) env own)
    (hoff : b = !want → Walk P m ops Q (.off :: done) rest ((d, .d (.v undef)) :: env) own) : Walk P m ops Q done (⟨some d, op, ty, pos, af, some (g, want)⟩ :: rest) env own := by
  by_cases h : b = want
  · have h1 := hon h
    cases h1 with
    | off hg h2 => obtain ⟨j, w, dd, x, e, _⟩ := hg; cases e
    | q fp r hg hq h2 => exact Walk.q fp r (show GuardOn ops _ env from ⟨dg, hdg, by rw [hb, h]⟩) hq h2
    | e mod r own' hg hq h2 => exact Walk.e mod r own' (show GuardOn ops _ env from ⟨dg, hdg, by rw [hb, h]⟩) hq h2
  · refine Walk.off ⟨g, want, dg, .bool b, rfl, hdg, hb, fun e => h (by simpa using e)⟩ (hoff ?_)
    cases b <;> cases want <;> simp_all
theorem W.gOn {d g : Nat} {want : Bool} (dg : Nat) (hdg : (ops[g]?).bind (·.dst) = some dg) (hb : look env dg = .d (.v (.bool want)))
    (hon : Walk P m ops Q done (⟨some d, op, ty, pos, af, none⟩ :: rest) env own) : Walk P m ops Q done (⟨some d, op, ty, pos, af, some (g, want)⟩ :: rest) env own :=
  W.g want dg hdg hb (fun _ => hon) fun h => by cases want <;> cases h
theorem W.gOff {d g : Nat} {want : Bool} (x : Value) (dg : Nat) (hdg : (ops[g]?).bind (·.dst) = some dg) (hb : look env dg = .d (.v x)) (hx : x ≠ .bool want)
    (hoff : Walk P m ops Q (.off :: done) rest ((d, .d (.v undef)) :: env) own) : Walk P m ops Q done (⟨some d, op, ty, pos, af, some (g, want)⟩ :: rest) env own :=
  Walk.off ⟨g, want, dg, x, rfl, hdg, hb, hx⟩ hoff

theorem W.gT {d g : Nat} (b : Bool) (dg : Nat) (hdg : (ops[g]?).bind (·.dst) = some dg) (hb : look env dg = .d (.v (.bool b)))
    (hon : b = true → Walk P m ops Q done (⟨some d, op, ty, pos, af, none⟩ :: rest) env own)
    (hoff : b = false → Walk P m ops Q (.off :: done) rest ((d, .d (.v undef)) :: env) own) : Walk P m ops Q done (⟨some d, op, ty, pos, af, some (g, true)⟩ :: rest) env own := W.g b dg hdg hb hon hoff
theorem W.gF {d g : Nat} (b : Bool) (dg : Nat) (hdg : (ops[g]?).bind (·.dst) = some dg) (hb : look env dg = .d (.v (.bool b)))
    (hon : b = false → Walk P m ops Q done (⟨some d, op, ty, pos, af, none⟩ :: rest) env own)
    (hoff : b = true → Walk P m ops Q (.off :: done) rest ((d, .d (.v undef)) :: env) own) : Walk P m ops Q done (⟨some d, op, ty, pos, af, some (g, false)⟩ :: rest) env own := W.g b dg hdg hb hon hoff
theorem q_pickT {c x y : Operand} {u : AV} (hc : lookO env c = bV true) (hx : lookO env x = u) : Quiet P m ⟨dst, .pick c x y, ty, pos, af, none⟩ env own [] u := hx ▸ q_pick hc
theorem q_pickF {c x y : Operand} {u : AV} (hc : lookO env c = bV false) (hy : lookO env y = u) : Quiet P m ⟨dst, .pick c x y, ty, pos, af, none⟩ env own [] u := hy ▸ q_pick hc
theorem q_ld_map {α : Type} {f : α → List Dat} {l : List α} {t : TypeId} {k : Nat} {x : Operand} {sz j o : Nat} {y : Dat} (ht : tyInfo P t = some (false, k)) (hx : lookO env x = .fpt sz (l.map f) j o) (hj : j < l.length) (hy : (f (l[j]'hj))[o]? = some y) :
    Quiet P m ⟨dst, .load t x, ty, pos, af, none⟩ env own [] (.d y) := q_ld_fpt ht hx (by rw [List.getElem?_map, List.getElem?_eq_getElem hj]; rfl) hy
theorem q_ld_maps {α : Type} {f : α → List Dat} {l : List α} {t : TypeId} {k : Nat} {x : Operand} {sz j : Nat} (ht : tyInfo P t = some (true, k)) (hx : lookO env x = .fpt sz (l.map f) j 0) (hk : k = sz) (hj : j < l.length) :
    Quiet P m ⟨dst, .load t x, ty, pos, af, none⟩ env own [] (.agg ((f (l[j]'hj)).map .d)) := q_ld_fpts ht hx hk (by rw [List.getElem?_map, List.getElem?_eq_getElem hj]; rfl)
theorem q_slc_map {α : Type} {f : α → List Dat} {l : List α} {t e : TypeId} {sz by' : Nat} {z : Value} {x : Operand} {lo hi mx : Option Operand} (va vb : Nat) (ht : slInfo P t = some (e, sz, by', z)) (hx : lookO env x = .d (.sl sz (l.map f)))
    (h1 : bnd env lo 0 va) (h2 : bnd env hi l.length vb) (hab : va ≤ vb) (hbn : vb ≤ l.length) (h3 : mx = none ∨ (mx.isSome = true ∧ hi.isSome = true ∧ ∃ vm, bnd env mx 0 vm ∧ vb ≤ vm ∧ vm ≤ l.length)) :
    Quiet P m ⟨dst, .slice t x lo hi mx, ty, pos, af, none⟩ env own [] (.d (.sl sz (((l.drop va).take (vb - va)).map f))) := by
  have := q_slc_sl (P := P) (m := m) (own := own) (dst := dst) (ty := ty) (pos := pos) (af := af) (gd := none) va vb ht hx h1 (by simpa using h2) hab (by simpa using hbn) (by simpa using h3)
  rwa [← List.map_drop, ← List.map_take] at this
theorem q_as {x : Operand} {y : AV} (hx : lookO env x = y) : Quiet P m ⟨dst, .assign x, ty, pos, af, none⟩ env own [] y := hx ▸ q_assign x
theorem q_mv {x : Operand} {y : AV} (hx : lookO env x = y) : Quiet P m ⟨dst, .move x, ty, pos, af, none⟩ env own [] y := hx ▸ q_move x
theorem q_ld_boxw {t : TypeId} {k : Nat} {x : Operand} {i : Nat} {l : List AV} (ht : tyInfo P t = some (true, k)) (hx : lookO env x = .opt i 0) (hl : own[i]? = some (.box l)) (hk : l.length = k) :
    Quiet P m ⟨dst, .load t x, ty, pos, af, none⟩ env own [i] (.agg l) := by
  have := q_ld_boxs (P := P) (m := m) (dst := dst) (ty := ty) (pos := pos) (af := af) (gd := none) ht hx hl (by omega)
  rwa [List.drop_zero, ← hk, List.take_length] at this
end

/-! ### Structs that are compared -/
def valA : AV → Option Value
  | .d (.v x) => some x
  | _ => none
theorem valA_sat {F : Nat → Prop} {own : List Ent} {κ : List (Option Nat)} {w : World} {x : AV} {v u : Value} (h : valA x = some v) (hs : AV.sat F own κ w x u) : u = v := by
  cases x with
  | d x => cases x with
    | v y => obtain rfl : y = v := by simpa [valA] using h
             exact sat_v.1 hs
    | _ => simp [valA] at h
  | _ => simp [valA] at h
theorem valAL_sat {F : Nat → Prop} {own : List Ent} {κ : List (Option Nat)} {w : World} : ∀ {l : List AV} {vs us : List Value}, l.mapM valA = some vs → AV.satL F own κ w l us → us = vs
  | [], vs, [], h, _ => by simp at h; exact h.symm ▸ rfl
  | x :: xs, vs, u :: us, h, hs => by
    rw [List.mapM_cons] at h
    simp only [Option.bind_eq_bind, Option.bind_eq_some_iff, Option.pure_def, Option.some.injEq] at h
    obtain ⟨p, hp, ps, hps, rfl⟩ := h
    rw [AV.satL] at hs
    rw [valA_sat hp hs.1, valAL_sat hps hs.2]
  | [], _, _ :: _, _, hs => by simp [AV.satL] at hs
  | _ :: _, _, [], _, hs => by simp [AV.satL] at hs

theorem valL_eq {F : Nat → Prop} {own : List Ent} {κ : List (Option Nat)} {w : World} {l : List AV} {vs : List Value} {u : Value} (h : l.mapM valA = some vs) (hs : AV.sat F own κ w (.agg l) u) : u = .agg vs.toArray := by
  rw [AV.sat] at hs
  obtain ⟨us, rfl, h2⟩ := hs
  rw [← valAL_sat h h2]
section
variable {P : Program} {m : Nat} {dst : Option Tmp} {ty : TypeId} {pos : String} {af : Array Edge} {env : List (Nat × AV)} {own : List Ent}
theorem q_eqs {t t' : TypeId} {x y : Operand} {l1 l2 : List AV} {vs1 vs2 : List Value} {b : Bool} (hx : lookO env x = .agg l1) (hy : lookO env y = .agg l2) (h1 : l1.mapM valA = some vs1) (h2 : l2.mapM valA = some vs2)
    (hr : ∀ x y w, (do eqGuard .eql t x y (.agg vs1.toArray) (.agg vs2.toArray); binOp .eql t (.agg vs1.toArray) (.agg vs2.toArray) : Sem Value).run P w = .ok (.bool b) w) : Quiet P m ⟨dst, .binOp .eql t x y t', ty, pos, af, none⟩ env own [] (bV b) :=
  Quiet.val fun F own' κ a w hs _ _ _ => by
    have g1 := hs x (by simp [Op.operands]); rw [hx] at g1
    have g2 := hs y (by simp [Op.operands]); rw [hy] at g2
    refine ⟨.bool b, exec_v ?_, sat_v.2 rfl⟩
    rw [valL_eq h1 g1, valL_eq h2 g2]; exact hr x y w
theorem q_nes {t t' : TypeId} {x y : Operand} {l1 l2 : List AV} {vs1 vs2 : List Value} {b : Bool} (hx : lookO env x = .agg l1) (hy : lookO env y = .agg l2) (h1 : l1.mapM valA = some vs1) (h2 : l2.mapM valA = some vs2)
    (hr : ∀ x y w, (do eqGuard .neq t x y (.agg vs1.toArray) (.agg vs2.toArray); binOp .neq t (.agg vs1.toArray) (.agg vs2.toArray) : Sem Value).run P w = .ok (.bool b) w) : Quiet P m ⟨dst, .binOp .neq t x y t', ty, pos, af, none⟩ env own [] (bV b) :=
  Quiet.val fun F own' κ a w hs _ _ _ => by
    have g1 := hs x (by simp [Op.operands]); rw [hx] at g1
    have g2 := hs y (by simp [Op.operands]); rw [hy] at g2
    refine ⟨.bool b, exec_v ?_, sat_v.2 rfl⟩
    rw [valL_eq h1 g1, valL_eq h2 g2]; exact hr x y w
end
/-- A struct's fields, all of them integers, compared one by one. -/
def fldsInt (P : Program) (t : TypeId) : Option (List Nat) :=
  match P.underlying t with
  | some (.struct fs) => if P.stoodInHeld t || P.eqGuardType P.depth t then none else fs.toList.mapM fun f => if f.name = "_" then none else match P.underlying f.type with | some (.int _) => some f.offset | _ => none
  | _ => none
def eqOffs (xs ys : Array Value) : List Nat → Option Bool
  | [] => some true
  | o :: os => match xs[o]?, ys[o]?, eqOffs xs ys os with
    | some (.int k a), some (.int k' b), some r => if k = k' then some (decide (a = b) && r) else none
    | _, _, _ => none
theorem run_eqFields {P : Program} {w : World} {d : Nat} {xs ys : Array Value} : ∀ (fs : List Field) (os : List Nat) (b : Bool), fs.mapM (fun f => if f.name = "_" then none else match P.underlying f.type with | some (.int _) => some f.offset | _ => none) = some os → eqOffs xs ys os = some b → (Op.eqFields (d + 1) xs ys fs).run P w = .ok b w
  | [], os, b, h, hb => by simp at h; subst h; obtain rfl : true = b := by simpa [eqOffs] using hb
                           rfl
  | f :: fs, os, b, h, hb => by
    rw [List.mapM_cons] at h
    simp only [Option.bind_eq_bind, Option.bind_eq_some_iff, Option.pure_def, Option.some.injEq] at h
    obtain ⟨p, hp, ps, hps, rfl⟩ := h
    split at hp
    · cases hp
    · rename_i hne
      split at hp
      · rename_i k hk
        obtain rfl : f.offset = p := by simpa using hp
        simp only [eqOffs] at hb
        split at hb
        · rename_i k1 a k2 c r h1 h2 h3
          split at hb
          · rename_i hkk
            subst hkk
            obtain rfl : (decide (a = c) && r) = b := by simpa using hb
            have ih := run_eqFields (w := w) (d := d) fs ps r hps h3
            have hia : (isAgg f.type).run P w = .ok false w := by simp [isAgg, run_underlying hk]
            have e1 : (part f.type xs f.offset).run P w = .ok (.int k1 a) w := by simp [part, hia, h1]
            have e2 : (part f.type ys f.offset).run P w = .ok (.int k1 c) w := by simp [part, hia, h2]
            simp only [Op.eqFields, hne, ne_eq, not_false_eq_true, if_true, Sem.run_bind, e1, e2, Result.andThen_ok, run_equalIn_int w d f.type k1 k a c hk, Sem.run_ite]
            by_cases hac : a = c
            · subst hac; simpa using ih
            · have : (a == c) = false := by simpa using hac
              simp [this, hac]
          · cases hb
        · cases hb
      · cases hp
theorem run_eqs {P : Program} {t : TypeId} {os : List Nat} (h : fldsInt P t = some os) {xs ys : Array Value} {b : Bool} (hb : eqOffs xs ys os = some b) (x y : Operand) (w : World) :
    (do eqGuard .eql t x y (.agg xs) (.agg ys); binOp .eql t (.agg xs) (.agg ys) : Sem Value).run P w = .ok (.bool b) w ∧ (do eqGuard .neq t x y (.agg xs) (.agg ys); binOp .neq t (.agg xs) (.agg ys) : Sem Value).run P w = .ok (.bool (!b)) w := by
  unfold fldsInt at h
  split at h
  · rename_i fs hu
    split at h
    · cases h
    · rename_i hc
      simp only [Bool.or_eq_true, not_or, Bool.not_eq_true] at hc
      have hfo : P.fieldsOf t = fs := by simp [Program.fieldsOf, hu]
      have e := run_eqFields (P := P) (w := w) (d := 9998) fs.toList os b h hb
      have e2 : (Op.equalIn 10000 t (.agg xs) (.agg ys)).run P w = .ok b w := by
        rw [run_equalIn_struct w 9999 t xs ys (by rw [hfo]; exact hu) hc.1, hfo]; exact e
      constructor
      · rw [Sem.run_bind, run_eqGuard_agg _ _ _ _ _ _ _ hc.2, Result.andThen_ok, run_eql_struct, e2]; rfl
      · rw [Sem.run_bind, run_eqGuard_agg _ _ _ _ _ _ _ hc.2, Result.andThen_ok, run_neq_struct, e2]; rfl
  · cases h

/-! ### Results -/
section
variable {P : Program} {env : List (Nat × AV)} {own : List Ent} {t : Nat} {e : Exit}
theorem Ends.le {x r : AV} (hx : look env t = x) (hr : AVle (AV.frz own [] x) r) : Ends P [.tmp t] r [] .ret ⟨env, own⟩ := ⟨.inl rfl, [], [x], rfl, ⟨hx, trivial⟩, hr, rfl⟩
theorem Ends.d {y : Dat} {r : AV} (hx : look env t = .d y) (hr : AV.d y = r) : Ends P [.tmp t] r [] .ret ⟨env, own⟩ := Ends.le hx (AVle.of_eq hr)
theorem Ends.b {b b' : Bool} (hx : look env t = bV b) (h : b = b') : Ends P [.tmp t] (bV b') [] .ret ⟨env, own⟩ := Ends.d hx (by rw [h])
theorem Ends.i {k : IntKind} {n n' : Int} (hx : look env t = .d (.v (.int k n))) (h : n = n') : Ends P [.tmp t] (.d (.v (.int k n'))) [] .ret ⟨env, own⟩ := Ends.d hx (by rw [h])
theorem Ends.sl {sz : Nat} {l l' : List (List Dat)} (hx : look env t = .d (.sl sz l)) (h : l = l') : Ends P [.tmp t] (.d (.sl sz l')) [] .ret ⟨env, own⟩ := Ends.d hx (by rw [h])
theorem Ends.nil {sz : Nat} {l : List (List Dat)} (hx : look env t = .d (.v (.slice none 0 0))) (hl : l = []) : Ends P [.tmp t] (.d (.sl sz l)) [] .ret ⟨env, own⟩ := Ends.le hx (by rw [hl]; exact AVle.nil sz)
/-- Two results, the first a struct in a variable. -/
theorem Ends.cell2 {p i : Nat} {tyc : TypeId} {l : List AV} {y r : AV} (hx : look env p = .opt i 0) (ho : own[i]? = some (.box l)) (ht : tyInfo P tyc = some (true, l.length)) (hy : look env t = y) (hr : AV.frz own [] (.tup [.agg l, y]) = r) : Ends P [.cell p tyc, .tmp t] r [] .ret ⟨env, own⟩ :=
  ⟨.inl rfl, [], [.agg l, y], rfl, ⟨⟨i, l, true, hx, ho, ht, rfl⟩, hy, trivial⟩, AVle.of_eq hr, rfl⟩
/-- A row of the call's own is handed out as data. -/
theorem Ends.osl {i ver n sz : Nat} {e : TypeId} {l l' : List (List Dat)} (hx : look env t = .osl i ver 0 n) (ho : own[i]? = some (.row ver sz e l)) (hn : n = l.length) (hr : l = l') : Ends P [.tmp t] (.d (.sl sz l')) [] .ret ⟨env, own⟩ :=
  Ends.le hx (AVle.of_eq (by simp [AV.frz, plc, frzSl, ho, hn, hr]))
end

section
variable {P : Program} {n m : Nat} {Q : Exit → St → Prop} {env : List (Nat × AV)} {own : List Ent} {c : Code}
/-- A slice that is nil, seen as a row of the call's own. -/
theorem AWP.nilRow (t sz : Nat) (e : TypeId) (h : look env t = .d (.v (.slice none 0 0))) (hs : 0 < sz) (hc : AWP P n m c Q ⟨(t, .osl own.length 0 0 0) :: env, own ++ [.row 0 sz e []]⟩) : AWP P n m c Q ⟨env, own⟩ := fun F W κ0 a κ w hm hsim => by
  have hle : m ≤ κ.length := by have := congrArg List.length hsim.pre; simp only [List.length_take] at this; omega
  obtain ⟨g1, g2⟩ := step_push (m := m) (x := .row 0 sz e []) (og := none) (w' := w) hle hsim.own rfl rfl rfl (Nat.le_refl _) (fun _ _ => rfl) (.inl rfl) (fun hst => ⟨hs, .inl ⟨rfl, rfl⟩⟩)
  refine hc F W κ0 a (κ ++ [none]) w hm (hsim.step hm g2 hsim.tm hsim.df (fun u => ?_) g1)
  simp only [look]
  by_cases hu : t = u
  · subst hu
    rw [if_pos rfl]
    have := hsim.env t
    rw [h, sat_v] at this
    rw [this, AV.sat]
    refine ⟨⟨.row 0 sz e [], by rw [List.getElem?_concat_length], Nat.le_refl _, rfl⟩, fun sz2 e2 c2 hcc => ?_⟩
    rw [List.getElem?_concat_length] at hcc
    obtain ⟨rfl, rfl, rfl⟩ : sz = sz2 ∧ e = e2 ∧ [] = c2 := by simpa using hcc
    refine ⟨by simp, none, 0, rfl, Nat.le_refl _, by simp [maxLen], fun _ => .inr ⟨?_, rfl, rfl⟩⟩
    have hl : own.length = κ.length := hsim.own.len
    rw [hl, List.getElem?_concat_length]
  · rw [if_neg hu]; exact g2.keep _ _ (hsim.env u)
/-- A slot that is known better than is needed. -/
theorem AWP.le (t : Nat) (y : AV) {x : AV} (h : look env t = x) (hl : AVle x y) (hc : AWP P n m c Q ⟨(t, y) :: env, own⟩) : AWP P n m c Q ⟨env, own⟩ := fun F W κ0 a κ w hm hsim => by
  refine hc F W κ0 a κ w hm ⟨hsim.tm, hsim.df, fun u => ?_, hsim.own, hsim.pre, hsim.os, hsim.tape, hsim.output, hsim.size, hsim.old, hsim.new⟩
  simp only [look]
  by_cases hu : t = u
  · subst hu; rw [if_pos rfl]; exact hl _ _ _ _ _ (h ▸ hsim.env t)
  · rw [if_neg hu]; exact hsim.env u
/-- A slice has at most so many elements. -/
theorem AWP.lenFact {t sz : Nat} {l : List (List Dat)} (h : look env t = .d (.sl sz l)) (hc : l.length ≤ 9223372036854775807 → AWP P n m c Q ⟨env, own⟩) : AWP P n m c Q ⟨env, own⟩ := fun F W κ0 a κ w hm hsim => by
  have := hsim.env t
  rw [h, AV.sat, Dat.sat] at this
  obtain ⟨A, cc, _, h1, h2, _⟩ := this
  unfold maxLen at h2
  exact hc (by omega) F W κ0 a κ w hm hsim
end

/-! ### Contracts of another making -/
/-- Values that are known exactly. -/
def valO : AV → Option Value
  | .d (.v x) => some x
  | .agg l => (l.mapM valA).map fun vs => .agg vs.toArray
  | _ => none
theorem valO_sat {F : Nat → Prop} {own : List Ent} {κ : List (Option Nat)} {w : World} {x : AV} {v u : Value} (h : valO x = some v) (hs : AV.sat F own κ w x u) : u = v := by
  cases x with
  | d x => cases x with
    | v y => obtain rfl : y = v := by simpa [valO] using h
             exact sat_v.1 hs
    | _ => simp [valO] at h
  | agg l =>
    rw [AV.sat] at hs
    obtain ⟨vs, rfl, h2⟩ := hs
    simp only [valO, Option.map_eq_some_iff] at h
    obtain ⟨ws, h3, rfl⟩ := h
    rw [← valAL_sat h3 h2]
  | _ => simp [valO] at h
theorem valOL_sat {F : Nat → Prop} {own : List Ent} {κ : List (Option Nat)} {w : World} : ∀ {l : List AV} {vs us : List Value}, l.mapM valO = some vs → AV.satL F own κ w l us → us = vs
  | [], vs, [], h, _ => by simp at h; exact h.symm ▸ rfl
  | x :: xs, vs, u :: us, h, hs => by
    rw [List.mapM_cons] at h
    simp only [Option.bind_eq_bind, Option.bind_eq_some_iff, Option.pure_def, Option.some.injEq] at h
    obtain ⟨p, hp, ps, hps, rfl⟩ := h
    rw [AV.satL] at hs
    rw [valO_sat hp hs.1, valOL_sat hps hs.2]
  | [], _, _ :: _, _, hs => by simp [AV.satL] at hs
  | _ :: _, _, [], _, hs => by simp [AV.satL] at hs
theorem tr_of_below {F : Nat → Prop} {w w' : World} (hb : Below w.heap.size w w') : Tr F 0 [] [] w [] [] w' := by
  have hnew : ∀ b, some b ∈ ([] : List (Option Nat)) → some b ∈ ([] : List (Option Nat)) ∨ w.heap.size ≤ b := fun b h => by cases h
  have hst : Stab F [] [] w [] [] w' := ⟨Tr.wide hb.size (fun b h _ => hb.block b h) hnew, fun i x og hx => by simp at hx⟩
  exact ⟨hb.os, hb.tape, hb.output, hb.size, fun b h _ => hb.block b h, hnew, rfl, fun x u => AV.sat_stab hst (fun i x hx => by simp at hx) x⟩
theorem own_nil {F : Nat → Prop} {w w' : World} (h : OwnSat F [] [] w) (hb : w.heap.size ≤ w'.heap.size) : OwnSat F [] [] w' :=
  ⟨rfl, (fun b hf => Nat.lt_of_lt_of_le (h.frame b hf) hb), (fun g hg => by cases hg), (fun i j g hi => by simp at hi), (fun i x hx => by simp at hx)⟩
/-- A contract on values that are known exactly. -/
theorem acalls_of_val {P : Program} {f : FuncId} {args : List AV} {vs : List Value} {r : AV} (hv : args.mapM valO = some vs)
    (h : ∀ w, Calls P f vs.toArray w fun e w' => ∃ v, e = .returned v ∧ Below w.heap.size w w' ∧ ∀ F, OwnSat F [] [] w → AV.sat F [] [] w' r v) : ACalls P f args [] r [] := fun F κ w us ho hs => by
  have hk : κ = [] := List.eq_nil_of_length_eq_zero (by simpa using ho.len.symm)
  subst hk
  rw [valOL_sat hv hs]
  refine (h w).mono ?_
  rintro e w' ⟨v, he, hb, hr⟩
  exact ⟨v, [], he, hr F ho, own_nil ho hb.size, tr_of_below hb⟩
theorem acalls_of_exact {P : Program} {f : FuncId} {args : List AV} {vs : List Value} {v : Value} (hv : args.mapM valO = some vs)
    (h : ∀ w, Calls P f vs.toArray w fun e w' => e = .returned v ∧ Below w.heap.size w w') : ACalls P f args [] (.d (.v v)) [] :=
  acalls_of_val hv fun w => (h w).mono fun e w' ⟨he, hb⟩ => ⟨v, he, hb, fun _ _ => sat_v.2 rfl⟩
end Go.Proofs.Ytffdhckilhhejaa
