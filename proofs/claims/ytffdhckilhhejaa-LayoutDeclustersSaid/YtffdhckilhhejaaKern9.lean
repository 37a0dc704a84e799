/- The machine of abstract values: calls, and what a function's body shows of it. No program in sight; no condition. -/
import Derived.Test.YtffdhckilhhejaaKern8
namespace Go.Proofs.Ytffdhckilhhejaa
open Go.RowKit
set_option linter.unusedVariables false
set_option linter.unusedSimpArgs false

/-- Called with these arguments, in this memory of the caller's, the function returns r and leaves own'. -/
def ACalls (P : Program) (f : FuncId) (args : List AV) (own : List Ent) (r : AV) (own' : List Ent) : Prop :=
  ∀ (F : Nat → Prop) (κ : List (Option Nat)) (w : World) (vs : List Value), OwnSat F own κ w → AV.satL F own κ w args vs →
    Calls P f vs.toArray w fun e w' => ∃ v κ', e = .returned v ∧ AV.sat F own' κ' w' r v ∧ OwnSat F own' κ' w' ∧ Tr F own.length own κ w own' κ' w'

mutual
/-- No reference to memory of a call's own. -/
def AV.pure : AV → Bool
  | .osl _ _ _ _ => false
  | .rpt _ _ _ _ => false
  | .opt _ _ => false
  | .fn _ l => AV.pureL l
  | .agg l => AV.pureL l
  | .tup l => AV.pureL l
  | .top => true
  | .d _ => true
  | .fpt _ _ _ _ => true
def AV.pureL : List AV → Bool
  | [] => true
  | x :: xs => AV.pure x && AV.pureL xs
end
mutual
theorem AV.pure_sat {F F' : Nat → Prop} {own own' : List Ent} {κ κ' : List (Option Nat)} {w : World} (hb : ∀ b, ¬ badK F κ b → ¬ badK F' κ' b) : ∀ (x : AV) {u : Value}, AV.pure x = true → AV.sat F own κ w x u → AV.sat F' own' κ' w x u
  | .top, u, _, hs => by simp [AV.sat]
  | .d x, u, _, hs => by
    rw [AV.sat] at hs ⊢
    exact Dat.sat_wide ⟨Nat.le_refl _, fun _ _ _ => rfl, fun b _ h => hb b h⟩ x hs
  | .fpt sz l j o, u, _, hs => by
    rw [AV.sat] at hs ⊢
    obtain ⟨b, q, h1, h2, h3, h4⟩ := hs
    exact ⟨b, q, h1, h2, hb b h3, Dat.rowsSat_wide ⟨Nat.le_refl _, fun _ _ _ => rfl, fun b _ h => hb b h⟩ rfl l h4⟩
  | .osl _ _ _ _, u, h, hs => by simp [AV.pure] at h
  | .rpt _ _ _ _, u, h, hs => by simp [AV.pure] at h
  | .opt _ _, u, h, hs => by simp [AV.pure] at h
  | .fn f l, u, h, hs => by
    rw [AV.sat] at hs ⊢
    obtain ⟨vs, h1, h2⟩ := hs
    exact ⟨vs, h1, AV.pureL_sat hb l (by simpa [AV.pure] using h) h2⟩
  | .agg l, u, h, hs => by
    rw [AV.sat] at hs ⊢
    obtain ⟨vs, h1, h2⟩ := hs
    exact ⟨vs, h1, AV.pureL_sat hb l (by simpa [AV.pure] using h) h2⟩
  | .tup l, u, h, hs => by
    rw [AV.sat] at hs ⊢
    obtain ⟨vs, h1, h2⟩ := hs
    exact ⟨vs, h1, AV.pureL_sat hb l (by simpa [AV.pure] using h) h2⟩
theorem AV.pureL_sat {F F' : Nat → Prop} {own own' : List Ent} {κ κ' : List (Option Nat)} {w : World} (hb : ∀ b, ¬ badK F κ b → ¬ badK F' κ' b) : ∀ (l : List AV) {us : List Value}, AV.pureL l = true → AV.satL F own κ w l us → AV.satL F' own' κ' w l us
  | [], [], _, hs => by simp [AV.satL]
  | x :: xs, u :: us, h, hs => by
    rw [AV.satL] at hs ⊢
    simp only [AV.pureL, Bool.and_eq_true] at h
    exact ⟨AV.pure_sat hb x h.1 hs.1, AV.pureL_sat hb xs h.2 hs.2⟩
  | [], _ :: _, _, hs => by simp [AV.satL] at hs
  | _ :: _, [], _, hs => by simp [AV.satL] at hs
end

/-- A Go function with a body. -/
def isFn (P : Program) (f : FuncId) : Bool :=
  match P.funcs[f]? with
  | some fn => !(fn.name == "runtime.NumGoroutine") && fn.body.isSome
  | none => false
theorem run_callFunc {P : Program} {f : FuncId} (h : isFn P f = true) (args : Array Value) (w : World) : (callFunc f args).run P w = .ok (.enter f args) w := by
  unfold isFn at h
  cases hf : P.funcs[f]? with
  | none => simp [hf] at h
  | some fn =>
    simp only [hf, Bool.and_eq_true, Bool.not_eq_true'] at h
    obtain ⟨h1, h2⟩ := h
    have h1' : ¬ fn.name = "runtime.NumGoroutine" := by simpa using h1
    have h2' : ¬ fn.body = none := by intro e; rw [e] at h2; cases h2
    simp [callFunc, hf, h1', h2']

/-- The world in which the callee runs: all that is the caller's own is out of its reach. -/
theorem OwnSat.away {F : Nat → Prop} {own : List Ent} {κ : List (Option Nat)} {w : World} (h : OwnSat F own κ w) : OwnSat (badK F κ) [] [] w :=
  ⟨rfl, (fun b hb => by
    rcases hb with hb | hb
    · exact h.frame b hb
    · exact (h.lt b hb).1), (fun g hg => by cases hg), (fun i j g hi => by simp at hi), (fun i x hx => by simp at hx)⟩
theorem bad_away {F : Nat → Prop} {κ : List (Option Nat)} : (∀ b, ¬ badK F κ b → ¬ badK (badK F κ) [] b) ∧ ∀ b, ¬ badK (badK F κ) [] b → ¬ badK F κ b := by
  constructor
  · intro b h hb
    rcases hb with hb | hb
    · exact h hb
    · cases hb
  · intro b h hb
    exact h (.inl hb)

section
variable {P : Program} {m : Nat} {env : List (Nat × AV)} {own : List Ent} {dst : Option Tmp} {ty : TypeId} {pos : String} {af : Array Edge} {gd : Option (Nat × Bool)}

theorem exec_call {F : Nat → Prop} {own' : List Ent} {κ : List (Option Nat)} {w : World} {a : Act} {fo : Operand} {args : Array Operand} {ts : Array TypeId} {f : FuncId} {caps : List AV} (hf : isFn P f = true)
    (hfo : lookO env fo = .fn f caps) (hs : ∀ x ∈ (Op.call ⟨.value fo, args, ts⟩).operands, AV.sat F own' κ w (lookO env x) (a.eval x)) :
    ∃ vs : List Value, (execOp a.eval ⟨dst, .call ⟨.value fo, args, ts⟩, ty, pos, af, gd⟩).run P w = .ok (.enter f vs.toArray) w ∧ AV.satL F own' κ w (args.toList.map (lookO env) ++ caps) vs := by
  have h1 := hs fo (by simp [Op.operands, Call.operands])
  rw [hfo, AV.sat] at h1
  obtain ⟨cs, h2, h3⟩ := h1
  refine ⟨args.toList.map a.eval ++ cs.toList, ?_, satL_append (satL_of (by simp) fun j y hy => ?_) h3⟩
  · have e : (args.toList.map a.eval ++ cs.toList).toArray = #[] ++ args.map a.eval ++ cs := by simp
    rw [e]
    simp only [execOp, resolve, h2, Deferred.ofValue, Sem.run_bind, Sem.run_pure, Result.andThen_ok, invoke]
    exact run_callFunc hf _ w
  · rw [List.getElem?_map] at hy
    cases h : args.toList[j]? with
    | none => simp [h] at hy
    | some c =>
      obtain rfl : lookO env c = y := by simpa [h] using hy
      have hmem : c ∈ args := by have := List.mem_of_getElem? h; simpa using this
      refine ⟨a.eval c, by rw [List.getElem?_map, h]; rfl, hs c (by simp [Op.operands, Call.operands, hmem])⟩

/-- A call whose arguments and result are data. -/
theorem q_call {fo : Operand} {args : Array Operand} {ts : Array TypeId} {f : FuncId} {caps : List AV} {r : AV} (hf : isFn P f = true) (hfo : lookO env fo = .fn f caps)
    (hc : ACalls P f (args.toList.map (lookO env) ++ caps) [] r []) (hp : AV.pureL (args.toList.map (lookO env) ++ caps) = true) (hr : AV.pure r = true) :
    Quiet P m ⟨dst, .call ⟨.value fo, args, ts⟩, ty, pos, af, gd⟩ env own [] r :=
  Quiet.mk fun F own' κ a w hs ho _ hm => by
    obtain ⟨vs, h1, h2⟩ := exec_call (P := P) (dst := dst) (ty := ty) (pos := pos) (af := af) (gd := gd) hf hfo hs
    rw [h1]
    refine (hc (badK F κ) [] w vs ho.away (AV.pureL_sat bad_away.1 _ hp h2)).mono ?_
    rintro e w' ⟨v, κ', he, h3, h4, h5⟩
    have hk : κ' = [] := List.eq_nil_of_length_eq_zero (by simpa using h4.len.symm)
    subst hk
    obtain ⟨g1, g2⟩ := step_more (m := m) ho h5.os h5.tape h5.output h5.size (fun b hb => h5.old b hb (by simp))
    exact ⟨v, he, AV.pure_sat bad_away.2 r hr h3, g1, g2⟩

/-- References to the new entries, seen from the caller: its own stand ahead of them. -/
def shE (p : Nat) : Ent → Ent
  | .row v s e l => .row v s e l
  | .box _ => .box []
def rowsOnly (news : List Ent) : Bool := news.all fun | .row _ _ _ _ => true | _ => false
end

mutual
def AV.sh (p : Nat) : AV → AV
  | .osl i ver o n => .osl (p + i) ver o n
  | .rpt i ver j o => .rpt (p + i) ver j o
  | .opt i o => .opt (p + i) o
  | .fn f l => .fn f (AV.shL p l)
  | .agg l => .agg (AV.shL p l)
  | .tup l => .tup (AV.shL p l)
  | .top => .top
  | .d x => .d x
  | .fpt sz l j o => .fpt sz l j o
def AV.shL (p : Nat) : List AV → List AV
  | [] => []
  | x :: xs => AV.sh p x :: AV.shL p xs
end
mutual
theorem AV.sh_sat {F : Nat → Prop} {own news : List Ent} {κ κn : List (Option Nat)} {w : World} {B : Nat → Prop} (hl : own.length = κ.length) (hb : ∀ b, ¬ badK B κn b → ¬ badK F (κ ++ κn) b) (hrow : rowsOnly news = true) : ∀ (x : AV) {u : Value}, AV.sat B news κn w x u → AV.sat F (own ++ news) (κ ++ κn) w (AV.sh own.length x) u
  | .top, u, hs => by simp [AV.sh, AV.sat]
  | .d x, u, hs => by
    rw [AV.sh]; rw [AV.sat] at hs ⊢
    exact Dat.sat_wide ⟨Nat.le_refl _, fun _ _ _ => rfl, fun b _ h => hb b h⟩ x hs
  | .fpt sz l j o, u, hs => by
    rw [AV.sh]; rw [AV.sat] at hs ⊢
    obtain ⟨b, q, h1, h2, h3, h4⟩ := hs
    exact ⟨b, q, h1, h2, hb b h3, Dat.rowsSat_wide ⟨Nat.le_refl _, fun _ _ _ => rfl, fun b _ h => hb b h⟩ rfl l h4⟩
  | .osl i ver o n, u, hs => by
    rw [AV.sh]; rw [AV.sat] at hs ⊢
    obtain ⟨⟨y, hy, hv, h1c⟩, hs2⟩ := hs
    have e1 : (own ++ news)[own.length + i]? = news[i]? := by rw [List.getElem?_append_right (by omega)]; congr 1; omega
    have e2 : (κ ++ κn)[own.length + i]? = κn[i]? := by rw [hl, List.getElem?_append_right (by omega)]; congr 1; omega
    refine ⟨⟨y, by rw [e1]; exact hy, hv, h1c⟩, fun sz e c hc => ?_⟩
    rw [e1] at hc
    obtain ⟨h1, A, cc, h2, h3, h4, h5⟩ := hs2 sz e c hc
    refine ⟨h1, A, cc, h2, h3, h4, fun hp => ?_⟩
    rcases h5 hp with ⟨g, g1, g2⟩ | ⟨g1, g2⟩
    · exact .inl ⟨g, by rw [e2]; exact g1, g2⟩
    · exact .inr ⟨by rw [e2]; exact g1, g2⟩
  | .rpt i ver j o, u, hs => by
    rw [AV.sh]; rw [AV.sat] at hs ⊢
    obtain ⟨⟨y, hy, hv, h1c⟩, hs2⟩ := hs
    have e1 : (own ++ news)[own.length + i]? = news[i]? := by rw [List.getElem?_append_right (by omega)]; congr 1; omega
    have e2 : (κ ++ κn)[own.length + i]? = κn[i]? := by rw [hl, List.getElem?_append_right (by omega)]; congr 1; omega
    refine ⟨⟨y, by rw [e1]; exact hy, hv, h1c⟩, fun sz e c hc => ?_⟩
    rw [e1] at hc
    obtain ⟨h1, g, g1, g2⟩ := hs2 sz e c hc
    exact ⟨h1, g, by rw [e2]; exact g1, g2⟩
  | .opt i o, u, hs => by
    rw [AV.sat] at hs
    obtain ⟨g, l, h1, _⟩ := hs
    have := List.all_eq_true.1 hrow _ (List.mem_of_getElem? h1)
    simp at this
  | .fn f l, u, hs => by
    rw [AV.sh]; rw [AV.sat] at hs ⊢
    obtain ⟨vs, h1, h2⟩ := hs
    exact ⟨vs, h1, AV.shL_sat hl hb hrow l h2⟩
  | .agg l, u, hs => by
    rw [AV.sh]; rw [AV.sat] at hs ⊢
    obtain ⟨vs, h1, h2⟩ := hs
    exact ⟨vs, h1, AV.shL_sat hl hb hrow l h2⟩
  | .tup l, u, hs => by
    rw [AV.sh]; rw [AV.sat] at hs ⊢
    obtain ⟨vs, h1, h2⟩ := hs
    exact ⟨vs, h1, AV.shL_sat hl hb hrow l h2⟩
theorem AV.shL_sat {F : Nat → Prop} {own news : List Ent} {κ κn : List (Option Nat)} {w : World} {B : Nat → Prop} (hl : own.length = κ.length) (hb : ∀ b, ¬ badK B κn b → ¬ badK F (κ ++ κn) b) (hrow : rowsOnly news = true) : ∀ (l : List AV) {us : List Value}, AV.satL B news κn w l us → AV.satL F (own ++ news) (κ ++ κn) w (AV.shL own.length l) us
  | [], [], hs => by simp [AV.shL, AV.satL]
  | x :: xs, u :: us, hs => by
    rw [AV.satL] at hs
    rw [AV.shL, AV.satL]
    exact ⟨AV.sh_sat hl hb hrow x hs.1, AV.shL_sat hl hb hrow xs hs.2⟩
  | [], _ :: _, hs => by simp [AV.satL] at hs
  | _ :: _, [], hs => by simp [AV.satL] at hs
end

/-! ### From the body to the call -/
def env0 : Nat → List AV → List (Nat × AV)
  | _, [] => []
  | k, x :: xs => (k, x) :: env0 (k + 1) xs
theorem look_env0 : ∀ (l : List AV) (k t : Nat), look (env0 k l) t = if k ≤ t then (l[t - k]?).getD .top else .top
  | [], k, t => by simp [env0, look]
  | x :: xs, k, t => by
    simp only [env0, look, look_env0 xs (k + 1) t]
    by_cases h : k = t
    · subst h; simp
    · rw [if_neg h]
      by_cases h2 : k ≤ t
      · rw [if_pos (by omega), if_pos h2, show t - k = t - (k + 1) + 1 from by omega, List.getElem?_cons_succ]
      · rw [if_neg (by omega), if_neg h2]

/-- What a result variable holds. -/
def ResV (P : Program) (s : St) : ResultVar → AV → Prop
  | .tmp t, x => look s.env t = x
  | .cell p ty, x => ∃ i l b, look s.env p = .opt i 0 ∧ s.own[i]? = some (.box l) ∧ tyInfo P ty = some (b, l.length) ∧ (if b then x = .agg l else l = [x])
def ResL (P : Program) (s : St) : List ResultVar → List AV → Prop
  | [], [] => True
  | r :: rs, x :: xs => ResV P s r x ∧ ResL P s rs xs
  | _, _ => False
def tupA : List AV → AV
  | [x] => x
  | l => .tup l

def resOne (a : Act) : ResultVar → Sem Value
  | .tmp t => pure (a.tmps.getD t undef)
  | .cell c t => do loadVar t (← asAddr (a.tmps.getD c undef))
theorem results_eq (fn : Func) (a : Act) : results fn a.tmps = (do let vs ← fn.results.mapM (resOne a); pure (if h : vs.size = 1 then vs[0] else .tuple vs)) := rfl
theorem run_results {P : Program} {F : Nat → Prop} {s : St} {κ : List (Option Nat)} {w : World} {a : Act} (he : EnvSat F s.own κ w s.env a) (ho : OwnSat F s.own κ w) : ∀ (rs : List ResultVar) (xs : List AV), ResL P s rs xs →
    ∃ vs : List Value, (rs.mapM (resOne a)).run P w = .ok vs w ∧ AV.satL F s.own κ w xs vs
  | [], [], _ => ⟨[], rfl, by simp [AV.satL]⟩
  | r :: rs, x :: xs, h => by
    obtain ⟨h1, h2⟩ := h
    obtain ⟨vs, h3, h4⟩ := run_results he ho rs xs h2
    have one : ∃ v, (resOne a r).run P w = .ok v w ∧ AV.sat F s.own κ w x v := by
      cases r with
      | tmp t => exact ⟨a.tmps.getD t undef, rfl, by have := he t; rw [h1] at this; exact this⟩
      | cell p ty =>
        obtain ⟨i, l, b, g1, g2, g3, g4⟩ := h1
        have hp := he p
        rw [g1, AV.sat] at hp
        obtain ⟨g, l2, g5, g6, g7⟩ := hp
        obtain ⟨cur, t2, g8, g9, g10⟩ := box_block (l' := l) ho g2 g6
        have hll := satL_length g9
        obtain ⟨g11, i', g12, g13⟩ := tyInfo_spec g3
        have e : (do loadVar ty (← asAddr (a.tmps.getD p undef)) : Sem Value).run P w = (Instr.loadAt ty (.pointer (some ⟨g, 0, none⟩))).run P w := by
          rw [g7]; simp [asAddr, Instr.loadAt, Instr.sureAddr]
        cases b with
        | true =>
          simp only [if_true] at g4
          refine ⟨.agg cur, ?_, by rw [g4, AV.sat]; exact ⟨cur, rfl, g9⟩⟩
          show (do loadVar ty (← asAddr (a.tmps.getD p undef)) : Sem Value).run P w = _
          rw [e]
          have := run_loadAt_agg (P := P) (b := g) (o := 0) (w := w) g3 cur.toList hll.symm fun j u hu => by
            rw [Nat.zero_add, cell_of_row w g j cur t2 (0, 0) g8]; simpa using hu
          simpa using this
        | false =>
          simp only [Bool.false_eq_true, if_false] at g4
          subst g4
          obtain ⟨u, g14, g15⟩ := satL_get g9 0 x (by simp)
          refine ⟨u, ?_, g15⟩
          show (do loadVar ty (← asAddr (a.tmps.getD p undef)) : Sem Value).run P w = _
          rw [e]
          exact run_loadAt_one g3 (by rw [cell_of_row w g 0 cur t2 (0, 0) g8]; simpa using g14)
    obtain ⟨v, h5, h6⟩ := one
    refine ⟨v :: vs, ?_, by rw [AV.satL]; exact ⟨h6, h4⟩⟩
    rw [List.mapM_cons, Sem.run_bind]
    rw [h5]
    simp only [Result.andThen_ok, Sem.run_bind, h3, Sem.run_pure]
  | [], _ :: _, h => h.elim
  | _ :: _, [], h => h.elim

/-- y says no more than x. -/
def AVle (x y : AV) : Prop := ∀ (F : Nat → Prop) (own : List Ent) (κ : List (Option Nat)) (w : World) (u : Value), AV.sat F own κ w x u → AV.sat F own κ w y u
theorem AVle.refl (x : AV) : AVle x x := fun _ _ _ _ _ h => h
theorem AVle.of_eq {x y : AV} (h : x = y) : AVle x y := h ▸ AVle.refl x
theorem AVle.nil (sz : Nat) : AVle (.d (.v (.slice none 0 0))) (.d (.sl sz [])) := fun F own κ w u h => by
  rw [AV.sat, Dat.sat] at h
  subst h
  rw [AV.sat, Dat.sat]
  exact ⟨none, 0, rfl, by simp, by simp [maxLen], fun h => by simp at h⟩
def AVleL : List AV → List AV → Prop
  | [], [] => True
  | x :: xs, y :: ys => AVle x y ∧ AVleL xs ys
  | _, _ => False
theorem AVleL.sat : ∀ {xs ys : List AV}, AVleL xs ys → ∀ (F : Nat → Prop) (own : List Ent) (κ : List (Option Nat)) (w : World) (us : List Value), AV.satL F own κ w xs us → AV.satL F own κ w ys us
  | [], [], _, F, own, κ, w, us, h => h
  | x :: xs, y :: ys, hl, F, own, κ, w, u :: us, h => by
    rw [AV.satL] at h ⊢
    exact ⟨hl.1 _ _ _ _ _ h.1, hl.2.sat _ _ _ _ _ h.2⟩
  | x :: xs, y :: ys, hl, F, own, κ, w, [], h => by simp [AV.satL] at h
  | [], _ :: _, hl, _, _, _, _, _, _ => hl.elim
  | _ :: _, [], hl, _, _, _, _, _, _ => hl.elim
theorem AVle.tup {xs ys : List AV} (h : AVleL xs ys) : AVle (.tup xs) (.tup ys) := fun F own κ w u hs => by
  rw [AV.sat] at hs ⊢
  obtain ⟨vs, h1, h2⟩ := hs
  exact ⟨vs, h1, h.sat _ _ _ _ _ h2⟩
theorem AVle.agg {xs ys : List AV} (h : AVleL xs ys) : AVle (.agg xs) (.agg ys) := fun F own κ w u hs => by
  rw [AV.sat] at hs ⊢
  obtain ⟨vs, h1, h2⟩ := hs
  exact ⟨vs, h1, h.sat _ _ _ _ _ h2⟩

/-- How a body ends: its results, when the entries js are kept. -/
def Ends (P : Program) (rs : List ResultVar) (r : AV) (own' : List Ent) (e : Exit) (s : St) : Prop :=
  (e = .ret ∨ e = .normal) ∧ ∃ js xs, selOk s.own js = true ∧ ResL P s rs xs ∧ AVle (AV.frz s.own js (tupA xs)) r ∧ selOwn s.own js = own'

theorem acalls_of_body {P : Program} {f : FuncId} {fn : Func} {c : Code} {args : List AV} {r : AV} {own' : List Ent} (hf : P.funcs[f]? = some fn) (hb : fn.body = some c) (hn : args.length ≤ fn.ntmps)
    (h : AWP P fn.ntmps 0 c (Ends P fn.results.toList r own') ⟨env0 0 args, []⟩) : ACalls P f args [] r own' := fun F κ w vs ho hsat => by
  have hk : κ = [] := List.eq_nil_of_length_eq_zero (by simpa using ho.len.symm)
  subst hk
  have hlen := satL_length hsat
  refine calls_of_wp hf hb ?_
  refine wp_mono (h F w [] { tmps := vs.toArray ++ Array.replicate (fn.ntmps - vs.toArray.size) undef, defers := [] } [] w rfl ⟨by simp; omega, rfl, fun t => ?_, ho, rfl, rfl, rfl, rfl, Nat.le_refl _, fun _ _ _ => rfl, fun b hb => by cases hb⟩) ?_
  · rw [look_env0, if_pos (Nat.zero_le _), Nat.sub_zero]
    cases ht : args[t]? with
    | none => simp [AV.sat]
    | some x =>
      obtain ⟨u, h1, h2⟩ := satL_get hsat t x ht
      have hlt : t < vs.length := (List.getElem?_eq_some_iff.1 h1).1
      have : (vs.toArray ++ Array.replicate (fn.ntmps - vs.toArray.size) undef).getD t undef = u := by
        have : (vs.toArray ++ Array.replicate (fn.ntmps - vs.toArray.size) undef)[t]? = some u := by
          rw [Array.getElem?_append_left (by simpa using hlt)]; simpa using h1
        rw [Array.getD_eq_getD_getElem?, this]; rfl
      rw [this]
      exact h2
  · rintro e a' w' ⟨s, κ', ⟨he, js, xs, h1, h2, h3, h4⟩, hs⟩
    obtain ⟨us, h5, h6⟩ := run_results hs.env hs.own fn.results.toList xs h2
    have hfin : ∃ v, (results fn a'.tmps).run P w' = .ok v w' ∧ AV.sat F s.own κ' w' (tupA xs) v := by
      have hmap : (fn.results.mapM (resOne a')).run P w' = .ok us.toArray w' := by
        rw [Array.mapM_eq_mapM_toList, Sem.run_map, h5]; rfl
      rw [results_eq, Sem.run_bind, hmap]
      simp only [Result.andThen_ok, Sem.run_pure]
      have hl2 := satL_length h6
      match xs, us, h6, hl2 with
      | [x], [u], h6, _ => exact ⟨u, rfl, by rw [AV.satL] at h6; exact h6.1⟩
      | [], [], h6, _ =>
        refine ⟨.tuple #[], rfl, ?_⟩
        show AV.sat F s.own κ' w' (.tup []) _
        rw [AV.sat]; exact ⟨#[], rfl, h6⟩
      | x :: y :: xs, u :: v :: us, h6, _ =>
        refine ⟨.tuple (u :: v :: us).toArray, by simp, ?_⟩
        show AV.sat F s.own κ' w' (.tup (x :: y :: xs)) _
        rw [AV.sat]; exact ⟨_, rfl, h6⟩
    obtain ⟨v, h7, h8⟩ := hfin
    have hsel := sel_own (js := js) hs.own h1
    have hfz := AV.frz_sat (js := js) hs.own _ h8
    have hfz := h3 _ _ _ _ _ hfz
    rw [h4] at hfz hsel
    have hnew : ∀ b, some b ∈ selK κ' js → some b ∈ ([] : List (Option Nat)) ∨ w.heap.size ≤ b := fun b hb => by
      obtain ⟨i, hi, he⟩ := List.mem_map.1 hb
      rw [List.getD_eq_getElem?_getD] at he
      cases h9 : κ'[i]? with
      | none => rw [h9] at he; cases he
      | some og => rw [h9] at he; simp at he; rw [he] at h9
                   exact hs.new b (List.mem_of_getElem? h9)
    have hst : Stab F [] [] w own' (selK κ' js) w' := ⟨Tr.wide hs.size hs.old hnew, fun i x og hx => by simp at hx⟩
    have htr : Tr F 0 [] [] w own' (selK κ' js) w' := ⟨hs.os, hs.tape, hs.output, hs.size, hs.old, hnew, rfl, fun x u => AV.sat_stab hst (fun i x hx => by simp at hx) x⟩
    rcases he with rfl | rfl
    · exact ⟨hs.df, v, h7, v, _, rfl, hfz, hsel, htr⟩
    · exact ⟨hs.df, v, h7, v, _, rfl, hfz, hsel, htr⟩
end Go.Proofs.Ytffdhckilhhejaa
