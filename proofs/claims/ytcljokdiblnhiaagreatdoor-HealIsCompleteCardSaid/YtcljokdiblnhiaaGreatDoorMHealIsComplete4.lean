import Derived.Test.YtcljokdiblnhiaaGreatDoorMHealIsComplete3
import Derived.LaidLaws
import Derived.Handed
import Derived.FnData
import Derived.Test.YtcljokdiblnhiaaGreatDoorProg
import Derived.Test.YtcljokdiblnhiaaGreatDoorRows
import Derived.WalkKit
import Derived.Laws.CopyRow
import Derived.Laws.IdiomCopy
/- Joined texts: Open8 Open10 Fld8 Rf0 La1 La2 La3 La4 La5 La6 La7 Ds1 Rp1 Rp2 Rp3 Rp4 Xp3 St1 St2 Ds3 Kern43 Ds7 Ds8 He0 He1 Kern45 Cl1 Cl2 Cl4 Cl6 Kern48. -/
set_option linter.unusedVariables false
set_option linter.unusedSimpArgs false
section
namespace Go.Proofs.YtcljokdiblnhiaaGreatDoor
open Go.ChangeShapes Go.WideShapes Go.ChangeAt Go.RowKit
section
variable {H : Type} {enc : TypeId × Value → H} {P : Program} {w : World} {base : Nat} {spare : Nat → Bool} {held : Bool}
def Opens (enc : TypeId × Value → H) (P : Program) (w : World) (base : Nat) (spare : Nat → Bool) (held : Bool) (t : TypeId) {α : Type} (f : α → List Dat) (ok : α → Prop) : Prop :=
  ∀ (fuel : Nat) (cs : List Value) (x : DataW H × List MemPlace), DataW.trod enc P w base spare held fuel t cs = some x →
    ∃ a, ok a ∧ (f a).length = cs.length ∧ ∀ (j : Nat) (y : Dat), (f a)[j]? = some y → ∃ u, cs[j]? = some u ∧ u.oneCell' = true ∧ Dat.sat (badK (fun _ => False) []) w y u
theorem opens_one {t : TypeId} {α : Type} {g : α → Dat} {ok : α → Prop} (h : ∀ (fuel : Nat) (cs : List Value) (x : DataW H × List MemPlace), DataW.trod enc P w base spare held fuel t cs = some x → ∃ a u, ok a ∧ cs = [u] ∧ u.oneCell' = true ∧ Dat.sat (badK (fun _ => False) []) w (g a) u) : Opens enc P w base spare held t (fun a => [g a]) ok := fun fuel cs x hx => by
  obtain ⟨a, u, h1, rfl, h2, h3⟩ := h fuel cs x hx
  refine ⟨a, h1, rfl, fun j y hy => ?_⟩
  cases j with
  | succ j => simp at hy
  | zero =>
    simp only [List.getElem?_cons_zero, Option.some.injEq] at hy
    subst hy
    exact ⟨u, rfl, h2, h3⟩
theorem opens_string {t : TypeId} (ht : P.underlying t = some .string) : Opens enc P w base spare held t sD (fun l => isB l ∧ l.length ≤ maxLen) :=
  opens_one fun fuel cs x hx => by
    obtain ⟨s, rfl, _, hs⟩ := DataW.trod_string ht hx
    refine ⟨s.data.toList.map (·.toNat), .string s, ⟨isB_nat s, by rw [List.length_map]; exact hs⟩, rfl, rfl, ?_⟩
    rw [Dat.sat, bytesOf_nat]
theorem opens_int {t : TypeId} (ht : P.underlying t = some (.int .i64)) : Opens enc P w base spare held t iD (fun n => -9223372036854775808 ≤ n ∧ n < 9223372036854775808) :=
  opens_one fun fuel cs x hx => by
    obtain ⟨n, rfl, _, hw⟩ := DataW.trod_int ht hx
    refine ⟨n, _, ?_, rfl, rfl, rfl⟩
    have h1 : IntKind.i64.max = 9223372036854775807 := by decide +kernel
    have h2 : IntKind.i64.min = -9223372036854775808 := by decide +kernel
    simp only [Lit.wf, Bool.and_eq_true, decide_eq_true_eq] at hw
    rw [h1, h2] at hw
    omega
theorem opens_bool {t : TypeId} (ht : P.underlying t = some .bool) : Opens enc P w base spare held t tD (fun _ => True) :=
  opens_one fun fuel cs x hx => by
    obtain ⟨b, rfl, _⟩ := DataW.trod_bool ht hx
    exact ⟨b, _, trivial, rfl, rfl, rfl⟩
theorem choose_list {α : Type} {Q : Nat → α → Prop} : ∀ n, (∀ i, i < n → ∃ a, Q i a) → ∃ l : List α, l.length = n ∧ ∀ i a, l[i]? = some a → Q i a
  | 0, _ => ⟨[], rfl, fun i a h => by simp at h⟩
  | n + 1, h => by
    obtain ⟨l, hl, hq⟩ := choose_list n (fun i hi => h i (by omega))
    obtain ⟨a, ha⟩ := h n (by omega)
    refine ⟨l ++ [a], by simp [hl], fun i b hb => ?_⟩
    by_cases hi : i < n
    · rw [List.getElem?_append_left (by omega)] at hb; exact hq i b hb
    · have : i = n := by
        have := (List.getElem?_eq_some_iff.1 hb).1
        simp [hl] at this; omega
      subst this
      rw [List.getElem?_append_right (by omega), hl, Nat.sub_self] at hb
      simp only [List.getElem?_cons_zero, Option.some.injEq] at hb
      subst hb; exact ha
theorem opens_slice {t e : TypeId} {sz : Nat} {α : Type} {f : α → List Dat} {ok : α → Prop} (ht : P.underlying t = some (.slice e)) (hc : P.cellsOf e = sz) (h0 : 0 < sz) (he : Opens enc P w base spare held e f ok) :
    Opens enc P w base spare held t (fun l : List α => [.sl sz (l.map f)]) (fun l => (∀ a ∈ l, ok a) ∧ l.length ≤ maxLen) :=
  opens_one fun fuel cs x hx => by
    rcases DataW.trod_slice ht hx with ⟨rfl, _⟩ | ⟨a, len, cap, elems, rest, n, _, rfl, _, hb, hl, hm, hlen, hel, _, _⟩
    · refine ⟨[], .slice none 0 0, ⟨fun a h => by simp at h, Nat.zero_le _⟩, rfl, rfl, ?_⟩
      rw [Dat.sat]
      exact ⟨none, 0, rfl, Nat.le_refl _, Nat.zero_le _, fun h => by simp at h⟩
    · have each : ∀ i, i < len → ∃ el, ok el ∧ (f el).length = sz ∧ ∀ (j : Nat) (y : Dat), (f el)[j]? = some y → ∃ u, w.cell? ((a.add (i * sz)).add j) = some u ∧ u.oneCell' = true ∧ Dat.sat (badK (fun _ => False) []) w y u := fun i hi => by
        have h1 := hel i hi
        rw [List.getElem?_eq_getElem (by omega), hc, Option.bind_eq_some_iff] at h1
        obtain ⟨cs', h2, h3⟩ := h1
        obtain ⟨_, h4, h5⟩ := World.cells?_some h2
        obtain ⟨el, k1, k2, k3⟩ := he n cs' _ h3
        refine ⟨el, k1, by omega, fun j y hy => ?_⟩
        obtain ⟨u, k4, k5, k6⟩ := k3 j y hy
        have hj : j < sz := by rw [← h4]; exact (List.getElem?_eq_some_iff.1 k4).1
        exact ⟨u, by rw [h5 j hj]; exact k4, k5, k6⟩
      obtain ⟨l, hll, hlq⟩ := choose_list len each
      refine ⟨l, .slice (some a) len cap, ⟨fun el hel2 => ?_, by omega⟩, rfl, rfl, ?_⟩
      · obtain ⟨i, hi, rfl⟩ := List.getElem_of_mem hel2
        exact (hlq i _ (List.getElem?_eq_getElem hi)).1
      · rw [Dat.sat]
        refine ⟨some a, cap, by rw [List.length_map, hll], by rw [List.length_map]; omega, hm, fun hp => ?_⟩
        rw [List.length_map] at hp
        have hfirst := hlq 0 _ (List.getElem?_eq_getElem hp)
        obtain ⟨_, k2, k3⟩ := hfirst
        obtain ⟨u, k4, _, _⟩ := k3 0 _ (List.getElem?_eq_getElem (by omega))
        have e0 : (a.add (0 * sz)).add 0 = a := by simp [Addr.add]
        rw [e0] at k4
        obtain ⟨b, o, sp⟩ := a
        have hsp : sp = none := by
          unfold World.cell? at k4
          split at k4
          · split at k4
            · cases k4
            · rename_i h1; simpa using h1
          · cases k4
        subst hsp
        have hlt : b < w.heap.size := by
          have := World.block_lt_of_cell? _ _ k4
          exact this
        refine ⟨b, o, rfl, hlt, by simp [badK], Dat.rowsSat_iff.2 fun j el hj => ?_⟩
        rw [List.getElem?_map] at hj
        cases hx : l[j]? with
        | none => rw [hx] at hj; cases hj
        | some v =>
          rw [hx] at hj
          simp only [Option.map_some, Option.some.injEq] at hj
          subst hj
          obtain ⟨_, k2', k3'⟩ := hlq j v hx
          refine ⟨k2', Dat.rowSat_iff.2 fun j2 y hy => ?_⟩
          obtain ⟨u', k4', k5', k6'⟩ := k3' j2 y hy
          refine ⟨u', ?_, k5', k6'⟩
          rw [← k4']
          congr 1
          simp only [Addr.add]
          by_cases h1 : j * sz = 0
          · rw [if_pos h1, h1]
            by_cases h2 : j2 = 0
            · rw [if_pos h2, h2]; simp
            · rw [if_neg h2]; simp
          · rw [if_neg h1]
            by_cases h2 : j2 = 0
            · rw [if_pos h2, h2]; simp
            · rw [if_neg h2]
variable {r : Reach} {b0 : Nat}
end
end Go.Proofs.YtcljokdiblnhiaaGreatDoor
end
section
namespace Go.Proofs.YtcljokdiblnhiaaGreatDoor
open Go.ChangeShapes Go.WideShapes Go.ChangeAt Go.RowKit
section
variable {H : Type} {enc : TypeId × Value → H} {P : Program} {w : World} {base : Nat} {spare : Nat → Bool} {held : Bool}
def OpensTo (enc : TypeId × Value → H) (P : Program) (w : World) (base : Nat) (spare : Nat → Bool) (held : Bool) (t : TypeId) (k : Nat) {α : Type} (f : α → List Dat) (ok : α → Prop) : Prop :=
  ∀ (fuel : Nat) (cs : List Value) (x : DataW H × List MemPlace), DataW.trod enc P w base spare held fuel t cs = some x →
    ∃ a, ok a ∧ (f a).length = k ∧ ∀ (j : Nat) (y : Dat), (f a)[j]? = some y → ∃ u, cs[j]? = some u ∧ u.oneCell' = true ∧ Dat.sat (badK (fun _ => False) []) w y u
theorem opens_to0 {t : TypeId} : OpensTo enc P w base spare held t 0 (fun _ : Unit => []) (fun _ => True) := fun fuel cs x hx =>
  ⟨(), trivial, rfl, fun j y hy => by simp at hy⟩
theorem opens_toS {t : TypeId} {fs : Array Field} {k m : Nat} (i : Nat) {fd : Field} {α β : Type} {f : α → List Dat} {g : β → List Dat} {okf : α → Prop} {okg : β → Prop} (ht : P.underlying t = some (.struct fs)) (h : OpensTo enc P w base spare held t k f okf) (hi : fs[i]? = some fd) (ho : fd.offset = k) (hc : P.cellsOf fd.type = m) (hn : k + m ≤ P.cellsOf t)
    (hg : Opens enc P w base spare held fd.type g okg) : OpensTo enc P w base spare held t (k + m) (fun p : α × β => f p.1 ++ g p.2) (fun p => okf p.1 ∧ okg p.2) := fun fuel cs x hx => by
  obtain ⟨a, h1, h2, h3⟩ := h fuel cs x hx
  obtain ⟨y, n, hy⟩ := open_field ht hx i fd hi
  obtain ⟨_, _, _, _, hl, _, _⟩ := DataW.trod_struct ht hx
  obtain ⟨b, k1, k2, k3⟩ := hg n _ y hy
  rw [ho, hc] at k2 k3
  have hlen : ((cs.drop k).take m).length = m := by rw [List.length_take, List.length_drop]; omega
  refine ⟨(a, b), ⟨h1, k1⟩, by show (f a ++ g b).length = _; rw [List.length_append, h2, k2, hlen], fun j y hy => ?_⟩
  have hy : (f a ++ g b)[j]? = some y := hy
  by_cases hj : j < k
  · rw [List.getElem?_append_left (by omega)] at hy
    exact h3 j y hy
  · rw [List.getElem?_append_right (by omega), h2] at hy
    obtain ⟨u, q1, q2, q3⟩ := k3 _ y hy
    refine ⟨u, ?_, q2, q3⟩
    have hjm : j - k < m := by
      have := (List.getElem?_eq_some_iff.1 hy).1
      omega
    rw [List.getElem?_take, if_pos hjm, List.getElem?_drop] at q1
    rw [← q1]
    congr 1
    omega
theorem opens_all {t : TypeId} {fs : Array Field} {k : Nat} {α : Type} {f : α → List Dat} {ok : α → Prop} (ht : P.underlying t = some (.struct fs)) (hc : P.cellsOf t = k) (h : OpensTo enc P w base spare held t k f ok) : Opens enc P w base spare held t f ok := fun fuel cs x hx => by
  obtain ⟨a, h1, h2, h3⟩ := h fuel cs x hx
  obtain ⟨_, _, _, _, hl, _, _⟩ := DataW.trod_struct ht hx
  exact ⟨a, h1, by omega, h3⟩
theorem opens_map {t : TypeId} {α β : Type} {f : α → List Dat} {ok : α → Prop} (h : Opens enc P w base spare held t f ok) (φ : α → β) {g : β → List Dat} {okg : β → Prop} (he : ∀ a, ok a → g (φ a) = f a ∧ okg (φ a)) : Opens enc P w base spare held t g okg := fun fuel cs x hx => by
  obtain ⟨a, h1, h2, h3⟩ := h fuel cs x hx
  refine ⟨φ a, (he a h1).2, by rw [(he a h1).1]; exact h2, by rw [(he a h1).1]; exact h3⟩
theorem opens_agg {t : TypeId} {α : Type} {f : α → List Dat} {ok : α → Prop} {cs : List Value} {d : DataW H} {ps : List MemPlace} (h : Opens enc P w base spare held t f ok) (hv : (Value.agg cs.toArray).cells.toList = cs) (hx : DataW.Trod enc P w base spare held t (.agg cs.toArray) d ps) : ∃ a, ok a ∧ AV.sat (fun _ => False) [] [] w (.agg ((f a).map .d)) (.agg cs.toArray) := by
  obtain ⟨fuel, hf⟩ := hx
  rw [hv] at hf
  obtain ⟨a, h1, h2, h3⟩ := h fuel cs _ hf
  refine ⟨a, h1, ?_⟩
  rw [AV.sat]
  refine ⟨_, rfl, satL_of (by simp [h2]) fun j x hj => ?_⟩
  rw [List.getElem?_map] at hj
  cases hy : (f a)[j]? with
  | none => rw [hy] at hj; cases hj
  | some y =>
    rw [hy] at hj
    obtain rfl : AV.d y = x := by simpa using hj
    obtain ⟨u, q1, q2, q3⟩ := h3 j y hy
    exact ⟨u, by simpa using q1, by rw [AV.sat]; exact q3⟩
end
end Go.Proofs.YtcljokdiblnhiaaGreatDoor
end
section
namespace Go.Proofs.YtcljokdiblnhiaaGreatDoor
open Go.ChangeShapes Go.WideShapes Go.ChangeAt Go.RowKit
set_option maxRecDepth 100000
section
variable {H : Type} {enc : TypeId × Value → H} {w : World} {base : Nat} {spare : Nat → Bool} {held : Bool}
theorem cellsI : Tryz.prog.cellsOf 3 = 1 := by kernel_rfl
theorem cells125 : Tryz.prog.cellsOf 284 = 2 := by kernel_rfl
theorem cells126 : Tryz.prog.cellsOf 285 = 4 := by kernel_rfl
theorem two_cells {fuel : Nat} {c0 c1 : Value} {a b : Int} {q : List MemPlace} (h : DataW.trod enc Tryz.prog w base spare held fuel 284 [c0, c1] = some (.agg [.lit (.int .i64 a), .lit (.int .i64 b)], q)) : c0 = .int .i64 a ∧ c1 = .int .i64 b := by
  obtain ⟨xs, n, _, hx, _, hlen, hg⟩ := DataW.trod_struct Tryz.underlying284 h
  have h0 := hg 0 _ rfl
  have h1 := hg 1 _ rfl
  obtain ⟨y0, y1, rfl⟩ : ∃ y0 y1, xs = [y0, y1] := by
    match xs, hlen with
    | [y0, y1], _ => exact ⟨_, _, rfl⟩
  replace h0 : DataW.trod enc Tryz.prog w base spare held n 3 [c0] = some y0 := by
    have e : List.take (Tryz.prog.cellsOf 3) [c0, c1] = [c0] := by rw [cellsI]; rfl
    rw [← e]; exact h0
  replace h1 : DataW.trod enc Tryz.prog w base spare held n 3 [c1] = some y1 := by
    have e : List.take (Tryz.prog.cellsOf 3) [c1] = [c1] := by rw [cellsI]; rfl
    rw [← e]; exact h1
  obtain ⟨m0, g0, e0, _⟩ := DataW.trod_int Tryz.underlying3 h0
  obtain ⟨m1, g1, e1, _⟩ := DataW.trod_int Tryz.underlying3 h1
  subst e0; subst e1
  obtain ⟨hx1, _⟩ := Prod.mk.inj hx
  simp only [List.map_cons, List.map_nil, DataW.agg.injEq, List.cons.injEq, DataW.lit.injEq, Lit.int.injEq, and_true, true_and] at hx1
  obtain ⟨rfl, rfl⟩ := hx1
  simp only [List.cons.injEq, and_true] at g0 g1
  exact ⟨g0, g1⟩
theorem fields_cells {fuel : Nat} {cs : Array Value} {q : List MemPlace} (h : DataW.trod enc Tryz.prog w base spare held fuel 285 cs.toList = some (Rows.laid_solvent_field_fields, q)) : cs = #[.int .i64 8, .int .i64 285, .int .i64 16, .int .i64 69643] := by
  obtain ⟨xs, m, _, hx, hcl, hlen, hg⟩ := DataW.trod_array Tryz.underlying285 h
  obtain ⟨l⟩ := cs
  obtain ⟨c0, c1, c2, c3, rfl⟩ := list4 (hcl.trans cells126)
  have h0 := hg 0 (by decide)
  have h1 := hg 1 (by decide)
  obtain ⟨y0, y1, rfl⟩ : ∃ y0 y1, xs = [y0, y1] := by
    match xs, hlen with
    | [y0, y1], _ => exact ⟨_, _, rfl⟩
  rw [cells125] at h0 h1
  replace h0 : DataW.trod enc Tryz.prog w base spare held m 284 [c0, c1] = some y0 := h0
  replace h1 : DataW.trod enc Tryz.prog w base spare held m 284 [c2, c3] = some y1 := h1
  obtain ⟨hx1, _⟩ := Prod.mk.inj hx
  unfold Rows.laid_solvent_field_fields at hx1
  simp only [List.map_cons, List.map_nil, DataW.agg.injEq, List.cons.injEq, and_true] at hx1
  obtain ⟨y00, y01⟩ := y0
  obtain ⟨y10, y11⟩ := y1
  obtain ⟨r0, r1⟩ := hx1
  dsimp only at r0 r1
  subst r0; subst r1
  obtain ⟨rfl, rfl⟩ := two_cells h0
  obtain ⟨rfl, rfl⟩ := two_cells h1
  rfl
theorem satL_cons {F : Nat → Prop} {own : List Ent} {κ : List (Option Nat)} {x : AV} {v : Value} {l : List AV} {vs : List Value} (h : AV.sat F own κ w x v) (hl : AV.satL F own κ w l vs) : AV.satL F own κ w (x :: l) (v :: vs) := by
  rw [AV.satL]; exact ⟨h, hl⟩
theorem satL_nil {F : Nat → Prop} {own : List Ent} {κ : List (Option Nat)} : AV.satL F own κ w [] [] := by rw [AV.satL]; trivial
end
end Go.Proofs.YtcljokdiblnhiaaGreatDoor
end
section
namespace Go.Proofs.YtcljokdiblnhiaaGreatDoor
open Go.RowKit
set_option linter.unusedSectionVars false
set_option maxHeartbeats 4000000
set_option maxRecDepth 100000
theorem ACalls.le {P : Program} {f : FuncId} {args args' : List AV} {r : AV} {own own' : List Ent} (h : ACalls P f args own r own') (hle : ∀ F κ w vs, AV.satL F own κ w args' vs → AV.satL F own κ w args vs) : ACalls P f args' own r own' := fun F κ w vs ho hsat => h F κ w vs ho (hle F κ w vs hsat)
theorem satL_le1 {x x' : AV} {l : List AV} (h : ∀ F own κ w u, AV.sat F own κ w x' u → AV.sat F own κ w x u) : ∀ F own κ w vs, AV.satL F own κ w (x' :: l) vs → AV.satL F own κ w (x :: l) vs := fun F own κ w vs hs => by
  cases vs with
  | nil => simp [AV.satL] at hs
  | cons v vs =>
    rw [AV.satL] at hs ⊢
    exact ⟨h _ _ _ _ _ hs.1, hs.2⟩
attribute [local irreducible] Quiet Eff OpOk AWPG ACont ABlock ACalls AGoto
def smallB (D : Int) (par : List (List Int)) : Bool := decide (D ≤ 12) && (decide (par.length ≤ 8) && par.all fun r => decide (r.length ≤ 12))
theorem A_small {M D : Int} {par : List (List Int)} : ACalls Tryz.prog 63 [cdA M D par] [] (bV (smallB D par)) [] := by
  refine acalls_of_bodyO Tryz.func63 rfl (Nat.le_of_ble_eq_true rfl) ?_
  have hmp : (par.map rD).length = par.length := List.length_map _
  by_cases hD : D ≤ 12
  · by_cases hP : par.length ≤ 8
    · unfold smallB
      rw [decide_eq_true hD, decide_eq_true hP]
      (repeat' (first
  | (apply yFb; exact rfl; exact rfl)
  | (apply W.qd; (first
    | (apply q_mv; (conv => lhs; whnf))|(apply q_as; (conv => lhs; whnf))|(apply yS; (iterate 3 exact rfl))|(apply yT; (iterate 4 exact rfl))|(apply q_gtr; exact rfl; exact rfl)|(apply yV; exact rfl; exact rfl)
    | (apply (yDb (u := .d _)); exact rfl; exact rfl)))|(apply W.ed; (apply yBb; (iterate 3 exact rfl); kernel_rfl; kernel_rfl))|(apply yA)|(apply yB)|(apply yC; kernel_rfl)|(apply yE)|(apply yG)|(apply yH)|(refine W.gF _ _ rfl rfl (fun hb => ?_) (fun hb => ?_) <;> ((try simp only [hb, zA, zB]) <;> (try simp only [zC, zD, zE, zF, zG, zH, zI, zJ] at hb) <;> (try (exfalso; omega))))
  | (refine W.cond _ rfl (fun hb => ?_) (fun hb => ?_) <;> ((try simp only [hb, zA, zB]) <;> (try simp only [zC, zD, zE, zF, zG, zH, zI, zJ] at hb) <;> (try (exfalso; omega))))))
      refine AWP.loopW (α := Nat) (fun k => k ≤ par.length ∧ ∀ r ∈ par.take k, r.length ≤ 12) (fun k => ⟨[(3, iV k), (1, .opt 0 0)], [.box [.d .any, iV M, iV D, rowsA par, .d .any]]⟩) (fun k => par.length - k) 0 ⟨by omega, by simp⟩ ⟨[0], rfl, rfl, rfl, by (repeat (first | exact trivial | refine ⟨rfl, ?_⟩))⟩ fun k hk => ?_
      by_cases hkl : k < par.length
      · (repeat' (first
  | (apply W.qd; (first
    | (apply q_mv; (conv => lhs; whnf))|(apply q_as; (conv => lhs; whnf))|(apply yS; (iterate 3 exact rfl))|(apply yT; (iterate 4 exact rfl))|(apply q_lss; exact rfl; exact rfl)|(apply q_gtr; exact rfl; exact rfl)|(apply q_add; exact rfl; exact rfl; omega)|(apply yV; exact rfl; exact rfl)|(apply yX; (iterate 3 exact rfl); (first | omega | (focus (simp; done))))
    | (apply yGb; (iterate 4 exact rfl); (first | (with_reducible exact rfl) | exact natI_spec rfl | assumption | exact (Int.toNat_of_nonneg (by omega)).symm); (first | omega | (focus (simp only [List.length_map]; omega)) | (focus (simp; done)) | (focus (simp; omega))))))|(apply yA)|(apply yB)|(apply yC; kernel_rfl)|(apply yE)|(apply yG)|(apply yH)|(apply yJ)|(apply yP)|(apply yL)|(apply yN)
  | (refine W.cond _ rfl (fun hb => ?_) (fun hb => ?_) <;> ((try simp only [hb, zA, zB]) <;> (try simp only [zC, zD, zE, zF, zG, zH, zI, zJ] at hb) <;> (try (exfalso; omega))))))
        · have e : par.all (fun r => decide (r.length ≤ 12)) = false := by
            rw [List.all_eq_false]
            exact ⟨par[k], List.getElem_mem _, by simp; omega⟩
          rw [e]
          exact ⟨.inl rfl, [], [bV false], rfl, rfl, ⟨rfl, trivial⟩, AVle.of_eq rfl, rfl⟩
        · refine ⟨k + 1, ⟨by omega, fun r hr => ?_⟩, by omega, [0], rfl, rfl, rfl, iV_eq (by omega), rfl, trivial⟩
          rw [List.take_succ_eq_append_getElem hkl] at hr
          rcases List.mem_append.1 hr with hr | hr
          · exact hk.2 r hr
          · rw [List.mem_singleton.1 hr]; omega
      · have e : par.all (fun r => decide (r.length ≤ 12)) = true := by
          rw [List.all_eq_true]
          intro r hr
          rw [decide_eq_true_eq]
          exact hk.2 r (by rwa [List.take_of_length_le (by omega)])
        rw [e]
        (repeat' (first
  | (apply W.qd; (first
    | (apply q_mv; (conv => lhs; whnf))|(apply q_as; (conv => lhs; whnf))|(apply yS; (iterate 3 exact rfl))|(apply yT; (iterate 4 exact rfl))|(apply q_lss; exact rfl; exact rfl)
    | (apply yV; exact rfl; exact rfl)))|(apply yA)|(apply yB)|(apply yC; kernel_rfl)|(apply yE)|(apply yI)|(apply yJ)|(apply yK)|(apply yM)
  | (refine W.cond _ rfl (fun hb => ?_) (fun hb => ?_) <;> ((try simp only [hb, zA, zB]) <;> (try simp only [zC, zD, zE, zF, zG, zH, zI, zJ] at hb) <;> (try (exfalso; omega))))))
        exact ⟨.inl rfl, [], [bV true], rfl, rfl, ⟨rfl, trivial⟩, AVle.of_eq rfl, rfl⟩
    · unfold smallB
      rw [decide_eq_true hD, decide_eq_false hP]
      (repeat' (first
  | (apply yFb; exact rfl; exact rfl)
  | (apply W.qd; (first
    | (apply q_mv; (conv => lhs; whnf))|(apply q_as; (conv => lhs; whnf))|(apply yS; (iterate 3 exact rfl))|(apply yT; (iterate 4 exact rfl))|(apply q_gtr; exact rfl; exact rfl)|(apply yV; exact rfl; exact rfl)
    | (apply (yDb (u := .d _)); exact rfl; exact rfl)))|(apply W.ed; (apply yBb; (iterate 3 exact rfl); kernel_rfl; kernel_rfl))|(apply yA)|(apply yB)|(apply yC; kernel_rfl)|(apply yE)|(apply yJ)|(apply yP)|(refine W.gF _ _ rfl rfl (fun hb => ?_) (fun hb => ?_) <;> ((try simp only [hb, zA, zB]) <;> (try simp only [zC, zD, zE, zF, zG, zH, zI, zJ] at hb) <;> (try (exfalso; omega))))
  | (refine W.cond _ rfl (fun hb => ?_) (fun hb => ?_) <;> ((try simp only [hb, zA, zB]) <;> (try simp only [zC, zD, zE, zF, zG, zH, zI, zJ] at hb) <;> (try (exfalso; omega))))))
      all_goals exact ⟨.inl rfl, [], [bV false], rfl, rfl, ⟨rfl, trivial⟩, AVle.of_eq rfl, rfl⟩
  · unfold smallB
    rw [decide_eq_false hD]
    (repeat' (first
  | (apply W.qd; (first
    | (apply q_mv; (conv => lhs; whnf))|(apply q_as; (conv => lhs; whnf))|(apply yS; (iterate 3 exact rfl))|(apply yT; (iterate 4 exact rfl))|(apply q_gtr; exact rfl; exact rfl)
    | (apply (yEb (u := .d _)); exact rfl; exact rfl)))|(apply W.ed; (apply yBb; (iterate 3 exact rfl); kernel_rfl; kernel_rfl))|(refine W.gOff _ _ rfl rfl (by intro h; cases h) ?_)|(apply yA)|(apply yB)|(apply yC; kernel_rfl)|(apply yE)|(apply yJ)|(apply yP)|(apply yQ; exact rfl)
  | (refine W.gF _ _ rfl rfl (fun hb => ?_) (fun hb => ?_) <;> ((try simp only [hb, zA, zB]) <;> (try simp only [zC, zD, zE, zF, zG, zH, zI, zJ] at hb) <;> (try (exfalso; omega))))))
    all_goals exact ⟨.inl rfl, [], [bV false], rfl, rfl, ⟨rfl, trivial⟩, AVle.of_eq rfl, rfl⟩
end Go.Proofs.YtcljokdiblnhiaaGreatDoor
end
section
namespace Go.Proofs.YtcljokdiblnhiaaGreatDoor
open Go.RowKit
set_option linter.unusedSectionVars false
abbrev mu (M a b : Nat) : Nat := Gf.mul M (modN M) a b
section
variable {M : Nat} (hM : FldM M)
theorem mu_xor (a b c : Nat) : mu M a (b ^^^ c) = mu M a b ^^^ mu M a c := Gf.mul_xor a b c
theorem xor_mu (a b c : Nat) : mu M (a ^^^ b) c = mu M a c ^^^ mu M b c := Gf.xor_mul a b c
theorem mu_zero (a : Nat) : mu M a 0 = 0 := Gf.mul_zero a
theorem zero_mu (a : Nat) : mu M 0 a = 0 := Gf.zero_mul a
include hM
theorem mu_lt {a : Nat} (ha : a < 2 ^ M) (b : Nat) : mu M a b < 2 ^ M := Gf.mul_lt (FldM.gen hM).hm (FldM.gen hM).top (FldM.gen hM).lt ha b
theorem mu_one {a : Nat} (ha : a < 2 ^ M) : mu M a 1 = a := Gf.mul_one (FldM.gen hM).hm ha
theorem one_mu {a : Nat} (ha : a < 2 ^ M) : mu M 1 a = a := Gf.one_mul ha
theorem mu_comm {a b : Nat} (ha : a < 2 ^ M) (hb : b < 2 ^ M) : mu M a b = mu M b a := Gf.mul_comm ha hb
theorem mu_assoc {a b c : Nat} (ha : a < 2 ^ M) (hb : b < 2 ^ M) (hc : c < 2 ^ M) : mu M (mu M a b) c = mu M a (mu M b c) := Gf.mul_assoc (FldM.gen hM).hm (FldM.gen hM).top (FldM.gen hM).lt ha hb hc
theorem inv_mu {a : Nat} (h0 : a ≠ 0) (ha : a < 2 ^ M) : mu M (invN M a) a = 1 ∧ mu M a (invN M a) = 1 := by
  obtain ⟨b, h1, _, h3⟩ := (FldM.gen hM).inv h0 ha
  have e := invN_eq hM ha h1 h3
  rw [e]
  exact ⟨by rw [mu_comm hM h1 ha]; exact h3, h3⟩
theorem mu_eq_zero {a b : Nat} (ha : a < 2 ^ M) (hb : b < 2 ^ M) (h0 : a ≠ 0) (h : mu M a b = 0) : b = 0 := (FldM.gen hM).zero_of_mul ha hb h0 h
end
theorem xor_lt' {M a b : Nat} (ha : a < 2 ^ M) (hb : b < 2 ^ M) : a ^^^ b < 2 ^ M := Nat.xor_lt_two_pow ha hb
theorem xor_self_cancel (a b : Nat) : (a ^^^ b) ^^^ b = a := by rw [Nat.xor_assoc, Nat.xor_self, Nat.xor_zero]
theorem eq_of_xor {a b : Nat} (h : a ^^^ b = 0) : a = b := by
  have : (a ^^^ b) ^^^ b = 0 ^^^ b := by rw [h]
  rwa [xor_self_cancel, Nat.zero_xor] at this
def sg (f : Nat → Nat) : Nat → Nat
  | 0 => 0
  | n + 1 => sg f n ^^^ f n
theorem sg_congr {f g : Nat → Nat} : ∀ n, (∀ i, i < n → f i = g i) → sg f n = sg g n
  | 0, _ => rfl
  | n + 1, h => by rw [sg, sg, sg_congr n (fun i hi => h i (by omega)), h n (by omega)]
theorem sg_zero (n : Nat) : sg (fun _ => 0) n = 0 := by
  induction n with
  | zero => rfl
  | succ n ih => rw [sg, ih, Nat.xor_zero]
theorem sg_xor (f g : Nat → Nat) (n : Nat) : sg (fun i => f i ^^^ g i) n = sg f n ^^^ sg g n := by
  induction n with
  | zero => simp [sg]
  | succ n ih => rw [sg, sg, sg, ih]; exact Gf.xor4 _ _ _ _
theorem sg_mu {M : Nat} (c : Nat) (f : Nat → Nat) (n : Nat) : mu M c (sg f n) = sg (fun i => mu M c (f i)) n := by
  induction n with
  | zero => exact mu_zero c
  | succ n ih => rw [sg, sg, mu_xor, ih]
theorem sg_one {f : Nat → Nat} {k : Nat} : ∀ n, (∀ i, i < n → i ≠ k → f i = 0) → sg f n = if k < n then f k else 0
  | 0, _ => by simp [sg]
  | n + 1, h => by
    rw [sg, sg_one n (fun i hi => h i (by omega))]
    by_cases e : n = k
    · subst e; rw [if_neg (by omega), if_pos (by omega), Nat.zero_xor]
    · rw [h n (by omega) e, Nat.xor_zero]
      by_cases hk : k < n
      · rw [if_pos hk, if_pos (by omega)]
      · rw [if_neg hk, if_neg (by omega)]
def Vc (M D : Nat) (v : Nat → Nat) : Prop := ∀ x, x < D → v x < 2 ^ M
inductive Sp (M D : Nat) (S : (Nat → Nat) → Prop) : (Nat → Nat) → Prop
  | zero {v : Nat → Nat} (h : ∀ x, x < D → v x = 0) : Sp M D S v
  | step {u s v : Nat → Nat} {c : Nat} (hu : Sp M D S u) (hs : S s) (hc : c < 2 ^ M) (h : ∀ x, x < D → v x = u x ^^^ mu M c (s x)) : Sp M D S v
section
variable {M D : Nat} {S S' : (Nat → Nat) → Prop} {u v s : Nat → Nat}
theorem Sp.congr (h : Sp M D S u) (e : ∀ x, x < D → v x = u x) : Sp M D S v := by
  cases h with
  | zero h => exact .zero fun x hx => by rw [e x hx, h x hx]
  | step hu hs hc h => exact .step hu hs hc fun x hx => by rw [e x hx, h x hx]
theorem Sp.add (hu : Sp M D S u) (hv : Sp M D S v) : Sp M D S (fun x => u x ^^^ v x) := by
  induction hv with
  | zero h => exact hu.congr fun x hx => by rw [h x hx, Nat.xor_zero]
  | step h1 hs hc h ih => exact .step ih hs hc fun x hx => by rw [h x hx, Nat.xor_assoc]
theorem Sp.smul (hM : FldM M) (hS : ∀ s, S s → Vc M D s) {c : Nat} (hc : c < 2 ^ M) (hu : Sp M D S u) : Sp M D S (fun x => mu M c (u x)) := by
  induction hu with
  | zero h => exact .zero fun x hx => by rw [h x hx, mu_zero]
  | step h1 hs hc2 h ih => exact .step ih hs (mu_lt hM hc _) fun x hx => by rw [h x hx, mu_xor, mu_assoc hM hc hc2 (hS _ hs x hx)]
theorem Sp.of (hM : FldM M) (hS : ∀ s, S s → Vc M D s) (hs : S s) : Sp M D S s :=
  .step (.zero (v := fun _ => 0) fun _ _ => rfl) hs (one_lt hM) fun x hx => by rw [Nat.zero_xor, one_mu hM (hS s hs x hx)]
theorem Sp.trans (hM : FldM M) (hS' : ∀ s, S' s → Vc M D s) (h : ∀ s, S s → Sp M D S' s) (hv : Sp M D S v) : Sp M D S' v := by
  induction hv with
  | zero h => exact .zero h
  | step h1 hs hc h2 ih => exact (ih.add ((h _ hs).smul hM hS' hc)).congr h2
theorem Sp.mono (h : ∀ s, S s → S' s) (hv : Sp M D S v) : Sp M D S' v := by
  induction hv with
  | zero h => exact .zero h
  | step h1 hs hc h2 ih => exact .step ih (h _ hs) hc h2
theorem Sp.vc (hM : FldM M) (hS : ∀ s, S s → Vc M D s) (hv : Sp M D S v) : Vc M D v := by
  induction hv with
  | zero h => exact fun x hx => by rw [h x hx]; exact Nat.two_pow_pos M
  | step h1 hs hc h2 ih => exact fun x hx => by rw [h2 x hx]; exact xor_lt' (ih x hx) (mu_lt hM hc _)
theorem Sp.vanish {x : Nat} (hx : x < D) (h : ∀ s, S s → s x = 0) (hv : Sp M D S v) : v x = 0 := by
  induction hv with
  | zero h => exact h x hx
  | step h1 hs hc h2 ih => rw [h2 x hx, ih, h _ hs, mu_zero, Nat.xor_zero]
theorem Sp.sum (hM : FldM M) (hS : ∀ s, S s → Vc M D s) {c : Nat → Nat} {w : Nat → Nat → Nat} : ∀ n, (∀ j, j < n → c j < 2 ^ M ∧ Sp M D S (w j)) → Sp M D S (fun x => sg (fun j => mu M (c j) (w j x)) n)
  | 0, _ => .zero fun _ _ => rfl
  | n + 1, h => (Sp.sum hM hS n fun j hj => h j (by omega)).add ((h n (by omega)).2.smul hM hS (h n (by omega)).1)
theorem Sp.split {r : Nat → Nat} (h : Sp M D (fun s => s = r ∨ S s) v) : ∃ c u, c < 2 ^ M ∧ Sp M D S u ∧ ∀ x, x < D → v x = u x ^^^ mu M c (r x) := by
  induction h with
  | zero h => exact ⟨0, fun _ => 0, Nat.two_pow_pos M, .zero fun _ _ => rfl, fun x hx => by rw [h x hx, zero_mu, Nat.xor_zero]⟩
  | step h1 hs hc h2 ih =>
    obtain ⟨c0, u0, e1, e2, e3⟩ := ih
    rcases hs with rfl | hs
    · exact ⟨_, u0, xor_lt' e1 hc, e2, fun x hx => by rw [h2 x hx, e3 x hx, xor_mu, Nat.xor_assoc]⟩
    · refine ⟨c0, _, e1, .step e2 hs hc fun x hx => rfl, fun x hx => ?_⟩
      rw [h2 x hx, e3 x hx, Nat.xor_assoc, Nat.xor_assoc, Nat.xor_comm (mu M c0 _)]
end
end Go.Proofs.YtcljokdiblnhiaaGreatDoor
end
section
namespace Go.Proofs.YtcljokdiblnhiaaGreatDoor
open Go.RowKit
set_option linter.unusedSectionVars false
structure Iso (M D : Nat) (T S : (Nat → Nat) → Nat → Nat) : Prop where
  congr : ∀ u v, (∀ i, i < D → u i = v i) → ∀ i, i < D → T u i = T v i
  congrS : ∀ u v, (∀ i, i < D → u i = v i) → ∀ i, i < D → S u i = S v i
  lt : ∀ v, Vc M D v → Vc M D (T v)
  ltS : ∀ v, Vc M D v → Vc M D (S v)
  add : ∀ u v i, i < D → T (fun k => u k ^^^ v k) i = T u i ^^^ T v i
  smul : ∀ c v, c < 2 ^ M → Vc M D v → ∀ i, i < D → T (fun k => mu M c (v k)) i = mu M c (T v i)
  ts : ∀ v, Vc M D v → ∀ i, i < D → T (S v) i = v i
  st : ∀ v, Vc M D v → ∀ i, i < D → S (T v) i = v i
theorem Iso.id (M D : Nat) : Iso M D (fun v => v) (fun v => v) := ⟨fun _ _ h => h, fun _ _ h => h, fun _ h => h, fun _ h => h, fun _ _ _ _ => rfl, fun _ _ _ _ _ _ => rfl, fun _ _ _ _ => rfl, fun _ _ _ _ => rfl⟩
section
variable {M D : Nat} {T S T' S' : (Nat → Nat) → Nat → Nat}
theorem Iso.comp (h' : Iso M D T' S') (h : Iso M D T S) : Iso M D (fun v => T' (T v)) (fun v => S (S' v)) where
  congr u v e := h'.congr _ _ (h.congr u v e)
  congrS u v e := h.congrS _ _ (h'.congrS u v e)
  lt v hv := h'.lt _ (h.lt v hv)
  ltS v hv := h.ltS _ (h'.ltS v hv)
  add u v i hi := by
    rw [h'.congr _ _ (fun k hk => h.add u v k hk) i hi]
    exact h'.add _ _ i hi
  smul c v hc hv i hi := by
    rw [h'.congr _ _ (fun k hk => h.smul c v hc hv k hk) i hi]
    exact h'.smul c _ hc (h.lt v hv) i hi
  ts v hv i hi := by
    rw [h'.congr _ _ (fun k hk => h.ts _ (h'.ltS v hv) k hk) i hi]
    exact h'.ts v hv i hi
  st v hv i hi := by
    rw [h.congrS _ _ (fun k hk => h'.st _ (h.lt v hv) k hk) i hi]
    exact h.st v hv i hi
theorem Iso.zero (h : Iso M D T S) {v : Nat → Nat} (hv : ∀ i, i < D → v i = 0) (i : Nat) (hi : i < D) : T v i = 0 := by
  have h1 := h.add v v i hi
  rw [Nat.xor_self] at h1
  rw [← h1]
  exact h.congr _ _ (fun k hk => by rw [hv k hk, Nat.xor_self]) i hi
theorem Iso.sum (h : Iso M D T S) {c : Nat → Nat} {w : Nat → Nat → Nat} : ∀ n, (∀ j, j < n → c j < 2 ^ M ∧ Vc M D (w j)) → ∀ i, i < D → T (fun x => sg (fun j => mu M (c j) (w j x)) n) i = sg (fun j => mu M (c j) (T (w j) i)) n
  | 0, _, i, hi => h.zero (fun _ _ => rfl) i hi
  | n + 1, hc, i, hi => by
    show T (fun x => sg (fun j => mu M (c j) (w j x)) n ^^^ mu M (c n) (w n x)) i = _
    rw [h.add (fun x => sg (fun j => mu M (c j) (w j x)) n) (fun x => mu M (c n) (w n x)) i hi, Iso.sum h n (fun j hj => hc j (by omega)) i hi, h.smul _ _ (hc n (by omega)).1 (hc n (by omega)).2 i hi]
    rfl
theorem Iso.inj (h : Iso M D T S) {u v : Nat → Nat} (hu : Vc M D u) (hv : Vc M D v) (e : ∀ i, i < D → T u i = T v i) : ∀ i, i < D → u i = v i := fun i hi => by
  rw [← h.st u hu i hi, ← h.st v hv i hi]
  exact h.congrS _ _ e i hi
theorem iso_swap {i k : Nat} (hi : i < D) (hk : k < D) : Iso M D (fun v r => if r = i then v k else if r = k then v i else v r) (fun v r => if r = i then v k else if r = k then v i else v r) where
  congr u v e r hr := by
    (try dsimp only)
    split
    · exact e k hk
    · split
      · exact e i hi
      · exact e r hr
  congrS u v e r hr := by
    (try dsimp only)
    split
    · exact e k hk
    · split
      · exact e i hi
      · exact e r hr
  lt v hv r hr := by
    (try dsimp only)
    split
    · exact hv k hk
    · split
      · exact hv i hi
      · exact hv r hr
  ltS v hv r hr := by
    (try dsimp only)
    split
    · exact hv k hk
    · split
      · exact hv i hi
      · exact hv r hr
  add u v r hr := by
    (try dsimp only)
    split
    · rfl
    · split <;> rfl
  smul c v hc hv r hr := by
    (try dsimp only)
    split
    · rfl
    · split <;> rfl
  ts v hv r hr := by
    (try dsimp only)
    by_cases h1 : r = i
    · subst h1
      by_cases h2 : k = r
      · subst h2; simp
      · simp [h2]
    · by_cases h2 : r = k
      · subst h2; simp [h1]
      · simp [h1, h2]
  st v hv r hr := by
    (try dsimp only)
    by_cases h1 : r = i
    · subst h1
      by_cases h2 : k = r
      · subst h2; simp
      · simp [h2]
    · by_cases h2 : r = k
      · subst h2; simp [h1]
      · simp [h1, h2]
theorem iso_scale (hM : FldM M) {p f g : Nat} (hp : p < D) (hf : f < 2 ^ M) (hg : g < 2 ^ M) (h1 : mu M f g = 1) : Iso M D (fun v r => if r = p then mu M f (v p) else v r) (fun v r => if r = p then mu M g (v p) else v r) where
  congr u v e r hr := by
    show (if _ then _ else _) = if _ then _ else _
    split
    · rw [e p hp]
    · exact e r hr
  congrS u v e r hr := by
    show (if _ then _ else _) = if _ then _ else _
    split
    · rw [e p hp]
    · exact e r hr
  lt v hv r hr := by
    (try dsimp only)
    split
    · exact mu_lt hM hf _
    · exact hv r hr
  ltS v hv r hr := by
    (try dsimp only)
    split
    · exact mu_lt hM hg _
    · exact hv r hr
  add u v r hr := by
    (try dsimp only)
    split
    · exact mu_xor _ _ _
    · rfl
  smul c v hc hv r hr := by
    (try dsimp only)
    split
    · rw [← mu_assoc hM hf hc (hv p hp), mu_comm hM hf hc, mu_assoc hM hc hf (hv p hp)]
    · rfl
  ts v hv r hr := by
    (try dsimp only)
    by_cases h : r = p
    · subst h
      rw [if_pos rfl, if_pos rfl, ← mu_assoc hM hf hg (hv r hr), h1, one_mu hM (hv r hr)]
    · rw [if_neg h, if_neg h]
  st v hv r hr := by
    (try dsimp only)
    by_cases h : r = p
    · subst h
      rw [if_pos rfl, if_pos rfl, ← mu_assoc hM hg hf (hv r hr), mu_comm hM hg hf, h1, one_mu hM (hv r hr)]
    · rw [if_neg h, if_neg h]
theorem iso_clear (hM : FldM M) {p : Nat} {g : Nat → Nat} (hp : p < D) (hg : ∀ r, r < D → g r < 2 ^ M) : Iso M D (fun v r => if r = p then v p else v r ^^^ mu M (g r) (v p)) (fun v r => if r = p then v p else v r ^^^ mu M (g r) (v p)) where
  congr u v e r hr := by
    (try dsimp only)
    split
    · exact e p hp
    · rw [e r hr, e p hp]
  congrS u v e r hr := by
    (try dsimp only)
    split
    · exact e p hp
    · rw [e r hr, e p hp]
  lt v hv r hr := by
    (try dsimp only)
    split
    · exact hv p hp
    · exact xor_lt' (hv r hr) (mu_lt hM (hg r hr) _)
  ltS v hv r hr := by
    (try dsimp only)
    split
    · exact hv p hp
    · exact xor_lt' (hv r hr) (mu_lt hM (hg r hr) _)
  add u v r hr := by
    (try dsimp only)
    split
    · rfl
    · rw [mu_xor]; exact Gf.xor4 _ _ _ _
  smul c v hc hv r hr := by
    (try dsimp only)
    split
    · rfl
    · rw [mu_xor, ← mu_assoc hM (hg r hr) hc (hv p hp), mu_comm hM (hg r hr) hc, mu_assoc hM hc (hg r hr) (hv p hp)]
  ts v hv r hr := by
    (try dsimp only)
    by_cases h : r = p
    · subst h; simp
    · rw [if_neg h, if_neg h, if_pos rfl, xor_self_cancel]
  st v hv r hr := by
    (try dsimp only)
    by_cases h : r = p
    · subst h; simp
    · rw [if_neg h, if_neg h, if_pos rfl, xor_self_cancel]
end
structure RedTo (M R C n : Nat) (L A : List Nat) (pv : List Nat) (T S : (Nat → Nat) → Nat → Nat) : Prop where
  iso : Iso M R T S
  col : ∀ c, c < C → ∀ r, r < R → gt C A r c = T (fun r => gt C L r c) r
  piv : ∀ q, q < pv.length → pv.getD q 0 < n ∧ ∀ r, r < R → gt C A r (pv.getD q 0) = if r = q then 1 else 0
  inc : ∀ q q', q < q' → q' < pv.length → pv.getD q 0 < pv.getD q' 0
  low : ∀ j, j < n → ∀ r, r < R → gt C A r j ≠ 0 → r < pv.length ∧ pv.getD r 0 ≤ j
theorem getD_app {α : Type} (l : List α) (x d : α) (q : Nat) : (l ++ [x]).getD q d = if q < l.length then l.getD q d else if q = l.length then x else d := by
  simp only [List.getD_eq_getElem?_getD]
  by_cases h : q < l.length
  · rw [if_pos h, List.getElem?_append_left h]
  · rw [if_neg h, List.getElem?_append_right (by omega)]
    by_cases e : q = l.length
    · subst e; simp
    · rw [if_neg e]
      have : q - l.length ≠ 0 := by omega
      obtain ⟨m, hm⟩ := Nat.exists_eq_succ_of_ne_zero this
      rw [hm]; simp
theorem red_to {M R C : Nat} {L : List Nat} (hM : FldM M) (hn : L.length = R * C) (hL : ∀ x ∈ L, x < 2 ^ M) : ∀ n, n ≤ C → ∃ T S, RedTo M R C n L (red M R C L n).1 (red M R C L n).2 T S
  | 0, _ => ⟨_, _, Iso.id M R, fun _ _ _ _ => rfl, fun q hq => by simp [red] at hq, fun q q' _ hq => by simp [red] at hq, fun j hj => by omega⟩
  | n + 1, hnC => by
    obtain ⟨T, S, ih⟩ := red_to hM hn hL n (by omega)
    have hok := red_ok hM hn hL n
    rw [red]
    generalize red M R C L n = s at ih hok
    obtain ⟨A, pv⟩ := s
    have h1 := hok.len
    have h2 := hok.lt
    have h3 := hok.pr
    dsimp only at ih h1 h2 h3
    have hf := findP_le n A (R - pv.length) pv.length (C := C)
    have hs := findP_spec (C := C) (L := A) n (R - pv.length) pv.length
    rw [redStep]
    dsimp only
    generalize findP C n A (R - pv.length) pv.length = i at hf hs
    have hAl : ∀ r c, gt C A r c < 2 ^ M := fun r c => getD_lt h2 _
    by_cases hiR : i = R
    · rw [if_pos hiR]
      refine ⟨T, S, ih.iso, ih.col, fun q hq => ⟨Nat.lt_succ_of_lt (ih.piv q hq).1, (ih.piv q hq).2⟩, ih.inc, fun j hj r hr h0 => ?_⟩
      by_cases hjn : j < n
      · exact ih.low j hjn r hr h0
      · have : j = n := by omega
        subst this
        by_cases hrp : r < pv.length
        · exact ⟨hrp, Nat.le_of_lt (ih.piv r hrp).1⟩
        · exact absurd (hs.1 r (by omega) (by omega)) h0
    · rw [if_neg hiR]
      have hiR' : i < R := by omega
      have hp : pv.length < R := by omega
      have hne := hs.2 (by omega)
      have hnC' : n < C := by omega
      have s1 : ∀ r c, c < C → gt C (swapAt (i * C) (pv.length * C) A C) r c = if r = i then gt C A pv.length c else if r = pv.length then gt C A i c else gt C A r c := fun r c hc => gt_swap h1 hiR' hp hc
      have l1 : (swapAt (i * C) (pv.length * C) A C).length = R * C := by rw [swapAt_length]; exact h1
      have b1 : ∀ x ∈ swapAt (i * C) (pv.length * C) A C, x < 2 ^ M := swapAt_lt _ _ h2 _
      have hx : gt C (swapAt (i * C) (pv.length * C) A C) pv.length n = gt C A i n := by
        rw [s1 _ _ hnC']
        by_cases e : pv.length = i
        · rw [if_pos e, e]
        · rw [if_neg e, if_pos rfl]
      have hxe : (swapAt (i * C) (pv.length * C) A C).getD (pv.length * C + n) 0 = gt C A i n := hx
      rw [hxe]
      generalize swapAt (i * C) (pv.length * C) A C = L1 at *
      have hxl := hAl i n
      obtain ⟨v1, v2⟩ := inv_mu hM hne hxl
      have hvl : invN M (gt C A i n) < 2 ^ M := invN_lt _
      generalize invN M (gt C A i n) = f at *
      generalize hxx : gt C A i n = x at *
      have s2 : ∀ r c, c < C → gt C (scaleAt M f (pv.length * C) L1 C) r c = if r = pv.length then mu M f (gt C L1 pv.length c) else gt C L1 r c := fun r c hc => gt_scale l1 hp hc
      have l2 : (scaleAt M f (pv.length * C) L1 C).length = R * C := by rw [scaleAt_length]; exact l1
      have b2 : ∀ y ∈ scaleAt M f (pv.length * C) L1 C, y < 2 ^ M := scaleAt_lt hM hvl _ b1 _
      generalize scaleAt M f (pv.length * C) L1 C = L2 at *
      have s3 : ∀ r c, r < R → c < C → gt C (clearAt M C n pv.length L2 R) r c = if r = pv.length then gt C L2 pv.length c else gt C L2 r c ^^^ mu M (gt C L2 r n) (gt C L2 pv.length c) := fun r c hr hc => gt_clear l2 hnC' hr hc
      generalize clearAt M C n pv.length L2 R = A2 at *
      have hg2 : ∀ r, r < R → gt C L2 r n < 2 ^ M := fun r _ => getD_lt b2 _
      -- the column of an earlier pivot or of none: nothing changes there
      have keep : ∀ c, c < C → (∀ r, pv.length ≤ r → r < R → gt C A r c = 0) → ∀ r, r < R → gt C A2 r c = gt C A r c := fun c hc hz r hr => by
        have z1 : ∀ r, r < R → gt C L1 r c = gt C A r c := fun r hr => by
          rw [s1 r c hc]
          by_cases e1 : r = i
          · rw [if_pos e1, e1, hz _ (Nat.le_refl _) hp, hz i (by omega) hiR']
          · rw [if_neg e1]
            by_cases e2 : r = pv.length
            · rw [if_pos e2, e2, hz _ (Nat.le_refl _) hp, hz i (by omega) hiR']
            · rw [if_neg e2]
        have z2 : ∀ r, r < R → gt C L2 r c = gt C A r c := fun r hr => by
          rw [s2 r c hc]
          by_cases e2 : r = pv.length
          · rw [if_pos e2, z1 _ hp, e2, hz _ (Nat.le_refl _) hp, mu_zero]
          · rw [if_neg e2, z1 r hr]
        rw [s3 r c hr hc]
        by_cases e2 : r = pv.length
        · rw [if_pos e2, e2, z2 _ hp]
        · rw [if_neg e2, z2 r hr, z2 _ hp, hz _ (Nat.le_refl _) hp, mu_zero, Nat.xor_zero]
      have pivn : ∀ r, r < R → gt C A2 r n = if r = pv.length then 1 else 0 := fun r hr => by
        have e0 : gt C L2 pv.length n = 1 := by rw [s2 _ _ hnC', if_pos rfl, hx]; exact v1
        rw [s3 r n hr hnC', e0]
        by_cases e2 : r = pv.length
        · rw [if_pos e2, if_pos e2]
        · rw [if_neg e2, if_neg e2, mu_one hM (hg2 r hr), Nat.xor_self]
      have i1 := iso_swap (M := M) (D := R) hiR' hp
      have i2 := iso_scale (M := M) (D := R) hM hp hvl hxl v1
      have i3 := iso_clear (M := M) (D := R) hM hp hg2
      have i4 := (i3.comp (i2.comp i1)).comp ih.iso
      refine ⟨_, _, i4, fun c hc r hr => ?_, fun q hq => ?_, fun q q' hqq hq => ?_, fun j hj r hr h0 => ?_⟩
      · have e1 : ∀ k, k < R → gt C A k c = T (fun r => gt C L r c) k := ih.col c hc
        have := (i3.comp (i2.comp i1)).congr _ _ e1 r hr
        rw [← this]
        rw [s3 r c hr hc, s2 _ _ hc, s2 _ _ hc, s1 _ _ hc, s1 _ _ hc]
      · rw [List.length_append, List.length_singleton] at hq
        rw [getD_app]
        by_cases hq1 : q < pv.length
        · rw [if_pos hq1]
          obtain ⟨q1, q2⟩ := ih.piv q hq1
          refine ⟨by omega, fun r hr => ?_⟩
          rw [keep _ (by omega) (fun r h4 h5 => by rw [q2 r h5, if_neg (by omega)]) r hr, q2 r hr]
        · have : q = pv.length := by omega
          subst this
          rw [if_neg (by omega), if_pos rfl]
          exact ⟨by omega, pivn⟩
      · rw [List.length_append, List.length_singleton] at hq
        rw [getD_app, getD_app, if_pos (by omega)]
        by_cases hq1 : q' < pv.length
        · rw [if_pos hq1]; exact ih.inc q q' hqq hq1
        · rw [if_neg hq1, if_pos (by omega)]
          exact (ih.piv q (by omega)).1
      · rw [List.length_append, List.length_singleton]
        by_cases hjn : j < n
        · have hz : ∀ r, pv.length ≤ r → r < R → gt C A r j = 0 := fun r h4 h5 => by
            by_cases e : gt C A r j = 0
            · exact e
            · have := (ih.low j hjn r h5 e).1; (try dsimp only at this); omega
          rw [keep j (by omega) hz r hr] at h0
          have := ih.low j hjn r hr h0
          (try dsimp only at this)
          refine ⟨by omega, ?_⟩
          rw [getD_app, if_pos this.1]; exact this.2
        · have : j = n := by omega
          subst this
          rw [pivn r hr] at h0
          have e : r = pv.length := by
            by_cases e : r = pv.length
            · exact e
            · rw [if_neg e] at h0; exact absurd rfl h0
          subst e
          refine ⟨by omega, ?_⟩
          rw [getD_app, if_neg (by omega), if_pos rfl]
          exact Nat.le_refl _
end Go.Proofs.YtcljokdiblnhiaaGreatDoor
end
section
namespace Go.Proofs.YtcljokdiblnhiaaGreatDoor
open Go.RowKit
set_option linter.unusedSectionVars false
theorem gt_trAt {R C : Nat} {L B : List Nat} (hB : B.length = C * R) : ∀ n, n ≤ R * C → ∀ r c, r < R → c < C → gt R (trAt R C L B n) c r = if r * C + c < n then gt C L r c else gt R B c r
  | 0, _, r, c, _, _ => by rw [if_neg (by omega)]; rfl
  | n + 1, hn, r, c, hr, hc => by
    have ih := gt_trAt (L := L) hB n (by omega) r c hr hc
    have hC : 0 < C := by omega
    have h1 : n % C < C := Nat.mod_lt _ hC
    have h2 : n / C < R := by
      rw [Nat.div_lt_iff_lt_mul hC]; omega
    have h3 : n / C * C + n % C = n := by rw [Nat.mul_comm]; exact Nat.div_add_mod n C
    rw [trAt, gt_set (R := C) (C := R) (by rw [trAt_length]; exact hB) h1 h2 hr, ih]
    by_cases e : c = n % C ∧ r = n / C
    · obtain ⟨e1, e2⟩ := e
      rw [if_pos ⟨e1, e2⟩, if_pos (by rw [e1, e2, h3]; omega)]
      show L.getD n 0 = L.getD (r * C + c) 0
      rw [e1, e2, h3]
    · rw [if_neg e]
      have hne : r * C + c ≠ n := fun h => e (by
        rw [← h3] at h
        obtain ⟨a, b⟩ := idx_inj hc h1 h
        exact ⟨b, a⟩)
      by_cases hlt : r * C + c < n
      · rw [if_pos hlt, if_pos (by omega)]
      · rw [if_neg hlt, if_neg (by omega)]
theorem gt_tr {R C : Nat} {L : List Nat} {r c : Nat} (hr : r < R) (hc : c < C) : gt R (trN R C L) c r = gt C L r c := by
  unfold trN
  rw [gt_trAt (by simp) _ (Nat.le_refl _) r c hr hc, if_pos (idx_lt hr hc)]
theorem gt_pick {R C : Nat} {l : List Nat} (hn : l.length = R * C) {c : Nat} (hc : c < C) : ∀ (is : List Nat), (∀ i ∈ is, i < R) → ∀ k, k < is.length → gt C (pickN C l is) k c = gt C l (is.getD k 0) c
  | [], _, k, hk => by simp at hk
  | i :: is, h, k, hk => by
    have hi := h i (by simp)
    have h1 := Nat.mul_le_mul_right C (show i + 1 ≤ R from hi)
    rw [Nat.add_mul, Nat.one_mul] at h1
    have hl : ((l.drop (i * C)).take C).length = C := by rw [List.length_take, List.length_drop]; omega
    unfold gt
    rw [pickN, List.getD_eq_getElem?_getD]
    cases k with
    | zero =>
      rw [List.getElem?_append_left (by omega), Nat.zero_mul, Nat.zero_add, List.getElem?_take_of_lt hc, List.getElem?_drop]
      rfl
    | succ k =>
      rw [List.getElem?_append_right (by rw [hl, Nat.add_mul]; omega), hl, show (k + 1) * C + c - C = k * C + c by rw [Nat.add_mul]; omega]
      have := gt_pick hn hc is (fun x hx => h x (by simp [hx])) k (by simpa using hk)
      unfold gt at this
      rw [List.getD_eq_getElem?_getD] at this
      rw [this]
      rfl
def U (D : Nat) (gen : List Nat) (u : Nat) : Nat → Nat := fun x => gt D gen u x
theorem U_vc {M R D : Nat} {gen : List Nat} (h : MxOk M R D gen) (u : Nat) : Vc M D (U D gen u) := fun x _ => getD_lt h.e _
theorem pres_inc (hv : List Bool) (n : Nat) : (presAt hv n).Pairwise (· < ·) := List.Pairwise.filter _ List.pairwise_lt_range
theorem getD_inc {l : List Nat} (h : l.Pairwise (· < ·)) {q q' : Nat} (hq : q < q') (hq' : q' < l.length) : l.getD q 0 < l.getD q' 0 := by
  rw [List.getD_eq_getElem?_getD, List.getD_eq_getElem?_getD, List.getElem?_eq_getElem hq', List.getElem?_eq_getElem (show q < l.length by omega)]
  exact List.pairwise_iff_getElem.1 h q q' _ _ hq
theorem getD_mem {l : List Nat} {q : Nat} (h : q < l.length) : l.getD q 0 ∈ l := by
  rw [List.getD_eq_getElem?_getD, List.getElem?_eq_getElem h]
  exact List.getElem_mem h
theorem mem_pres {hv : List Bool} {u : Nat} : u ∈ presN hv ↔ hv.getD u false = true := by
  unfold presN presAt
  rw [List.mem_filter, List.mem_range]
  constructor
  · exact fun h => h.2
  · intro h
    refine ⟨?_, h⟩
    by_cases hl : u < hv.length
    · exact hl
    · rw [List.getD_eq_getElem?_getD, List.getElem?_eq_none (by omega)] at h
      cases h
structure Bas (M D : Nat) (gen : List Nat) (hv : List Bool) (B : List Nat) (T S : (Nat → Nat) → Nat → Nat) : Prop where
  iso : Iso M D T S
  le : B.length ≤ D
  mem : ∀ q, q < B.length → hv.getD (B.getD q 0) false = true
  inc : ∀ q q', q < q' → q' < B.length → B.getD q 0 < B.getD q' 0
  unit : ∀ q, q < B.length → ∀ r, r < D → T (U D gen (B.getD q 0)) r = if r = q then 1 else 0
  low : ∀ u, hv.getD u false = true → ∀ r, r < D → T (U D gen u) r ≠ 0 → r < B.length ∧ B.getD r 0 ≤ u
theorem map_getD {α : Type} {f : Nat → α} {l : List Nat} {q : Nat} (d : α) (h : q < l.length) : (l.map f).getD q d = f (l.getD q 0) := by
  rw [List.getD_eq_getElem?_getD, List.getD_eq_getElem?_getD, List.getElem?_map, List.getElem?_eq_getElem h]
  rfl
theorem basis_to {M D : Nat} {ps : List (List Nat)} {hv : List Bool} (h : CodeOk M D ps) (hl : hv.length = D + ps.length) : ∃ T S, Bas M D (genN D ps) hv (basisN M D ps hv) T S := by
  have hgok := gen_ok h
  have hplt : ∀ x ∈ presN hv, x < D + ps.length := fun x hx => by have := presAt_lt hx; omega
  have hpl : (presN hv).length ≤ 32 := by have := presAt_length hv hv.length; have := h.w; show (presAt hv hv.length).length ≤ 32; omega
  have hpk := pick_ok hgok hplt hpl
  have hbl := basis_len h hl
  have hcol : ∀ c, c < (presN hv).length → ∀ r, r < D → gt (presN hv).length (trN (presN hv).length D (pickN D (genN D ps) (presN hv))) r c = U D (genN D ps) ((presN hv).getD c 0) r := fun c hc r hr => by
    rw [gt_tr hc hr, gt_pick hgok.n hr _ hplt c hc]
    rfl
  obtain ⟨T, S, hr⟩ := red_to (M := M) (R := D) (C := (presN hv).length) (L := trN (presN hv).length D (pickN D (genN D ps) (presN hv))) h.f (trN_length _ _ _) (trN_lt hpk.e) (presN hv).length (Nat.le_refl _)
  have hB : basisN M D ps hv = (red M D (presN hv).length (trN (presN hv).length D (pickN D (genN D ps) (presN hv))) (presN hv).length).2.map fun j => (presN hv).getD j 0 := rfl
  generalize (red M D (presN hv).length (trN (presN hv).length D (pickN D (genN D ps) (presN hv))) (presN hv).length).1 = A at *
  generalize (red M D (presN hv).length (trN (presN hv).length D (pickN D (genN D ps) (presN hv))) (presN hv).length).2 = pv at *
  have hBl : (basisN M D ps hv).length = pv.length := by rw [hB, List.length_map]
  have hBq : ∀ q, q < pv.length → (basisN M D ps hv).getD q 0 = (presN hv).getD (pv.getD q 0) 0 := fun q hq => by rw [hB]; exact map_getD 0 hq
  have hT : ∀ c, c < (presN hv).length → ∀ r, r < D → T (U D (genN D ps) ((presN hv).getD c 0)) r = gt (presN hv).length A r c := fun c hc r hr' => by
    rw [hr.col c hc r hr']
    exact hr.iso.congr _ _ (fun k hk => (hcol c hc k hk).symm) r hr'
  refine ⟨T, S, hr.iso, hbl, fun q hq => ?_, fun q q' h1 h2 => ?_, fun q hq r hr' => ?_, fun u hu r hr' h0 => ?_⟩
  · rw [hBl] at hq
    rw [hBq q hq]
    exact mem_pres.1 (getD_mem (hr.piv q hq).1)
  · rw [hBl] at h2
    rw [hBq q (by omega), hBq q' h2]
    exact getD_inc (pres_inc hv _) (hr.inc q q' h1 h2) (hr.piv q' h2).1
  · rw [hBl] at hq
    rw [hBq q hq, hT _ (hr.piv q hq).1 r hr']
    exact (hr.piv q hq).2 r hr'
  · obtain ⟨c, hc, e⟩ := List.getElem_of_mem (mem_pres.2 hu)
    have e2 : (presN hv).getD c 0 = u := by rw [List.getD_eq_getElem?_getD, List.getElem?_eq_getElem hc]; exact e
    rw [← e2, hT c hc r hr'] at h0
    obtain ⟨h1, h2⟩ := hr.low c hc r hr' h0
    refine ⟨by omega, ?_⟩
    rw [hBq r h1, ← e2]
    by_cases e3 : pv.getD r 0 = c
    · rw [e3]; exact Nat.le_refl _
    · exact Nat.le_of_lt (getD_inc (pres_inc hv _) (by omega) hc)
section
variable {M D : Nat} {gen : List Nat} {hv : List Bool} {B : List Nat} {T S : (Nat → Nat) → Nat → Nat}
def BS (D : Nat) (gen B : List Nat) : (Nat → Nat) → Prop := fun s => ∃ q, q < B.length ∧ s = U D gen (B.getD q 0)
theorem Bas.span (hM : FldM M) (hg : ∀ u, Vc M D (U D gen u)) (h : Bas M D gen hv B T S) {v : Nat → Nat} (hv' : Vc M D v) (hz : ∀ r, r < D → B.length ≤ r → T v r = 0) : Sp M D (BS D gen B) v := by
  have hS : ∀ s, BS D gen B s → Vc M D s := fun s ⟨q, _, e⟩ => by rw [e]; exact hg _
  have hsum := Sp.sum (M := M) (D := D) (S := BS D gen B) hM hS (c := fun q => T v q) (w := fun q => U D gen (B.getD q 0)) B.length (fun q hq => ⟨h.iso.lt v hv' q (by have := h.le; omega), Sp.of hM hS ⟨q, hq, rfl⟩⟩)
  refine hsum.congr fun x hx => ?_
  have hw : Vc M D (fun x => sg (fun q => mu M (T v q) (U D gen (B.getD q 0) x)) B.length) := hsum.vc hM hS
  refine (h.iso.inj hv' hw fun i hi => ?_) x hx
  rw [h.iso.sum B.length (fun q hq => ⟨h.iso.lt v hv' q (by have := h.le; omega), hg _⟩) i hi]
  rw [sg_congr B.length (fun q hq => show mu M (T v q) (T (U D gen (B.getD q 0)) i) = if q = i then T v i else 0 by
    rw [h.unit q hq i hi]
    by_cases e : i = q
    · subst e; rw [if_pos rfl, if_pos rfl, mu_one hM (h.iso.lt v hv' i hi)]
    · rw [if_neg e, if_neg (fun e2 => e e2.symm), mu_zero])]
  rw [sg_one (k := i) B.length (fun q _ hne => if_neg hne), if_pos rfl]
  by_cases e : i < B.length
  · rw [if_pos e]
  · rw [if_neg e, hz i hi (by omega)]
theorem Bas.low' (hM : FldM M) (hg : ∀ u, Vc M D (U D gen u)) (h : Bas M D gen hv B T S) {v : Nat → Nat} (hsp : Sp M D (BS D gen B) v) : ∀ r, r < D → B.length ≤ r → T v r = 0 := by
  induction hsp with
  | zero h0 => exact fun r hr _ => h.iso.zero h0 r hr
  | step h1 hs hc h2 ih =>
    obtain ⟨q, hq, rfl⟩ := hs
    intro r hr hle
    rename_i u v c
    have hUv : T (U D gen (B.getD q 0)) r = 0 := by rw [h.unit q hq r hr, if_neg (by omega)]
    rw [h.iso.congr _ _ h2 r hr, h.iso.add u (fun x => mu M c (U D gen (B.getD q 0) x)) r hr, ih r hr hle, Nat.zero_xor]
    rw [h.iso.smul c _ hc (hg _) r hr, hUv, mu_zero]
theorem Bas.present (hM : FldM M) (hg : ∀ u, Vc M D (U D gen u)) (h : Bas M D gen hv B T S) {u : Nat} (hu : hv.getD u false = true) : Sp M D (BS D gen B) (U D gen u) :=
  h.span hM hg (hg u) fun r hr hle => by
    by_cases e : T (U D gen u) r = 0
    · exact e
    · have := (h.low u hu r hr e).1; omega
end
end Go.Proofs.YtcljokdiblnhiaaGreatDoor
end
section
namespace Go.Proofs.YtcljokdiblnhiaaGreatDoor
open Go.RowKit
set_option linter.unusedSectionVars false
theorem addV_get (M f : Nat) (T l : List Nat) : ∀ k, k ≤ T.length → ∀ i, i < T.length → (addV M f T l k).getD i 0 = if i < k then T.getD i 0 ^^^ mu M f (l.getD i 0) else T.getD i 0
  | 0, _, i, _ => by rw [if_neg (by omega)]; rfl
  | k + 1, hk, i, hi => by
    have ih := addV_get M f T l k (by omega)
    rw [addV, set_getD _ _ _ _ (by rw [addV_length]; exact hi)]
    by_cases e : i = k
    · subst e
      rw [if_pos rfl, if_pos (by omega), ih i hi, if_neg (by omega)]
    · rw [if_neg e, ih i hi]
      by_cases h : i < k
      · rw [if_pos h, if_pos (by omega)]
      · rw [if_neg h, if_neg (by omega)]
abbrev Rd := Nat × List Nat × List Nat
section
variable {M D n : Nat} {s : List Nat × List Nat} {r : Rd}
theorem subR_1 (hs : SubOk M D n s) (hr : RedRow M D n r) {x : Nat} (hx : x < D) : (subR M s r).1.getD x 0 = s.1.getD x 0 ^^^ mu M (s.1.getD r.1 0) (r.2.1.getD x 0) := by
  unfold subR
  by_cases e : s.1.getD r.1 0 = 0
  · rw [if_pos e, e, zero_mu, Nat.xor_zero]
  · rw [if_neg e]
    show (addV M _ s.1 r.2.1 r.2.1.length).getD x 0 = _
    rw [addV_get _ _ _ _ _ (by rw [hs.l1, hr.l1]; exact Nat.le_refl _) x (by rw [hs.l1]; exact hx), if_pos (by rw [hr.l1]; exact hx)]
theorem subR_2 (hs : SubOk M D n s) (hr : RedRow M D n r) {q : Nat} (hq : q < n) : (subR M s r).2.getD q 0 = s.2.getD q 0 ^^^ mu M (s.1.getD r.1 0) (r.2.2.getD q 0) := by
  unfold subR
  by_cases e : s.1.getD r.1 0 = 0
  · rw [if_pos e, e, zero_mu, Nat.xor_zero]
  · rw [if_neg e]
    show (addV M _ s.2 r.2.2 r.2.2.length).getD q 0 = _
    rw [addV_get _ _ _ _ _ (by rw [hs.l2, hr.l2]; exact Nat.le_refl _) q (by rw [hs.l2]; exact hq), if_pos (by rw [hr.l2]; exact hq)]
end
structure Rw (M D n : Nat) (W : Nat → Nat → Nat) (r : Rd) : Prop where
  ok : RedRow M D n r
  comb : ∀ x, x < D → r.2.1.getD x 0 = sg (fun q => mu M (r.2.2.getD q 0) (W q x)) n
  lead : r.2.1.getD r.1 0 = 1
def Tri (rows : List Rd) : Prop := rows.Pairwise fun a b => b.2.1.getD a.1 0 = 0
def RS (rows : List Rd) : (Nat → Nat) → Prop := fun s => ∃ r, r ∈ rows ∧ s = fun x => r.2.1.getD x 0
section
variable {M D n : Nat} {W : Nat → Nat → Nat} {rows : List Rd}
theorem RS_vc (h : ∀ r ∈ rows, Rw M D n W r) : ∀ s, RS rows s → Vc M D s := fun s ⟨r, hr, e⟩ x hx => by rw [e]; exact getD_lt (h r hr).ok.e1 _
theorem tri_zero (hM : FldM M) : ∀ {rows : List Rd}, (∀ r ∈ rows, Rw M D n W r) → Tri rows → ∀ {v : Nat → Nat}, Sp M D (RS rows) v → (∀ r ∈ rows, v r.1 = 0) → ∀ x, x < D → v x = 0
  | [], _, _, v, hv, _ => by
    cases hv with
    | zero h => exact h
    | step _ hs _ _ => obtain ⟨r, hr, _⟩ := hs; simp at hr
  | r :: rows, h, ht, v, hv, h0 => by
    have hr := h r (by simp)
    obtain ⟨t1, t2⟩ := List.pairwise_cons.1 ht
    have hv2 : Sp M D (fun s => s = (fun x => r.2.1.getD x 0) ∨ RS rows s) v := hv.mono fun s ⟨a, ha, e⟩ => by
      rcases List.mem_cons.1 ha with rfl | ha
      · exact .inl e
      · exact .inr ⟨a, ha, e⟩
    obtain ⟨c, u, hc, hu, e⟩ := hv2.split
    have hcz : c = 0 := by
      have e1 := e r.1 hr.ok.c
      rw [h0 r (by simp), hr.lead, mu_one hM hc, hu.vanish hr.ok.c (fun s ⟨a, ha, e⟩ => by rw [e]; exact t1 a ha), Nat.zero_xor] at e1
      exact e1.symm
    subst hcz
    have e2 : ∀ x, x < D → v x = u x := fun x hx => by rw [e x hx, zero_mu, Nat.xor_zero]
    intro x hx
    rw [e2 x hx]
    exact tri_zero hM (fun a ha => h a (by simp [ha])) t2 hu (fun a ha => by rw [← e2 a.1 (h a (by simp [ha])).ok.c]; exact h0 a (by simp [ha])) x hx
structure Rst (M D n : Nat) (W : Nat → Nat → Nat) (row : Nat → Nat) (s : List Nat × List Nat) : Prop where
  ok : SubOk M D n s
  sum : ∀ x, x < D → s.1.getD x 0 = row x ^^^ sg (fun q => mu M (s.2.getD q 0) (W q x)) n
theorem fold_rst (hM : FldM M) (hW : ∀ q, Vc M D (W q)) {row : Nat → Nat} : ∀ (rows : List Rd), (∀ r ∈ rows, Rw M D n W r) → ∀ s, Rst M D n W row s → Rst M D n W row (rows.foldl (subR M) s)
  | [], _, s, h => h
  | r :: rows, hr, s, h => by
    refine fold_rst hM hW rows (fun a ha => hr a (by simp [ha])) _ ⟨sub_ok hM h.ok (hr r (by simp)).ok, fun x hx => ?_⟩
    have hr1 := hr r (by simp)
    rw [subR_1 h.ok hr1.ok hx, h.sum x hx, hr1.comb x hx, Nat.xor_assoc, sg_mu, ← sg_xor]
    congr 1
    refine sg_congr n fun q hq => ?_
    rw [subR_2 h.ok hr1.ok hq, xor_mu, mu_assoc hM (getD_lt h.ok.e1 _) (getD_lt hr1.ok.e2 _) (hW q x hx)]
theorem fold_keep {c : Nat} (hc : c < D) (hM : FldM M) : ∀ (rows : List Rd), (∀ r ∈ rows, RedRow M D n r ∧ r.2.1.getD c 0 = 0) → ∀ s, SubOk M D n s → (rows.foldl (subR M) s).1.getD c 0 = s.1.getD c 0
  | [], _, s, _ => rfl
  | r :: rows, hr, s, h => by
    obtain ⟨h1, h2⟩ := hr r (by simp)
    show (rows.foldl (subR M) (subR M s r)).1.getD c 0 = _
    rw [fold_keep hc hM rows (fun a ha => hr a (by simp [ha])) _ (sub_ok hM h h1), subR_1 h h1 hc, h2, mu_zero, Nat.xor_zero]
theorem fold_zero (hM : FldM M) : ∀ (rows : List Rd), (∀ r ∈ rows, Rw M D n W r) → Tri rows → ∀ s, SubOk M D n s → ∀ r ∈ rows, (rows.foldl (subR M) s).1.getD r.1 0 = 0
  | [], _, _, _, _, r, hr => by simp at hr
  | a :: rows, h, ht, s, hs, r, hr => by
    obtain ⟨t1, t2⟩ := List.pairwise_cons.1 ht
    have ha := h a (by simp)
    show (rows.foldl (subR M) (subR M s a)).1.getD r.1 0 = 0
    rcases List.mem_cons.1 hr with rfl | hr
    · rw [fold_keep ha.ok.c hM rows (fun b hb => ⟨(h b (by simp [hb])).ok, t1 b hb⟩) _ (sub_ok hM hs ha.ok), subR_1 hs ha.ok ha.ok.c, ha.lead, mu_one hM (getD_lt hs.e1 _), Nat.xor_self]
    · exact fold_zero hM rows (fun b hb => h b (by simp [hb])) t2 _ (sub_ok hM hs ha.ok) r hr
theorem fold_span (hM : FldM M) {all : List Rd} (hall : ∀ r ∈ all, Rw M D n W r) : ∀ (rows : List Rd), (∀ r ∈ rows, r ∈ all) → ∀ s, SubOk M D n s → Sp M D (RS all) (fun x => s.1.getD x 0 ^^^ (rows.foldl (subR M) s).1.getD x 0)
  | [], _, s, _ => .zero fun x hx => by simp
  | r :: rows, hr, s, hs => by
    have h1 := hall r (hr r (by simp))
    have ih := fold_span hM hall rows (fun a ha => hr a (by simp [ha])) _ (sub_ok hM hs h1.ok)
    refine .step ih ⟨r, hr r (by simp), rfl⟩ (c := s.1.getD r.1 0) (getD_lt hs.e1 _) fun x hx => ?_
    show s.1.getD x 0 ^^^ (rows.foldl (subR M) (subR M s r)).1.getD x 0 = _
    rw [subR_1 hs h1.ok hx]
    generalize s.1.getD x 0 = a
    generalize (rows.foldl (subR M) (subR M s r)).1.getD x 0 = b
    generalize mu M (s.1.getD r.1 0) (r.2.1.getD x 0) = c
    rw [Nat.xor_assoc a c b, Nat.xor_comm c b, ← Nat.xor_assoc, xor_self_cancel]
end
theorem findNZ_lt {l : List Nat} (h : findNZ l < l.length) : l.getD (findNZ l) 0 ≠ 0 := by
  have := List.findIdx_getElem (xs := l) (p := fun x => x != 0) (w := h)
  rw [List.getD_eq_getElem?_getD, List.getElem?_eq_getElem h]
  have h3 : ¬ (l[List.findIdx (fun x => x != 0) l]'h = 0) := by simpa using this
  exact h3
theorem findNZ_ge {l : List Nat} (h : ¬ findNZ l < l.length) (x : Nat) : l.getD x 0 = 0 := by
  rw [List.getD_eq_getElem?_getD]
  by_cases hx : x < l.length
  · rw [List.getElem?_eq_getElem hx]
    have h2 : findNZ l = l.length := by
      have := List.findIdx_le_length (xs := l) (p := fun x => x != 0)
      unfold findNZ at *; omega
    have := List.findIdx_eq_length.1 h2 l[x] (List.getElem_mem hx)
    simpa using this
  · rw [List.getElem?_eq_none (by omega)]; rfl
theorem row_getD {M R D u : Nat} {gen : List Nat} (h : MxOk M R D gen) (hu : u < R) {x : Nat} (hx : x < D) : ((gen.drop (u * D)).take D).getD x 0 = U D gen u x := by
  rw [List.getD_eq_getElem?_getD, List.getElem?_take_of_lt hx, List.getElem?_drop]
  unfold U gt
  rw [List.getD_eq_getElem?_getD]
structure SpTo (M D : Nat) (gen B : List Nat) (k : Nat) (rows : List Rd) : Prop where
  rw : ∀ r ∈ rows, Rw M D B.length (fun q => U D gen (B.getD q 0)) r
  tri : Tri rows
  all : ∀ q, q < k → Sp M D (RS rows) (U D gen (B.getD q 0))
theorem span_to {M R D : Nat} {gen B : List Nat} (hM : FldM M) (hg : MxOk M R D gen) (hB : ∀ u ∈ B, u < R) : ∀ k, k ≤ B.length → SpTo M D gen B k (spanAt M D B.length gen B k)
  | 0, _ => ⟨fun r hr => by simp [spanAt] at hr, List.Pairwise.nil, fun q hq => by omega⟩
  | k + 1, hk => by
    have ih := span_to hM hg hB k (by omega)
    have hok := span_ok (n := B.length) hM hg hB k (by omega)
    rw [spanAt]
    generalize spanAt M D B.length gen B k = rows at ih hok
    have hbk : B.getD k 0 < R := hB _ (getD_mem (by omega))
    obtain ⟨p1, p2⟩ := pick_row hg hbk
    have hW : ∀ q, Vc M D (U D gen (B.getD q 0)) := fun q => U_vc hg _
    have hs0 : SubOk M D B.length ((gen.drop (B.getD k 0 * D)).take D, List.replicate B.length 0) := ⟨p1, List.length_replicate, p2, fun x hx => by rw [List.eq_of_mem_replicate hx]; exact Nat.two_pow_pos M⟩
    have hr0 : Rst M D B.length (fun q => U D gen (B.getD q 0)) (U D gen (B.getD k 0)) ((gen.drop (B.getD k 0 * D)).take D, List.replicate B.length 0) := ⟨hs0, fun x hx => by
      rw [row_getD hg hbk hx, sg_congr B.length (fun q hq => show mu M ((List.replicate B.length 0).getD q 0) _ = 0 by
        rw [List.getD_eq_getElem?_getD, List.getElem?_replicate, if_pos hq]; exact zero_mu _), sg_zero, Nat.xor_zero]⟩
    have hr := fold_rst hM hW rows ih.rw _ hr0
    have hz := fold_zero hM rows ih.rw ih.tri _ hs0
    have hsp := fold_span hM ih.rw rows (fun _ h => h) _ hs0
    unfold spanStep
    dsimp only
    change Rst M D B.length _ _ (redV M B.length ((gen.drop (B.getD k 0 * D)).take D) rows) at hr
    change ∀ r ∈ rows, (redV M B.length ((gen.drop (B.getD k 0 * D)).take D) rows).1.getD r.1 0 = 0 at hz
    change Sp M D (RS rows) (fun x => ((gen.drop (B.getD k 0 * D)).take D).getD x 0 ^^^ (redV M B.length ((gen.drop (B.getD k 0 * D)).take D) rows).1.getD x 0) at hsp
    generalize redV M B.length ((gen.drop (B.getD k 0 * D)).take D) rows = s at *
    have hsp2 : Sp M D (RS rows) (fun x => U D gen (B.getD k 0) x ^^^ s.1.getD x 0) := hsp.congr fun x hx => by rw [row_getD hg hbk hx]
    have h1 := hr.ok
    have hc : ∀ x, x < D → s.1.getD x 0 = sg (fun q => mu M ((s.2.set k (s.2.getD k 0 ^^^ 1)).getD q 0) (U D gen (B.getD q 0) x)) B.length := fun x hx => by
      rw [hr.sum x hx, Nat.xor_comm]
      have e1 : U D gen (B.getD k 0) x = sg (fun q => if q = k then U D gen (B.getD k 0) x else 0) B.length := by
        rw [sg_one (k := k) B.length (fun q _ hne => if_neg hne), if_pos (by omega), if_pos rfl]
      rw [e1, ← sg_xor]
      refine sg_congr _ fun q hq => ?_
      rw [set_getD _ _ _ _ (by rw [h1.l2]; exact hq)]
      by_cases e : q = k
      · subst e
        rw [if_pos rfl, if_pos rfl, xor_mu, one_mu hM (hW q x hx)]
      · rw [if_neg e, if_neg e, Nat.xor_zero]
    have hcl : ∀ x ∈ s.2.set k (s.2.getD k 0 ^^^ 1), x < 2 ^ M := fun x hx => by
      rcases List.mem_or_eq_of_mem_set hx with hx | rfl
      · exact h1.e2 x hx
      · exact xor_lt' (getD_lt h1.e2 _) (one_lt hM)
    have hcn : (s.2.set k (s.2.getD k 0 ^^^ 1)).length = B.length := by rw [List.length_set]; exact h1.l2
    generalize s.2.set k (s.2.getD k 0 ^^^ 1) = c at *
    by_cases hf : findNZ s.1 < D
    · rw [if_pos hf]
      have hne := findNZ_lt (l := s.1) (by rw [h1.l1]; exact hf)
      generalize findNZ s.1 = col at *
      have hxl := getD_lt h1.e1 col
      obtain ⟨v1, v2⟩ := inv_mu hM hne hxl
      have hvl : invN M (s.1.getD col 0) < 2 ^ M := invN_lt _
      generalize invN M (s.1.getD col 0) = f at *
      have hrep : ∀ m i, (List.replicate m 0).getD i 0 = 0 := fun m i => by
        rw [List.getD_eq_getElem?_getD, List.getElem?_replicate]; split <;> rfl
      have hnr : ∀ x, x < D → (addV M f (List.replicate D 0) s.1 D).getD x 0 = mu M f (s.1.getD x 0) := fun x hx => by
        rw [addV_get _ _ _ _ _ (by simp) x (by simpa using hx), if_pos hx, hrep, Nat.zero_xor]
      have hnc : ∀ q, q < B.length → (addV M f (List.replicate B.length 0) c B.length).getD q 0 = mu M f (c.getD q 0) := fun q hq => by
        rw [addV_get _ _ _ _ _ (by simp) q (by simpa using hq), if_pos hq, hrep, Nat.zero_xor]
      have hz0 : ∀ m, ∀ x ∈ List.replicate m 0, x < 2 ^ M := fun m x hx => by rw [List.eq_of_mem_replicate hx]; exact Nat.two_pow_pos M
      have hok1 : RedRow M D B.length (col, addV M f (List.replicate D 0) s.1 D, addV M f (List.replicate B.length 0) c B.length) :=
        ⟨hf, by rw [addV_length, List.length_replicate], by rw [addV_length, List.length_replicate], addV_lt hM hvl (hz0 _) _, addV_lt hM hvl (hz0 _) _⟩
      have hrw1 : Rw M D B.length (fun q => U D gen (B.getD q 0)) (col, addV M f (List.replicate D 0) s.1 D, addV M f (List.replicate B.length 0) c B.length) := by
        refine ⟨hok1, fun x hx => ?_, ?_⟩
        · show (addV M f (List.replicate D 0) s.1 D).getD x 0 = _
          rw [hnr x hx, hc x hx, sg_mu]
          refine sg_congr _ fun q hq => ?_
          show _ = mu M ((addV M f (List.replicate B.length 0) c B.length).getD q 0) _
          rw [hnc q hq, mu_assoc hM hvl (getD_lt hcl _) (hW q x hx)]
        · show (addV M f (List.replicate D 0) s.1 D).getD col 0 = 1
          rw [hnr col hf]; exact v1
      have hmono : ∀ t, RS rows t → RS (rows ++ [(col, addV M f (List.replicate D 0) s.1 D, addV M f (List.replicate B.length 0) c B.length)]) t := fun t ⟨r, hr, e⟩ => ⟨r, by simp [hr], e⟩
      have hrwA : ∀ r ∈ rows ++ [(col, addV M f (List.replicate D 0) s.1 D, addV M f (List.replicate B.length 0) c B.length)], Rw M D B.length (fun q => U D gen (B.getD q 0)) r := fun r hr => by
        rcases List.mem_append.1 hr with hr | hr
        · exact ih.rw r hr
        · rw [List.mem_singleton.1 hr]; exact hrw1
      refine ⟨hrwA, ?_, fun q hq => ?_⟩
      · refine List.pairwise_append.2 ⟨ih.tri, List.pairwise_singleton _ _, fun a ha b hb => ?_⟩
        rw [List.mem_singleton.1 hb]
        show (addV M f (List.replicate D 0) s.1 D).getD a.1 0 = 0
        rw [hnr _ (ih.rw a ha).ok.c, hz a ha, mu_zero]
      · by_cases hqk : q < k
        · exact (ih.all q hqk).mono hmono
        · have : q = k := by omega
          subst this
          refine .step (hsp2.mono hmono) ⟨_, List.mem_append_right _ (List.mem_singleton.2 rfl), rfl⟩ (c := s.1.getD col 0) hxl fun x hx => ?_
          show U D gen (B.getD q 0) x = (U D gen (B.getD q 0) x ^^^ s.1.getD x 0) ^^^ mu M (s.1.getD col 0) ((addV M f (List.replicate D 0) s.1 D).getD x 0)
          rw [hnr x hx, ← mu_assoc hM hxl hvl (getD_lt h1.e1 _), v2, one_mu hM (getD_lt h1.e1 _), xor_self_cancel]
    · rw [if_neg hf]
      refine ⟨ih.rw, ih.tri, fun q hq => ?_⟩
      by_cases hqk : q < k
      · exact ih.all q hqk
      · have : q = k := by omega
        subst this
        exact hsp2.congr fun x hx => by rw [findNZ_ge (l := s.1) (by rw [h1.l1]; exact hf), Nat.xor_zero]
end Go.Proofs.YtcljokdiblnhiaaGreatDoor
end
section
namespace Go.Proofs.YtcljokdiblnhiaaGreatDoor
open Go.RowKit
set_option linter.unusedSectionVars false
def PS (D : Nat) (gen : List Nat) (hv : List Bool) : (Nat → Nat) → Prop := fun s => ∃ u, hv.getD u false = true ∧ s = U D gen u
theorem U_all {M D : Nat} {ps : List (List Nat)} (h : CodeOk M D ps) (u : Nat) : Vc M D (U D (genN D ps) u) := U_vc (gen_ok h) u
section
variable {M D : Nat} {ps : List (List Nat)} {hv : List Bool} (h : CodeOk M D ps) (hl : hv.length = D + ps.length)
include h hl
theorem sp_BP {v : Nat → Nat} : Sp M D (BS D (genN D ps) (basisN M D ps hv)) v ↔ Sp M D (PS D (genN D ps) hv) v := by
  obtain ⟨T, S, hb⟩ := basis_to h hl
  constructor
  · exact Sp.mono fun s ⟨q, hq, e⟩ => ⟨_, hb.mem q hq, e⟩
  · exact Sp.trans h.f (fun s ⟨q, _, e⟩ => by rw [e]; exact U_all h _) fun s ⟨u, hu, e⟩ => by rw [e]; exact hb.present h.f (U_all h) hu
theorem red_left {u : Nat} (hu : u < D + ps.length) :
    Rst M D (basisN M D ps hv).length (fun q => U D (genN D ps) ((basisN M D ps hv).getD q 0)) (U D (genN D ps) u) (redV M (basisN M D ps hv).length (((genN D ps).drop (u * D)).take D) (spanN M D ps hv)) ∧
    ((redV M (basisN M D ps hv).length (((genN D ps).drop (u * D)).take D) (spanN M D ps hv)).1.all (fun x => decide (x = 0)) = true ↔ Sp M D (PS D (genN D ps) hv) (U D (genN D ps) u)) := by
  have hg := gen_ok h
  have hM := h.f
  have hsp := span_to hM hg (basis_lt hl) (basisN M D ps hv).length (Nat.le_refl _)
  have hW : ∀ q, Vc M D (U D (genN D ps) ((basisN M D ps hv).getD q 0)) := fun q => U_all h _
  obtain ⟨p1, p2⟩ := pick_row hg hu
  have hs0 : SubOk M D (basisN M D ps hv).length (((genN D ps).drop (u * D)).take D, List.replicate (basisN M D ps hv).length 0) := ⟨p1, List.length_replicate, p2, fun x hx => by rw [List.eq_of_mem_replicate hx]; exact Nat.two_pow_pos M⟩
  have hr0 : Rst M D (basisN M D ps hv).length (fun q => U D (genN D ps) ((basisN M D ps hv).getD q 0)) (U D (genN D ps) u) (((genN D ps).drop (u * D)).take D, List.replicate (basisN M D ps hv).length 0) := ⟨hs0, fun x hx => by
    rw [row_getD hg hu hx, sg_congr (basisN M D ps hv).length (fun q hq => show mu M ((List.replicate (basisN M D ps hv).length 0).getD q 0) _ = 0 by
      rw [List.getD_eq_getElem?_getD, List.getElem?_replicate, if_pos hq]; exact zero_mu _), sg_zero, Nat.xor_zero]⟩
  have hr := fold_rst hM hW (spanN M D ps hv) hsp.rw _ hr0
  have hz := fold_zero hM (spanN M D ps hv) hsp.rw hsp.tri _ hs0
  have hfs := fold_span hM hsp.rw (spanN M D ps hv) (fun _ h => h) _ hs0
  refine ⟨hr, ?_⟩
  rw [← sp_BP h hl]
  have hbs : ∀ s, BS D (genN D ps) (basisN M D ps hv) s → Vc M D s := fun s ⟨q, _, e⟩ => by rw [e]; exact U_all h _
  constructor
  · intro h0
    rw [List.all_eq_true] at h0
    have hsum := Sp.sum (M := M) (D := D) hM hbs (c := fun q => (redV M (basisN M D ps hv).length (((genN D ps).drop (u * D)).take D) (spanN M D ps hv)).2.getD q 0) (w := fun q => U D (genN D ps) ((basisN M D ps hv).getD q 0)) (basisN M D ps hv).length (fun q hq => ⟨getD_lt hr.ok.e2 _, Sp.of hM hbs ⟨q, hq, rfl⟩⟩)
    refine hsum.congr fun x hx => ?_
    have h1 := hr.sum x hx
    have h2 : (List.foldl (subR M) (((genN D ps).drop (u * D)).take D, List.replicate (basisN M D ps hv).length 0) (spanN M D ps hv)).1.getD x 0 = 0 := by
      have hx2 : x < (redV M (basisN M D ps hv).length (((genN D ps).drop (u * D)).take D) (spanN M D ps hv)).1.length := by
        have := hr.ok.l1; unfold redV; omega
      have := h0 _ (List.getElem_mem hx2)
      rw [List.getD_eq_getElem?_getD]
      have e : (redV M (basisN M D ps hv).length (((genN D ps).drop (u * D)).take D) (spanN M D ps hv)).1[x]? = some ((redV M (basisN M D ps hv).length (((genN D ps).drop (u * D)).take D) (spanN M D ps hv)).1[x]) := List.getElem?_eq_getElem hx2
      unfold redV at e this
      rw [e]
      simpa using this
    rw [h2] at h1
    exact eq_of_xor h1.symm
  · intro hs
    have hv2 : Sp M D (RS (spanN M D ps hv)) (U D (genN D ps) u) := Sp.trans hM (RS_vc hsp.rw) (fun s ⟨q, hq, e⟩ => by rw [e]; exact hsp.all q hq) hs
    have hrest : Sp M D (RS (spanN M D ps hv)) (fun x => (redV M (basisN M D ps hv).length (((genN D ps).drop (u * D)).take D) (spanN M D ps hv)).1.getD x 0) := (hv2.add hfs).congr fun x hx => by
      show _ = U D (genN D ps) u x ^^^ ((((genN D ps).drop (u * D)).take D).getD x 0 ^^^ _)
      rw [row_getD hg hu hx, ← Nat.xor_assoc, Nat.xor_self, Nat.zero_xor]
      rfl
    have h0 := tri_zero hM hsp.rw hsp.tri hrest hz
    rw [List.all_eq_true]
    intro y hy
    obtain ⟨x, hx, rfl⟩ := List.getElem_of_mem hy
    have hxD : x < D := by have := hr.ok.l1; unfold redV at hx; omega
    have := h0 x hxD
    rw [List.getD_eq_getElem?_getD, List.getElem?_eq_getElem hx] at this
    simpa using this
theorem comb_iff {u : Nat} (hu : u < D + ps.length) : (combN M D ps hv u).isSome = true ↔ Sp M D (PS D (genN D ps) hv) (U D (genN D ps) u) := by
  rw [← (red_left h hl hu).2]
  unfold combN termsN
  dsimp only
  split
  · rename_i e; simp [e]
  · rename_i e; simp [e]
theorem comb_some {u : Nat} (hu : u < D + ps.length) {l : List (Nat × Nat)} (hc : combN M D ps hv u = some l) : ∃ K : List Nat, K.length = (basisN M D ps hv).length ∧ (∀ x ∈ K, x < 2 ^ M) ∧ l = tmsAt (basisN M D ps hv) K (basisN M D ps hv).length ∧
    ∀ x, x < D → U D (genN D ps) u x = sg (fun q => mu M (K.getD q 0) (U D (genN D ps) ((basisN M D ps hv).getD q 0) x)) (basisN M D ps hv).length := by
  obtain ⟨hr, _⟩ := red_left h hl hu
  unfold combN termsN at hc
  dsimp only at hc
  generalize redV M (basisN M D ps hv).length (((genN D ps).drop (u * D)).take D) (spanN M D ps hv) = s at *
  split at hc
  · rename_i e
    refine ⟨s.2, hr.ok.l2, hr.ok.e2, (Option.some.inj hc).symm, fun x hx => ?_⟩
    have h1 := hr.sum x hx
    have hx2 : x < s.1.length := by have := hr.ok.l1; omega
    have h2 : s.1.getD x 0 = 0 := by
      rw [List.getD_eq_getElem?_getD, List.getElem?_eq_getElem hx2]
      rw [List.all_eq_true] at e
      simpa using e _ (List.getElem_mem hx2)
    rw [h2] at h1
    exact eq_of_xor h1.symm
  · cases hc
end
def eu' (q : Nat) : Nat → Nat := fun x => if x = q then 1 else 0
theorem eu_vc {M D : Nat} (hM : FldM M) (q : Nat) : Vc M D (eu' q) := fun x _ => by
  unfold eu'
  split
  · exact one_lt hM
  · exact Nat.two_pow_pos M
theorem Iso.sp {M D : Nat} {T S : (Nat → Nat) → Nat → Nat} (h : Iso M D T S) {A A' : (Nat → Nat) → Prop} (hA : ∀ s, A s → Vc M D s ∧ A' (T s)) {v : Nat → Nat} (hv : Sp M D A v) : Sp M D A' (T v) := by
  induction hv with
  | zero h0 => exact .zero fun x hx => h.zero h0 x hx
  | step h1 hs hc h2 ih =>
    rename_i u s v c
    obtain ⟨a1, a2⟩ := hA _ hs
    refine .step ih a2 hc fun x hx => ?_
    rw [h.congr _ _ h2 x hx, h.add u (fun k => mu M c (s k)) x hx, h.smul c s hc a1 x hx]
end Go.Proofs.YtcljokdiblnhiaaGreatDoor
end
section
namespace Go.Proofs.YtcljokdiblnhiaaGreatDoor
open Go.RowKit
set_option linter.unusedSectionVars false
theorem gt_id {D : Nat} : ∀ n, n ≤ D → ∀ r c, r < D → c < D → gt D (idAt D n) r c = if r < n ∧ r = c then 1 else 0
  | 0, _, r, c, _, _ => by
    rw [if_neg (by omega)]
    unfold gt idAt
    rw [List.getD_eq_getElem?_getD, List.getElem?_replicate]
    split <;> rfl
  | n + 1, hn, r, c, hr, hc => by
    rw [idAt, gt_set (R := D) (by rw [idAt_length]) (by omega) (by omega) hc, gt_id n (by omega) r c hr hc]
    by_cases h : r = n ∧ c = n
    · rw [if_pos h, if_pos (by omega)]
    · rw [if_neg h]
      by_cases h2 : r < n ∧ r = c
      · rw [if_pos h2, if_pos (by omega)]
      · rw [if_neg h2, if_neg (by omega)]
theorem U_data {D : Nat} {ps : List (List Nat)} {u x : Nat} (hu : u < D) (hx : x < D) : U D (genN D ps) u x = eu' u x := by
  have h := gt_id D (Nat.le_refl _) u x hu hx
  unfold U gt genN
  unfold gt at h
  rw [List.getD_eq_getElem?_getD] at h ⊢
  rw [List.getElem?_append_left (by rw [idAt_length]; exact idx_lt hu hx), h]
  unfold eu'
  by_cases e : u = x
  · subst e; rw [if_pos ⟨hu, rfl⟩, if_pos rfl]
  · rw [if_neg (by omega), if_neg (fun e2 => e e2.symm)]
theorem flat_get {D x : Nat} (hx : x < D) : ∀ {ps : List (List Nat)} (_ : ∀ r ∈ ps, r.length = D) (i : Nat), i < ps.length → ps.flatten.getD (i * D + x) 0 = (ps.getD i []).getD x 0
  | [], _, i, h => by simp at h
  | r :: ps, hr, i, h => by
    have h0 := hr r (by simp)
    rw [List.flatten_cons, List.getD_eq_getElem?_getD]
    cases i with
    | zero => rw [List.getElem?_append_left (by omega), Nat.zero_mul, Nat.zero_add, ← List.getD_eq_getElem?_getD]; rfl
    | succ i =>
      have e : (i + 1) * D + x - r.length = i * D + x := by rw [Nat.add_mul]; omega
      rw [List.getElem?_append_right (by rw [Nat.add_mul]; omega), e, ← List.getD_eq_getElem?_getD, flat_get hx (fun s hs => hr s (by simp [hs])) i (by simpa using h)]
      rfl
theorem U_par {M D : Nat} {ps : List (List Nat)} (h : CodeOk M D ps) {i x : Nat} (hi : i < ps.length) (hx : x < D) : U D (genN D ps) (D + i) x = (ps.getD i []).getD x 0 := by
  rw [← flat_get hx (fun r hr => (h.row r hr).1) i hi]
  unfold U gt genN
  have e : (D + i) * D + x - (idAt D D).length = i * D + x := by rw [idAt_length, Nat.add_mul]; omega
  rw [List.getD_eq_getElem?_getD, List.getElem?_append_right (by rw [idAt_length, Nat.add_mul]; omega), e, ← List.getD_eq_getElem?_getD]
theorem U_ne {M D : Nat} {ps : List (List Nat)} (h : CodeOk M D ps) {u : Nat} (hu : u < D + ps.length) : ∃ x, x < D ∧ U D (genN D ps) u x ≠ 0 := by
  by_cases hd : u < D
  · exact ⟨u, hd, by rw [U_data hd hd]; simp [eu']⟩
  · obtain ⟨i, rfl⟩ : ∃ i, u = D + i := ⟨u - D, by omega⟩
    have hi : i < ps.length := by omega
    obtain ⟨h1, h2, y, h3, h4⟩ := h.row _ (List.getElem_mem hi)
    obtain ⟨x, hx, rfl⟩ := List.getElem_of_mem h3
    refine ⟨x, by omega, ?_⟩
    rw [U_par h hi (by omega), List.getD_eq_getElem?_getD (l := ps), List.getElem?_eq_getElem hi, Option.getD_some, List.getD_eq_getElem?_getD, List.getElem?_eq_getElem hx]
    exact h4
def wd (M : Nat) (l : List Nat) (j : Nat) : Nat := if M = 8 then l.getD j 0 else 256 * l.getD (2 * j) 0 + l.getD (2 * j + 1) 0
def lx {α : Type} (f : α → Nat) : List α → Nat
  | [] => 0
  | a :: l => f a ^^^ lx f l
theorem lx_append {α : Type} (f : α → Nat) : ∀ l l' : List α, lx f (l ++ l') = lx f l ^^^ lx f l'
  | [], l' => by simp [lx]
  | a :: l, l' => by rw [List.cons_append, lx, lx, lx_append f l l', Nat.xor_assoc]
theorem lx_congr {α : Type} {f g : α → Nat} : ∀ {l : List α}, (∀ a ∈ l, f a = g a) → lx f l = lx g l
  | [], _ => rfl
  | a :: l, h => by rw [lx, lx, h a (by simp), lx_congr fun b hb => h b (by simp [hb])]
section
variable {M D n : Nat} {ps us : List (List Nat)} (h : CodeOk M D ps) (hl : us.length = D) (hu : ∀ u ∈ us, isB u ∧ u.length = n) (he : FitM M n)
include h hl hu he
end
def Sound (M D : Nat) (ps : List (List Nat)) (u : Nat) (l : List (Nat × Nat)) : Prop := ∀ x, x < D → lx (fun t => mu M t.2 (U D (genN D ps) t.1 x)) l = U D (genN D ps) u x
section
variable {M D n : Nat} {ps us : List (List Nat)} (h : CodeOk M D ps) (hl : us.length = D) (hu : ∀ u ∈ us, isB u ∧ u.length = n) (he : FitM M n)
include h hl hu he
end
theorem lx_tms (M : Nat) (B K : List Nat) (G : Nat → Nat) : ∀ n, lx (fun t => mu M t.2 (G t.1)) (tmsAt B K n) = sg (fun q => mu M (K.getD q 0) (G (B.getD q 0))) n
  | 0 => rfl
  | n + 1 => by
    rw [tmsAt_succ, sg]
    split
    · rename_i e
      rw [e, zero_mu, Nat.xor_zero]; exact lx_tms M B K G n
    · rw [lx_append, lx_tms M B K G n]
      simp [lx]
structure CombOk (M D : Nat) (ps : List (List Nat)) (hv : List Bool) (u : Nat) (l : List (Nat × Nat)) : Prop where
  snd : Sound M D ps u l
  lt : ∀ t ∈ l, t.2 < 2 ^ M ∧ t.2 ≠ 0
  pres : ∀ t ∈ l, hv.getD t.1 false = true
  inc : l.Pairwise fun a b => a.1 < b.1
  le : l.length ≤ (basisN M D ps hv).length
theorem comb_ok {M D : Nat} {ps : List (List Nat)} {hv : List Bool} (h : CodeOk M D ps) (hl : hv.length = D + ps.length) {u : Nat} (hu : u < D + ps.length) {l : List (Nat × Nat)} (hc : combN M D ps hv u = some l) : CombOk M D ps hv u l := by
  obtain ⟨K, k1, k2, rfl, k4⟩ := comb_some h hl hu hc
  obtain ⟨T, S, hb⟩ := basis_to h hl
  have hmem : ∀ t ∈ tmsAt (basisN M D ps hv) K (basisN M D ps hv).length, ∃ q, q < (basisN M D ps hv).length ∧ K.getD q 0 ≠ 0 ∧ t = ((basisN M D ps hv).getD q 0, K.getD q 0) := fun t ht => by
    unfold tmsAt at ht
    obtain ⟨q, hq, rfl⟩ := List.mem_map.1 ht
    obtain ⟨q1, q2⟩ := List.mem_filter.1 hq
    exact ⟨q, List.mem_range.1 q1, by simpa using q2, rfl⟩
  refine ⟨fun x hx => ?_, fun t ht => ?_, fun t ht => ?_, ?_, tmsAt_length _ _ _⟩
  · rw [lx_tms M (basisN M D ps hv) K (fun u => U D (genN D ps) u x), k4 x hx]
  · obtain ⟨q, q1, q2, rfl⟩ := hmem t ht
    exact ⟨getD_lt k2 _, q2⟩
  · obtain ⟨q, q1, q2, rfl⟩ := hmem t ht
    exact hb.mem q q1
  · unfold tmsAt
    rw [List.pairwise_map]
    refine (List.Pairwise.filter _ List.pairwise_lt_range).imp_of_mem fun {a b} ha hb2 hab => ?_
    have hb3 := List.mem_range.1 (List.mem_filter.1 hb2).1
    exact hb.inc a b hab hb3
theorem CombOk.pos {M D : Nat} {ps : List (List Nat)} {hv : List Bool} (h : CodeOk M D ps) {u : Nat} (hu : u < D + ps.length) {l : List (Nat × Nat)} (hc : CombOk M D ps hv u l) : 0 < l.length := by
  cases l with
  | nil =>
    obtain ⟨x, hx, hne⟩ := U_ne h hu
    exact absurd (hc.snd x hx).symm hne
  | cons a l => simp
end Go.Proofs.YtcljokdiblnhiaaGreatDoor
end
section
namespace Go.Proofs.YtcljokdiblnhiaaGreatDoor
open Go.RowKit
set_option linter.unusedSectionVars false
set_option maxHeartbeats 4000000
set_option maxRecDepth 100000
theorem sp_all {M D : Nat} (hM : FldM M) {S : (Nat → Nat) → Prop} (hS : ∀ s, S s → Vc M D s) (h : ∀ q, q < D → Sp M D S (eu' q)) {v : Nat → Nat} (hv : Vc M D v) : Sp M D S v := by
  refine (Sp.sum hM hS (c := v) (w := eu') D fun q hq => ⟨hv q hq, h q hq⟩).congr fun x hx => ?_
  rw [sg_congr D (fun q hq => show mu M (v q) (eu' q x) = if q = x then v x else 0 by
    unfold eu'
    by_cases e : x = q
    · subst e; rw [if_pos rfl, if_pos rfl, mu_one hM (hv x hx)]
    · rw [if_neg e, if_neg (fun e2 => e e2.symm), mu_zero]), sg_one (k := x) D (fun q _ hne => if_neg hne), if_pos hx, if_pos rfl]
section
variable {M D : Nat} {ps : List (List Nat)} {hv : List Bool} (h : CodeOk M D ps) (hl : hv.length = D + ps.length)
include h hl
theorem full_iff : (basisN M D ps hv).length = D ↔ ∀ v, Vc M D v → Sp M D (PS D (genN D ps) hv) v := by
  obtain ⟨T, S, hb⟩ := basis_to h hl
  constructor
  · intro e v hv'
    exact (sp_BP h hl).1 (hb.span h.f (U_all h) hv' fun r hr hle => by omega)
  · intro hall
    apply Classical.byContradiction
    intro hne
    have hlt : (basisN M D ps hv).length < D := by have := hb.le; omega
    have hS := hb.iso.ltS _ (eu_vc (D := D) h.f (basisN M D ps hv).length)
    have h1 := hb.low' h.f (U_all h) ((sp_BP h hl).2 (hall _ hS)) (basisN M D ps hv).length hlt (Nat.le_refl _)
    rw [hb.iso.ts _ (eu_vc h.f _) _ hlt] at h1
    simp [eu'] at h1
theorem full_iff_rec : (basisN M D ps hv).length = D ↔ ∀ u, u < D + ps.length → (combN M D ps hv u).isSome = true := by
  rw [full_iff h hl]
  constructor
  · intro hall u hu
    exact (comb_iff h hl hu).2 (hall _ (U_all h u))
  · intro hall v hv'
    have hS : ∀ s, PS D (genN D ps) hv s → Vc M D s := fun s ⟨u, _, e⟩ => by rw [e]; exact U_all h _
    refine sp_all h.f hS (fun q hq => ?_) hv'
    exact ((comb_iff h hl (by omega)).1 (hall q (by omega))).congr fun x hx => (U_data hq hx).symm
end
section
variable {M D k : Nat} {ps : List (List Nat)} {hv : List Bool} (h : CodeOk M D ps) (hl : hv.length = D + ps.length) (hk : k < D + ps.length)
include h hl hk
end
section
variable {M D n : Nat} {ps us : List (List Nat)} {hv : List Bool} {nz : List Nat} (h : CodeOk M D ps) (hl : us.length = D) (hu : ∀ u ∈ us, isB u ∧ u.length = n) (he : FitM M n) (hvl : hv.length = D + ps.length)
include h hl hu he hvl
end
end Go.Proofs.YtcljokdiblnhiaaGreatDoor
end
section
namespace Go.Proofs.YtcljokdiblnhiaaGreatDoor
theorem nodup_le : ∀ (T L : List Nat), T.Nodup → (∀ x ∈ T, x ∈ L) → T.length ≤ L.length
  | [], L, _, _ => by simp
  | x :: T, L, hn, h => by
    rw [List.nodup_cons] at hn
    have hx := h x (by simp)
    have ih := nodup_le T (L.erase x) hn.2 fun y hy => (List.mem_erase_of_ne (fun e => hn.1 (by rw [← e]; exact hy))).2 (h y (by simp [hy]))
    rw [List.length_erase_of_mem hx] at ih
    have := List.length_pos_of_mem hx
    simp only [List.length_cons]
    omega
end Go.Proofs.YtcljokdiblnhiaaGreatDoor
end
section
namespace Go.Proofs.YtcljokdiblnhiaaGreatDoor
open Go.RowKit
set_option linter.unusedSectionVars false
def coefN (row : List Nat) (D k : Nat) : Nat := if k < D then row.getD k 0 else 1
def dataC (D : Nat) (row : List Nat) (n : Nat) : List Nat := (List.range n).filter fun j => row.getD j 0 != 0
theorem dataC_succ (D : Nat) (row : List Nat) (n : Nat) : dataC D row (n + 1) = if row.getD n 0 = 0 then dataC D row n else dataC D row n ++ [n] := by
  unfold dataC
  rw [List.range_succ, List.filter_append]
  by_cases h : row.getD n 0 = 0
  · rw [if_pos h]; simp only [List.filter_cons, h]; simp
  · have h2 : (row.getD n 0 != 0) = true := by simpa using h
    rw [if_neg h]; simp only [List.filter_cons, h2, if_true, List.filter_nil]
theorem dataC_length (D : Nat) (row : List Nat) (n : Nat) : (dataC D row n).length ≤ n := Nat.le_trans (List.length_filter_le _ _) (by simp)
def checkN (D i : Nat) (row : List Nat) : List Nat := dataC D row D ++ [D + i]
theorem checkN_length (D i : Nat) (row : List Nat) : (checkN D i row).length ≤ D + 1 := by
  have := dataC_length D row D
  simp [checkN]; omega
theorem mem_dataC {D j n : Nat} {row : List Nat} : j ∈ dataC D row n ↔ j < n ∧ row.getD j 0 ≠ 0 := by
  unfold dataC
  rw [List.mem_filter, List.mem_range, bne_iff_ne]
theorem check_inc (D i : Nat) (row : List Nat) : (checkN D i row).Pairwise (· < ·) := by
  unfold checkN
  refine List.pairwise_append.2 ⟨List.Pairwise.filter _ List.pairwise_lt_range, List.pairwise_singleton _ _, fun a ha b hb => ?_⟩
  have := (mem_dataC.1 ha).1
  rw [List.mem_singleton.1 hb]; omega
def ctermsN (M D : Nat) (row l : List Nat) (u : Nat) : List (Nat × Nat) := (l.filter fun k => k != u).map fun k => (k, mu M (coefN row D k) (invN M (coefN row D u)))
section
variable {M D : Nat} {ps : List (List Nat)} (h : CodeOk M D ps)
include h
theorem coef_ok {i k : Nat} (hi : i < ps.length) (hk : k ∈ checkN D i (ps.getD i [])) : k < D + ps.length ∧ coefN (ps.getD i []) D k < 2 ^ M ∧ coefN (ps.getD i []) D k ≠ 0 := by
  have hr := h.row _ (List.getElem_mem hi)
  have e : ps.getD i [] = ps[i] := by rw [List.getD_eq_getElem?_getD, List.getElem?_eq_getElem hi]; rfl
  rw [e] at hk ⊢
  unfold checkN at hk
  rcases List.mem_append.1 hk with hk | hk
  · obtain ⟨h1, h2⟩ := mem_dataC.1 hk
    unfold coefN
    rw [if_pos h1]
    exact ⟨by omega, getD_lt hr.2.1 _, h2⟩
  · rw [List.mem_singleton.1 hk]
    unfold coefN
    rw [if_neg (by omega)]
    exact ⟨by omega, one_lt h.f, by decide⟩
theorem check_zero {i x : Nat} (hi : i < ps.length) (hx : x < D) : lx (fun k => mu M (coefN (ps.getD i []) D k) (U D (genN D ps) k x)) (checkN D i (ps.getD i [])) = 0 := by
  have hM := h.f
  have hr := h.row _ (List.getElem_mem hi)
  have e : ps.getD i [] = ps[i] := by rw [List.getD_eq_getElem?_getD, List.getElem?_eq_getElem hi]; rfl
  have hu : ∀ k, U D (genN D ps) k x < 2 ^ M := fun k => U_all h k x hx
  unfold checkN
  rw [lx_append]
  have e1 : lx (fun k => mu M (coefN (ps.getD i []) D k) (U D (genN D ps) k x)) [D + i] = (ps.getD i []).getD x 0 := by
    show mu M (coefN (ps.getD i []) D (D + i)) (U D (genN D ps) (D + i) x) ^^^ 0 = _
    unfold coefN
    rw [if_neg (by omega), one_mu hM (hu _), Nat.xor_zero, U_par h hi hx]
  have e2 : ∀ n, n ≤ D → lx (fun k => mu M (coefN (ps.getD i []) D k) (U D (genN D ps) k x)) (dataC D (ps.getD i []) n) = if x < n then (ps.getD i []).getD x 0 else 0 := by
    intro n
    induction n with
    | zero => intro _; rfl
    | succ n ih =>
      intro hn
      rw [dataC_succ]
      have hUn := U_data (ps := ps) (show n < D by omega) hx
      by_cases hz : (ps.getD i []).getD n 0 = 0
      · rw [if_pos hz, ih (by omega)]
        by_cases hxn : x = n
        · subst hxn; rw [if_neg (by omega), if_pos (by omega), hz]
        · by_cases hlt : x < n
          · rw [if_pos hlt, if_pos (by omega)]
          · rw [if_neg hlt, if_neg (by omega)]
      · rw [if_neg hz, lx_append, ih (by omega)]
        show _ ^^^ (mu M (coefN (ps.getD i []) D n) (U D (genN D ps) n x) ^^^ 0) = _
        rw [Nat.xor_zero, hUn]
        unfold coefN eu'
        rw [if_pos (show n < D by omega)]
        by_cases hxn : x = n
        · subst hxn
          rw [if_neg (by omega), if_pos rfl, if_pos (by omega), Nat.zero_xor]
          exact mu_one hM (by rw [e]; exact getD_lt hr.2.1 _)
        · rw [if_neg hxn, mu_zero, Nat.xor_zero]
          by_cases hlt : x < n
          · rw [if_pos hlt, if_pos (by omega)]
          · rw [if_neg hlt, if_neg (by omega)]
  rw [e1, e2 D (Nat.le_refl _), if_pos hx, Nat.xor_self]
omit h in
theorem lx_out {f : Nat → Nat} {u : Nat} : ∀ {l : List Nat}, l.Nodup → u ∈ l → lx f l = f u ^^^ lx f (l.filter fun k => k != u)
  | [], _, h => by simp at h
  | a :: l, hn, h => by
    obtain ⟨h1, h2⟩ := List.nodup_cons.1 hn
    by_cases e : a = u
    · subst e
      have e3 : (a :: l).filter (fun k => k != a) = l := by
        rw [List.filter_cons_of_neg (by simp)]
        refine List.filter_eq_self.2 fun b hb => ?_
        have : b ≠ a := fun e2 => h1 (e2 ▸ hb)
        simpa using this
      rw [e3]; rfl
    · have h3 : u ∈ l := by
        rcases List.mem_cons.1 h with h | h
        · exact absurd h.symm e
        · exact h
      rw [List.filter_cons_of_pos (by simpa using e), lx, lx, lx_out h2 h3, ← Nat.xor_assoc, ← Nat.xor_assoc, Nat.xor_comm (f a) (f u)]
omit h in
theorem lx_map {α β : Type} (f : β → Nat) (g : α → β) : ∀ l : List α, lx f (l.map g) = lx (fun a => f (g a)) l
  | [] => rfl
  | a :: l => by rw [List.map_cons, lx, lx, lx_map f g l]
omit h in
theorem lx_mu {M : Nat} {α : Type} (c : Nat) (f : α → Nat) : ∀ l : List α, lx (fun a => mu M c (f a)) l = mu M c (lx f l)
  | [] => (mu_zero c).symm
  | a :: l => by rw [lx, lx, lx_mu c f l, mu_xor]
theorem cterms_sound {i u : Nat} (hi : i < ps.length) (hu : u ∈ checkN D i (ps.getD i [])) : Sound M D ps u (ctermsN M D (ps.getD i []) (checkN D i (ps.getD i [])) u) := fun x hx => by
  have hM := h.f
  have hz := check_zero h hi hx
  have hnd : (checkN D i (ps.getD i [])).Nodup := (check_inc D i (ps.getD i [])).imp fun {a b} hab => by omega
  rw [lx_out hnd hu] at hz
  obtain ⟨c1, c2, c3⟩ := coef_ok h hi hu
  obtain ⟨v1, v2⟩ := inv_mu hM c3 c2
  have hvl : invN M (coefN (ps.getD i []) D u) < 2 ^ M := invN_lt _
  have hUl : ∀ k, U D (genN D ps) k x < 2 ^ M := fun k => U_all h k x hx
  have e := eq_of_xor hz
  unfold ctermsN
  rw [lx_map]
  have e2 : lx (fun k => mu M (mu M (coefN (ps.getD i []) D k) (invN M (coefN (ps.getD i []) D u))) (U D (genN D ps) k x)) ((checkN D i (ps.getD i [])).filter fun k => k != u) = mu M (invN M (coefN (ps.getD i []) D u)) (lx (fun k => mu M (coefN (ps.getD i []) D k) (U D (genN D ps) k x)) ((checkN D i (ps.getD i [])).filter fun k => k != u)) := by
    rw [← lx_mu]
    refine lx_congr fun k hk => ?_
    obtain ⟨d1, d2, d3⟩ := coef_ok h hi (List.mem_filter.1 hk).1
    rw [mu_comm hM d2 hvl, mu_assoc hM hvl d2 (hUl k)]
  exact e2.trans (by rw [← e, ← mu_assoc hM hvl c2 (hUl u), v1, one_mu hM (hUl u)])
theorem cterms_ok {i u : Nat} (hi : i < ps.length) (hu : u ∈ checkN D i (ps.getD i [])) : (∀ t ∈ ctermsN M D (ps.getD i []) (checkN D i (ps.getD i [])) u, t.2 < 2 ^ M ∧ t.2 ≠ 0 ∧ t.1 ≠ u ∧ t.1 ∈ checkN D i (ps.getD i [])) ∧ (ctermsN M D (ps.getD i []) (checkN D i (ps.getD i [])) u).Pairwise fun a b => a.1 < b.1 := by
  have hM := h.f
  refine ⟨fun t ht => ?_, ?_⟩
  · obtain ⟨k, hk, rfl⟩ := List.mem_map.1 ht
    obtain ⟨k1, k2⟩ := List.mem_filter.1 hk
    obtain ⟨c1, c2, c3⟩ := coef_ok h hi hu
    obtain ⟨d1, d2, d3⟩ := coef_ok h hi k1
    obtain ⟨v1, v2⟩ := inv_mu hM c3 c2
    refine ⟨mu_lt hM d2 _, fun e => ?_, by simpa using k2, k1⟩
    have hvl : invN M (coefN (ps.getD i []) D u) < 2 ^ M := invN_lt _
    have hv0 := mu_eq_zero hM d2 hvl d3 e
    rw [hv0, zero_mu] at v1
    cases v1
  · unfold ctermsN
    rw [List.pairwise_map]
    exact (check_inc D i (ps.getD i [])).filter _
theorem sound_sp {hv : List Bool} {u : Nat} {l : List (Nat × Nat)} (hs : Sound M D ps u l) (hl : ∀ t ∈ l, t.2 < 2 ^ M ∧ hv.getD t.1 false = true) : Sp M D (PS D (genN D ps) hv) (U D (genN D ps) u) := by
  have key : ∀ l : List (Nat × Nat), (∀ t ∈ l, t.2 < 2 ^ M ∧ hv.getD t.1 false = true) → Sp M D (PS D (genN D ps) hv) (fun x => lx (fun t : Nat × Nat => mu M t.2 (U D (genN D ps) t.1 x)) l) := by
    intro l
    induction l with
    | nil => intro _; exact .zero fun x _ => rfl
    | cons t l ih =>
      intro hl
      obtain ⟨h1, h2⟩ := hl t (by simp)
      refine .step (ih fun s hs => hl s (by simp [hs])) ⟨t.1, h2, rfl⟩ (c := t.2) h1 fun x hx => ?_
      exact Nat.xor_comm _ _
  exact (key l hl).congr fun x hx => (hs x hx).symm
end
def lexL : List Nat → List Nat → Bool
  | x :: xs, y :: ys => decide (x < y) || (decide (x = y) && lexL xs ys)
  | [], _ :: _ => true
  | _, [] => false
def ltT (a b : List (Nat × Nat)) : Bool := decide (a.length < b.length) || (decide (a.length = b.length) && lexL (a.map (·.1)) (b.map (·.1)))
def minT (a : List (Nat × Nat)) (l : List (List (Nat × Nat))) : List (Nat × Nat) := l.foldl (fun m x => if ltT x m then x else m) a
theorem minT_spec : ∀ (l : List (List (Nat × Nat))) (a : List (Nat × Nat)), (minT a l = a ∨ minT a l ∈ l) ∧ (minT a l).length ≤ a.length ∧ ∀ x ∈ l, (minT a l).length ≤ x.length
  | [], a => ⟨.inl rfl, Nat.le_refl _, fun x h => by simp at h⟩
  | b :: l, a => by
    have hlt : ltT b a = false → a.length ≤ b.length := fun e => by
      unfold ltT at e
      simp only [Bool.or_eq_false_iff, decide_eq_false_iff_not] at e
      omega
    have hlt2 : ltT b a = true → b.length ≤ a.length := fun e => by
      unfold ltT at e
      simp only [Bool.or_eq_true, Bool.and_eq_true, decide_eq_true_eq] at e
      omega
    obtain ⟨h1, h2, h3⟩ := minT_spec l (if ltT b a then b else a)
    change (minT a (b :: l) = _ ∨ minT a (b :: l) ∈ l) at h1
    change (minT a (b :: l)).length ≤ _ at h2
    change ∀ x ∈ l, (minT a (b :: l)).length ≤ _ at h3
    cases e : ltT b a
    · rw [e] at h1 h2
      have := hlt e
      refine ⟨h1.imp id fun h => by simp [h], h2, fun x hx => ?_⟩
      rcases List.mem_cons.1 hx with rfl | hx
      · exact Nat.le_trans h2 this
      · exact h3 x hx
    · rw [e] at h1 h2
      have := hlt2 e
      refine ⟨.inr (by rcases h1 with h1 | h1
                       · rw [h1]; simp
                       · simp [h1]), Nat.le_trans h2 this, fun x hx => ?_⟩
      rcases List.mem_cons.1 hx with rfl | hx
      · exact h2
      · exact h3 x hx
def bestN : List (List (Nat × Nat)) → Option (List (Nat × Nat))
  | [] => none
  | a :: l => some (minT a l)
def chkI (D : Nat) (ps : List (List Nat)) (u n : Nat) : List Nat := (List.range n).filter fun i => (checkN D i (ps.getD i [])).contains u
def fullC (oth : List Bool) (l : List Nat) (u : Nat) : Bool := l.all fun k => k == u || oth.getD k false
def candN (M D : Nat) (ps : List (List Nat)) (oth : List Bool) (u : Nat) : List (List (Nat × Nat)) :=
  (combN M D ps oth u).toList ++ ((chkI D ps u ps.length).filter fun i => fullC oth (checkN D i (ps.getD i [])) u).map fun i => ctermsN M D (ps.getD i []) (checkN D i (ps.getD i [])) u
def planN (M D : Nat) (ps : List (List Nat)) (hv : List Bool) (u : Nat) : Option (List (Nat × Nat)) := bestN (candN M D ps (hv.set u false) u)
structure PlanOk (M D : Nat) (ps : List (List Nat)) (oth : List Bool) (u : Nat) (l : List (Nat × Nat)) : Prop where
  snd : Sound M D ps u l
  lt : ∀ t ∈ l, t.2 < 2 ^ M ∧ t.2 ≠ 0
  pres : ∀ t ∈ l, oth.getD t.1 false = true
  inc : l.Pairwise fun a b => a.1 < b.1
section
variable {M D : Nat} {ps : List (List Nat)} (h : CodeOk M D ps)
include h
theorem cand_ok {oth : List Bool} (hl : oth.length = D + ps.length) {u : Nat} (hu : u < D + ps.length) {l : List (Nat × Nat)} (hm : l ∈ candN M D ps oth u) : PlanOk M D ps oth u l := by
  unfold candN at hm
  rcases List.mem_append.1 hm with hm | hm
  · have hc : combN M D ps oth u = some l := by
      cases hc : combN M D ps oth u with
      | none => rw [hc] at hm; simp at hm
      | some x => rw [hc] at hm; simp at hm; rw [hm]
    have := comb_ok h hl hu hc
    exact ⟨this.snd, this.lt, this.pres, this.inc⟩
  · obtain ⟨i, hi, rfl⟩ := List.mem_map.1 hm
    obtain ⟨h1, h2⟩ := List.mem_filter.1 hi
    obtain ⟨h3, h4⟩ := List.mem_filter.1 h1
    have h5 := List.mem_range.1 h3
    have h6 : u ∈ checkN D i (ps.getD i []) := by simpa using h4
    obtain ⟨q1, q2⟩ := cterms_ok h h5 h6
    refine ⟨cterms_sound h h5 h6, fun t ht => ⟨(q1 t ht).1, (q1 t ht).2.1⟩, fun t ht => ?_, q2⟩
    unfold fullC at h2
    have := (List.all_eq_true.1 h2) t.1 (q1 t ht).2.2.2
    simp only [Bool.or_eq_true, beq_iff_eq] at this
    exact this.resolve_left (q1 t ht).2.2.1
theorem plan_some {hv : List Bool} {u : Nat} {l : List (Nat × Nat)} (hp : planN M D ps hv u = some l) : l ∈ candN M D ps (hv.set u false) u ∧ ∀ x ∈ candN M D ps (hv.set u false) u, l.length ≤ x.length := by
  unfold planN at hp
  generalize candN M D ps (hv.set u false) u = c at *
  cases c with
  | nil => cases hp
  | cons a c =>
    obtain rfl := Option.some.inj hp
    obtain ⟨h1, h2, h3⟩ := minT_spec c a
    refine ⟨?_, fun x hx => ?_⟩
    · rcases h1 with h1 | h1
      · rw [h1]; simp
      · simp [h1]
    · rcases List.mem_cons.1 hx with rfl | hx
      · exact h2
      · exact h3 x hx
theorem plan_iff {hv : List Bool} (hl : hv.length = D + ps.length) {u : Nat} (hu : u < D + ps.length) : (planN M D ps hv u).isSome = (combN M D ps (hv.set u false) u).isSome := by
  have hl2 : (hv.set u false).length = D + ps.length := by rw [List.length_set]; exact hl
  cases hc : combN M D ps (hv.set u false) u with
  | some x =>
    unfold planN candN
    rw [hc]
    rfl
  | none =>
    cases hp : planN M D ps hv u with
    | none => rfl
    | some l =>
      have hk := cand_ok h hl2 hu (plan_some h hp).1
      have := (comb_iff h hl2 hu).2 (sound_sp h hk.snd fun t ht => ⟨(hk.lt t ht).1, hk.pres t ht⟩)
      rw [hc] at this; cases this
end
end Go.Proofs.YtcljokdiblnhiaaGreatDoor
end
section
namespace Go.Proofs.YtcljokdiblnhiaaGreatDoor
open Go.RowKit
set_option maxHeartbeats 4000000
set_option maxRecDepth 100000
def cmpI (x y : Int) : Int := if x < y then -1 else if y < x then 1 else 0
def cmpL : List Nat → List Nat → Int
  | x :: xs, y :: ys => if x < y then -1 else if y < x then 1 else cmpL xs ys
  | [], [] => 0
  | [], _ :: _ => -1
  | _ :: _, [] => 1
theorem cmpL_lt : ∀ a b : List Nat, decide (cmpL a b < 0) = lexL a b
  | x :: xs, y :: ys => by
    rw [cmpL, lexL, ← cmpL_lt xs ys]
    by_cases h1 : x < y
    · rw [if_pos h1, decide_eq_true h1]; rfl
    · rw [if_neg h1, decide_eq_false h1]
      by_cases h2 : y < x
      · rw [if_pos h2, decide_eq_false (show ¬ x = y by omega)]; rfl
      · rw [if_neg h2, decide_eq_true (show x = y by omega)]; simp
  | [], [] => rfl
  | [], _ :: _ => rfl
  | _ :: _, [] => rfl
theorem cmpL_drop : ∀ (k : Nat) (a b : List Nat), a.take k = b.take k → k ≤ a.length → k ≤ b.length → cmpL a b = cmpL (a.drop k) (b.drop k)
  | 0, _, _, _, _, _ => rfl
  | k + 1, x :: xs, y :: ys, h, h1, h2 => by
    simp only [List.take_succ_cons, List.cons.injEq] at h
    obtain ⟨rfl, h⟩ := h
    rw [cmpL, if_neg (Nat.lt_irrefl _), if_neg (Nat.lt_irrefl _), cmpL_drop k xs ys h (by simpa using h1) (by simpa using h2)]
    rfl
  | k + 1, [], _, _, h1, _ => by simp at h1
  | k + 1, _ :: _, [], _, _, h2 => by simp at h2
def cmpT (a b : List (Nat × Nat)) : Int := if cmpI a.length b.length ≠ 0 then cmpI a.length b.length else cmpL (a.map (·.1)) (b.map (·.1))
theorem cmpT_lt (a b : List (Nat × Nat)) : decide (cmpT a b < 0) = ltT a b := by
  unfold cmpT ltT
  rw [← cmpL_lt]
  unfold cmpI
  by_cases h1 : a.length < b.length
  · rw [if_pos (show (a.length : Int) < b.length by omega), decide_eq_true h1]; rfl
  · rw [if_neg (show ¬ (a.length : Int) < b.length by omega), decide_eq_false h1]
    by_cases h2 : b.length < a.length
    · rw [if_pos (show (b.length : Int) < a.length by omega), decide_eq_false (show ¬ a.length = b.length by omega)]; rfl
    · rw [if_neg (show ¬ (b.length : Int) < a.length by omega), decide_eq_true (show a.length = b.length by omega)]; simp
def tlD (l : List (Nat × Nat)) : List Dat := [.sl 2 (l.map tmD)]
abbrev tlsA (l : List (List (Nat × Nat))) : AV := .d (.sl 1 (l.map tlD))
attribute [local irreducible] Quiet Eff OpOk AWPG ACont ABlock ACalls AGoto
theorem A_isNaN (x : Int) : ACalls Tryz.prog 134 [iV x] [] (bV false) [] := by
  refine acalls_of_bodyO Tryz.func134 rfl (Nat.le_of_ble_eq_true rfl) ?_
  (repeat' (first
  | (apply W.qd; (first
    | (apply q_mv; (conv => lhs; whnf))|(apply q_as; (conv => lhs; whnf))
    | (apply q_neq; exact rfl; exact rfl)))|(apply yA)|(apply yB)|(apply yC; kernel_rfl)|(apply yE)
  | (apply yJ)))
  all_goals exact ⟨.inl rfl, [], [bV (!decide (x = x))], rfl, rfl, ⟨rfl, trivial⟩, AVle.of_eq (congrArg bV (show (!decide (x = x)) = false by simp)), rfl⟩
theorem A_cmp (x y : Int) : ACalls Tryz.prog 81 [iV x, iV y] [] (iV (cmpI x y)) [] := by
  refine acalls_of_bodyO Tryz.func81 rfl (Nat.le_of_ble_eq_true rfl) ?_
  have h1 := A_isNaN x
  have h2 := A_isNaN y
  unfold cmpI
  by_cases hxy : x < y
  · rw [if_pos hxy]
    (repeat' (first
  | (apply W.qd; (first
    | (apply (yW (h1)); exact rfl; exact rfl; (iterate 3 kernel_rfl))|(apply (yW (h2)); exact rfl; exact rfl; (iterate 3 kernel_rfl))|(apply q_mv; (conv => lhs; whnf))|(apply q_as; (conv => lhs; whnf))
    | (apply q_lss; exact rfl; exact rfl)))|(apply yA)|(apply yB)|(apply yC; kernel_rfl)|(apply yE)|(apply yH)|(apply yJ)|(apply yP)|(apply yR; exact rfl)
  | (refine W.cond _ rfl (fun hb => ?_) (fun hb => ?_) <;> ((try simp only [hb, zA, zB]) <;> (try simp only [zC, zD, zE, zF, zG, zH, zI, zJ] at hb) <;> (try (exfalso; omega))))))
    all_goals exact ⟨.inl rfl, [], [iV (-1)], rfl, rfl, ⟨rfl, trivial⟩, AVle.of_eq rfl, rfl⟩
  · rw [if_neg hxy]
    by_cases hyx : y < x
    · rw [if_pos hyx]
      (repeat' (first
  | (apply W.qd; (first
    | (apply (yW (h1)); exact rfl; exact rfl; (iterate 3 kernel_rfl))|(apply (yW (h2)); exact rfl; exact rfl; (iterate 3 kernel_rfl))|(apply q_mv; (conv => lhs; whnf))|(apply q_as; (conv => lhs; whnf))|(apply q_lss; exact rfl; exact rfl)
    | (apply q_gtr; exact rfl; exact rfl)))|(apply yA)|(apply yB)|(apply yC; kernel_rfl)|(apply yE)|(apply yH)|(apply yJ)|(apply yP)|(apply yR; exact rfl)
  | (refine W.cond _ rfl (fun hb => ?_) (fun hb => ?_) <;> ((try simp only [hb, zA, zB]) <;> (try simp only [zC, zD, zE, zF, zG, zH, zI, zJ] at hb) <;> (try (exfalso; omega))))))
      all_goals exact ⟨.inl rfl, [], [iV 1], rfl, rfl, ⟨rfl, trivial⟩, AVle.of_eq rfl, rfl⟩
    · rw [if_neg hyx]
      (repeat' (first
  | (apply W.qd; (first
    | (apply (yW (h1)); exact rfl; exact rfl; (iterate 3 kernel_rfl))|(apply (yW (h2)); exact rfl; exact rfl; (iterate 3 kernel_rfl))|(apply q_mv; (conv => lhs; whnf))|(apply q_as; (conv => lhs; whnf))|(apply q_lss; exact rfl; exact rfl)
    | (apply q_gtr; exact rfl; exact rfl)))|(apply yA)|(apply yB)|(apply yC; kernel_rfl)|(apply yE)|(apply yH)|(apply yJ)|(apply yR; exact rfl)
  | (refine W.cond _ rfl (fun hb => ?_) (fun hb => ?_) <;> ((try simp only [hb, zA, zB]) <;> (try simp only [zC, zD, zE, zF, zG, zH, zI, zJ] at hb) <;> (try (exfalso; omega))))))
      all_goals exact ⟨.inl rfl, [], [iV 0], rfl, rfl, ⟨rfl, trivial⟩, AVle.of_eq rfl, rfl⟩
def orI : List Int → Int
  | [] => 0
  | x :: l => if x ≠ 0 then x else orI l
theorem orI_drop : ∀ (k : Nat) (l : List Int), (∀ x ∈ l.take k, x = 0) → orI l = orI (l.drop k)
  | 0, _, _ => rfl
  | k + 1, [], _ => rfl
  | k + 1, x :: l, h => by
    rw [orI, if_neg (by simpa using h x (by simp)), orI_drop k l fun y hy => h y (by simp [hy])]
    rfl
theorem A_or (l : List Int) (hl : l.length ≤ 1000000) : ACalls Tryz.prog 130 [ints l] [] (iV (orI l)) [] := by
  refine acalls_of_bodyO Tryz.func130 rfl (Nat.le_of_ble_eq_true rfl) ?_
  have hml : (l.map iD).length = l.length := List.length_map _
  (repeat' (first
  | (apply W.qd; (first
    | (apply q_mv; (conv => lhs; whnf))|(apply q_as; (conv => lhs; whnf))
    | (apply yV; exact rfl; exact rfl)))|(apply yA)|(apply yB)|(apply yC; kernel_rfl)|(apply yE)
  | (apply yG)))
  refine AWP.loopW (α := Nat) (fun k => k ≤ l.length ∧ ∀ x ∈ l.take k, x = 0) (fun k => ⟨[(8, iV k), (7, iV l.length), (6, ints l), (3, iV 0)], []⟩) (fun k => l.length - k) 0 ⟨by omega, by simp⟩ ⟨[], rfl, rfl, rfl, rfl, iV_eq (by simp), rfl, rfl, trivial⟩ fun k hk => ?_
  by_cases hkl : k < l.length
  · have ho : orI l = if l[k] ≠ 0 then l[k] else orI (l.drop (k + 1)) := by
      rw [orI_drop k l hk.2, List.drop_eq_getElem_cons hkl]
      rfl
    by_cases hz : l[k] = 0
    · (repeat' (first
  | (apply W.qd; (first
    | (apply q_mv; (conv => lhs; whnf))|(apply q_as; (conv => lhs; whnf))|(apply q_lss; exact rfl; exact rfl)|(apply q_neq; exact rfl; exact rfl)|(apply q_add; exact rfl; exact rfl; omega)|(apply yX; (iterate 3 exact rfl); (first | omega | (focus (simp; done))))
    | (apply yGb; (iterate 4 exact rfl); (first | (with_reducible exact rfl) | exact natI_spec rfl | assumption | exact (Int.toNat_of_nonneg (by omega)).symm); (first | omega | (focus (simp only [List.length_map]; omega)) | (focus (simp; done)) | (focus (simp; omega))))))|(apply yA)|(apply yB)|(apply yC; kernel_rfl)|(apply yE)|(apply yG)|(apply yH)|(apply yL)
  | (refine W.cond _ rfl (fun hb => ?_) (fun hb => ?_) <;> ((try simp only [hb, zA, zB]) <;> (try simp only [zC, zD, zE, zF, zG, zH, zI, zJ] at hb) <;> (try (exfalso; omega))))))
      refine ⟨k + 1, ⟨by omega, fun x hx => ?_⟩, by omega, [], rfl, rfl, rfl, iV_eq (by omega), rfl, rfl, rfl, trivial⟩
      rw [List.take_succ_eq_append_getElem hkl] at hx
      rcases List.mem_append.1 hx with hx | hx
      · exact hk.2 x hx
      · rw [List.mem_singleton.1 hx]; exact hz
    · rw [if_pos hz] at ho
      rw [ho]
      (repeat' (first
  | (apply W.qd; (first
    | (apply q_mv; (conv => lhs; whnf))|(apply q_as; (conv => lhs; whnf))|(apply q_lss; exact rfl; exact rfl)|(apply q_neq; exact rfl; exact rfl)|(apply yX; (iterate 3 exact rfl); (first | omega | (focus (simp; done))))
    | (apply yGb; (iterate 4 exact rfl); (first | (with_reducible exact rfl) | exact natI_spec rfl | assumption | exact (Int.toNat_of_nonneg (by omega)).symm); (first | omega | (focus (simp only [List.length_map]; omega)) | (focus (simp; done)) | (focus (simp; omega))))))|(apply yA)|(apply yB)|(apply yC; kernel_rfl)|(apply yE)|(apply yG)|(apply yH)|(apply yJ)|(apply yP)|(apply yN)
  | (refine W.cond _ rfl (fun hb => ?_) (fun hb => ?_) <;> ((try simp only [hb, zA, zB]) <;> (try simp only [zC, zD, zE, zF, zG, zH, zI, zJ] at hb) <;> (try (exfalso; omega))))))
      exact ⟨.inl rfl, [], [iV l[k]], rfl, rfl, ⟨rfl, trivial⟩, AVle.of_eq rfl, rfl⟩
  · have ho : orI l = 0 := by
      rw [orI_drop k l hk.2, List.drop_eq_nil_of_le (by omega)]; rfl
    rw [ho]
    (repeat' (first
  | (apply W.qd; (first
    | (apply q_mv; (conv => lhs; whnf))|(apply q_as; (conv => lhs; whnf))
    | (apply q_lss; exact rfl; exact rfl)))|(apply yA)|(apply yB)|(apply yC; kernel_rfl)|(apply yE)|(apply yI)|(apply yJ)|(apply yK)|(apply yM)
  | (refine W.cond _ rfl (fun hb => ?_) (fun hb => ?_) <;> ((try simp only [hb, zA, zB]) <;> (try simp only [zC, zD, zE, zF, zG, zH, zI, zJ] at hb) <;> (try (exfalso; omega))))))
    exact ⟨.inl rfl, [], [iV 0], rfl, rfl, ⟨rfl, trivial⟩, AVle.of_eq rfl, rfl⟩
theorem A_first (a b : Nat × Nat) : ACalls Tryz.prog 140 [.agg [iV a.1, iV a.2], .agg [iV b.1, iV b.2]] [] (iV (cmpI a.1 b.1)) [] := by
  refine acalls_of_bodyO Tryz.func140 rfl (Nat.le_of_ble_eq_true rfl) ?_
  have h := A_cmp a.1 b.1
  (repeat' (first
  | (apply W.qd; (first
    | (apply (yW (h)); exact rfl; exact rfl; (iterate 3 kernel_rfl))|(apply q_as; (conv => lhs; whnf))|(apply yS; (iterate 3 exact rfl))
    | (apply yT; (iterate 4 exact rfl))))|(apply W.ed; (apply yBb; (iterate 3 exact rfl); kernel_rfl; kernel_rfl))|(apply yA)|(apply yB)|(apply yC; kernel_rfl)|(apply yE)
  | (apply yJ)))
  exact ⟨.inl rfl, [], [iV (cmpI a.1 b.1)], rfl, rfl, ⟨rfl, trivial⟩, AVle.of_eq rfl, rfl⟩
theorem A_cmpFunc (a b : List (Nat × Nat)) (ha : a.length ≤ 1000000) (hb0 : b.length ≤ 1000000) : ACalls Tryz.prog 143 [tmsA a, tmsA b, .fn 140 []] [] (iV (cmpL (a.map (·.1)) (b.map (·.1)))) [] := by
  refine acalls_of_bodyO Tryz.func143 rfl (Nat.le_of_ble_eq_true rfl) ?_
  have hma : (a.map tmD).length = a.length := List.length_map _
  have hmb : (b.map tmD).length = b.length := List.length_map _
  have hla : (a.map (·.1)).length = a.length := List.length_map _
  have hlb : (b.map (·.1)).length = b.length := List.length_map _
  (repeat' (first
  | (apply W.qd; (first
    | (apply q_mv; (conv => lhs; whnf))|(apply q_as; (conv => lhs; whnf))
    | (apply yV; exact rfl; exact rfl)))|(apply yA)|(apply yB)|(apply yC; kernel_rfl)|(apply yE)
  | (apply yG)))
  refine AWP.loopW (α := Nat) (fun k => k ≤ a.length ∧ k ≤ b.length ∧ (a.map (·.1)).take k = (b.map (·.1)).take k) (fun k => ⟨[(13, iV k), (12, iV a.length), (11, tmsA a), (0, tmsA a), (1, tmsA b), (2, .fn 140 [])], []⟩) (fun k => a.length - k) 0 ⟨by omega, by omega, rfl⟩ ⟨[], rfl, rfl, rfl, rfl, iV_eq (by simp), rfl, rfl, rfl, rfl, trivial⟩ fun k hk => ?_
  obtain ⟨hk1, hk2, hk3⟩ := hk
  have hd := cmpL_drop k _ _ hk3 (by omega) (by omega)
  by_cases hka : k < a.length
  · have ea : (a.map (·.1)).drop k = a[k].1 :: (a.map (·.1)).drop (k + 1) := by
      rw [List.drop_eq_getElem_cons (by omega)]; simp
    by_cases hkb : k < b.length
    · have eb : (b.map (·.1)).drop k = b[k].1 :: (b.map (·.1)).drop (k + 1) := by
        rw [List.drop_eq_getElem_cons (by omega)]; simp
      rw [ea, eb, cmpL] at hd
      have hf := A_first a[k] b[k]
      unfold cmpI at hf
      by_cases h1 : a[k].1 < b[k].1
      · rw [if_pos h1] at hd
        rw [if_pos (show (a[k].1 : Int) < b[k].1 by omega)] at hf
        rw [hd]
        (repeat' (first
  | (apply W.qd; (first
    | (apply (yW (hf)); exact rfl; exact rfl; (iterate 3 kernel_rfl))|(apply q_mv; (conv => lhs; whnf))|(apply q_as; (conv => lhs; whnf))|(apply yU; (iterate 4 exact rfl))|(apply q_lss; exact rfl; exact rfl)|(apply q_geq; exact rfl; exact rfl)|(apply q_neq; exact rfl; exact rfl)|(apply yV; exact rfl; exact rfl)|(apply yY; (iterate 3 exact rfl); (first | omega | (focus (simp; done))))
    | (apply yGb; (iterate 4 exact rfl); (first | (with_reducible exact rfl) | exact natI_spec rfl | assumption | exact (Int.toNat_of_nonneg (by omega)).symm); (first | omega | (focus (simp only [List.length_map]; omega)) | (focus (simp; done)) | (focus (simp; omega))))))|(apply W.ed; (apply yCb; (iterate 3 exact rfl); kernel_rfl))|(apply W.ln; (apply l_st_box; (iterate 6 exact rfl); (iterate 3 kernel_rfl)))|(apply yA)|(apply yB)|(apply yC; kernel_rfl)|(apply yE)|(apply yG)|(apply yH)|(apply yJ)|(apply yP)|(apply yN)|(apply yQ; exact rfl)
  | (refine W.cond _ rfl (fun hb => ?_) (fun hb => ?_) <;> ((try simp only [hb, zA, zB]) <;> (try simp only [zC, zD, zE, zF, zG, zH, zI, zJ] at hb) <;> (try (exfalso; omega))))))
        exact ⟨.inl rfl, [], [iV (-1)], rfl, rfl, ⟨rfl, trivial⟩, AVle.of_eq rfl, rfl⟩
      · rw [if_neg h1] at hd
        rw [if_neg (show ¬ (a[k].1 : Int) < b[k].1 by omega)] at hf
        by_cases h2 : b[k].1 < a[k].1
        · rw [if_pos h2] at hd
          rw [if_pos (show (b[k].1 : Int) < a[k].1 by omega)] at hf
          rw [hd]
          (repeat' (first
  | (apply W.qd; (first
    | (apply (yW (hf)); exact rfl; exact rfl; (iterate 3 kernel_rfl))|(apply q_mv; (conv => lhs; whnf))|(apply q_as; (conv => lhs; whnf))|(apply yU; (iterate 4 exact rfl))|(apply q_lss; exact rfl; exact rfl)|(apply q_geq; exact rfl; exact rfl)|(apply q_neq; exact rfl; exact rfl)|(apply yV; exact rfl; exact rfl)|(apply yY; (iterate 3 exact rfl); (first | omega | (focus (simp; done))))
    | (apply yGb; (iterate 4 exact rfl); (first | (with_reducible exact rfl) | exact natI_spec rfl | assumption | exact (Int.toNat_of_nonneg (by omega)).symm); (first | omega | (focus (simp only [List.length_map]; omega)) | (focus (simp; done)) | (focus (simp; omega))))))|(apply W.ed; (apply yCb; (iterate 3 exact rfl); kernel_rfl))|(apply W.ln; (apply l_st_box; (iterate 6 exact rfl); (iterate 3 kernel_rfl)))|(apply yA)|(apply yB)|(apply yC; kernel_rfl)|(apply yE)|(apply yG)|(apply yH)|(apply yJ)|(apply yP)|(apply yN)|(apply yQ; exact rfl)
  | (refine W.cond _ rfl (fun hb => ?_) (fun hb => ?_) <;> ((try simp only [hb, zA, zB]) <;> (try simp only [zC, zD, zE, zF, zG, zH, zI, zJ] at hb) <;> (try (exfalso; omega))))))
          exact ⟨.inl rfl, [], [iV 1], rfl, rfl, ⟨rfl, trivial⟩, AVle.of_eq rfl, rfl⟩
        · rw [if_neg (show ¬ (b[k].1 : Int) < a[k].1 by omega)] at hf
          (repeat' (first
  | (apply W.qd; (first
    | (apply (yW (hf)); exact rfl; exact rfl; (iterate 3 kernel_rfl))|(apply q_mv; (conv => lhs; whnf))|(apply q_as; (conv => lhs; whnf))|(apply yU; (iterate 4 exact rfl))|(apply q_lss; exact rfl; exact rfl)|(apply q_geq; exact rfl; exact rfl)|(apply q_neq; exact rfl; exact rfl)|(apply q_add; exact rfl; exact rfl; omega)|(apply yV; exact rfl; exact rfl)|(apply yY; (iterate 3 exact rfl); (first | omega | (focus (simp; done))))
    | (apply yGb; (iterate 4 exact rfl); (first | (with_reducible exact rfl) | exact natI_spec rfl | assumption | exact (Int.toNat_of_nonneg (by omega)).symm); (first | omega | (focus (simp only [List.length_map]; omega)) | (focus (simp; done)) | (focus (simp; omega))))))|(apply W.ed; (apply yCb; (iterate 3 exact rfl); kernel_rfl))|(apply W.ln; (apply l_st_box; (iterate 6 exact rfl); (iterate 3 kernel_rfl)))|(apply yA)|(apply yB)|(apply yC; kernel_rfl)|(apply yE)|(apply yG)|(apply yH)|(apply yL)|(apply yR; exact rfl)
  | (refine W.cond _ rfl (fun hb => ?_) (fun hb => ?_) <;> ((try simp only [hb, zA, zB]) <;> (try simp only [zC, zD, zE, zF, zG, zH, zI, zJ] at hb) <;> (try (exfalso; omega))))))
          refine ⟨k + 1, ⟨by omega, by omega, ?_⟩, by omega, [], rfl, rfl, rfl, iV_eq (by omega), rfl, rfl, rfl, rfl, rfl, trivial⟩
          rw [List.take_succ_eq_append_getElem (by omega), List.take_succ_eq_append_getElem (by omega), hk3]
          congr 2
          simp only [List.getElem_map]
          omega
    · have eb : (b.map (·.1)).drop k = [] := List.drop_eq_nil_of_le (by omega)
      rw [ea, eb] at hd
      rw [hd]
      (repeat' (first
  | (apply W.qd; (first
    | (apply q_mv; (conv => lhs; whnf))|(apply q_as; (conv => lhs; whnf))|(apply q_lss; exact rfl; exact rfl)|(apply q_geq; exact rfl; exact rfl)|(apply yV; exact rfl; exact rfl)|(apply yY; (iterate 3 exact rfl); (first | omega | (focus (simp; done))))
    | (apply yGb; (iterate 4 exact rfl); (first | (with_reducible exact rfl) | exact natI_spec rfl | assumption | exact (Int.toNat_of_nonneg (by omega)).symm); (first | omega | (focus (simp only [List.length_map]; omega)) | (focus (simp; done)) | (focus (simp; omega))))))|(apply W.ed; (apply yCb; (iterate 3 exact rfl); kernel_rfl))|(apply W.ln; (apply l_st_box; (iterate 6 exact rfl); (iterate 3 kernel_rfl)))|(apply yA)|(apply yB)|(apply yC; kernel_rfl)|(apply yE)|(apply yG)|(apply yH)|(apply yJ)|(apply yP)|(apply yN)
  | (refine W.cond _ rfl (fun hb => ?_) (fun hb => ?_) <;> ((try simp only [hb, zA, zB]) <;> (try simp only [zC, zD, zE, zF, zG, zH, zI, zJ] at hb) <;> (try (exfalso; omega))))))
      exact ⟨.inl rfl, [], [iV 1], rfl, rfl, ⟨rfl, trivial⟩, AVle.of_eq rfl, rfl⟩
  · have ea : (a.map (·.1)).drop k = [] := List.drop_eq_nil_of_le (by omega)
    rw [ea] at hd
    by_cases hkb : k < b.length
    · have eb : (b.map (·.1)).drop k = b[k].1 :: (b.map (·.1)).drop (k + 1) := by
        rw [List.drop_eq_getElem_cons (by omega)]; simp
      rw [eb] at hd
      rw [hd]
      (repeat' (first
  | (apply W.qd; (first
    | (apply q_mv; (conv => lhs; whnf))|(apply q_as; (conv => lhs; whnf))|(apply q_lss; exact rfl; exact rfl)
    | (apply yV; exact rfl; exact rfl)))|(apply yA)|(apply yB)|(apply yC; kernel_rfl)|(apply yE)|(apply yI)|(apply yJ)|(apply yK)|(apply yP)|(apply yM)
  | (refine W.cond _ rfl (fun hb => ?_) (fun hb => ?_) <;> ((try simp only [hb, zA, zB]) <;> (try simp only [zC, zD, zE, zF, zG, zH, zI, zJ] at hb) <;> (try (exfalso; omega))))))
      exact ⟨.inl rfl, [], [iV (-1)], rfl, rfl, ⟨rfl, trivial⟩, AVle.of_eq rfl, rfl⟩
    · have eb : (b.map (·.1)).drop k = [] := List.drop_eq_nil_of_le (by omega)
      rw [eb] at hd
      rw [hd]
      (repeat' (first
  | (apply W.qd; (first
    | (apply q_mv; (conv => lhs; whnf))|(apply q_as; (conv => lhs; whnf))|(apply q_lss; exact rfl; exact rfl)
    | (apply yV; exact rfl; exact rfl)))|(apply yA)|(apply yB)|(apply yC; kernel_rfl)|(apply yE)|(apply yH)|(apply yI)|(apply yJ)|(apply yK)|(apply yM)
  | (refine W.cond _ rfl (fun hb => ?_) (fun hb => ?_) <;> ((try simp only [hb, zA, zB]) <;> (try simp only [zC, zD, zE, zF, zG, zH, zI, zJ] at hb) <;> (try (exfalso; omega))))))
      exact ⟨.inl rfl, [], [iV 0], rfl, rfl, ⟨rfl, trivial⟩, AVle.of_eq rfl, rfl⟩
theorem A_cmpT (a b : List (Nat × Nat)) (ha : a.length ≤ 1000000) (hb0 : b.length ≤ 1000000) : ACalls Tryz.prog 142 [tmsA a, tmsA b, .opt 0 0] [.box [.fn 140 []]] (iV (cmpT a b)) [.box [.fn 140 []]] := by
  refine acalls_of_bodyO Tryz.func142 rfl (Nat.le_of_ble_eq_true rfl) ?_
  have hma : (a.map tmD).length = a.length := List.length_map _
  have hmb : (b.map tmD).length = b.length := List.length_map _
  have h1 := A_cmp a.length b.length
  have h2 := A_cmpFunc a b ha hb0
  have h3 := A_or [cmpI a.length b.length, cmpL (a.map (·.1)) (b.map (·.1))] (by simp)
  have e : orI [cmpI a.length b.length, cmpL (a.map (·.1)) (b.map (·.1))] = cmpT a b := by
    show (if cmpI a.length b.length ≠ 0 then cmpI a.length b.length else if cmpL (a.map (·.1)) (b.map (·.1)) ≠ 0 then cmpL (a.map (·.1)) (b.map (·.1)) else 0) = _
    unfold cmpT
    split
    · rfl
    · split
      · rfl
      · rename_i h; exact (Classical.not_not.1 h).symm
  rw [e] at h3
  rw [← hma, ← hmb] at h1
  rw [← hma, ← hmb] at h3
  generalize cmpT a b = r at *
  generalize cmpL (a.map (·.1)) (b.map (·.1)) = c at *
  (repeat' (first
  | (apply W.qd; (first
    | (apply (yW (h1)); exact rfl; exact rfl; (iterate 3 kernel_rfl))|(apply (yW (h2)); exact rfl; exact rfl; (iterate 3 kernel_rfl))|(apply (yW (h3)); exact rfl; exact rfl; (iterate 3 kernel_rfl))|(apply q_mv; (conv => lhs; whnf))|(apply q_as; (conv => lhs; whnf))|(apply yT; (iterate 4 exact rfl))|(apply yV; exact rfl; exact rfl)
    | (apply q_litF; (iterate 5 exact rfl); kernel_rfl; kernel_rfl; exact rfl)))|(apply yA)|(apply yB)|(apply yC; kernel_rfl)|(apply yD; exact rfl; kernel_rfl)|(apply yE)|(apply yF; kernel_rfl)
  | (apply yJ)))
  all_goals exact ⟨.inl rfl, [0], [iV r], rfl, rfl, ⟨rfl, trivial⟩, AVle.of_eq rfl, rfl⟩
theorem minT_take (a : List (Nat × Nat)) (l : List (List (Nat × Nat))) (k : Nat) (h : k < l.length) : minT a (l.take (k + 1)) = if ltT l[k] (minT a (l.take k)) then l[k] else minT a (l.take k) := by
  unfold minT
  rw [List.take_succ_eq_append_getElem h, List.foldl_append]
  rfl
theorem A_minFunc (l : List (List (Nat × Nat))) (hl0 : 0 < l.length) (hl : l.length ≤ 1000000) (hel : ∀ t ∈ l, t.length ≤ 1000000) : ACalls Tryz.prog 141 [tlsA l, .fn 142 [.opt 0 0]] [.box [.fn 140 []]] (tmsA ((bestN l).getD [])) [.box [.fn 140 []]] := by
  refine acalls_of_bodyO Tryz.func141 rfl (Nat.le_of_ble_eq_true rfl) ?_
  have hml : (l.map tlD).length = l.length := List.length_map _
  obtain ⟨a, l, rfl⟩ := List.exists_cons_of_length_pos hl0
  rw [show (bestN (a :: l)).getD [] = minT a l from rfl]
  have hb2 : ∀ k, (minT a (l.take k)).length ≤ 1000000 := fun k => Nat.le_trans (minT_spec (l.take k) a).2.1 (hel a (by simp))
  have hs := minT_take a l
  have h0 : minT a (l.take 0) = a := rfl
  have hfull : minT a (l.take l.length) = minT a l := by rw [List.take_length]
  have hll : (a :: l).length = l.length + 1 := rfl
  generalize hm : (fun k => minT a (l.take k)) = MT
  have hm' : ∀ k, minT a (l.take k) = MT k := fun k => congrFun hm k
  simp only [hm'] at hb2 hs h0 hfull
  rw [← hfull]
  (repeat' (first
  | (apply W.qd; (first
    | (apply q_mv; (conv => lhs; whnf))|(apply q_as; (conv => lhs; whnf))|(apply q_lss; exact rfl; exact rfl)|(apply yV; exact rfl; exact rfl)|(apply yX; (iterate 3 exact rfl); (first | omega | (focus (simp; done))))
    | (apply yGb; (iterate 4 exact rfl); (first | (with_reducible exact rfl) | exact natI_spec rfl | assumption | exact (Int.toNat_of_nonneg (by omega)).symm); (first | omega | (focus (simp only [List.length_map]; omega)) | (focus (simp; done)) | (focus (simp; omega))))))|(apply yA)|(apply yB)|(apply yC; kernel_rfl)|(apply yE)|(apply yG)|(apply yH)
  | (apply yR; exact rfl)))
  refine AWP.loopW (α := Nat) (fun k => k ≤ l.length) (fun k => ⟨[(6, iV (k + 1 : Nat)), (5, tmsA (MT k)), (0, tlsA (a :: l)), (1, .fn 142 [.opt 0 0])], [.box [.fn 140 []]]⟩) (fun k => l.length - k) 0 (by omega) ?wk0 fun k hk => ?_
  case wk0 =>
    rw [h0]
    exact ⟨[0], rfl, rfl, rfl, by (repeat (first | exact trivial | refine ⟨rfl, ?_⟩))⟩
  by_cases hkl : k < l.length
  · have hc := A_cmpT ((a :: l)[k + 1]'(by simp; omega)) (MT k) (hel _ (List.getElem_mem _)) (hb2 k)
    have hlt := cmpT_lt ((a :: l)[k + 1]'(by simp; omega)) (MT k)
    have hs2 := Lib.hid (hs k hkl)
    have eL : (a :: l)[k + 1]'(by simp; omega) = l[k] := rfl
    (repeat' (first
  | (apply W.qd; (first
    | (apply q_mv; (conv => lhs; whnf))|(apply q_as; (conv => lhs; whnf))|(apply q_lss; exact rfl; exact rfl)|(apply q_add; exact rfl; exact rfl; omega)|(apply yV; exact rfl; exact rfl)|(apply yX; (iterate 3 exact rfl); (first | omega | (focus (simp; done))))
    | (apply yGb; (iterate 4 exact rfl); (first | (with_reducible exact rfl) | exact natI_spec rfl | assumption | exact (Int.toNat_of_nonneg (by omega)).symm); (first | omega | (focus (simp only [List.length_map]; omega)) | (focus (simp; done)) | (focus (simp; omega))))))|(apply W.ed; (apply (e_callJ (js := [0]) (hc)); (iterate 5 exact rfl); kernel_rfl; kernel_rfl))|(apply yA)|(apply yB)|(apply yC; kernel_rfl)|(apply yE)|(apply yG)|(apply yH)|(apply yL)
  | (refine W.cond _ rfl (fun hb => ?_) (fun hb => ?_) <;> ((try simp only [hb, zA, zB]) <;> (try simp only [zC, zD, zE, zF, zG, zH, zI, zJ] at hb) <;> (try (exfalso; omega))))))
    · rw [decide_eq_true hb, eL] at hlt
      refine ⟨k + 1, by omega, by omega, ?_⟩
      rw [hs2.out, ← hlt]
      exact ⟨[0], rfl, rfl, rfl, iV_eq (by omega), rfl, rfl, rfl, trivial⟩
    · rw [decide_eq_false (by omega), eL] at hlt
      refine ⟨k + 1, by omega, by omega, ?_⟩
      rw [hs2.out, ← hlt]
      exact ⟨[0], rfl, rfl, rfl, iV_eq (by omega), rfl, rfl, rfl, trivial⟩
  · have e : k = l.length := by omega
    subst e
    generalize MT l.length = R at *
    (repeat' (first
  | (apply W.qd; (first
    | (apply q_mv; (conv => lhs; whnf))|(apply q_as; (conv => lhs; whnf))|(apply q_lss; exact rfl; exact rfl)
    | (apply yV; exact rfl; exact rfl)))|(apply yA)|(apply yB)|(apply yC; kernel_rfl)|(apply yE)|(apply yI)|(apply yJ)|(apply yK)|(apply yM)
  | (refine W.cond _ rfl (fun hb => ?_) (fun hb => ?_) <;> ((try simp only [hb, zA, zB]) <;> (try simp only [zC, zD, zE, zF, zG, zH, zI, zJ] at hb) <;> (try (exfalso; omega))))))
    exact ⟨.inl rfl, [0], [tmsA R], rfl, rfl, ⟨rfl, trivial⟩, AVle.of_eq rfl, rfl⟩
end Go.Proofs.YtcljokdiblnhiaaGreatDoor
end
section
namespace Go.Proofs.YtcljokdiblnhiaaGreatDoor
open Go.RowKit
set_option maxHeartbeats 4000000
set_option maxRecDepth 100000
def chkZ (D : Nat) (ps : List (List Nat)) (u : Int) (n : Nat) : List Nat := (List.range n).filter fun i => (checkN D i (ps.getD i [])).any fun x => decide (u = (x : Int))
theorem chkZ_succ (D : Nat) (ps : List (List Nat)) (u : Int) (n : Nat) : chkZ D ps u (n + 1) = if ((checkN D n (ps.getD n [])).any fun x => decide (u = (x : Int))) = true then chkZ D ps u n ++ [n] else chkZ D ps u n := by
  unfold chkZ
  rw [List.range_succ, List.filter_append]
  by_cases h : ((checkN D n (ps.getD n [])).any fun x => decide (u = (x : Int))) = true
  · rw [if_pos h]; simp only [List.filter_cons, h, if_true, List.filter_nil]
  · have h' := Bool.eq_false_iff.2 h
    rw [if_neg h]; simp only [List.filter_cons, h', Bool.false_eq_true, if_false, List.filter_nil, List.append_nil]
theorem chkZ_nat (D : Nat) (ps : List (List Nat)) (u n : Nat) : chkZ D ps u n = chkI D ps u n := by
  unfold chkZ chkI
  congr 1
  funext i
  rw [Bool.eq_iff_iff, List.any_eq_true]
  constructor
  · rintro ⟨x, hx, e⟩
    have : u = x := by
      have e2 : (u : Int) = x := of_decide_eq_true e
      omega
    rw [List.contains_iff_mem]
    exact this ▸ hx
  · intro h
    exact ⟨u, by simpa using h, by simp⟩
theorem chkZ_length (D : Nat) (ps : List (List Nat)) (u : Int) (n : Nat) : (chkZ D ps u n).length ≤ n := Nat.le_trans (List.length_filter_le _ _) (by simp)
attribute [local irreducible] Quiet Eff OpOk AWPG ACont ABlock ACalls AGoto
theorem A_indexI (l : List Int) (v : Int) (hl : l.length ≤ 1000000) : ACalls Tryz.prog 215 [ints l, iV v] [] (iV (idxA (fun x => decide (v = x)) l)) [] := by
  refine acalls_of_bodyO Tryz.func215 rfl (Nat.le_of_ble_eq_true rfl) ?_
  have hml : (l.map iD).length = l.length := List.length_map _
  (repeat' (first
  | (apply W.qd; (first
    | (apply q_mv; (conv => lhs; whnf))|(apply q_as; (conv => lhs; whnf))
    | (apply yV; exact rfl; exact rfl)))|(apply yA)|(apply yB)|(apply yC; kernel_rfl)|(apply yE)
  | (apply yG)))
  refine AWP.loopW (α := Nat) (fun k => k ≤ l.length ∧ ∀ x ∈ l.take k, decide (v = x) = false) (fun k => ⟨[(8, iV k), (7, iV l.length), (0, ints l), (1, iV v)], []⟩) (fun k => l.length - k) 0 ⟨by omega, by simp⟩ ⟨[], rfl, rfl, rfl, rfl, iV_eq (by simp), rfl, rfl, trivial⟩ fun k hk => ?_
  by_cases hkl : k < l.length
  · by_cases hv : v = l[k]
    · rw [idxA_hit hkl (decide_eq_true hv) hk.2]
      (repeat' (first
  | (apply W.qd; (first
    | (apply q_mv; (conv => lhs; whnf))|(apply q_as; (conv => lhs; whnf))|(apply q_lss; exact rfl; exact rfl)|(apply q_eql; exact rfl; exact rfl)|(apply yX; (iterate 3 exact rfl); (first | omega | (focus (simp; done))))
    | (apply yGb; (iterate 4 exact rfl); (first | (with_reducible exact rfl) | exact natI_spec rfl | assumption | exact (Int.toNat_of_nonneg (by omega)).symm); (first | omega | (focus (simp only [List.length_map]; omega)) | (focus (simp; done)) | (focus (simp; omega))))))|(apply yA)|(apply yB)|(apply yC; kernel_rfl)|(apply yE)|(apply yG)|(apply yH)|(apply yJ)|(apply yP)|(apply yN)
  | (refine W.cond _ rfl (fun hb => ?_) (fun hb => ?_) <;> ((try simp only [hb, zA, zB]) <;> (try simp only [zC, zD, zE, zF, zG, zH, zI, zJ] at hb) <;> (try (exfalso; omega))))))
      exact ⟨.inl rfl, [], [iV k], rfl, rfl, ⟨rfl, trivial⟩, AVle.of_eq rfl, rfl⟩
    · (repeat' (first
  | (apply W.qd; (first
    | (apply q_mv; (conv => lhs; whnf))|(apply q_as; (conv => lhs; whnf))|(apply q_lss; exact rfl; exact rfl)|(apply q_eql; exact rfl; exact rfl)|(apply q_add; exact rfl; exact rfl; omega)|(apply yX; (iterate 3 exact rfl); (first | omega | (focus (simp; done))))
    | (apply yGb; (iterate 4 exact rfl); (first | (with_reducible exact rfl) | exact natI_spec rfl | assumption | exact (Int.toNat_of_nonneg (by omega)).symm); (first | omega | (focus (simp only [List.length_map]; omega)) | (focus (simp; done)) | (focus (simp; omega))))))|(apply yA)|(apply yB)|(apply yC; kernel_rfl)|(apply yE)|(apply yG)|(apply yH)|(apply yL)
  | (refine W.cond _ rfl (fun hb => ?_) (fun hb => ?_) <;> ((try simp only [hb, zA, zB]) <;> (try simp only [zC, zD, zE, zF, zG, zH, zI, zJ] at hb) <;> (try (exfalso; omega))))))
      refine ⟨k + 1, ⟨by omega, fun x hx => ?_⟩, by omega, [], rfl, rfl, rfl, iV_eq (by omega), rfl, rfl, rfl, trivial⟩
      rw [List.take_succ_eq_append_getElem hkl] at hx
      rcases List.mem_append.1 hx with hx | hx
      · exact hk.2 x hx
      · rw [List.mem_singleton.1 hx]; exact decide_eq_false hv
  · rw [idxA_miss fun x hx => hk.2 x (by rwa [List.take_of_length_le (by omega)])]
    (repeat' (first
  | (apply W.qd; (first
    | (apply q_as; (conv => lhs; whnf))
    | (apply q_lss; exact rfl; exact rfl)))|(apply yA)|(apply yB)|(apply yC; kernel_rfl)|(apply yE)|(apply yI)|(apply yJ)|(apply yK)|(apply yM)
  | (refine W.cond _ rfl (fun hb => ?_) (fun hb => ?_) <;> ((try simp only [hb, zA, zB]) <;> (try simp only [zC, zD, zE, zF, zG, zH, zI, zJ] at hb) <;> (try (exfalso; omega))))))
    exact ⟨.inl rfl, [], [iV (-1)], rfl, rfl, ⟨rfl, trivial⟩, AVle.of_eq rfl, rfl⟩
theorem A_containsI (l : List Int) (v : Int) (hl : l.length ≤ 1000000) : ACalls Tryz.prog 183 [ints l, iV v] [] (bV (l.any fun x => decide (v = x))) [] := by
  refine acalls_of_bodyO Tryz.func183 rfl (Nat.le_of_ble_eq_true rfl) ?_
  have h := A_indexI l v hl
  have e := idxA_any (fun x => decide (v = x)) l
  generalize idxA (fun x => decide (v = x)) l = r at *
  (repeat' (first
  | (apply W.qd; (first
    | (apply (yW (h)); exact rfl; exact rfl; (iterate 3 kernel_rfl))|(apply q_mv; (conv => lhs; whnf))|(apply q_as; (conv => lhs; whnf))
    | (apply q_geq; exact rfl; exact rfl)))|(apply yA)|(apply yB)|(apply yC; kernel_rfl)|(apply yE)
  | (apply yJ)))
  exact ⟨.inl rfl, [], [bV (decide (0 ≤ r))], rfl, rfl, ⟨rfl, trivial⟩, AVle.of_eq (congrArg bV e), rfl⟩
theorem A_cloneB {l : List Bool} (h0 : 0 < l.length) (hl : l.length ≤ 1000000) : ACalls Tryz.prog 136 [bools l] [] (.osl 0 1 0 l.length) [.row 1 1 4 (l.map tD)] := by
  refine acalls_of_bodyO Tryz.func136 rfl (Nat.le_of_ble_eq_true rfl) ?_
  have hm : (l.map tD).length = l.length := List.length_map _
  (repeat' (first
  | (apply W.ed; (apply e_lit0F; (iterate 5 exact rfl)))
  | (apply W.qd; (first
    | (apply q_mv; (conv => lhs; whnf))|(apply q_as; (conv => lhs; whnf))
    | (apply q_eqnilm; (iterate 3 exact rfl); (first | assumption | omega))))|(apply W.ed; (apply e_appF; (iterate 8 exact rfl); (first | rfl | simp); (first | exact Nat.zero_lt_one | (focus (simp; done)) | omega); (first | (focus (simp; done)) | (focus (simp; omega)) | omega)))|(apply yA)|(apply yB)|(apply yC; kernel_rfl)|(apply yE)|(apply yH)|(apply yJ)
  | (apply yR; exact rfl)))
  refine ⟨.inl rfl, [0], [.osl 0 1 0 ((([] : List Nat).length) + (l.map tD).length)], rfl, rfl, ⟨rfl, trivial⟩, AVle.of_eq ?_, rfl⟩
  show AV.osl 0 1 0 (0 + (l.map tD).length) = .osl 0 1 0 l.length
  rw [hm, Nat.zero_add]
theorem A_check {M D i : Nat} {ps : List (List Nat)} (h : CodeOk M D ps) (hi : i < ps.length) : ACalls Tryz.prog 182 [cdN M D ps, iV i] [] (nats (checkN D i (ps.getD i []))) [] := by
  refine acalls_of_body Tryz.func182 rfl (Nat.le_of_ble_eq_true rfl) ?_
  have h1 := h.d
  have h2 := h.w
  have hr := (h.row _ (List.getElem_mem hi)).1
  have e : ps.getD i [] = ps[i] := by rw [List.getD_eq_getElem?_getD, List.getElem?_eq_getElem hi]; rfl
  rw [e]
  have hmr : (ps[i].map kD).length = D := by rw [List.length_map]; exact hr
  (repeat' (first
  | (apply W.qd; (first
    | (apply q_mv; (conv => lhs; whnf))|(apply q_as; (conv => lhs; whnf))|(apply yS; (iterate 3 exact rfl))|(apply yT; (iterate 4 exact rfl))|(apply yV; exact rfl; exact rfl)|(apply yX; (iterate 3 exact rfl); (first | omega | (focus (simp; done))))
    | (apply yGb; (iterate 4 exact rfl); (first | (with_reducible exact rfl) | exact natI_spec rfl | assumption | exact (Int.toNat_of_nonneg (by omega)).symm); (first | omega | (focus (simp only [List.length_map]; omega)) | (focus (simp; done)) | (focus (simp; omega))))))|(apply W.ed; (apply yBb; (iterate 3 exact rfl); kernel_rfl; kernel_rfl))|(apply yA)|(apply yB)|(apply yC; kernel_rfl)|(apply yE)
  | (apply yG)))
  rw [hmr]
  refine AWP.nilRow 5 1 3 rfl (by omega) ?_
  refine AWP.loopW (α := Nat) (fun k => k ≤ D) (fun k => ⟨[(14, iV k), (13, iV D), (12, nats ps[i]), (5, .osl 1 (dataC D ps[i] k).length 0 (dataC D ps[i] k).length), (2, .opt 0 0), (1, iV i)], [.box [.d .any, iV M, iV D, rowsN ps, .d .any], .row (dataC D ps[i] k).length 1 3 ((dataC D ps[i] k).map kD)]⟩) (fun k => D - k) 0 (by omega) ?wk0 fun k hk => ?_
  case wk0 =>
    rw [show dataC D ps[i] 0 = [] from rfl]
    exact ⟨[0, 1], rfl, rfl, rfl, by (repeat (first | exact trivial | refine ⟨rfl, ?_⟩))⟩
  have hlc := dataC_length D ps[i] k
  by_cases hkD : k < D
  · have hs := Lib.hid (dataC_succ D ps[i] k)
    have e2 : ps[i].getD k 0 = ps[i][k]'(by omega) := by rw [List.getD_eq_getElem?_getD, List.getElem?_eq_getElem (show k < ps[i].length by omega)]; rfl
    rw [e2] at hs
    generalize dataC D ps[i] k = A at *
    (repeat' (first
  | (apply W.qd; (first
    | (apply q_mv; (conv => lhs; whnf))|(apply q_as; (conv => lhs; whnf))|(apply q_lss; exact rfl; exact rfl)|(apply q_neq; exact rfl; exact rfl)|(apply q_add; exact rfl; exact rfl; omega)|(apply yX; (iterate 3 exact rfl); (first | omega | (focus (simp; done))))|(apply q_litF; (iterate 5 exact rfl); kernel_rfl; kernel_rfl; exact rfl)
    | (apply yGb; (iterate 4 exact rfl); (first | (with_reducible exact rfl) | exact natI_spec rfl | assumption | exact (Int.toNat_of_nonneg (by omega)).symm); (first | omega | (focus (simp only [List.length_map]; omega)) | (focus (simp; done)) | (focus (simp; omega))))))|(apply W.ld; (apply l_app1; (iterate 8 exact rfl); (first | omega | (focus (simp; omega)) | (focus (simp; done)))))|(apply yA)|(apply yB)|(apply yC; kernel_rfl)|(apply yE)|(apply yG)|(apply yH)|(apply yL)
  | (refine W.cond _ rfl (fun hb => ?_) (fun hb => ?_) <;> ((try simp only [hb, zA, zB]) <;> (try simp only [zC, zD, zE, zF, zG, zH, zI, zJ] at hb) <;> (try (exfalso; omega))))))
    · rw [if_neg (by omega)] at hs
      refine ⟨k + 1, by omega, by omega, ?_⟩
      rw [hs.out, show (A ++ [k]).length = A.length + 1 by simp]
      exact ⟨[0, 1], rfl, rfl, rfl, iV_eq (by omega), rfl, rfl, congrArg (AV.osl 1 (A.length + 1) 0) (by simp), rfl, rfl, trivial⟩
    · rw [if_pos (by omega)] at hs
      refine ⟨k + 1, by omega, by omega, ?_⟩
      rw [hs.out]
      exact ⟨[0, 1], rfl, rfl, rfl, iV_eq (by omega), rfl, rfl, rfl, rfl, rfl, trivial⟩
  · have e3 : k = D := by omega
    subst e3
    unfold checkN
    generalize dataC k ps[i] k = A at *
    (repeat' (first
  | (apply W.qd; (first
    | (apply q_mv; (conv => lhs; whnf))|(apply q_as; (conv => lhs; whnf))|(apply yS; (iterate 3 exact rfl))|(apply yT; (iterate 4 exact rfl))|(apply q_lss; exact rfl; exact rfl)|(apply q_add; exact rfl; exact rfl; omega)
    | (apply q_litF; (iterate 5 exact rfl); kernel_rfl; kernel_rfl; exact rfl)))|(apply W.ld; (apply l_app1; (iterate 8 exact rfl); (first | omega | (focus (simp; omega)) | (focus (simp; done)))))|(apply yA)|(apply yB)|(apply yC; kernel_rfl)|(apply yE)|(apply yI)|(apply yJ)|(apply yK)|(apply yM)
  | (refine W.cond _ rfl (fun hb => ?_) (fun hb => ?_) <;> ((try simp only [hb, zA, zB]) <;> (try simp only [zC, zD, zE, zF, zG, zH, zI, zJ] at hb) <;> (try (exfalso; omega))))))
    exact Ends.osl rfl rfl (by simp) rfl
theorem A_checks {M D : Nat} {u : Int} {ps : List (List Nat)} (h : CodeOk M D ps) : ACalls Tryz.prog 138 [cdN M D ps, iV u] [] (rowsN ((chkZ D ps u ps.length).map fun i => checkN D i (ps.getD i []))) [] := by
  refine acalls_of_body Tryz.func138 rfl (Nat.le_of_ble_eq_true rfl) ?_
  have h1 := h.d
  have h2 := h.w
  have h0 := A_evalidN h
  have hck := fun i (hi : i < ps.length) => A_check h hi
  have hmp : (ps.map rnD).length = ps.length := List.length_map _
  have hs := fun k => Lib.hid (chkZ_succ D ps u k)
  have hl := fun k => chkZ_length D ps u k
  have hz : chkZ D ps u 0 = [] := rfl
  have hcl := fun k => checkN_length D k (ps.getD k [])
  generalize chkZ D ps u = CZ at *
  generalize hC : (fun i => checkN D i (ps.getD i [])) = C
  have hC' : ∀ i, checkN D i (ps.getD i []) = C i := fun i => congrFun hC i
  simp only [hC'] at hck hs hcl
  (repeat' (first
  | (apply W.qd; (first
    | (apply (yW (h0)); exact rfl; exact rfl; (iterate 3 kernel_rfl))|(apply q_mv; (conv => lhs; whnf))|(apply q_as; (conv => lhs; whnf))|(apply yS; (iterate 3 exact rfl))|(apply yT; (iterate 4 exact rfl))|(apply yU; (iterate 4 exact rfl))|(apply q_not; exact rfl)
    | (apply yV; exact rfl; exact rfl)))|(apply W.ed; (apply yBb; (iterate 3 exact rfl); kernel_rfl; kernel_rfl))|(apply yA)|(apply yB)|(apply yC; kernel_rfl)|(apply yE)|(apply yG)|(apply yH)
  | (apply yR; exact rfl)))
  refine AWP.nilRow 5 1 48 rfl (by omega) ?_
  refine AWP.loopW (α := Nat) (fun k => k ≤ ps.length) (fun k => ⟨[(14, iV k), (13, iV ps.length), (5, .osl 1 (CZ k).length 0 (CZ k).length), (2, .opt 0 0), (1, iV u)], [.box [.d .any, iV M, iV D, rowsN ps, .d .any], .row (CZ k).length 1 48 (((CZ k).map C).map rnD)]⟩) (fun k => ps.length - k) 0 (by omega) ?wk0 fun k hk => ?_
  case wk0 =>
    rw [hz]
    exact ⟨[0, 1], rfl, rfl, rfl, rfl, iV_eq (by simp), rfl, rfl, rfl, trivial⟩
  have hlc := hl k
  by_cases hkl : k < ps.length
  · have hc := hck k hkl
    have hci := A_containsI ((C k).map fun n : Nat => (n : Int)) u (by rw [List.length_map]; have := hcl k; omega)
    rw [← nats_ints] at hci
    have hs2 := hs k
    have e : ((C k).map fun n : Nat => (n : Int)).any (fun x => decide (u = x)) = (C k).any fun x => decide (u = (x : Int)) := by rw [List.any_map]; rfl
    rw [e] at hci
    clear hs hck hl
    cases hb2 : (C k).any fun x => decide (u = (x : Int)) <;> rw [hb2] at hci hs2
    · replace hs2 := Lib.hid (hs2.out.trans (if_neg (by decide)))
      (repeat' (first
  | (apply W.qd; (first
    | (apply (yW (hc)); exact rfl; exact rfl; (iterate 3 kernel_rfl))|(apply (yW (hci)); exact rfl; exact rfl; (iterate 3 kernel_rfl))|(apply q_mv; (conv => lhs; whnf))|(apply q_as; (conv => lhs; whnf))|(apply yU; (iterate 4 exact rfl))|(apply q_lss; exact rfl; exact rfl)
    | (apply q_add; exact rfl; exact rfl; omega)))|(apply yA)|(apply yB)|(apply yC; kernel_rfl)|(apply yE)|(apply yG)|(apply yH)|(apply yL)|(apply yR; exact rfl)
  | (refine W.cond _ rfl (fun hb => ?_) (fun hb => ?_) <;> ((try simp only [hb, zA, zB]) <;> (try simp only [zC, zD, zE, zF, zG, zH, zI, zJ] at hb) <;> (try (exfalso; omega))))))
      refine ⟨k + 1, by omega, by omega, ?_⟩
      rw [hs2.out]
      exact ⟨[0, 1], rfl, rfl, rfl, iV_eq (by omega), rfl, rfl, rfl, rfl, trivial⟩
    · replace hs2 := Lib.hid (hs2.out.trans (if_pos rfl))
      have hln : (CZ k).length = ((CZ k).map C).length := by simp
      rw [hln]
      have hln2 : ((CZ k).map C).length ≤ 1000 := by rw [← hln]; omega
      have hs3 : (CZ (k + 1)).map C = (CZ k).map C ++ [C k] := by rw [hs2.out, List.map_append]; rfl
      have hs4 : (CZ (k + 1)).length = ((CZ k).map C).length + 1 := by rw [hs2.out]; simp
      replace hs3 := Lib.hid hs3
      replace hs4 := Lib.hid hs4
      generalize (CZ k).map C = A at *
      (repeat' (first
  | (apply W.qd; (first
    | (apply (yW (hc)); exact rfl; exact rfl; (iterate 3 kernel_rfl))|(apply (yW (hci)); exact rfl; exact rfl; (iterate 3 kernel_rfl))|(apply q_mv; (conv => lhs; whnf))|(apply q_as; (conv => lhs; whnf))|(apply yU; (iterate 4 exact rfl))|(apply q_lss; exact rfl; exact rfl)|(apply q_add; exact rfl; exact rfl; omega)
    | (apply q_litF; (iterate 5 exact rfl); kernel_rfl; kernel_rfl; exact rfl)))|(apply W.ld; (apply l_app1; (iterate 8 exact rfl); (first | omega | (focus (simp; omega)) | (focus (simp; done)))))|(apply yA)|(apply yB)|(apply yC; kernel_rfl)|(apply yE)|(apply yG)|(apply yH)|(apply yL)|(apply yQ; exact rfl)
  | (refine W.cond _ rfl (fun hb => ?_) (fun hb => ?_) <;> ((try simp only [hb, zA, zB]) <;> (try simp only [zC, zD, zE, zF, zG, zH, zI, zJ] at hb) <;> (try (exfalso; omega))))))
      refine ⟨k + 1, by omega, by omega, ?_⟩
      rw [hs3.out, hs4.out]
      exact ⟨[0, 1], rfl, rfl, rfl, iV_eq (by omega), rfl, congrArg (AV.osl 1 (A.length + 1) 0) (by simp), rfl, rfl, trivial⟩
  · have e : k = ps.length := by omega
    subst e
    have hln : (CZ ps.length).length = ((CZ ps.length).map C).length := by simp
    rw [hln]
    generalize (CZ ps.length).map C = A at *
    (repeat' (first
  | (apply W.qd; (first
    | (apply q_mv; (conv => lhs; whnf))|(apply q_as; (conv => lhs; whnf))
    | (apply q_lss; exact rfl; exact rfl)))|(apply yA)|(apply yB)|(apply yC; kernel_rfl)|(apply yE)|(apply yI)|(apply yJ)|(apply yK)|(apply yM)
  | (refine W.cond _ rfl (fun hb => ?_) (fun hb => ?_) <;> ((try simp only [hb, zA, zB]) <;> (try simp only [zC, zD, zE, zF, zG, zH, zI, zJ] at hb) <;> (try (exfalso; omega))))))
    exact Ends.osl rfl rfl (by simp) rfl
theorem A_div {M : Nat} {a b : Nat} (hM : FldM M) (ha : a < 2 ^ M) (hb : b < 2 ^ M) (h0 : b ≠ 0) : ACalls Tryz.prog 186 [iV M, iV a, iV b] [] (.tup [iV (mu M a (invN M b) : Nat), iV 0]) [] := by
  refine acalls_of_body Tryz.func186 rfl (Nat.le_of_ble_eq_true rfl) ?_
  have ha' := hM.cap ha
  have hb' := hM.cap hb
  have hc := A_all M [a, b] (by simp) (by simp; omega)
  have hall : allF M [(a : Int), (b : Int)] = true := by
    unfold allF
    rw [decide_eq_true (by unfold FldM at hM; omega)]
    simp [inF_lt hM ha, inF_lt hM hb]
  rw [hall] at hc
  have hi := A_inverse hM hb h0
  have hp := A_product hM ha (b := invN M b) (invN_lt _)
  (repeat' (first
  | (apply W.qd; (first
    | (apply (yW (hc)); exact rfl; exact rfl; (iterate 3 kernel_rfl))|(apply (yW (hi)); exact rfl; exact rfl; (iterate 3 kernel_rfl))|(apply (yW (hp)); exact rfl; exact rfl; (iterate 3 kernel_rfl))|(apply q_mv; (conv => lhs; whnf))|(apply q_as; (conv => lhs; whnf))|(apply q_eql; exact rfl; exact rfl)|(apply q_not; exact rfl)
    | (apply q_litF; (iterate 5 exact rfl); kernel_rfl; kernel_rfl; exact rfl)))|(apply yA)|(apply yB)|(apply yC; kernel_rfl)|(apply yE)|(apply yG)|(apply yH)|(apply yJ)|(apply yL)|(apply yR; exact rfl)
  | (refine W.cond _ rfl (fun hb => ?_) (fun hb => ?_) <;> ((try simp only [hb, zA, zB]) <;> (try simp only [zC, zD, zE, zF, zG, zH, zI, zJ] at hb) <;> (try (exfalso; omega))))))
  exact Ends.two rfl rfl rfl
theorem A_coef {M D k : Nat} {ps : List (List Nat)} {row : List Nat} (hk : k < 1000) (hr : row.length = D) (hD : D ≤ 32) : ACalls Tryz.prog 185 [iV k, .opt 1 0, .opt 0 0] [.box [.d .any, iV M, iV D, rowsN ps, .d .any], .box [.osl 2 2 0 (D + 1)], .row 2 1 3 ((row ++ [1]).map kD)] (iV (coefN row D k)) [.box [.d .any, iV M, iV D, rowsN ps, .d .any], .box [.osl 2 2 0 (D + 1)], .row 2 1 3 ((row ++ [1]).map kD)] := by
  refine acalls_of_bodyO Tryz.func185 rfl (Nat.le_of_ble_eq_true rfl) ?_
  have hl : (row ++ [1]).length = D + 1 := by simp [hr]
  unfold coefN
  by_cases hkD : k < D
  · rw [if_pos hkD]
    have hmin : (if (D : Int) < (k : Int) then (D : Int) else (k : Int)) = ((k : Nat) : Int) := if_neg (by omega)
    (repeat' (first
  | (apply W.qd; (first
    | (apply q_mv; (conv => lhs; whnf))|(apply q_as; (conv => lhs; whnf))|(apply yS; (iterate 3 exact rfl))|(apply yT; (iterate 4 exact rfl))|(apply q_min; exact rfl; exact rfl)|(apply q_ix_osl0; (iterate 4 exact rfl); (first | (with_reducible exact rfl) | exact natI_spec rfl | assumption | exact (Int.toNat_of_nonneg (by omega)).symm); (first | omega | (focus (simp only [List.length_map]; omega)) | (focus (simp; done)) | (focus (simp; omega))))
    | (apply q_ld_rptm; (iterate 4 exact rfl); (first | omega | (focus (simp only [List.length_map]; omega)) | (focus (simp; done)) | (focus (simp; omega))))))|(apply yA)|(apply yB)|(apply yC; kernel_rfl)|(apply yE)
  | (apply yJ)))
    refine ⟨.inl rfl, [0, 1, 2], [_], rfl, rfl, ⟨rfl, trivial⟩, AVle.of_eq (iV_eq ?_), rfl⟩
    rw [List.getElem_append_left (by omega), List.getD_eq_getElem?_getD, List.getElem?_eq_getElem (show k < row.length by omega)]
    rfl
  · rw [if_neg hkD]
    have hmin : (if (D : Int) < (k : Int) then (D : Int) else (k : Int)) = ((D : Nat) : Int) := by split <;> omega
    (repeat' (first
  | (apply W.qd; (first
    | (apply q_mv; (conv => lhs; whnf))|(apply q_as; (conv => lhs; whnf))|(apply yS; (iterate 3 exact rfl))|(apply yT; (iterate 4 exact rfl))|(apply q_min; exact rfl; exact rfl)|(apply q_ix_osl0; (iterate 4 exact rfl); (first | (with_reducible exact rfl) | exact natI_spec rfl | assumption | exact (Int.toNat_of_nonneg (by omega)).symm); (first | omega | (focus (simp only [List.length_map]; omega)) | (focus (simp; done)) | (focus (simp; omega))))
    | (apply q_ld_rptm; (iterate 4 exact rfl); (first | omega | (focus (simp only [List.length_map]; omega)) | (focus (simp; done)) | (focus (simp; omega))))))|(apply yA)|(apply yB)|(apply yC; kernel_rfl)|(apply yE)
  | (apply yJ)))
    refine ⟨.inl rfl, [0, 1, 2], [_], rfl, rfl, ⟨rfl, trivial⟩, AVle.of_eq (iV_eq ?_), rfl⟩
    rw [List.getElem_append_right (by omega)]
    simp
end Go.Proofs.YtcljokdiblnhiaaGreatDoor
end
section
namespace Go.Proofs.YtcljokdiblnhiaaGreatDoor
open Go.RowKit
set_option maxHeartbeats 4000000
set_option maxRecDepth 100000
theorem cterms_take (M D : Nat) (row L : List Nat) (u k : Nat) (h : k < L.length) : ctermsN M D row (L.take (k + 1)) u = if L[k] = u then ctermsN M D row (L.take k) u else ctermsN M D row (L.take k) u ++ [(L[k], mu M (coefN row D L[k]) (invN M (coefN row D u)))] := by
  unfold ctermsN
  rw [List.take_succ_eq_append_getElem h, List.filter_append, List.map_append]
  by_cases e : L[k] = u
  · have e2 : (L[k] != u) = false := by simpa using e
    rw [if_pos e]; simp only [List.filter_cons, e2, Bool.false_eq_true, if_false, List.filter_nil, List.map_nil, List.append_nil]
  · have e2 : (L[k] != u) = true := by simpa using e
    rw [if_neg e]; simp only [List.filter_cons, e2, if_true, List.filter_nil, List.map_cons, List.map_nil]
theorem cterms_le (M D : Nat) (row L : List Nat) (u : Nat) : (ctermsN M D row L u).length ≤ L.length := by
  unfold ctermsN; rw [List.length_map]; exact List.length_filter_le _ _
def candC (M D : Nat) (ps : List (List Nat)) (oth : List Bool) (u : Nat) (I : List Nat) : List (List (Nat × Nat)) := (I.filter fun i => fullC oth (checkN D i (ps.getD i [])) u).map fun i => ctermsN M D (ps.getD i []) (checkN D i (ps.getD i [])) u
theorem candC_take (M D : Nat) (ps : List (List Nat)) (oth : List Bool) (u : Nat) (I : List Nat) (k : Nat) (h : k < I.length) : candC M D ps oth u (I.take (k + 1)) = if fullC oth (checkN D I[k] (ps.getD I[k] [])) u = true then candC M D ps oth u (I.take k) ++ [ctermsN M D (ps.getD I[k] []) (checkN D I[k] (ps.getD I[k] [])) u] else candC M D ps oth u (I.take k) := by
  unfold candC
  rw [List.take_succ_eq_append_getElem h, List.filter_append, List.map_append]
  by_cases e : fullC oth (checkN D I[k] (ps.getD I[k] [])) u = true
  · rw [if_pos e]; simp only [List.filter_cons, e, if_true, List.filter_nil, List.map_cons, List.map_nil]
  · have e2 := Bool.eq_false_iff.2 e
    rw [if_neg e]; simp only [List.filter_cons, e2, Bool.false_eq_true, if_false, List.filter_nil, List.map_nil, List.append_nil]
theorem candC_le (M D : Nat) (ps : List (List Nat)) (oth : List Bool) (u : Nat) (I : List Nat) : (candC M D ps oth u I).length ≤ I.length := by
  unfold candC; rw [List.length_map]; exact List.length_filter_le _ _
def misZ (oth : List Bool) (u : Nat) (x : Int) : Bool := !decide (x = (u : Int)) && !(oth.getD x.toNat false)
theorem misZ_full (oth : List Bool) (u : Nat) (l : List Nat) : (l.map fun n : Nat => (n : Int)).any (misZ oth u) = !fullC oth l u := by
  unfold fullC misZ
  rw [List.any_map, List.all_eq_not_any_not, Bool.not_not]
  congr 1
  funext x
  show (!decide ((x : Int) = (u : Int)) && !(oth.getD (x : Int).toNat false)) = !(x == u || oth.getD x false)
  rw [Int.toNat_natCast, Bool.not_or]
  congr 2
  rw [Bool.eq_iff_iff]
  simp
  omega
attribute [local irreducible] Quiet Eff OpOk AWPG ACont ABlock ACalls AGoto
theorem A_rterms {M D i u : Nat} {ps : List (List Nat)} (h : CodeOk M D ps) (hi : i < ps.length) (hu : u ∈ checkN D i (ps.getD i [])) : ACalls Tryz.prog 139 [cdN M D ps, nats (checkN D i (ps.getD i [])), iV u] [] (tmsA (ctermsN M D (ps.getD i []) (checkN D i (ps.getD i [])) u)) [] := by
  refine acalls_of_body Tryz.func139 rfl (Nat.le_of_ble_eq_true rfl) ?_
  have h1 := h.d
  have h2 := h.w
  have hM := h.f
  have hck := fun k (hk : k ∈ checkN D i (ps.getD i [])) => coef_ok h hi hk
  have hr := (h.row _ (List.getElem_mem hi)).1
  have e : ps.getD i [] = ps[i] := by rw [List.getD_eq_getElem?_getD, List.getElem?_eq_getElem hi]; rfl
  have hLl : (checkN D i (ps.getD i [])).length = (dataC D (ps.getD i []) D).length + 1 := by simp [checkN]
  have hLv : ∀ h : (dataC D (ps.getD i []) D).length < (checkN D i (ps.getD i [])).length, (checkN D i (ps.getD i []))[(dataC D (ps.getD i []) D).length] = D + i := fun h => by simp [checkN]
  have hLc := checkN_length D i (ps.getD i [])
  rw [e] at hck hLl hLv hLc hu ⊢
  generalize (dataC D ps[i] D).length = n at *
  have hs := fun k (hk : k < (checkN D i ps[i]).length) => Lib.hid (cterms_take M D ps[i] (checkN D i ps[i]) u k hk)
  have hle := fun k => cterms_le M D ps[i] ((checkN D i ps[i]).take k) u
  have h00 : ctermsN M D ps[i] ((checkN D i ps[i]).take 0) u = [] := rfl
  have hfull : ctermsN M D ps[i] ((checkN D i ps[i]).take (checkN D i ps[i]).length) u = ctermsN M D ps[i] (checkN D i ps[i]) u := by rw [List.take_length]
  generalize checkN D i ps[i] = L at *
  have hml : (L.map kD).length = L.length := List.length_map _
  have hi1 : (((L.map kD).length : Int) - 1) = ((n : Nat) : Int) := by omega
  have hv := hLv (by omega)
  have hi2 : ((L[n]'(by omega) : Nat) : Int) - (D : Int) = ((i : Nat) : Int) := by omega
  have hcl := A_clone (l := ps[i]) (by omega) (by omega)
  have hcoef := fun k (hk : k < 1000) => A_coef (M := M) (ps := ps) (row := ps[i]) hk hr (show D ≤ 32 by omega)
  have hlr : (ps[i]).length = D := hr
  generalize hC : (fun k => ctermsN M D ps[i] (L.take k) u) = CT
  have hC' : ∀ k, ctermsN M D ps[i] (L.take k) u = CT k := fun k => congrFun hC k
  simp only [hC'] at hs hle h00 hfull
  rw [← hfull]
  (repeat' (first
  | (apply W.qd; (apply q_as; (conv => lhs; whnf)))|(apply W.ed; (apply yBb; (iterate 3 exact rfl); kernel_rfl; kernel_rfl))|(apply yA)|(apply yB)|(apply (W.regionS 1); exact rfl; kernel_rfl)
  | (apply yE)))
  refine AWP.hole rfl (AWP.hole rfl ?_)
  (repeat' (first
  | (apply W.qd; (first
    | (apply q_mv; (conv => lhs; whnf))|(apply q_as; (conv => lhs; whnf))|(apply yS; (iterate 3 exact rfl))|(apply yT; (iterate 4 exact rfl))|(apply q_sub; exact rfl; exact rfl; omega)|(apply yV; exact rfl; exact rfl)|(apply yX; (iterate 3 exact rfl); (first | omega | (focus (simp; done))))|(apply q_makeFunc)|(apply q_litF; (iterate 5 exact rfl); kernel_rfl; kernel_rfl; exact rfl)
    | (apply yGb; (iterate 4 exact rfl); (first | (with_reducible exact rfl) | exact natI_spec rfl | assumption | exact (Int.toNat_of_nonneg (by omega)).symm); (first | omega | (focus (simp only [List.length_map]; omega)) | (focus (simp; done)) | (focus (simp; omega))))))
  | (apply W.ld; (first
    | (apply (l_call (hcl)); (iterate 4 exact rfl); kernel_rfl; kernel_rfl)|(apply (l_app1 (f := kD) 1); (iterate 8 exact rfl); omega)
    | (apply l_alloc; (iterate 3 exact rfl); kernel_rfl; kernel_rfl)))|(apply W.ln; (apply l_st_box; (iterate 6 exact rfl); (iterate 3 kernel_rfl)))|(apply yA)|(apply yB)|(apply yC; kernel_rfl)|(apply yD; exact rfl; kernel_rfl)|(apply yE)|(apply yF; kernel_rfl)
  | (apply yG)))
  refine AWP.nilRow 9 2 92 rfl (by omega) ?_
  refine AWP.loopW (α := Nat) (fun k => k ≤ L.length) (fun k => ⟨[(33, iV k), (32, iV L.length), (31, nats L), (2, iV u), (8, .fn 185 [.opt 2 0, .opt 0 0]), (3, .opt 0 0), (9, .osl 3 (CT k).length 0 (CT k).length)], [.box [.d .any, iV M, iV D, rowsN ps, .d .any], .row 2 1 3 ((ps[i] ++ [1]).map kD), .box [.osl 1 2 0 (D + 1)], .row (CT k).length 2 92 ((CT k).map tmD)]⟩) (fun k => L.length - k) 0 (by omega) ?wk0 fun k hk => ?_
  case wk0 =>
    rw [h00]
    refine ⟨[0, 1, 2, 3], rfl, rfl, ?_, rfl, iV_eq (by simp), rfl, rfl, rfl, rfl, rfl, trivial⟩
    have e9 : (ps[i] ++ [1]).length = D + 1 := by simp [hr]
    show _ = _
    rw [← e9]
    rfl
  have hlc := hle k
  have hlk : (L.take k).length ≤ 33 := by rw [List.length_take]; omega
  by_cases hkl : k < L.length
  · have hs2 := hs k hkl
    have hk1 := hck L[k] (List.getElem_mem hkl)
    have hu1 := hck u hu
    have c1 := hcoef L[k] (by omega)
    have c2 := hcoef u (by omega)
    have c3 := A_div hM hk1.2.1 hu1.2.1 hu1.2.2
    generalize coefN ps[i] D L[k] = a at *
    generalize coefN ps[i] D u = b at *
    by_cases hku : L[k] = u
    · replace hs2 := Lib.hid (hs2.out.trans (if_pos hku))
      (repeat' (first
  | (apply W.qd; (first
    | (apply q_mv; (conv => lhs; whnf))|(apply q_as; (conv => lhs; whnf))|(apply q_lss; exact rfl; exact rfl)|(apply q_neq; exact rfl; exact rfl)|(apply q_add; exact rfl; exact rfl; omega)|(apply yX; (iterate 3 exact rfl); (first | omega | (focus (simp; done))))
    | (apply yGb; (iterate 4 exact rfl); (first | (with_reducible exact rfl) | exact natI_spec rfl | assumption | exact (Int.toNat_of_nonneg (by omega)).symm); (first | omega | (focus (simp only [List.length_map]; omega)) | (focus (simp; done)) | (focus (simp; omega))))))|(apply yA)|(apply yB)|(apply yC; kernel_rfl)|(apply yE)|(apply yG)|(apply yH)|(apply yL)
  | (refine W.cond _ rfl (fun hb => ?_) (fun hb => ?_) <;> ((try simp only [hb, zA, zB]) <;> (try simp only [zC, zD, zE, zF, zG, zH, zI, zJ] at hb) <;> (try (exfalso; omega))))))
      refine ⟨k + 1, by omega, by omega, ?_⟩
      rw [hs2.out]
      exact ⟨[0, 1, 2, 3], rfl, rfl, rfl, iV_eq (by omega), rfl, rfl, rfl, rfl, rfl, rfl, trivial⟩
    · replace hs2 := Lib.hid (hs2.out.trans (if_neg hku))
      (repeat' (first
  | (apply W.qd; (first
    | (apply (q_callR (js := [0, 2, 1]) (c1)); (iterate 3 exact rfl); exact fun _ => rfl; exact fun _ => rfl; kernel_rfl; kernel_rfl)|(apply (q_callR (js := [0, 2, 1]) (c2)); (iterate 3 exact rfl); exact fun _ => rfl; exact fun _ => rfl; kernel_rfl; kernel_rfl)|(apply (yW (c3)); exact rfl; exact rfl; (iterate 3 kernel_rfl))|(apply q_mv; (conv => lhs; whnf))|(apply q_as; (conv => lhs; whnf))|(apply yS; (iterate 3 exact rfl))|(apply yT; (iterate 4 exact rfl))|(apply q_lss; exact rfl; exact rfl)|(apply q_neq; exact rfl; exact rfl)|(apply q_add; exact rfl; exact rfl; omega)|(apply yAb; exact rfl; exact rfl)|(apply yX; (iterate 3 exact rfl); (first | omega | (focus (simp; done))))|(apply yZ; exact rfl; exact rfl; kernel_rfl)|(apply q_litF; (iterate 5 exact rfl); kernel_rfl; kernel_rfl; exact rfl)
    | (apply yGb; (iterate 4 exact rfl); (first | (with_reducible exact rfl) | exact natI_spec rfl | assumption | exact (Int.toNat_of_nonneg (by omega)).symm); (first | omega | (focus (simp only [List.length_map]; omega)) | (focus (simp; done)) | (focus (simp; omega))))))|(apply W.ld; (apply (l_app1 (f := tmD) (L[k], mu M a (invN M b))); (iterate 8 exact rfl); omega))|(apply yA)|(apply yB)|(apply yC; kernel_rfl)|(apply yD; exact rfl; kernel_rfl)|(apply yE)|(apply yF; kernel_rfl)|(apply yG)|(apply yH)|(apply yL)
  | (refine W.cond _ rfl (fun hb => ?_) (fun hb => ?_) <;> ((try simp only [hb, zA, zB]) <;> (try simp only [zC, zD, zE, zF, zG, zH, zI, zJ] at hb) <;> (try (exfalso; omega))))))
      refine ⟨k + 1, by omega, by omega, ?_⟩
      rw [hs2.out, show (CT k ++ [(L[k], mu M a (invN M b))]).length = (CT k).length + 1 by simp]
      exact ⟨[0, 1, 2, 3], rfl, rfl, rfl, iV_eq (by omega), rfl, rfl, rfl, rfl, rfl, congrArg (AV.osl 3 ((CT k).length + 1) 0) (by simp), trivial⟩
  · have e4 : k = L.length := by omega
    subst e4
    generalize CT L.length = A at *
    (repeat' (first
  | (apply W.qd; (first
    | (apply q_mv; (conv => lhs; whnf))|(apply q_as; (conv => lhs; whnf))
    | (apply q_lss; exact rfl; exact rfl)))|(apply yA)|(apply yB)|(apply yC; kernel_rfl)|(apply yE)|(apply yI)|(apply yJ)|(apply yK)|(apply yM)
  | (refine W.cond _ rfl (fun hb => ?_) (fun hb => ?_) <;> ((try simp only [hb, zA, zB]) <;> (try simp only [zC, zD, zE, zF, zG, zH, zI, zJ] at hb) <;> (try (exfalso; omega))))))
    exact Ends.osl rfl rfl (by simp) rfl
theorem A_fits {M D : Int} {par : List (List Int)} {hv : List Bool} (hp : CodeIn par) : ACalls Tryz.prog 135 [cdA M D par, bools hv] [] (bV (validC M D par && decide ((hv.length : Int) = D + (par.length : Int)))) [] := by
  refine acalls_of_bodyO Tryz.func135 rfl (Nat.le_of_ble_eq_true rfl) ?_
  have h0 := A_evalid (M := M) (D := D) hp
  have h1 := A_ewidth (M := M) (D := D) hp
  have hmh : (hv.map tD).length = hv.length := List.length_map _
  cases hv2 : validC M D par
  · rw [hv2] at h0
    (repeat' (first
  | (apply W.qd; (first
    | (apply (yW (h0)); exact rfl; exact rfl; (iterate 3 kernel_rfl))|(apply q_mv; (conv => lhs; whnf))|(apply q_as; (conv => lhs; whnf))|(apply yU; (iterate 4 exact rfl))
    | (apply (yDb (u := .d _)); exact rfl; exact rfl)))|(apply W.ed; (apply yBb; (iterate 3 exact rfl); kernel_rfl; kernel_rfl))|(refine W.gOff _ _ rfl rfl (by intro h; cases h) ?_)|(apply yA)|(apply yB)|(apply yC; kernel_rfl)|(apply yE)
  | (apply yJ)))
    all_goals exact ⟨.inl rfl, [], [bV false], rfl, rfl, ⟨rfl, trivial⟩, AVle.of_eq rfl, rfl⟩
  · rw [hv2] at h0
    rw [hv2, if_pos rfl] at h1
    (repeat' (first
  | (apply yFb; exact rfl; exact rfl)
  | (apply W.qd; (first
    | (apply (yW (h0)); exact rfl; exact rfl; (iterate 3 kernel_rfl))|(apply (yW (h1)); exact rfl; exact rfl; (iterate 3 kernel_rfl))|(apply q_mv; (conv => lhs; whnf))|(apply q_as; (conv => lhs; whnf))|(apply yU; (iterate 4 exact rfl))|(apply q_eql; exact rfl; exact rfl)|(apply yV; exact rfl; exact rfl)
    | (apply (yEb (u := .d _)); exact rfl; exact rfl)))|(apply W.ed; (apply yBb; (iterate 3 exact rfl); kernel_rfl; kernel_rfl))|(apply yA)|(apply yB)|(apply yC; kernel_rfl)|(apply yE)
  | (apply yJ)))
    all_goals exact ⟨.inl rfl, [], [bV _], rfl, rfl, ⟨rfl, trivial⟩, AVle.of_eq (congrArg bV (by rw [hmh]; rfl)), rfl⟩
theorem A_missing {u k : Nat} {oth : List Bool} (hk : k < oth.length) : ACalls Tryz.prog 137 [iV k, .opt 0 0, .opt 1 0] [.box [iV u], .box [bools oth]] (bV (misZ oth u k)) [.box [iV u], .box [bools oth]] := by
  refine acalls_of_bodyO Tryz.func137 rfl (Nat.le_of_ble_eq_true rfl) ?_
  unfold misZ
  have e : oth.getD (k : Int).toNat false = oth[k] := by rw [Int.toNat_natCast, List.getD_eq_getElem?_getD, List.getElem?_eq_getElem hk]; rfl
  rw [e]
  by_cases hku : k = u
  · rw [decide_eq_true (show (k : Int) = u by omega)]
    (repeat' (first
  | (apply W.qd; (first
    | (apply q_mv; (conv => lhs; whnf))|(apply q_as; (conv => lhs; whnf))|(apply yT; (iterate 4 exact rfl))|(apply q_neq; exact rfl; exact rfl)
    | (apply (yDb (u := .d _)); exact rfl; exact rfl)))|(refine W.gOff _ _ rfl rfl (by intro h; cases h) ?_)|(apply yA)|(apply yB)|(apply yC; kernel_rfl)|(apply yE)|(apply yJ)
  | (refine W.gT _ _ rfl rfl (fun hb => ?_) (fun hb => ?_) <;> ((try simp only [hb, zA, zB]) <;> (try simp only [zC, zD, zE, zF, zG, zH, zI, zJ] at hb) <;> (try (exfalso; omega))))))
    all_goals exact ⟨.inl rfl, [0, 1], [bV false], rfl, rfl, ⟨rfl, trivial⟩, AVle.of_eq rfl, rfl⟩
  · rw [decide_eq_false (show ¬ (k : Int) = u by omega)]
    (repeat' (first
  | (apply yFb; exact rfl; exact rfl)
  | (apply W.qd; (first
    | (apply q_mv; (conv => lhs; whnf))|(apply q_as; (conv => lhs; whnf))|(apply yT; (iterate 4 exact rfl))|(apply q_neq; exact rfl; exact rfl)|(apply q_not; exact rfl)|(apply yX; (iterate 3 exact rfl); (first | omega | (focus (simp; done))))|(apply yGb; (iterate 4 exact rfl); (first | (with_reducible exact rfl) | exact natI_spec rfl | assumption | exact (Int.toNat_of_nonneg (by omega)).symm); (first | omega | (focus (simp only [List.length_map]; omega)) | (focus (simp; done)) | (focus (simp; omega))))
    | (apply (yEb (u := .d _)); exact rfl; exact rfl)))|(apply yA)|(apply yB)|(apply yC; kernel_rfl)|(apply yE)|(apply yJ)
  | (refine W.gT _ _ rfl rfl (fun hb => ?_) (fun hb => ?_) <;> ((try simp only [hb, zA, zB]) <;> (try simp only [zC, zD, zE, zF, zG, zH, zI, zJ] at hb) <;> (try (exfalso; omega))))))
    all_goals exact ⟨.inl rfl, [0, 1], [bV (!oth[k])], rfl, rfl, ⟨rfl, trivial⟩, AVle.of_eq rfl, rfl⟩
abbrev pl0 : AV := .agg [iV 0, tmsA []]
theorem pl0_le (e : Int) : AVle (.tup [.agg [iV 0, .d (.v (.slice none 0 0))], iV e]) (.tup [pl0, iV e]) :=
  AVle.tup ⟨AVle.agg ⟨AVle.refl _, AVle.nil 2, trivial⟩, AVle.refl _, trivial⟩
def planA (u : Nat) : Option (List (Nat × Nat)) → AV
  | some l => .tup [.agg [iV u, tmsA l], iV 0]
  | none => .tup [pl0, iV 11]
theorem Ends.cell2le {P : Program} {env : List (Nat × AV)} {own : List Ent} {t p i : Nat} {tyc : TypeId} {l : List AV} {y r : AV} (hx : look env p = .opt i 0) (ho : own[i]? = some (.box l)) (ht : tyInfo P tyc = some (true, l.length)) (hy : look env t = y) (hr : AVle (AV.frz own [] (.tup [.agg l, y])) r) : Ends P [.cell p tyc, .tmp t] r [] .ret ⟨env, own⟩ :=
  ⟨.inl rfl, [], [.agg l, y], rfl, ⟨⟨i, l, true, hx, ho, ht, rfl⟩, hy, trivial⟩, hr, rfl⟩
theorem A_plan {M D u : Nat} {ps : List (List Nat)} {hv : List Bool} (h : CodeOk M D ps) (hl : hv.length = D + ps.length) (hu : u < D + ps.length) : ACalls Tryz.prog 82 [cdN M D ps, bools hv, iV u] [] (planA u (planN M D ps hv u)) [] := by
  have hl2 : (hv.set u false).length = D + ps.length := by rw [List.length_set]; exact hl
  have h1 := h.d
  have h2 := h.w
  have hfit := A_fits (M := M) (D := D) (hv := hv) (code_in h)
  have hpl : (toZ ps).length = ps.length := List.length_map _
  rw [valid_ok h, hpl, decide_eq_true (show (hv.length : Int) = D + (ps.length : Int) by omega), ← cdN_A] at hfit
  have hcl := A_cloneB (l := hv) (by omega) (by omega)
  have hcomb := A_comb h hl2 hu
  have hchk := A_checks (u := (u : Int)) h
  rw [chkZ_nat] at hchk
  have hIlt : ∀ i ∈ chkI D ps u ps.length, i < ps.length ∧ u ∈ checkN D i (ps.getD i []) := fun i hi => by
    obtain ⟨q1, q2⟩ := List.mem_filter.1 hi
    exact ⟨List.mem_range.1 q1, by simpa using q2⟩
  have hIl : (chkI D ps u ps.length).length ≤ ps.length := by rw [← chkZ_nat]; exact chkZ_length _ _ _ _
  have hterm := fun i hi => A_rterms h (hIlt i hi).1 (hIlt i hi).2
  have hcb := fun i => checkN_length D i (ps.getD i [])
  have hmem : ∀ i ∈ chkI D ps u ps.length, ∀ k ∈ checkN D i (ps.getD i []), k < D + ps.length := fun i hi k hk => (coef_ok h (hIlt i hi).1 hk).1
  have hcs := fun k (hk : k < (chkI D ps u ps.length).length) => Lib.hid (candC_take M D ps (hv.set u false) u (chkI D ps u ps.length) k hk)
  have hcl3 := fun k => candC_le M D ps (hv.set u false) u ((chkI D ps u ps.length).take k)
  have hP : planN M D ps hv u = bestN ((combN M D ps (hv.set u false) u).toList ++ candC M D ps (hv.set u false) u ((chkI D ps u ps.length).take (chkI D ps u ps.length).length)) := by rw [List.take_length]; rfl
  have hc0 : candC M D ps (hv.set u false) u ((chkI D ps u ps.length).take 0) = [] := rfl
  have hall : ∀ x ∈ (combN M D ps (hv.set u false) u).toList ++ candC M D ps (hv.set u false) u ((chkI D ps u ps.length).take (chkI D ps u ps.length).length), x.length ≤ 1000 := fun x hx => by
    rcases List.mem_append.1 hx with hx | hx
    · cases hc : combN M D ps (hv.set u false) u with
      | none => rw [hc] at hx; simp at hx
      | some y =>
        rw [hc] at hx
        obtain rfl : x = y := by simpa using hx
        have := (comb_ok h hl2 hu hc).le
        have := basis_len h hl2
        omega
    · unfold candC at hx
      obtain ⟨i, _, rfl⟩ := List.mem_map.1 hx
      have := cterms_le M D (ps.getD i []) (checkN D i (ps.getD i [])) u
      have := checkN_length D i (ps.getD i [])
      omega
  have hcombl : ∀ y, combN M D ps (hv.set u false) u = some y → y.length ≤ 1000 := fun y hc => hall y (by rw [hc]; simp)
  generalize chkI D ps u ps.length = I at *
  generalize planN M D ps hv u = PL at *
  generalize hC : (fun k => candC M D ps (hv.set u false) u (I.take k)) = CC at *
  have hC' : ∀ k, candC M D ps (hv.set u false) u (I.take k) = CC k := fun k => congrFun hC k
  simp only [hC'] at hcs hcl3 hP hc0 hall
  generalize combN M D ps (hv.set u false) u = CO at *
  generalize hCh : (fun i => checkN D i (ps.getD i [])) = CK at *
  have hCh' : ∀ i, checkN D i (ps.getD i []) = CK i := fun i => congrFun hCh i
  simp only [hCh'] at hterm hcb hmem hcs
  have hmis := fun k (hk : k < (hv.set u false).length) => A_missing (u := u) hk
  have hlo : (hv.set u false).length = D + ps.length := hl2
  have hmh : (hv.map tD).length = hv.length := List.length_map _
  refine acalls_of_body Tryz.func82 rfl (Nat.le_of_ble_eq_true rfl) ?_
  (repeat' (first
  | (apply yFb; exact rfl; exact rfl)
  | (apply W.qd; (first
    | (apply (yW (hfit)); exact rfl; exact rfl; (iterate 3 kernel_rfl))|(apply q_mv; (conv => lhs; whnf))|(apply q_as; (conv => lhs; whnf))|(apply yT; (iterate 4 exact rfl))|(apply yU; (iterate 4 exact rfl))|(apply q_lss; exact rfl; exact rfl)|(apply q_geq; exact rfl; exact rfl)|(apply q_not; exact rfl)|(apply yV; exact rfl; exact rfl)|(apply (yDb (u := .d _)); exact rfl; exact rfl)
    | (apply q_ix_osl0; (iterate 4 exact rfl); (first | (with_reducible exact rfl) | exact natI_spec rfl | assumption | exact (Int.toNat_of_nonneg (by omega)).symm); (first | omega | (focus (simp only [List.length_map]; omega)) | (focus (simp; done)) | (focus (simp; omega))))))
  | (apply W.ed; (first
    | (apply (e_callJ (js := []) (hcl)); (iterate 5 exact rfl); kernel_rfl; kernel_rfl)|(apply yBb; (iterate 3 exact rfl); kernel_rfl; kernel_rfl)
    | (apply yCb; (iterate 3 exact rfl); kernel_rfl)))
  | (apply W.ln; (first
    | (apply l_st_box; (iterate 6 exact rfl); (iterate 3 kernel_rfl))
    | (apply l_st_rpt; (iterate 7 exact rfl); exact fun _ => rfl; (first | omega | (focus (simp only [List.length_map]; omega)) | (focus (simp; omega))))))|(apply yA)|(apply yB)|(apply (W.regionS 5); exact rfl; kernel_rfl)|(apply yE)|(apply yH)
  | (refine W.cond _ rfl (fun hb => ?_) (fun hb => ?_) <;> ((try simp only [hb, zA, zB]) <;> (try simp only [zC, zD, zE, zF, zG, zH, zI, zJ] at hb) <;> (try (exfalso; omega))))))
  refine AWP.wk ⟨[(3, .opt 0 0), (5, .opt 1 0), (6, .opt 2 0), (7, iV 0), (8, .opt 3 0), (1, bools hv)], [.box [.d .any, iV M, iV D, rowsN ps, .d .any], .box [iV u], .box [iV 0, .d (.v (.slice none 0 0))], .box [bools (hv.set u false)]]⟩ ⟨[0, 1, 2, 4], rfl, rfl, ?wkPl, rfl, rfl, rfl, rfl, rfl, rfl, trivial⟩ ?_
  case wkPl =>
    have z := frz_rowJ (own := [.box [.d .any, iV M, iV D, rowsN ps, .d .any], .box [iV u], .box [iV 0, .d (.v (.slice none 0 0))], .row 1 1 4 ((hv.set u false).map tD), .box [.osl 3 1 0 hv.length]]) (js := [0, 1, 2, 4]) (i := 3) (ver := 1) (n := hv.length) rfl rfl (by simp)
    exact congrArg (fun z => [Ent.box [.d .any, iV M, iV D, rowsN ps, .d .any], .box [iV u], .box [iV 0, .d (.v (.slice none 0 0))], .box [z]]) z.symm
  generalize hv.set u false = OT at *
  (repeat' (first
  | (apply W.qd; (apply q_as; (conv => lhs; whnf)))|(apply yA)|(apply yB)|(apply (W.regionS 6); exact rfl; kernel_rfl)
  | (apply yE)))
  refine AWP.nilRow 9 1 82 rfl (by omega) ?_
  have hmi : ((I.map CK).map rnD).length = I.length := by simp
  have hmi2 : (I.map CK).length = I.length := by simp
  have e1 : ∀ (n : Nat), AV.osl 4 n 0 n = AV.osl 4 n 0 n := fun _ => rfl
  cases CO with
  | none => ?_
  | some t0 => ?_
  all_goals unfold termsA at hcomb
  all_goals dsimp only at hcomb
  all_goals (repeat' (first
  | (apply W.qd; (first
    | (apply (yW (hcomb)); exact rfl; exact rfl; (iterate 3 kernel_rfl))|(apply q_mv; (conv => lhs; whnf))|(apply q_as; (conv => lhs; whnf))|(apply yT; (iterate 4 exact rfl))|(apply yU; (iterate 4 exact rfl))|(apply q_eql; exact rfl; exact rfl)|(apply yAb; exact rfl; exact rfl)|(apply q_makeFunc)
    | (apply q_litF; (iterate 5 exact rfl); kernel_rfl; kernel_rfl; exact rfl)))|(apply W.ed; (apply e_appF; (iterate 8 exact rfl); (first | rfl | simp); (first | exact Nat.zero_lt_one | (focus (simp; done)) | omega); (first | (focus (simp; done)) | (focus (simp; omega)) | omega)))|(apply yA)|(apply yB)|(apply (W.regionS 10); exact rfl; kernel_rfl)|(apply yE)|(apply yH)|(apply yQ; exact rfl)
  | (apply yR; exact rfl)))
  rotate_left
  · refine AWP.wk ⟨[(9, .osl 4 [t0].length 0 [t0].length), (12, .fn 137 [.opt 1 0, .opt 3 0]), (3, .opt 0 0), (5, .opt 1 0), (6, .opt 2 0), (7, iV 0)], [.box [.d .any, iV M, iV D, rowsN ps, .d .any], .box [iV u], .box [iV 0, .d (.v (.slice none 0 0))], .box [bools OT], .row [t0].length 1 82 ([t0].map tlD)]⟩ ⟨[0, 1, 2, 3, 4], rfl, rfl, rfl, rfl, rfl, rfl, rfl, rfl, rfl, trivial⟩ ?_
    have hB1 : [t0].length ≤ 1 := Nat.le_refl _
    rw [show (some t0).toList = [t0] from rfl] at hP hall
    generalize [t0] = B at *
    (repeat' (first
  | (apply W.qd; (first
    | (apply (yW (hchk)); exact rfl; exact rfl; (iterate 3 kernel_rfl))|(apply q_mv; (conv => lhs; whnf))|(apply yT; (iterate 4 exact rfl))|(apply yU; (iterate 4 exact rfl))
    | (apply yV; exact rfl; exact rfl)))|(apply yB)|(apply yC; kernel_rfl)|(apply yE)
  | (apply yG)))
    refine AWP.loopW (α := Nat) (fun k => k ≤ I.length) (fun k => ⟨[(55, iV k), (54, iV I.length), (53, rowsN (I.map CK)), (9, .osl 4 (B ++ CC k).length 0 (B ++ CC k).length), (12, .fn 137 [.opt 1 0, .opt 3 0]), (3, .opt 0 0), (5, .opt 1 0), (6, .opt 2 0), (7, iV 0)], [.box [.d .any, iV M, iV D, rowsN ps, .d .any], .box [iV u], .box [iV 0, .d (.v (.slice none 0 0))], .box [bools OT], .row (B ++ CC k).length 1 82 ((B ++ CC k).map tlD)]⟩) (fun k => I.length - k) 0 (by omega) ?wkA fun k hk => ?_
    case wkA =>
      rw [hc0, List.append_nil]
      exact ⟨[0, 1, 2, 3, 4], rfl, rfl, rfl, rfl, iV_eq (by simp), rfl, rfl, rfl, rfl, rfl, rfl, rfl, trivial⟩
    have hlL : (B ++ CC k).length ≤ 100 := by
      have := hcl3 k
      rw [List.length_append]
      rw [List.length_take] at this
      omega
    by_cases hkI : k < I.length
    · have hIk := List.getElem_mem hkI
      have eK : (I.map CK)[k]'(by simpa using hkI) = CK I[k] := List.getElem_map _
      have hs2 := hcs k hkI
      have ht1 := hterm I[k] hIk
      have hcbk := hcb I[k]
      have hcf := A_contains_int (O := [.box [iV u], .box [bools OT]]) (g := 137) (caps := [.opt 0 0, .opt 1 0]) (misZ OT u) ((CK I[k]).map fun n : Nat => (n : Int)) (by rw [List.length_map]; omega) (by kernel_rfl) (fun x hx => by
        obtain ⟨y, hy, rfl⟩ := List.mem_map.1 hx
        exact hmis y (by rw [hlo]; exact hmem _ hIk y hy))
      rw [misZ_full, ← nats_ints] at hcf
      have htl := cterms_le M D (ps.getD I[k] []) (CK I[k]) u
      generalize ctermsN M D (ps.getD I[k] []) (CK I[k]) u = TT at *
      rw [← eK] at ht1 hcf
      rw [← eK] at hs2
      cases hfu : fullC OT ((I.map CK)[k]'(by simpa using hkI)) u <;> rw [hfu] at hcf hs2
      · replace hs2 := Lib.hid (hs2.out.trans (if_neg (by decide)))
        (repeat' (first
  | (apply W.qd; (first
    | (apply q_mv; (conv => lhs; whnf))|(apply q_as; (conv => lhs; whnf))|(apply q_lss; exact rfl; exact rfl)|(apply q_not; exact rfl)|(apply q_add; exact rfl; exact rfl; omega)|(apply yX; (iterate 3 exact rfl); (first | omega | (focus (simp; done))))
    | (apply yGb; (iterate 4 exact rfl); (first | (with_reducible exact rfl) | exact natI_spec rfl | assumption | exact (Int.toNat_of_nonneg (by omega)).symm); (first | omega | (focus (simp only [List.length_map]; omega)) | (focus (simp; done)) | (focus (simp; omega))))))|(apply W.ed; (apply (e_callJ (js := [1, 3]) (hcf)); (iterate 5 exact rfl); kernel_rfl; kernel_rfl))|(apply yA)|(apply yB)|(apply yC; kernel_rfl)|(apply yE)|(apply yG)|(apply yH)|(apply yL)|(apply yR; exact rfl)
  | (refine W.cond _ rfl (fun hb => ?_) (fun hb => ?_) <;> ((try simp only [hb, zA, zB]) <;> (try simp only [zC, zD, zE, zF, zG, zH, zI, zJ] at hb) <;> (try (exfalso; omega))))))
        refine ⟨k + 1, by omega, by omega, ?_⟩
        rw [hs2.out]
        exact ⟨[0, 1, 2, 3, 4], rfl, rfl, rfl, iV_eq (by omega), rfl, rfl, rfl, rfl, rfl, rfl, rfl, rfl, trivial⟩
      · replace hs2 := Lib.hid (hs2.out.trans (if_pos rfl))
        (repeat' (first
  | (apply W.qd; (first
    | (apply (yW (ht1)); exact rfl; exact rfl; (iterate 3 kernel_rfl))|(apply q_mv; (conv => lhs; whnf))|(apply q_as; (conv => lhs; whnf))|(apply yT; (iterate 4 exact rfl))|(apply yU; (iterate 4 exact rfl))|(apply q_lss; exact rfl; exact rfl)|(apply q_not; exact rfl)|(apply q_add; exact rfl; exact rfl; omega)|(apply yX; (iterate 3 exact rfl); (first | omega | (focus (simp; done))))|(apply q_litF; (iterate 5 exact rfl); kernel_rfl; kernel_rfl; exact rfl)
    | (apply yGb; (iterate 4 exact rfl); (first | (with_reducible exact rfl) | exact natI_spec rfl | assumption | exact (Int.toNat_of_nonneg (by omega)).symm); (first | omega | (focus (simp only [List.length_map]; omega)) | (focus (simp; done)) | (focus (simp; omega))))))|(apply W.ld; (apply l_app1; (iterate 8 exact rfl); (first | omega | (focus (simp; omega)) | (focus (simp; done)))))|(apply W.ed; (apply (e_callJ (js := [1, 3]) (hcf)); (iterate 5 exact rfl); kernel_rfl; kernel_rfl))|(apply yA)|(apply yB)|(apply yC; kernel_rfl)|(apply yE)|(apply yG)|(apply yH)|(apply yL)|(apply yQ; exact rfl)
  | (refine W.cond _ rfl (fun hb => ?_) (fun hb => ?_) <;> ((try simp only [hb, zA, zB]) <;> (try simp only [zC, zD, zE, zF, zG, zH, zI, zJ] at hb) <;> (try (exfalso; omega))))))
        refine ⟨k + 1, by omega, by omega, ?_⟩
        rw [hs2.out, ← List.append_assoc, show ((B ++ CC k) ++ [TT]).length = (B ++ CC k).length + 1 by simp; omega]
        exact ⟨[0, 1, 2, 3, 4], rfl, rfl, rfl, iV_eq (by omega), rfl, rfl, congrArg (AV.osl 4 ((B ++ CC k).length + 1) 0) (by simp), rfl, rfl, rfl, rfl, rfl, trivial⟩
    · have e3 : k = I.length := by omega
      subst e3
      rw [hP]
      generalize B ++ CC I.length = L at *
      refine AWP.wk ⟨[(55, iV I.length), (54, iV I.length), (9, tlsA L), (3, .opt 0 0), (5, .opt 1 0), (6, .opt 2 0), (7, iV 0)], [.box [.d .any, iV M, iV D, rowsN ps, .d .any], .box [iV u], .box [iV 0, .d (.v (.slice none 0 0))], .box [bools OT]]⟩ ⟨[0, 1, 2, 3], rfl, rfl, rfl, rfl, rfl, (frz_rowJ rfl rfl (by simp)).symm, rfl, rfl, rfl, rfl, trivial⟩ ?_
      have hmL : (L.map tlD).length = L.length := List.length_map _
      by_cases hL0 : L = []
      · subst hL0
        (repeat' (first
  | (apply W.qd; (first
    | (apply q_mv; (conv => lhs; whnf))|(apply q_as; (conv => lhs; whnf))|(apply q_lss; exact rfl; exact rfl)|(apply q_eql; exact rfl; exact rfl)|(apply yV; exact rfl; exact rfl)
    | (apply yZ; exact rfl; exact rfl; kernel_rfl)))|(apply W.ln; (apply l_st_box; (iterate 6 exact rfl); (iterate 3 kernel_rfl)))|(apply yA)|(apply yB)|(apply yC; kernel_rfl)|(apply yE)|(apply yI)|(apply yJ)|(apply yK)|(apply yP)|(apply yM)|(apply yQ; exact rfl)
  | (refine W.cond _ rfl (fun hb => ?_) (fun hb => ?_) <;> ((try simp only [hb, zA, zB]) <;> (try simp only [zC, zD, zE, zF, zG, zH, zI, zJ] at hb) <;> (try (exfalso; omega))))))
        exact Ends.cell2le rfl rfl rfl rfl (pl0_le 11)
      · have hLp : 0 < L.length := List.length_pos_iff.2 hL0
        have hmin := A_minFunc L hLp (by omega) (fun t ht => by have := hall t ht; omega)
        have hbs : bestN L = some ((bestN L).getD []) := by
          cases L with
          | nil => exact absurd rfl hL0
          | cons a l => rfl
        rw [hbs]
        generalize (bestN L).getD [] = RR at *
        (repeat' (first
  | (apply W.qd; (first
    | (apply q_mv; (conv => lhs; whnf))|(apply q_as; (conv => lhs; whnf))|(apply yT; (iterate 4 exact rfl))|(apply q_lss; exact rfl; exact rfl)|(apply q_eql; exact rfl; exact rfl)|(apply yV; exact rfl; exact rfl)|(apply yZ; exact rfl; exact rfl; kernel_rfl)
    | (apply q_makeFunc)))
  | (apply W.ed; (first
    | (apply (e_callJ (js := [4]) (hmin)); (iterate 5 exact rfl); kernel_rfl; kernel_rfl)
    | (apply yCb; (iterate 3 exact rfl); kernel_rfl)))|(apply W.ln; (apply l_st_box; (iterate 6 exact rfl); (iterate 3 kernel_rfl)))|(apply yA)|(apply yB)|(apply yC; kernel_rfl)|(apply yE)|(apply yH)|(apply yI)|(apply yJ)|(apply yK)|(apply yM)
  | (refine W.cond _ rfl (fun hb => ?_) (fun hb => ?_) <;> ((try simp only [hb, zA, zB]) <;> (try simp only [zC, zD, zE, zF, zG, zH, zI, zJ] at hb) <;> (try (exfalso; omega))))))
        exact Ends.cell2 rfl rfl rfl rfl rfl
  · refine AWP.wk ⟨[(9, .osl 4 ([] : List (List (Nat × Nat))).length 0 ([] : List (List (Nat × Nat))).length), (12, .fn 137 [.opt 1 0, .opt 3 0]), (3, .opt 0 0), (5, .opt 1 0), (6, .opt 2 0), (7, iV 0)], [.box [.d .any, iV M, iV D, rowsN ps, .d .any], .box [iV u], .box [iV 0, .d (.v (.slice none 0 0))], .box [bools OT], .row ([] : List (List (Nat × Nat))).length 1 82 (([] : List (List (Nat × Nat))).map tlD)]⟩ ⟨[0, 1, 2, 3, 4], rfl, rfl, rfl, rfl, rfl, rfl, rfl, rfl, rfl, trivial⟩ ?_
    have hB1 : ([] : List (List (Nat × Nat))).length ≤ 1 := Nat.zero_le _
    rw [show (none : Option (List (Nat × Nat))).toList = [] from rfl] at hP hall
    generalize ([] : List (List (Nat × Nat))) = B at hP hall hB1 ⊢
    (repeat' (first
  | (apply W.qd; (first
    | (apply (yW (hchk)); exact rfl; exact rfl; (iterate 3 kernel_rfl))|(apply q_mv; (conv => lhs; whnf))|(apply yT; (iterate 4 exact rfl))|(apply yU; (iterate 4 exact rfl))
    | (apply yV; exact rfl; exact rfl)))|(apply yB)|(apply yC; kernel_rfl)|(apply yE)
  | (apply yG)))
    refine AWP.loopW (α := Nat) (fun k => k ≤ I.length) (fun k => ⟨[(55, iV k), (54, iV I.length), (53, rowsN (I.map CK)), (9, .osl 4 (B ++ CC k).length 0 (B ++ CC k).length), (12, .fn 137 [.opt 1 0, .opt 3 0]), (3, .opt 0 0), (5, .opt 1 0), (6, .opt 2 0), (7, iV 0)], [.box [.d .any, iV M, iV D, rowsN ps, .d .any], .box [iV u], .box [iV 0, .d (.v (.slice none 0 0))], .box [bools OT], .row (B ++ CC k).length 1 82 ((B ++ CC k).map tlD)]⟩) (fun k => I.length - k) 0 (by omega) ?wkA fun k hk => ?_
    case wkA =>
      rw [hc0, List.append_nil]
      exact ⟨[0, 1, 2, 3, 4], rfl, rfl, rfl, rfl, iV_eq (by simp), rfl, rfl, rfl, rfl, rfl, rfl, rfl, trivial⟩
    have hlL : (B ++ CC k).length ≤ 100 := by
      have := hcl3 k
      rw [List.length_append]
      rw [List.length_take] at this
      omega
    by_cases hkI : k < I.length
    · have hIk := List.getElem_mem hkI
      have eK : (I.map CK)[k]'(by simpa using hkI) = CK I[k] := List.getElem_map _
      have hs2 := hcs k hkI
      have ht1 := hterm I[k] hIk
      have hcbk := hcb I[k]
      have hcf := A_contains_int (O := [.box [iV u], .box [bools OT]]) (g := 137) (caps := [.opt 0 0, .opt 1 0]) (misZ OT u) ((CK I[k]).map fun n : Nat => (n : Int)) (by rw [List.length_map]; omega) (by kernel_rfl) (fun x hx => by
        obtain ⟨y, hy, rfl⟩ := List.mem_map.1 hx
        exact hmis y (by rw [hlo]; exact hmem _ hIk y hy))
      rw [misZ_full, ← nats_ints] at hcf
      have htl := cterms_le M D (ps.getD I[k] []) (CK I[k]) u
      generalize ctermsN M D (ps.getD I[k] []) (CK I[k]) u = TT at *
      rw [← eK] at ht1 hcf
      rw [← eK] at hs2
      cases hfu : fullC OT ((I.map CK)[k]'(by simpa using hkI)) u <;> rw [hfu] at hcf hs2
      · replace hs2 := Lib.hid (hs2.out.trans (if_neg (by decide)))
        (repeat' (first
  | (apply W.qd; (first
    | (apply q_mv; (conv => lhs; whnf))|(apply q_as; (conv => lhs; whnf))|(apply q_lss; exact rfl; exact rfl)|(apply q_not; exact rfl)|(apply q_add; exact rfl; exact rfl; omega)|(apply yX; (iterate 3 exact rfl); (first | omega | (focus (simp; done))))
    | (apply yGb; (iterate 4 exact rfl); (first | (with_reducible exact rfl) | exact natI_spec rfl | assumption | exact (Int.toNat_of_nonneg (by omega)).symm); (first | omega | (focus (simp only [List.length_map]; omega)) | (focus (simp; done)) | (focus (simp; omega))))))|(apply W.ed; (apply (e_callJ (js := [1, 3]) (hcf)); (iterate 5 exact rfl); kernel_rfl; kernel_rfl))|(apply yA)|(apply yB)|(apply yC; kernel_rfl)|(apply yE)|(apply yG)|(apply yH)|(apply yL)|(apply yR; exact rfl)
  | (refine W.cond _ rfl (fun hb => ?_) (fun hb => ?_) <;> ((try simp only [hb, zA, zB]) <;> (try simp only [zC, zD, zE, zF, zG, zH, zI, zJ] at hb) <;> (try (exfalso; omega))))))
        refine ⟨k + 1, by omega, by omega, ?_⟩
        rw [hs2.out]
        exact ⟨[0, 1, 2, 3, 4], rfl, rfl, rfl, iV_eq (by omega), rfl, rfl, rfl, rfl, rfl, rfl, rfl, rfl, trivial⟩
      · replace hs2 := Lib.hid (hs2.out.trans (if_pos rfl))
        (repeat' (first
  | (apply W.qd; (first
    | (apply (yW (ht1)); exact rfl; exact rfl; (iterate 3 kernel_rfl))|(apply q_mv; (conv => lhs; whnf))|(apply q_as; (conv => lhs; whnf))|(apply yT; (iterate 4 exact rfl))|(apply yU; (iterate 4 exact rfl))|(apply q_lss; exact rfl; exact rfl)|(apply q_not; exact rfl)|(apply q_add; exact rfl; exact rfl; omega)|(apply yX; (iterate 3 exact rfl); (first | omega | (focus (simp; done))))|(apply q_litF; (iterate 5 exact rfl); kernel_rfl; kernel_rfl; exact rfl)
    | (apply yGb; (iterate 4 exact rfl); (first | (with_reducible exact rfl) | exact natI_spec rfl | assumption | exact (Int.toNat_of_nonneg (by omega)).symm); (first | omega | (focus (simp only [List.length_map]; omega)) | (focus (simp; done)) | (focus (simp; omega))))))|(apply W.ld; (apply l_app1; (iterate 8 exact rfl); (first | omega | (focus (simp; omega)) | (focus (simp; done)))))|(apply W.ed; (apply (e_callJ (js := [1, 3]) (hcf)); (iterate 5 exact rfl); kernel_rfl; kernel_rfl))|(apply yA)|(apply yB)|(apply yC; kernel_rfl)|(apply yE)|(apply yG)|(apply yH)|(apply yL)|(apply yQ; exact rfl)
  | (refine W.cond _ rfl (fun hb => ?_) (fun hb => ?_) <;> ((try simp only [hb, zA, zB]) <;> (try simp only [zC, zD, zE, zF, zG, zH, zI, zJ] at hb) <;> (try (exfalso; omega))))))
        refine ⟨k + 1, by omega, by omega, ?_⟩
        rw [hs2.out, ← List.append_assoc, show ((B ++ CC k) ++ [TT]).length = (B ++ CC k).length + 1 by simp; omega]
        exact ⟨[0, 1, 2, 3, 4], rfl, rfl, rfl, iV_eq (by omega), rfl, rfl, congrArg (AV.osl 4 ((B ++ CC k).length + 1) 0) (by simp), rfl, rfl, rfl, rfl, rfl, trivial⟩
    · have e3 : k = I.length := by omega
      subst e3
      rw [hP]
      generalize B ++ CC I.length = L at *
      refine AWP.wk ⟨[(55, iV I.length), (54, iV I.length), (9, tlsA L), (3, .opt 0 0), (5, .opt 1 0), (6, .opt 2 0), (7, iV 0)], [.box [.d .any, iV M, iV D, rowsN ps, .d .any], .box [iV u], .box [iV 0, .d (.v (.slice none 0 0))], .box [bools OT]]⟩ ⟨[0, 1, 2, 3], rfl, rfl, rfl, rfl, rfl, (frz_rowJ rfl rfl (by simp)).symm, rfl, rfl, rfl, rfl, trivial⟩ ?_
      have hmL : (L.map tlD).length = L.length := List.length_map _
      by_cases hL0 : L = []
      · subst hL0
        (repeat' (first
  | (apply W.qd; (first
    | (apply q_mv; (conv => lhs; whnf))|(apply q_as; (conv => lhs; whnf))|(apply q_lss; exact rfl; exact rfl)|(apply q_eql; exact rfl; exact rfl)|(apply yV; exact rfl; exact rfl)
    | (apply yZ; exact rfl; exact rfl; kernel_rfl)))|(apply W.ln; (apply l_st_box; (iterate 6 exact rfl); (iterate 3 kernel_rfl)))|(apply yA)|(apply yB)|(apply yC; kernel_rfl)|(apply yE)|(apply yI)|(apply yJ)|(apply yK)|(apply yP)|(apply yM)|(apply yQ; exact rfl)
  | (refine W.cond _ rfl (fun hb => ?_) (fun hb => ?_) <;> ((try simp only [hb, zA, zB]) <;> (try simp only [zC, zD, zE, zF, zG, zH, zI, zJ] at hb) <;> (try (exfalso; omega))))))
        exact Ends.cell2le rfl rfl rfl rfl (pl0_le 11)
      · have hLp : 0 < L.length := List.length_pos_iff.2 hL0
        have hmin := A_minFunc L hLp (by omega) (fun t ht => by have := hall t ht; omega)
        have hbs : bestN L = some ((bestN L).getD []) := by
          cases L with
          | nil => exact absurd rfl hL0
          | cons a l => rfl
        rw [hbs]
        generalize (bestN L).getD [] = RR at *
        (repeat' (first
  | (apply W.qd; (first
    | (apply q_mv; (conv => lhs; whnf))|(apply q_as; (conv => lhs; whnf))|(apply yT; (iterate 4 exact rfl))|(apply q_lss; exact rfl; exact rfl)|(apply q_eql; exact rfl; exact rfl)|(apply yV; exact rfl; exact rfl)|(apply yZ; exact rfl; exact rfl; kernel_rfl)
    | (apply q_makeFunc)))
  | (apply W.ed; (first
    | (apply (e_callJ (js := [4]) (hmin)); (iterate 5 exact rfl); kernel_rfl; kernel_rfl)
    | (apply yCb; (iterate 3 exact rfl); kernel_rfl)))|(apply W.ln; (apply l_st_box; (iterate 6 exact rfl); (iterate 3 kernel_rfl)))|(apply yA)|(apply yB)|(apply yC; kernel_rfl)|(apply yE)|(apply yH)|(apply yI)|(apply yJ)|(apply yK)|(apply yM)
  | (refine W.cond _ rfl (fun hb => ?_) (fun hb => ?_) <;> ((try simp only [hb, zA, zB]) <;> (try simp only [zC, zD, zE, zF, zG, zH, zI, zJ] at hb) <;> (try (exfalso; omega))))))
        exact Ends.cell2 rfl rfl rfl rfl rfl
end Go.Proofs.YtcljokdiblnhiaaGreatDoor
end
section
namespace Go.Proofs.YtcljokdiblnhiaaGreatDoor
open Go.RowKit
set_option maxHeartbeats 4000000
set_option maxRecDepth 100000
structure SysOk (M D C : Nat) (pm : List Nat) (Bl : List (List Nat)) : Prop where
  pl : pm.length = D
  nd : ∀ q q', q < D → q' < D → pm.getD q 0 = pm.getD q' 0 → q = q'
  lt : ∀ q, q < D → pm.getD q 0 < D
  bl : Bl.length = D
  rl : ∀ l ∈ Bl, l.length = C
  rx : ∀ l ∈ Bl, ∀ x ∈ l, x < 2 ^ M
theorem SysOk.set {M D C : Nat} {pm : List Nat} {Bl : List (List Nat)} (h : SysOk M D C pm Bl) (a : Nat) {l : List Nat} (h1 : l.length = C) (h2 : ∀ x ∈ l, x < 2 ^ M) : SysOk M D C pm (Bl.set a l) :=
  ⟨h.pl, h.nd, h.lt, by rw [List.length_set]; exact h.bl, fun x hx => (List.mem_or_eq_of_mem_set hx).elim (h.rl x) fun e => e ▸ h1, fun x hx => (List.mem_or_eq_of_mem_set hx).elim (h.rx x) fun e => e ▸ h2⟩
attribute [local irreducible] Quiet Eff OpOk AWPG ACont ABlock ACalls AGoto
end Go.Proofs.YtcljokdiblnhiaaGreatDoor
end
section
namespace Go.Proofs.YtcljokdiblnhiaaGreatDoor
structure Weak {α : Type} (lt : α → α → Bool) : Prop where
  irr : ∀ a, lt a a = false
  trans : ∀ a b c, lt a b = true → lt b c = true → lt a c = true
  neg : ∀ a b c, lt a c = true → lt a b = true ∨ lt b c = true
def eqvB {α : Type} (lt : α → α → Bool) (c x : α) : Bool := !lt c x && !lt x c
def Srt {α : Type} (lt : α → α → Bool) (l : List α) : Prop := l.Pairwise fun a b => lt b a = false
def Stb {α : Type} (lt : α → α → Bool) (X Z : List α) : Prop := ∀ c, Z.filter (eqvB lt c) = X.filter (eqvB lt c)
section
variable {α : Type} {lt : α → α → Bool}
theorem Weak.asymm (h : Weak lt) {a b : α} (h1 : lt a b = true) : lt b a = false := by
  cases h2 : lt b a with
  | false => rfl
  | true => have := h.trans _ _ _ h1 h2; rw [h.irr] at this; cases this
theorem Weak.le_trans (h : Weak lt) {a b c : α} (h1 : lt b a = false) (h2 : lt c b = false) : lt c a = false := by
  cases h3 : lt c a with
  | false => rfl
  | true => rcases h.neg c b a h3 with h4 | h4 <;> simp_all
theorem Weak.lt_le (h : Weak lt) {a b c : α} (h1 : lt a b = true) (h2 : lt c b = false) : lt a c = true := by
  rcases h.neg a c b h1 with h4 | h4
  · exact h4
  · rw [h2] at h4; cases h4
theorem Weak.le_lt (h : Weak lt) {a b c : α} (h1 : lt b a = false) (h2 : lt b c = true) : lt a c = true := by
  rcases h.neg b a c h2 with h4 | h4
  · rw [h1] at h4; cases h4
  · exact h4
theorem eqv_self (h : Weak lt) (c : α) : eqvB lt c c = true := by unfold eqvB; rw [h.irr]; rfl
theorem eqv_not_lt (h : Weak lt) {c x u : α} (h1 : eqvB lt c x = true) (h2 : eqvB lt c u = true) : lt x u = false := by
  unfold eqvB at h1 h2
  simp only [Bool.and_eq_true, Bool.not_eq_true'] at h1 h2
  cases h3 : lt x u with
  | false => rfl
  | true => rcases h.neg x c u h3 with h4 | h4 <;> simp_all
theorem Stb.refl (X : List α) : Stb lt X X := fun _ => rfl
theorem Stb.trans {X Y Z : List α} (h1 : Stb lt X Y) (h2 : Stb lt Y Z) : Stb lt X Z := fun c => (h2 c).trans (h1 c)
theorem Stb.symm {X Y : List α} (h1 : Stb lt X Y) : Stb lt Y X := fun c => (h1 c).symm
theorem Stb.app {X Z X' Z' : List α} (h1 : Stb lt X Z) (h2 : Stb lt X' Z') : Stb lt (X ++ X') (Z ++ Z') := fun c => by
  rw [List.filter_append, List.filter_append, h1 c, h2 c]
theorem Stb.mem (h : Weak lt) {X Z : List α} (h1 : Stb lt X Z) (x : α) : x ∈ Z ↔ x ∈ X := by
  have := h1 x
  constructor
  · intro hx
    have : x ∈ X.filter (eqvB lt x) := by rw [← this]; exact List.mem_filter.2 ⟨hx, eqv_self h x⟩
    exact (List.mem_filter.1 this).1
  · intro hx
    have : x ∈ Z.filter (eqvB lt x) := by rw [this]; exact List.mem_filter.2 ⟨hx, eqv_self h x⟩
    exact (List.mem_filter.1 this).1
theorem Stb.count [DecidableEq α] (h : Weak lt) {X Z : List α} (h1 : Stb lt X Z) (x : α) : Z.count x = X.count x := by
  rw [← List.count_filter (eqv_self h x), ← List.count_filter (l := X) (eqv_self h x), h1 x]
theorem Stb.len [DecidableEq α] (h : Weak lt) {X Z : List α} (h1 : Stb lt X Z) : Z.length = X.length :=
  (List.perm_iff_count.2 fun x => h1.count h x).length_eq
theorem Stb.swap (h : Weak lt) {U X : List α} (hx : ∀ x ∈ X, ∀ u ∈ U, lt x u = true) : Stb lt (U ++ X) (X ++ U) := fun c => by
  rw [List.filter_append, List.filter_append]
  by_cases hu : U.filter (eqvB lt c) = []
  · rw [hu]; simp
  · have : X.filter (eqvB lt c) = [] := by
      rw [List.filter_eq_nil_iff]
      intro x hxm hc
      obtain ⟨u, hum⟩ := List.exists_mem_of_ne_nil _ hu
      obtain ⟨h2, h3⟩ := List.mem_filter.1 hum
      have := hx x hxm u h2
      rw [eqv_not_lt h hc h3] at this
      cases this
    rw [this]; simp
theorem srt_app {X Y : List α} : Srt lt (X ++ Y) ↔ Srt lt X ∧ Srt lt Y ∧ ∀ x ∈ X, ∀ y ∈ Y, lt y x = false := List.pairwise_append
theorem Srt.left {X Y : List α} (h : Srt lt (X ++ Y)) : Srt lt X := (srt_app.1 h).1
theorem Srt.right {X Y : List α} (h : Srt lt (X ++ Y)) : Srt lt Y := (srt_app.1 h).2.1
theorem Srt.last (h : Weak lt) {X : List α} {u : α} (hs : Srt lt (X ++ [u])) {x : α} (hx : x ∈ X ++ [u]) : lt u x = false := by
  rcases List.mem_append.1 hx with h1 | h1
  · exact (srt_app.1 hs).2.2 x h1 u (by simp)
  · rw [List.mem_singleton.1 h1]; exact h.irr u
theorem Srt.head (h : Weak lt) {X : List α} {u : α} (hs : Srt lt (u :: X)) {x : α} (hx : x ∈ u :: X) : lt x u = false := by
  rcases List.mem_cons.1 hx with rfl | h1
  · exact h.irr x
  · exact (List.pairwise_cons.1 hs).1 x h1
theorem srt_unique (h : Weak lt) : ∀ {X Z : List α}, Srt lt X → Srt lt Z → Stb lt X Z → X = Z
  | [], [], _, _, _ => rfl
  | [], z :: Z, _, _, hs => by have := (hs.mem h z).1 (by simp); simp at this
  | x :: X, [], _, _, hs => by have := (hs.mem h x).2 (by simp); simp at this
  | x :: X, z :: Z, hx, hz, hs => by
    have h1 : lt z x = false := hx.head h ((hs.mem h z).1 (by simp))
    have h2 : lt x z = false := hz.head h ((hs.mem h x).2 (by simp))
    have h3 := hs x
    have e : x = z := by
      rw [List.filter_cons, List.filter_cons, if_pos (eqv_self h x), if_pos (by unfold eqvB; rw [h1, h2]; rfl)] at h3
      injection h3 with h4 _; exact h4.symm
    subst e
    have ih := srt_unique h (X := X) (Z := Z) (List.pairwise_cons.1 hx).2 (List.pairwise_cons.1 hz).2 fun c => by
      have h4 := hs c
      rw [List.filter_cons, List.filter_cons] at h4
      split at h4
      · injection h4
      · exact h4
    rw [ih]
theorem srt_insert (h : Weak lt) {A B : List α} {x : α} (hs : Srt lt (A ++ B)) (hA : ∀ a ∈ A, lt x a = false) (hB : ∀ b ∈ B, lt b x = false) : Srt lt (A ++ x :: B) := by
  obtain ⟨h1, h2, h3⟩ := srt_app.1 hs
  refine srt_app.2 ⟨h1, List.pairwise_cons.2 ⟨hB, h2⟩, fun a ha b hb => ?_⟩
  rcases List.mem_cons.1 hb with rfl | hb
  · exact hA a ha
  · exact h3 a ha b hb
theorem merge_cut (h : Weak lt) {X1 X2 Y1 Y2 Z1 Z2 : List α} (hX : Srt lt (X1 ++ X2)) (hY : Srt lt (Y1 ++ Y2)) (h1 : ∀ y ∈ Y1, ∀ x ∈ X2, lt y x = true) (h2 : ∀ x ∈ X1, ∀ y ∈ Y2, lt y x = false)
    (s1 : Srt lt Z1) (s2 : Srt lt Z2) (b1 : Stb lt (X1 ++ Y1) Z1) (b2 : Stb lt (X2 ++ Y2) Z2) : Srt lt (Z1 ++ Z2) ∧ Stb lt ((X1 ++ X2) ++ (Y1 ++ Y2)) (Z1 ++ Z2) := by
  constructor
  · refine srt_app.2 ⟨s1, s2, fun a ha b hb => ?_⟩
    rw [b1.mem h, List.mem_append] at ha
    rw [b2.mem h, List.mem_append] at hb
    rcases ha with ha | ha <;> rcases hb with hb | hb
    · exact (srt_app.1 hX).2.2 a ha b hb
    · exact h2 a ha b hb
    · exact h.asymm (h1 a ha b hb)
    · exact (srt_app.1 hY).2.2 a ha b hb
  · refine Stb.trans ?_ (b1.app b2)
    have := ((Stb.refl X1).app (Stb.swap (lt := lt) h (U := X2) (X := Y1) fun y hy x hx => h1 y hy x hx)).app (Stb.refl Y2)
    simpa [List.append_assoc] using this
def insN (lt : α → α → Bool) (x : α) : List α → List α
  | [] => [x]
  | y :: l => if lt y x = true then y :: insN lt x l else x :: y :: l
def sortN (lt : α → α → Bool) : List α → List α
  | [] => []
  | x :: l => insN lt x (sortN lt l)
theorem insN_form (h : Weak lt) (x : α) : ∀ {l : List α}, Srt lt l → ∃ A B, l = A ++ B ∧ insN lt x l = A ++ x :: B ∧ (∀ a ∈ A, lt a x = true) ∧ ∀ b ∈ B, lt b x = false
  | [], _ => ⟨[], [], rfl, rfl, by simp, by simp⟩
  | y :: l, hs => by
    unfold insN
    by_cases hy : lt y x = true
    · rw [if_pos hy]
      obtain ⟨A, B, rfl, e, h1, h2⟩ := insN_form h x (List.pairwise_cons.1 hs).2
      refine ⟨y :: A, B, rfl, by rw [e]; rfl, fun a ha => ?_, h2⟩
      rcases List.mem_cons.1 ha with rfl | ha
      · exact hy
      · exact h1 a ha
    · rw [if_neg hy]
      refine ⟨[], y :: l, rfl, rfl, by simp, fun b hb => ?_⟩
      have hy := Bool.eq_false_iff.2 hy
      rcases List.mem_cons.1 hb with rfl | hb
      · exact hy
      · exact h.le_trans hy ((List.pairwise_cons.1 hs).1 b hb)
theorem sortN_spec (h : Weak lt) : ∀ l : List α, Srt lt (sortN lt l) ∧ Stb lt l (sortN lt l)
  | [] => ⟨List.Pairwise.nil, Stb.refl _⟩
  | x :: l => by
    obtain ⟨h1, h2⟩ := sortN_spec h l
    unfold sortN
    obtain ⟨A, B, e, e2, hA, hB⟩ := insN_form h x h1
    rw [e2]
    rw [e] at h1 h2
    refine ⟨srt_insert h h1 (fun a ha => h.asymm (hA a ha)) hB, ?_⟩
    have k1 : Stb lt ([x] ++ l) ([x] ++ (A ++ B)) := (Stb.refl [x]).app h2
    have k2 : Stb lt (([x] ++ A) ++ B) ((A ++ [x]) ++ B) := (Stb.swap h (U := [x]) (X := A) fun a ha u hu => by rw [List.mem_singleton.1 hu]; exact hA a ha).app (Stb.refl B)
    refine Stb.trans k1 ?_
    simpa using k2
theorem sortN_eq (h : Weak lt) {l Z : List α} (h1 : Srt lt Z) (h2 : Stb lt l Z) : Z = sortN lt l := by
  obtain ⟨k1, k2⟩ := sortN_spec h l
  exact srt_unique h h1 k1 (h2.symm.trans k2)
theorem sortN_self (h : Weak lt) {l : List α} (h1 : Srt lt l) : sortN lt l = l := (sortN_eq h h1 (Stb.refl l)).symm
theorem insN_len (x : α) : ∀ l : List α, (insN lt x l).length = l.length + 1
  | [] => rfl
  | y :: l => by
    unfold insN
    split
    · simp [insN_len x l]
    · rfl
theorem sortN_len : ∀ l : List α, (sortN lt l).length = l.length
  | [] => rfl
  | x :: l => by unfold sortN; rw [insN_len, sortN_len l]; rfl
end
end Go.Proofs.YtcljokdiblnhiaaGreatDoor
end
section
namespace Go.Proofs.YtcljokdiblnhiaaGreatDoor
def bsN (p : Nat → Bool) (lo hi : Nat) : Nat :=
  if h : lo < hi then (if p ((lo + hi) / 2) then bsN p lo ((lo + hi) / 2) else bsN p ((lo + hi) / 2 + 1) hi) else lo
termination_by hi - lo
theorem bs_spec (p : Nat → Bool) : ∀ (n lo hi : Nat), hi - lo ≤ n → lo ≤ hi → lo ≤ bsN p lo hi ∧ bsN p lo hi ≤ hi ∧ (lo < bsN p lo hi → p (bsN p lo hi - 1) = false) ∧ (bsN p lo hi < hi → p (bsN p lo hi) = true)
  | n, lo, hi, hn, h => by
    rw [bsN]
    by_cases hlt : lo < hi
    · rw [dif_pos hlt]
      cases hp : p ((lo + hi) / 2) with
      | true =>
        rw [if_pos rfl]
        obtain ⟨m, rfl⟩ : ∃ m, n = m + 1 := ⟨n - 1, by omega⟩
        obtain ⟨h1, h2, h3, h4⟩ := bs_spec p m lo ((lo + hi) / 2) (by omega) (by omega)
        refine ⟨h1, by omega, h3, fun hr => ?_⟩
        by_cases e : bsN p lo ((lo + hi) / 2) < (lo + hi) / 2
        · exact h4 e
        · rw [show bsN p lo ((lo + hi) / 2) = (lo + hi) / 2 by omega]; exact hp
      | false =>
        rw [if_neg (by decide)]
        obtain ⟨m, rfl⟩ : ∃ m, n = m + 1 := ⟨n - 1, by omega⟩
        obtain ⟨h1, h2, h3, h4⟩ := bs_spec p m ((lo + hi) / 2 + 1) hi (by omega) (by omega)
        refine ⟨by omega, h2, fun hr => ?_, h4⟩
        by_cases e : (lo + hi) / 2 + 1 < bsN p ((lo + hi) / 2 + 1) hi
        · exact h3 e
        · rw [show bsN p ((lo + hi) / 2 + 1) hi = (lo + hi) / 2 + 1 by omega]; exact hp
    · rw [dif_neg hlt]
      exact ⟨Nat.le_refl _, h, fun e => by omega, fun e => by omega⟩
theorem bs_done (p : Nat → Bool) {lo hi : Nat} (h : ¬ lo < hi) : bsN p lo hi = lo := by rw [bsN, dif_neg h]
theorem bs_left {p : Nat → Bool} {lo hi : Nat} (h : lo < hi) (hp : p ((lo + hi) / 2) = true) : bsN p lo hi = bsN p lo ((lo + hi) / 2) := by rw [bsN, dif_pos h, if_pos hp]
theorem bs_right {p : Nat → Bool} {lo hi : Nat} (h : lo < hi) (hp : p ((lo + hi) / 2) = false) : bsN p lo hi = bsN p ((lo + hi) / 2 + 1) hi := by rw [bsN, dif_pos h, if_neg (by rw [hp]; decide)]
section
variable {α : Type}
def swpN (d : α) (L : List α) (a b : Nat) : List α := (L.set a (L.getD b d)).set b (L.getD a d)
theorem set_mid (P S : List α) (x y : α) : (P ++ x :: S).set P.length y = P ++ y :: S := by
  rw [List.set_append_right _ _ (Nat.le_refl _), Nat.sub_self]; rfl
theorem getD_mid (d : α) (P S : List α) (x : α) : (P ++ x :: S).getD P.length d = x := by
  rw [List.getD_eq_getElem?_getD, List.getElem?_append_right (Nat.le_refl _), Nat.sub_self]; rfl
theorem swp_mid (d : α) (P M S : List α) (u v : α) : swpN d (P ++ u :: (M ++ v :: S)) P.length (P.length + 1 + M.length) = P ++ v :: (M ++ u :: S) := by
  have e1 : P ++ u :: (M ++ v :: S) = (P ++ u :: M) ++ v :: S := by simp
  have e2 : P.length + 1 + M.length = (P ++ u :: M).length := by simp; omega
  unfold swpN
  rw [getD_mid]
  rw [e1, e2, getD_mid, ← e1, set_mid]
  have e3 : P ++ v :: (M ++ v :: S) = (P ++ v :: M) ++ v :: S := by simp
  rw [e3, show (P ++ u :: M).length = (P ++ v :: M).length by simp, set_mid]
  simp
theorem swp_comm (d : α) (L : List α) (a b : Nat) (h : a ≠ b) : swpN d L a b = swpN d L b a := by
  unfold swpN
  exact List.set_comm _ _ h
theorem swp_adj (d : α) (P S : List α) (u v : α) : swpN d (P ++ u :: v :: S) P.length (P.length + 1) = P ++ v :: u :: S := swp_mid d P [] S u v
theorem swp_adj' (d : α) (P S : List α) (u v : α) : swpN d (P ++ u :: v :: S) (P.length + 1) P.length = P ++ v :: u :: S := by
  rw [swp_comm d _ _ _ (by omega)]; exact swp_adj d P S u v
def swpF (d : α) : Nat → List α → Nat → Nat → List α
  | 0, L, _, _ => L
  | n + 1, L, a, b => swpF d n (swpN d L a b) (a + 1) (b + 1)
theorem swpF_block (d : α) : ∀ (U V P M S : List α), U.length = V.length → swpF d U.length (P ++ (U ++ (M ++ (V ++ S)))) P.length (P.length + U.length + M.length) = P ++ (V ++ (M ++ (U ++ S)))
  | [], [], P, M, S, _ => by simp [swpF]
  | [], _ :: _, P, M, S, h => by simp at h
  | _ :: _, [], P, M, S, h => by simp at h
  | u :: U, v :: V, P, M, S, h => by
    have h2 : U.length = V.length := by simpa using h
    have e0 : P ++ ((u :: U) ++ (M ++ ((v :: V) ++ S))) = P ++ u :: ((U ++ M) ++ v :: (V ++ S)) := by simp
    have e1 : P.length + (u :: U).length + M.length = P.length + 1 + (U ++ M).length := by simp; omega
    rw [List.length_cons, swpF, e0]
    rw [show P.length + (U.length + 1) + M.length = P.length + 1 + (U ++ M).length by simp; omega, swp_mid]
    have ih := swpF_block d U V (P ++ [v]) (M ++ [u]) S h2
    have e2 : P ++ v :: ((U ++ M) ++ u :: (V ++ S)) = (P ++ [v]) ++ (U ++ ((M ++ [u]) ++ (V ++ S))) := by simp
    rw [e2, show P.length + 1 = (P ++ [v]).length by simp, show (P ++ [v]).length + (U ++ M).length + 1 = (P ++ [v]).length + U.length + (M ++ [u]).length by simp; omega, ih]
    simp
def Blk (lt : α → α → Bool) (s : Nat) (Q : List α) : Prop := ∀ i, Srt lt ((Q.drop (i * s)).take s)
theorem blk_nil (lt : α → α → Bool) (s : Nat) : Blk lt s [] := fun i => by simp [Srt]
theorem blk_app {lt : α → α → Bool} {s k : Nat} {Q S : List α} (h : Blk lt s Q) (hl : Q.length = k * s) (hs : S.length ≤ s) (h2 : Srt lt S) : Blk lt s (Q ++ S) := fun i => by
  rcases Nat.lt_trichotomy i k with h1 | h1 | h1
  · have h3 := h i
    have h4 : i * s + s ≤ Q.length := by
      rw [hl]
      have := Nat.mul_le_mul_right s (show i + 1 ≤ k from h1)
      rwa [Nat.succ_mul] at this
    rw [List.drop_append_of_le_length (by omega), List.take_append_of_le_length (by rw [List.length_drop]; omega)]
    exact h3
  · subst h1
    rw [← hl, List.drop_left, List.take_of_length_le hs]
    exact h2
  · have h4 : k * s + s ≤ i * s := by
      have := Nat.mul_le_mul_right s (show k + 1 ≤ i from h1)
      rwa [Nat.succ_mul] at this
    rw [List.drop_eq_nil_of_le (by rw [List.length_append]; omega)]
    simp [Srt]
theorem blk_whole {lt : α → α → Bool} {s : Nat} {Q : List α} (h : Blk lt s Q) (hs : Q.length ≤ s) : Srt lt Q := by
  have := h 0
  rw [Nat.zero_mul, List.drop_zero, List.take_of_length_le hs] at this
  exact this
end
end Go.Proofs.YtcljokdiblnhiaaGreatDoor
end
section
namespace Go.Proofs.YtcljokdiblnhiaaGreatDoor
open Go.RowKit
set_option maxHeartbeats 4000000
set_option maxRecDepth 100000
def letB (c : Nat) : Bool := decide (97 ≤ c) && decide (c ≤ 122)
def digB (c : Nat) : Bool := decide (48 ≤ c) && decide (c ≤ 57)
def wordAt (s : List Nat) (k : Nat) : Bool := letB (s.getD k 0) || (decide (k ≠ 0) && digB (s.getD k 0))
def wordB (s : List Nat) : Bool := decide (s ≠ []) && (List.range s.length).all (wordAt s)
def chkC (nm : List Nat) (M D : Int) (par : List (List Int)) (dom : Int) : Bool :=
  (wordB nm && decide (nm.length ≤ 12)) && (decide (M = 8 ∨ M = 16) && decide (1 ≤ D) && decide (D ≤ 31) && decide (par.length ≠ 0) && decide (D + (par.length : Int) ≤ 32)) && par.all (rowOk M D) && (decide (1 ≤ dom) && decide (dom ≤ D + (par.length : Int)))
theorem chk_valid {nm : List Nat} {M D dom : Int} {par : List (List Int)} (h : chkC nm M D par dom = true) : validC M D par = true := by
  unfold chkC at h
  simp only [Bool.and_eq_true, decide_eq_true_eq] at h
  obtain ⟨⟨⟨h1, ⟨⟨⟨h2, h3⟩, h4⟩, h5⟩, h6⟩, h7⟩, h8⟩ := h
  unfold validC
  simp only [Bool.and_eq_true, decide_eq_true_eq]
  refine ⟨⟨⟨⟨?_, h3⟩, by omega⟩, by omega⟩, h7⟩
  unfold allF
  rw [decide_eq_true h2]
  rcases h2 with rfl | rfl <;> rfl
abbrev cdF (nm : List Nat) (M D : Int) (par : List (List Int)) (dom : Int) : AV := .agg [bS nm, iV M, iV D, rowsA par, iV dom]
theorem cdF_le {nm : List Nat} {M D dom : Int} {par : List (List Int)} {F : Nat → Prop} {own : List Ent} {κ : List (Option Nat)} {w : World} {u : Value} (h : AV.sat F own κ w (cdF nm M D par dom) u) : AV.sat F own κ w (cdA M D par) u := by
  rw [AV.sat] at h ⊢
  obtain ⟨us, h1, h2⟩ := h
  refine ⟨us, h1, ?_⟩
  generalize us.toList = l at h2
  rcases l with _ | ⟨a, _ | ⟨b, _ | ⟨c, _ | ⟨d, _ | ⟨e, l⟩⟩⟩⟩⟩ <;> simp only [AV.satL, and_false, and_assoc] at h2 ⊢
  obtain ⟨h3, h4, h5, h6, h7, h8⟩ := h2
  rw [sat_v] at h3 h7
  subst h3; subst h7
  refine ⟨?_, h4, h5, h6, ?_, h8⟩
  · rw [AV.sat, Dat.sat]; rfl
  · rw [AV.sat, Dat.sat]; rfl
theorem ACalls.cdF {P : Program} {f : FuncId} {nm : List Nat} {M D dom : Int} {par : List (List Int)} {l : List AV} {r : AV} {own own' : List Ent} (h : ACalls P f (cdA M D par :: l) own r own') : ACalls P f (cdF nm M D par dom :: l) own r own' :=
  h.le fun F κ w vs => satL_le1 (fun F own κ w u => cdF_le) F own κ w vs
attribute [local irreducible] Quiet Eff OpOk AWPG ACont ABlock ACalls AGoto
end Go.Proofs.YtcljokdiblnhiaaGreatDoor
end
section
namespace Go.Proofs.YtcljokdiblnhiaaGreatDoor
open Go.RowKit
theorem seg_get (l us : List Value) (o x : Nat) (h : o + us.length ≤ l.length) : (l.take o ++ us ++ l.drop (o + us.length))[x]? = if o ≤ x ∧ x < o + us.length then us[x - o]? else l[x]? := by
  have ht : (l.take o).length = o := by rw [List.length_take]; omega
  by_cases h1 : x < o
  · rw [if_neg (by omega), List.append_assoc, List.getElem?_append_left (by omega), List.getElem?_take, if_pos h1]
  · by_cases h2 : x < o + us.length
    · rw [if_pos ⟨by omega, h2⟩, List.append_assoc, List.getElem?_append_right (by omega), ht, List.getElem?_append_left (by omega)]
    · rw [if_neg (by omega), List.getElem?_append_right (by rw [List.length_append, ht]; omega), List.length_append, ht, List.getElem?_drop]
      congr 1
      omega
theorem setK_same {κ : List (Option Nat)} {i : Nat} {og : Option Nat} (h : κ[i]? = some og) : κ.set i og = κ := List.ext_getElem? fun j => by
  by_cases hj : j = i
  · subst hj; rw [List.getElem?_set_self (List.getElem?_eq_some_iff.1 h).1, h]
  · rw [List.getElem?_set_ne (Ne.symm hj)]
theorem row_put {F : Nat → Prop} {κ : List (Option Nat)} {w : World} {m : Nat} {own : List Ent} {i ver sz g : Nat} {e : TypeId} {l l' : List (List Dat)} {cur cur' : Array Value} (ho : OwnSat F own κ w) (hi : own[i]? = some (.row ver sz e l)) (h3 : κ[i]? = some (some g)) (h5 : w.heap[g]? = some (.cells cur e (0, 0))) (h0 : 0 < sz) (hs : cur'.size = cur.size) (hl : l'.length = l.length) (h6 : l.length * sz ≤ cur.size)
    (hr : ∀ j e', l'[j]? = some e' → e'.length = sz ∧ ∀ q y, e'[q]? = some y → ∃ u, cur'[j * sz + q]? = some u ∧ u.oneCell' = true ∧ Dat.sat (badK F κ) w y u) :
    OwnSat F (own.set i (.row ver sz e l')) κ (w.setRow g cur') ∧ Tr F m own κ w (own.set i (.row ver sz e l')) κ (w.setRow g cur') := by
  have hrow := setRow_heap w g cur cur' e (0, 0) h5
  have key := step_upd (m := m) (x' := .row ver sz e l') (og := some g) (og' := some g) (w' := w.setRow g cur') ho hi h3 rfl rfl rfl (by simp [World.setRow]) (fun b hb hne => by
        simp only [World.setRow, Array.getElem?_modify]
        rw [if_neg (fun e => hne (by rw [e]))]) (.inl rfl) (.inr rfl) (.inr ⟨rfl, rfl, rfl, hl.symm, rfl, fun g' hg' cur2 t' fz' hcur' => by
          obtain rfl : g = g' := by simpa using hg'
          rw [h5] at hcur'
          obtain ⟨rfl, rfl, rfl⟩ : cur = cur2 ∧ e = t' ∧ (0, 0) = fz' := by simpa using hcur'
          exact ⟨_, _, _, hrow, hs.symm⟩⟩) (fun hst => ⟨h0, .inr ⟨g, rfl, _, hrow, by rw [hl, hs]; exact h6, by
            rw [Dat.rowsSat_iff]
            intro j' e' hj'
            obtain ⟨h8, h9⟩ := hr j' e' hj'
            refine ⟨h8, ?_⟩
            rw [Dat.rowSat_iff]
            intro q y hq
            obtain ⟨u, q1, q2, q3⟩ := h9 q y hq
            refine ⟨u, ?_, q2, Dat.sat_wide hst.wide y q3⟩
            rw [cell_of_row _ g _ _ e (0, 0) hrow, Nat.zero_add]
            exact q1⟩⟩)
  rw [setK_same h3] at key
  exact key
theorem row_cells {F : Nat → Prop} {κ : List (Option Nat)} {w : World} {own : List Ent} {i ver sz g : Nat} {e : TypeId} {l : List (List Dat)} (ho : OwnSat F own κ w) (hi : own[i]? = some (.row ver sz e l)) (h3 : κ[i]? = some (some g)) :
    0 < sz ∧ ∃ cur, w.heap[g]? = some (.cells cur e (0, 0)) ∧ l.length * sz ≤ cur.size ∧ ∀ j e', l[j]? = some e' → e'.length = sz ∧ ∀ q y, e'[q]? = some y → ∃ u, cur[j * sz + q]? = some u ∧ u.oneCell' = true ∧ Dat.sat (badK F κ) w y u := by
  obtain ⟨h0, hent⟩ := ho.ent i _ hi
  rw [getD_some h3] at hent
  rcases hent with ⟨hxx, _⟩ | ⟨g', hg', cur, h5, h6, h7⟩
  · cases hxx
  · obtain rfl : g = g' := by simpa using hg'
    refine ⟨h0, cur, h5, h6, fun j e' hj => ?_⟩
    rw [Dat.rowsSat_iff] at h7
    obtain ⟨h8, h9⟩ := h7 j e' hj
    refine ⟨h8, fun q y hq => ?_⟩
    rw [Dat.rowSat_iff] at h9
    obtain ⟨u, q1, q2, q3⟩ := h9 q y hq
    rw [cell_of_row w g _ cur e (0, 0) h5, Nat.zero_add] at q1
    exact ⟨u, q1, q2, q3⟩
theorem idx_ne {j j' q o sz : Nat} (hq : q < sz) (ho : o < sz) (h : j' ≠ j) : ¬ (j * sz ≤ j' * sz + q ∧ j' * sz + q < j * sz + sz) := fun ⟨a, b⟩ => by
  rcases Nat.lt_or_gt_of_ne h with h1 | h1
  · have := Nat.mul_le_mul_right sz (show j' + 1 ≤ j from h1)
    rw [Nat.succ_mul] at this; omega
  · have := Nat.mul_le_mul_right sz (show j + 1 ≤ j' from h1)
    rw [Nat.succ_mul] at this; omega
section
variable {P : Program} {m : Nat} {env : List (Nat × AV)} {own : List Ent} {dst : Option Tmp} {ty : TypeId} {pos : String} {af : Array Edge} {gd : Option (Nat × Bool)}
theorem e_st_rpts {t : TypeId} {k : Nat} {b : Bool} {x y : Operand} {i ver j sz : Nat} {e : TypeId} {l : List (List Dat)} {ds : List Dat} {own' : List Ent} (hx : lookO env x = .rpt i ver j 0) (hi : own[i]? = some (.row ver sz e l)) (ht : tyInfo P t = some (b, k)) (hk : k = sz) (hy : cellsD (lookO env y) = some ds) (hds : ds.length = sz) (h1 : ds.all (fun d => oneA (.d d)) = true) (ho' : setF own i (.row ver sz e (l.set j ds)) = some own') :
    Eff P m ⟨dst, .store t x y, ty, pos, af, gd⟩ env own [i] (.d (.v undef)) own' := by
  rw [setF_spec ho']
  exact Eff.mk (set_same _ i) fun F κ a w hs ho hm => by
    subst hk
    have hx1 := hs x (by simp [Op.operands]); rw [hx, AV.sat] at hx1
    have hy1 := hs y (by simp [Op.operands])
    obtain ⟨hcA, hok⟩ := cellsD_A hy
    have hcs := cellsA_sat hcA hy1 hok
    have hcl := satL_length hcs
    obtain ⟨hj, g, h3, h4⟩ := hx1.2 k e l hi
    obtain ⟨h0, cur, h5, h6, h7⟩ := row_cells ho hi h3
    have hvn : (a.eval y).cells.size = k := by
      rw [List.length_map, hds] at hcl
      rw [← Array.length_toList]; exact hcl.symm
    have hvl : (a.eval y).cells.toList.length = k := by rw [Array.length_toList]; exact hvn
    have hus : ∀ q d, ds[q]? = some d → ∃ u, (a.eval y).cells.toList[q]? = some u ∧ u.oneCell' = true ∧ Dat.sat (badK F κ) w d u := fun q d hq => by
      obtain ⟨u, q1, q2⟩ := satL_get hcs q (.d d) (by rw [List.getElem?_map, hq]; rfl)
      have q3 := List.all_eq_true.1 h1 d (List.mem_of_getElem? hq)
      refine ⟨u, q1, one_of_cellsA q3 q2, ?_⟩
      rw [AV.sat] at q2; exact q2
    have hone : ∀ u ∈ (a.eval y).cells.toList, u.oneCell' = true := fun u hu => by
      obtain ⟨q, hq⟩ := List.mem_iff_getElem?.1 hu
      have hlt : q < ds.length := by have := (List.getElem?_eq_some_iff.1 hq).1; omega
      obtain ⟨u', q1, q2, _⟩ := hus q _ (List.getElem?_eq_getElem hlt)
      rw [hq] at q1
      obtain rfl : u = u' := by simpa using q1
      exact q2
    have hjk : j * k + k ≤ l.length * k := by
      have := Nat.mul_le_mul_right k (show j + 1 ≤ l.length from hj)
      rw [Nat.succ_mul] at this; omega
    have hrun : (execOp a.eval ⟨dst, .store t x y, ty, pos, af, gd⟩).run P w = .ok .skip (w.setRow g (cur.toList.take (j * k) ++ (a.eval y).cells.toList ++ cur.toList.drop (j * k + (a.eval y).cells.toList.length)).toArray) := by
      have := run_storeAt (P := P) ht h5 (v := a.eval y) (o := j * k) hvn (by omega) hone
      rw [Nat.add_zero] at h4
      exact exec_u (by rw [h4]; exact this)
    rw [hrun]
    have hcs2 : cur.toList.length = cur.size := Array.length_toList
    obtain ⟨r1, r2⟩ := row_put (m := m) (cur' := (cur.toList.take (j * k) ++ (a.eval y).cells.toList ++ cur.toList.drop (j * k + (a.eval y).cells.toList.length)).toArray) (l' := l.set j ds) ho hi h3 h5 h0 (by simp; omega) (by simp) h6 (fun j' e' hj' => by
      have hget : ∀ x, (cur.toList.take (j * k) ++ (a.eval y).cells.toList ++ cur.toList.drop (j * k + (a.eval y).cells.toList.length)).toArray[x]? = if j * k ≤ x ∧ x < j * k + k then (a.eval y).cells.toList[x - j * k]? else cur[x]? := fun x => by
        have ec : cur.toList[x]? = cur[x]? := Array.getElem?_toList
        rw [List.getElem?_toArray, seg_get _ _ _ _ (by omega), hvl, ec]
      by_cases hjj : j' = j
      · subst hjj
        rw [List.getElem?_set_self hj] at hj'
        obtain rfl : ds = e' := by simpa using hj'
        refine ⟨hds, fun q y' hq => ?_⟩
        have hql : q < k := by have := (List.getElem?_eq_some_iff.1 hq).1; omega
        obtain ⟨u, q1, q2, q3⟩ := hus q y' hq
        refine ⟨u, ?_, q2, q3⟩
        rw [hget, if_pos ⟨by omega, by omega⟩, show j' * k + q - j' * k = q by omega]
        exact q1
      · rw [List.getElem?_set_ne (Ne.symm hjj)] at hj'
        obtain ⟨h8, h9⟩ := h7 j' e' hj'
        refine ⟨h8, fun q y' hq => ?_⟩
        have hql : q < k := by have := (List.getElem?_eq_some_iff.1 hq).1; omega
        obtain ⟨u, q1, q2, q3⟩ := h9 q y' hq
        exact ⟨u, by rw [hget, if_neg (idx_ne hql h0 hjj)]; exact q1, q2, q3⟩)
    exact ⟨κ, by rw [AV.sat, Dat.sat], r1, r2⟩
theorem e_st_rptM {α : Type} {f : α → List Dat} {l : List α} {t : TypeId} {k : Nat} {b : Bool} {x y : Operand} {i ver j sz : Nat} {e : TypeId} {ds : List Dat} {own' : List Ent} (v : α) (hx : lookO env x = .rpt i ver j 0) (hi : own[i]? = some (.row ver sz e (l.map f))) (ht : tyInfo P t = some (b, k)) (hk : k = sz) (hy : cellsD (lookO env y) = some ds) (hv : f v = ds) (hds : (f v).length = sz) (h1 : (f v).all (fun d => oneA (.d d)) = true) (ho' : setF own i (.row ver sz e ((l.set j v).map f)) = some own') :
    Eff P m ⟨dst, .store t x y, ty, pos, af, gd⟩ env own [i] (.d (.v undef)) own' := by
  subst hv
  refine e_st_rpts hx hi ht hk hy hds h1 ?_
  rw [List.map_set] at ho'
  exact ho'
end
end Go.Proofs.YtcljokdiblnhiaaGreatDoor
end
section
namespace Go.Proofs.YtcljokdiblnhiaaGreatDoor
open Go.RowKit
set_option maxHeartbeats 4000000
set_option maxRecDepth 100000
section
variable {P : Program} {m : Nat} {env : List (Nat × AV)} {own : List Ent} {dst : Option Tmp} {ty : TypeId} {pos : String} {af : Array Edge} {gd : Option (Nat × Bool)}
theorem q_convU {src dst' : TypeId} {x : Operand} {k : IntKind} {n : Int} {v : Nat} (hx : lookO env x = .d (.v (.int k n))) (hs : (P.underlying src).isSome = true) (hd : isInt P dst' .u64 = true) (hn : n = (v : Int)) (h : v < 18446744073709551616) :
    Quiet P m ⟨dst, .convert src dst' x, ty, pos, af, gd⟩ env own [] (.d (.v (.int .u64 (v : Int)))) := by
  have := q_conv (P := P) (m := m) (env := env) (own := own) (dst := dst) (ty := ty) (pos := pos) (af := af) (gd := gd) (src := src) .u64 hs hd hx
  rwa [hn, capK_wrap (k := .u64) h] at this
end
attribute [local irreducible] Quiet Eff OpOk AWPG ACont ABlock ACalls AGoto
end Go.Proofs.YtcljokdiblnhiaaGreatDoor
end
section
namespace Go.Proofs.YtcljokdiblnhiaaGreatDoor
open Go.RowKit
set_option maxHeartbeats 4000000
set_option maxRecDepth 100000
structure FIn (nm : List Nat) (D : Int) (par : List (List Int)) : Prop where
  n : isB nm
  l : nm.length < 9223372036854775808
  d : 0 ≤ D ∧ D ≤ 1000000
  p : par.length ≤ 1000000
theorem toZ_back (ps : List (List Nat)) : ((toZ ps).map fun r => r.map Int.toNat) = ps := by
  unfold toZ
  rw [List.map_map]
  have : ((fun r : List Int => r.map Int.toNat) ∘ fun r : List Nat => r.map fun n : Nat => (n : Int)) = id := by
    funext r
    simp [Function.comp_def]
  rw [this]; simp
attribute [local irreducible] Quiet Eff OpOk AWPG ACont ABlock ACalls AGoto
end Go.Proofs.YtcljokdiblnhiaaGreatDoor
end
section
namespace Go.Proofs.YtcljokdiblnhiaaGreatDoor
open Go.RowKit
abbrev Hl := Int × Int × Int × Int
def hlD (h : Hl) : List Dat := [.v (.int .i64 h.1), .v (.int .i64 h.2.1), .v (.int .i64 h.2.2.1), .v (.int .i64 h.2.2.2)]
abbrev hls (l : List Hl) : AV := .d (.sl 4 (l.map hlD))
def hl0 : Hl := (0, 0, 0, 0)
end Go.Proofs.YtcljokdiblnhiaaGreatDoor
end
section
namespace Go.Proofs.YtcljokdiblnhiaaGreatDoor
open Go.RowKit
set_option maxHeartbeats 4000000
set_option maxRecDepth 100000
theorem cmpI_lt (x y : Int) : cmpI x y < 0 ↔ x < y := by unfold cmpI; split <;> (try split) <;> omega
theorem cmpI_eq (x y : Int) : cmpI x y = 0 ↔ x = y := by unfold cmpI; split <;> (try split) <;> omega
theorem orI_lt (x : Int) (l : List Int) : orI (x :: l) < 0 ↔ x < 0 ∨ (x = 0 ∧ orI l < 0) := by
  show (if x ≠ 0 then x else orI l) < 0 ↔ _
  split
  · omega
  · omega
attribute [local irreducible] Quiet Eff OpOk AWPG ACont ABlock ACalls AGoto
end Go.Proofs.YtcljokdiblnhiaaGreatDoor
end
section
namespace Go.Proofs.YtcljokdiblnhiaaGreatDoor
open Go.RowKit
inductive Lf where
  | i (o : Nat)
  | s (o : Nat)
def fldsD (P : Program) : Nat → Nat → Nat → List Field → Option (List Lf)
  | 0, _, _, _ => none
  | n + 1, off, sz, [] => some []
  | n + 1, off, sz, f :: fs =>
    if f.name = "_" then none else
    match fldsD P n off sz fs with
    | none => none
    | some rest =>
      match P.underlying f.type with
      | some (.int _) => if f.offset < sz then some (.i (off + f.offset) :: rest) else none
      | some .string => if f.offset < sz then some (.s (off + f.offset) :: rest) else none
      | some (.struct fs2) => if P.stoodInHeld f.type then none else
        match P.info? f.type with
        | none => none
        | some inf => if f.offset + inf.size ≤ sz then (match fldsD P n (off + f.offset) inf.size fs2.toList with | some l => some (l ++ rest) | none => none) else none
      | _ => none
def eqLf (xs ys : Array Value) : List Lf → Option Bool
  | [] => some true
  | .i o :: os => match xs[o]?, ys[o]?, eqLf xs ys os with
    | some (.int k a), some (.int k' b), some r => if k = k' then some (decide (a = b) && r) else none
    | _, _, _ => none
  | .s o :: os => match xs[o]?, ys[o]?, eqLf xs ys os with
    | some (.string a), some (.string b), some r => some ((a.toList == b.toList) && r)
    | _, _, _ => none
theorem eqLf_app {xs ys : Array Value} : ∀ {A B : List Lf} {b : Bool}, eqLf xs ys (A ++ B) = some b → ∃ b1 b2, eqLf xs ys A = some b1 ∧ eqLf xs ys B = some b2 ∧ b = (b1 && b2)
  | [], B, b, h => ⟨true, b, rfl, h, by simp⟩
  | .i o :: A, B, b, h => by
    simp only [List.cons_append, eqLf] at h ⊢
    split at h
    · rename_i k a k' a' r h1 h2 h3
      split at h
      · rename_i hk
        obtain ⟨b1, b2, e1, e2, rfl⟩ := eqLf_app h3
        rw [h1, h2, e1]
        simp only [Option.some.injEq] at h
        exact ⟨decide (a = a') && b1, b2, by simp [hk], e2, by rw [← h, Bool.and_assoc]⟩
      · cases h
    · cases h
  | .s o :: A, B, b, h => by
    simp only [List.cons_append, eqLf] at h ⊢
    split at h
    · rename_i a a' r h1 h2 h3
      obtain ⟨b1, b2, e1, e2, rfl⟩ := eqLf_app h3
      rw [h1, h2, e1]
      simp only [Option.some.injEq] at h
      exact ⟨(a.toList == a'.toList) && b1, b2, rfl, e2, by rw [← h, Bool.and_assoc]⟩
    · cases h
theorem run_eqD {P : Program} {w : World} : ∀ (n d off sz : Nat) (fs : List Field) (os : List Lf) (xs ys X Y : Array Value) (b : Bool), fldsD P n off sz fs = some os → (∀ i, i < sz → X[i]? = xs[off + i]?) → (∀ i, i < sz → Y[i]? = ys[off + i]?) → eqLf xs ys os = some b → (Op.eqFields (d + n) X Y fs).run P w = .ok b w
  | 0, d, off, sz, fs, os, xs, ys, X, Y, b, h, hX, hY, hb => by simp [fldsD] at h
  | n + 1, d, off, sz, [], os, xs, ys, X, Y, b, h, hX, hY, hb => by
    simp only [fldsD, Option.some.injEq] at h
    subst h
    simp only [eqLf, Option.some.injEq] at hb
    subst hb
    rfl
  | n + 1, d, off, sz, f :: fs, os, xs, ys, X, Y, b, h, hX, hY, hb => by
    simp only [fldsD] at h
    split at h
    · cases h
    · rename_i hne
      split at h
      · cases h
      · rename_i rest hrest
        have tail : ∀ r, eqLf xs ys rest = some r → (Op.eqFields (d + (n + 1)) X Y fs).run P w = .ok r w := fun r hr => by
          have := run_eqD (w := w) n (d + 1) off sz fs rest xs ys X Y r hrest hX hY hr
          rwa [show d + 1 + n = d + (n + 1) by omega] at this
        have fin : ∀ (a c : Value) (q r : Bool), (part f.type X f.offset).run P w = .ok a w → (part f.type Y f.offset).run P w = .ok c w → (Op.equalIn (d + (n + 1)) f.type a c).run P w = .ok q w → eqLf xs ys rest = some r → (Op.eqFields (d + (n + 1)) X Y (f :: fs)).run P w = .ok (q && r) w := fun a c q r e1 e2 e3 hr => by
          simp only [Op.eqFields, hne, ne_eq, not_false_eq_true, if_true, Sem.run_bind, e1, e2, e3, Result.andThen_ok, Sem.run_ite]
          cases q with
          | true => simpa using tail r hr
          | false => simp
        split at h
        · rename_i k hk
          split at h
          · rename_i hlt
            obtain rfl : Lf.i (off + f.offset) :: rest = os := by simpa using h
            simp only [eqLf] at hb
            split at hb
            · rename_i k1 a k2 c r h1 h2 h3
              split at hb
              · rename_i hkk
                subst hkk
                obtain rfl : (decide (a = c) && r) = b := by simpa using hb
                have hia : (isAgg f.type).run P w = .ok false w := by simp [isAgg, run_underlying hk]
                refine fin (.int k1 a) (.int k1 c) (decide (a = c)) r (by simp [part, hia, hX _ hlt, h1]) (by simp [part, hia, hY _ hlt, h2]) ?_ h3
                rw [show d + (n + 1) = (d + n) + 1 by omega, run_equalIn_int w (d + n) f.type k1 k a c hk]
                congr 1
              · cases hb
            · cases hb
          · cases h
        · rename_i hk
          split at h
          · rename_i hlt
            obtain rfl : Lf.s (off + f.offset) :: rest = os := by simpa using h
            simp only [eqLf] at hb
            split at hb
            · rename_i a c r h1 h2 h3
              obtain rfl : ((a.toList == c.toList) && r) = b := by simpa using hb
              have hia : (isAgg f.type).run P w = .ok false w := by simp [isAgg, run_underlying hk]
              refine fin (.string a) (.string c) (a.toList == c.toList) r (by simp [part, hia, hX _ hlt, h1]) (by simp [part, hia, hY _ hlt, h2]) ?_ h3
              rw [show d + (n + 1) = (d + n) + 1 by omega, run_equalIn_string w (d + n) f.type a c hk]
            · cases hb
          · cases h
        · rename_i fs2 hk
          split at h
          · cases h
          · rename_i hst
            split at h
            · cases h
            · rename_i inf hi
              split at h
              · rename_i hfit
                split at h
                · rename_i l hl
                  obtain rfl : l ++ rest = os := by simpa using h
                  obtain ⟨b1, b2, g1, g2, rfl⟩ := eqLf_app hb
                  have hia : (isAgg f.type).run P w = .ok true w := by simp [isAgg, run_underlying hk]
                  have hsz : (sizeOf f.type).run P w = .ok inf.size w := by simp [sizeOf, typeInfo, hi]
                  have hfo : P.fieldsOf f.type = fs2 := by simp [Program.fieldsOf, hk]
                  refine fin (.agg (X.extract f.offset (f.offset + inf.size))) (.agg (Y.extract f.offset (f.offset + inf.size))) b1 b2 (by simp [part, hia, hsz]) (by simp [part, hia, hsz]) ?_ g2
                  rw [show d + (n + 1) = (d + n) + 1 by omega, run_equalIn_struct w (d + n) f.type _ _ (by rw [hfo]; exact hk) (by simpa using hst), hfo]
                  refine run_eqD n d (off + f.offset) inf.size fs2.toList l xs ys _ _ b1 hl (fun i hi => ?_) (fun i hi => ?_) g1
                  · have := hX (f.offset + i) (by omega)
                    rw [show off + f.offset + i = off + (f.offset + i) by omega, ← this, Array.getElem?_extract]
                    split
                    · rfl
                    · rename_i hne2
                      rw [Array.getElem?_eq_none (by omega)]
                  · have := hY (f.offset + i) (by omega)
                    rw [show off + f.offset + i = off + (f.offset + i) by omega, ← this, Array.getElem?_extract]
                    split
                    · rfl
                    · rename_i hne2
                      rw [Array.getElem?_eq_none (by omega)]
                · cases h
              · cases h
        · cases h
def fldsT (P : Program) (t : TypeId) : Option (List Lf) :=
  match P.underlying t, P.info? t with
  | some (.struct fs), some inf => if P.stoodInHeld t || P.eqGuardType P.depth t then none else fldsD P 30 0 inf.size fs.toList
  | _, _ => none
theorem run_eqT {P : Program} {t : TypeId} {os : List Lf} (h : fldsT P t = some os) {xs ys : Array Value} {b : Bool} (hb : eqLf xs ys os = some b) (x y : Operand) (w : World) :
    (do eqGuard .eql t x y (.agg xs) (.agg ys); binOp .eql t (.agg xs) (.agg ys) : Sem Value).run P w = .ok (.bool b) w ∧ (do eqGuard .neq t x y (.agg xs) (.agg ys); binOp .neq t (.agg xs) (.agg ys) : Sem Value).run P w = .ok (.bool (!b)) w := by
  unfold fldsT at h
  split at h
  · rename_i fs inf hu hi
    split at h
    · cases h
    · rename_i hc
      simp only [Bool.or_eq_true, not_or, Bool.not_eq_true] at hc
      have hfo : P.fieldsOf t = fs := by simp [Program.fieldsOf, hu]
      have e := run_eqD (P := P) (w := w) 30 9969 0 inf.size fs.toList os xs ys xs ys b h (fun i _ => by rw [Nat.zero_add]) (fun i _ => by rw [Nat.zero_add]) hb
      have e2 : (Op.equalIn 10000 t (.agg xs) (.agg ys)).run P w = .ok b w := by
        rw [run_equalIn_struct w 9999 t xs ys (by rw [hfo]; exact hu) hc.1, hfo]; exact e
      constructor
      · rw [Sem.run_bind, run_eqGuard_agg _ _ _ _ _ _ _ hc.2, Result.andThen_ok, run_eql_struct, e2]; rfl
      · rw [Sem.run_bind, run_eqGuard_agg _ _ _ _ _ _ _ hc.2, Result.andThen_ok, run_neq_struct, e2]; rfl
  · cases h
section
variable {P : Program} {m : Nat} {dst : Option Tmp} {ty : TypeId} {pos : String} {af : Array Edge} {env : List (Nat × AV)} {own : List Ent} {gd : Option (Nat × Bool)}
theorem q_eqT {t t' : TypeId} {os : List Lf} {x y : Operand} {l1 l2 : List AV} {vs1 vs2 : List Value} {b b' : Bool} (hf : fldsT P t = some os) (hx : lookO env x = .agg l1) (hy : lookO env y = .agg l2) (h1 : l1.mapM valA = some vs1) (h2 : l2.mapM valA = some vs2) (hb : eqLf vs1.toArray vs2.toArray os = some b) (he : b = b') :
    Quiet P m ⟨dst, .binOp .eql t x y t', ty, pos, af, gd⟩ env own [] (bV b') := Quiet.val fun F own' κ a w hs _ _ _ => by
  subst he
  have g1 := hs x (by simp [Op.operands]); rw [hx] at g1
  have g2 := hs y (by simp [Op.operands]); rw [hy] at g2
  refine ⟨.bool b, exec_v ?_, sat_v.2 rfl⟩
  rw [valL_eq h1 g1, valL_eq h2 g2]; exact (run_eqT hf hb x y w).1
theorem q_neT {t t' : TypeId} {os : List Lf} {x y : Operand} {l1 l2 : List AV} {vs1 vs2 : List Value} {b b' : Bool} (hf : fldsT P t = some os) (hx : lookO env x = .agg l1) (hy : lookO env y = .agg l2) (h1 : l1.mapM valA = some vs1) (h2 : l2.mapM valA = some vs2) (hb : eqLf vs1.toArray vs2.toArray os = some b) (he : (!b) = b') :
    Quiet P m ⟨dst, .binOp .neq t x y t', ty, pos, af, gd⟩ env own [] (bV b') := Quiet.val fun F own' κ a w hs _ _ _ => by
  subst he
  have g1 := hs x (by simp [Op.operands]); rw [hx] at g1
  have g2 := hs y (by simp [Op.operands]); rw [hy] at g2
  refine ⟨.bool (!b), exec_v ?_, sat_v.2 rfl⟩
  rw [valL_eq h1 g1, valL_eq h2 g2]; exact (run_eqT hf hb x y w).2
end
end Go.Proofs.YtcljokdiblnhiaaGreatDoor
end
section
namespace Go.Proofs.YtcljokdiblnhiaaGreatDoor
open Go.RowKit
set_option maxHeartbeats 4000000
set_option maxRecDepth 100000
abbrev Cd := List Nat × Int × Int × List (List Int) × Int
abbrev Sv := List Nat × Int × Int × Int × Int
def chkD (c : Cd) : Bool := chkC c.1 c.2.1 c.2.2.1 c.2.2.2.1 c.2.2.2.2
def FInD (c : Cd) : Prop := FIn c.1 c.2.2.1 c.2.2.2.1
structure NameIn (s : List Nat) : Prop where
  b : isB s
  l : s.length < 9223372036854775808
attribute [local irreducible] Quiet Eff OpOk AWPG ACont ABlock ACalls AGoto
end Go.Proofs.YtcljokdiblnhiaaGreatDoor
end
section
namespace Go.Proofs.YtcljokdiblnhiaaGreatDoor
open Go.RowKit
set_option maxHeartbeats 4000000
set_option maxRecDepth 100000
theorem fin_chk {c : Cd} (h : chkD c = true) (hn : NameIn c.1) : FInD c := by
  have hv := chk_valid h
  unfold validC at hv
  simp only [Bool.and_eq_true, decide_eq_true_eq] at hv
  exact ⟨hn.b, hn.l, by omega, by omega⟩
attribute [local irreducible] Quiet Eff OpOk AWPG ACont ABlock ACalls AGoto
end Go.Proofs.YtcljokdiblnhiaaGreatDoor
end
section
namespace Go.Proofs.YtcljokdiblnhiaaGreatDoor
open Go.RowKit
set_option maxHeartbeats 4000000
set_option maxRecDepth 100000
structure LibOk (cs : List Cd) (vs : List Sv) : Prop where
  cn : ∀ c ∈ cs, NameIn c.1
  ck : ∀ c ∈ cs, chkD c = true
  vn : ∀ v ∈ vs, NameIn v.1
  cl : cs.length ≤ 1000
  vl : vs.length ≤ 1000
theorem LibOk.fin {cs : List Cd} {vs : List Sv} (h : LibOk cs vs) : ∀ c ∈ cs, FInD c := fun c hc => fin_chk (h.ck c hc) (h.cn c hc)
attribute [local irreducible] Quiet Eff OpOk AWPG ACont ABlock ACalls AGoto
end Go.Proofs.YtcljokdiblnhiaaGreatDoor
end
section
namespace Go.Proofs.YtcljokdiblnhiaaGreatDoor
open Go.RowKit
set_option maxHeartbeats 4000000
set_option maxRecDepth 100000
section
variable {α : Type} {q : α → Bool} {l : List α}
theorem idxA_iff {i : Nat} : idxA q l = (i : Int) ↔ ∃ h : i < l.length, q l[i] = true ∧ ∀ (j : Nat) (hj : j < i), q (l[j]'(by omega)) = false := by
  unfold idxA
  constructor
  · intro h
    split at h
    · rename_i k hk
      obtain rfl : k = i := by omega
      obtain ⟨h1, h2, h3⟩ := List.findIdx?_eq_some_iff_getElem.1 hk
      exact ⟨h1, h2, fun j hj => by simpa using h3 j hj⟩
    · omega
  · rintro ⟨h1, h2, h3⟩
    have : l.findIdx? q = some i := List.findIdx?_eq_some_iff_getElem.2 ⟨h1, h2, fun j hj => by simpa using h3 j hj⟩
    rw [this]
theorem idxA_neg : ¬ 0 ≤ idxA q l ↔ ∀ x ∈ l, q x = false := by
  unfold idxA
  split
  · rename_i k hk
    obtain ⟨h1, h2, h3⟩ := List.findIdx?_eq_some_iff_getElem.1 hk
    constructor
    · intro h; omega
    · intro h
      rw [h _ (List.getElem_mem h1)] at h2; cases h2
  · rename_i hn
    exact ⟨fun _ => List.findIdx?_eq_none_iff.1 hn, fun _ => by omega⟩
theorem idxA_nat (h : 0 ≤ idxA q l) : ∃ i : Nat, idxA q l = i := ⟨(idxA q l).toNat, by omega⟩
end
end Go.Proofs.YtcljokdiblnhiaaGreatDoor
end
section
namespace Go.Proofs.YtcljokdiblnhiaaGreatDoor
open Go.RowKit
section
variable {P : Program} {m : Nat} {env : List (Nat × AV)} {own : List Ent} {dst : Option Tmp} {ty : TypeId} {pos : String} {af : Array Edge} {gd : Option (Nat × Bool)}
theorem q_ld_mapp {α : Type} {f : α → List Dat} {l : List α} {t : TypeId} {k : Nat} {x : Operand} {sz j o : Nat} {r : List AV} (ht : tyInfo P t = some (true, k)) (hx : lookO env x = .fpt sz (l.map f) j o) (hj : j < l.length) (hr : takeF k (((f (l[j]'hj)).map AV.d).drop o) = some r) :
    Quiet P m ⟨dst, .load t x, ty, pos, af, gd⟩ env own [] (.agg r) :=
  Quiet.val fun F own' κ a w hs _ _ _ => by
    have h1 := hs x (by simp [Op.operands]); rw [hx, AV.sat] at h1
    obtain ⟨b, q, h2, h3, h4, h5⟩ := h1
    obtain ⟨h6, h7⟩ := Dat.rowsSat_iff.1 h5 j (f l[j]) (by rw [List.getElem?_map, List.getElem?_eq_getElem hj]; rfl)
    have h7 := Dat.rowSat_iff.1 h7
    generalize f l[j] = e at *
    obtain ⟨hr1, hr2⟩ := takeF_spec hr
    rw [List.length_drop, List.length_map] at hr2
    rcases Nat.lt_or_ge o e.length with ho | ho
    · let us := (List.range k).map fun i => ((w.cell? ⟨b, q + j * sz + (o + i), none⟩).getD undef)
      have hus : ∀ (i : Nat) (y : Dat), i < k → e[o + i]? = some y → ∃ u, us[i]? = some u ∧ w.cell? ⟨b, q + j * sz + (o + i), none⟩ = some u ∧ Dat.sat (badK F κ) w y u := fun i y hi hy => by
        obtain ⟨u, h8, h9, h10⟩ := h7 (o + i) y hy
        exact ⟨u, by simp [us, hi, h8], h8, h10⟩
      have hrun : (Instr.loadAt t (.pointer (some ⟨b, q + j * sz + o, none⟩))).run P w = .ok (.agg us.toArray) w := by
        refine run_loadAt_agg ht us (by simp [us]) fun i u hu => ?_
        have hlt : i < k := by have := (List.getElem?_eq_some_iff.1 hu).1; simpa [us] using this
        obtain ⟨u', h8, h9, _⟩ := hus i _ hlt (List.getElem?_eq_getElem (by omega))
        rw [hu] at h8; obtain rfl : u = u' := by simpa using h8
        rw [show q + j * sz + o + i = q + j * sz + (o + i) from by omega]; exact h9
      refine ⟨.agg us.toArray, exec_v (by rw [h2]; exact hrun), ?_⟩
      rw [AV.sat]
      refine ⟨_, rfl, satL_of (by simp [us, hr1]; omega) fun i y hy => ?_⟩
      rw [hr1, List.getElem?_take] at hy
      split at hy
      · rename_i hik
        rw [List.getElem?_drop, List.getElem?_map] at hy
        cases he' : e[o + i]? with
        | none => simp [he'] at hy
        | some d =>
          obtain rfl : AV.d d = y := by simpa [he'] using hy
          obtain ⟨u, h8, _, h9⟩ := hus i d hik he'
          exact ⟨u, by simpa using h8, by rw [AV.sat]; exact h9⟩
      · cases hy
    · obtain rfl : k = 0 := by omega
      have hrun : (Instr.loadAt t (.pointer (some ⟨b, q + j * sz + o, none⟩))).run P w = .ok (.agg ([] : List Value).toArray) w := by
        refine run_loadAt_agg ht [] rfl fun i u hu => by simp at hu
      refine ⟨.agg ([] : List Value).toArray, exec_v (by rw [h2]; exact hrun), ?_⟩
      rw [AV.sat]
      refine ⟨_, rfl, ?_⟩
      rw [hr1]
      simp [AV.satL]
end
end Go.Proofs.YtcljokdiblnhiaaGreatDoor
end
