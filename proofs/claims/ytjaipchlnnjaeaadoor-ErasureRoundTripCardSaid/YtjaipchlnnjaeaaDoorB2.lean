import Derived.ProofKit
import Derived.OpenShut
import Derived.ChangeOld
import Derived.ChangeSame
import Derived.Below
import Derived.Carry
import Derived.SizedLaws
import Derived.SliceStrings
import Derived.Deep.Slices
import Derived.Test.YtjaipchlnnjaeaaDoorA1
import Derived.Test.YtjaipchlnnjaeaaDoorA2
import Derived.LaidLaws
import Derived.Handed
import Derived.FnData
import Derived.Test.YtjaipchlnnjaeaaDoorProg
import Derived.Test.YtjaipchlnnjaeaaDoorRows
/- Joined texts: Open Kern13 Open8 Fld8. -/
section
/- Opening arguments that are (nested) structs of one-cell fields. No program in sight. -/
namespace Go.Proofs.YtjaipchlnnjaeaaDoor
open Go.ChangeShapes Go.WideShapes Go.ChangeAt Go.RowKit

section
variable {H : Type} {enc : TypeId × Value → H} {P : Program} {w : World} {base : Nat} {spare : Nat → Bool} {held : Bool}
theorem open_field {t : TypeId} {fs : Array Field} {fuel : Nat} {cs : List Value} {x : DataW H × List MemPlace} (ht : P.underlying t = some (.struct fs)) (h : DataW.trod enc P w base spare held fuel t cs = some x) (i : Nat) (f : Field) (hf : fs[i]? = some f) :
    ∃ y n, DataW.trod enc P w base spare held n f.type ((cs.drop f.offset).take (P.cellsOf f.type)) = some y := by
  obtain ⟨xs, n, _, _, _, hlen, hg⟩ := DataW.trod_struct ht h
  have h1 := hg i f hf
  have hi : i < fs.size := (Array.getElem?_eq_some_iff.1 hf).1
  exact ⟨xs[i]'(by omega), n, by rw [h1]; exact List.getElem?_eq_getElem (by omega)⟩
theorem open_cell {t : TypeId} {fs : Array Field} {fuel : Nat} {cs : List Value} {x : DataW H × List MemPlace} (ht : P.underlying t = some (.struct fs)) (h : DataW.trod enc P w base spare held fuel t cs = some x) (i : Nat) (f : Field) (hf : fs[i]? = some f) (c : Value) (hc : (cs.drop f.offset).take (P.cellsOf f.type) = [c]) :
    ∃ y n, DataW.trod enc P w base spare held n f.type [c] = some y := by
  have := open_field ht h i f hf
  rwa [hc] at this
theorem int_cell {t : TypeId} {k : IntKind} {n : Nat} {c : Value} {y : DataW H × List MemPlace} (ht : P.underlying t = some (.int k)) (h : DataW.trod enc P w base spare held n t [c] = some y) : ∃ a, c = .int k a ∧ (Lit.int k a).wf = true := by
  obtain ⟨a, hc, _, hw⟩ := DataW.trod_int ht h
  injection hc with hc _
  exact ⟨a, hc, hw⟩
end
theorem list4 {α : Type} {l : List α} (h : l.length = 4) : ∃ a0 a1 a2 a3, l = [a0, a1, a2, a3] := by
  match l, h with
  | [a0, a1, a2, a3], _ => exact ⟨_, _, _, _, rfl⟩
theorem list6 {α : Type} {l : List α} (h : l.length = 6) : ∃ a0 a1 a2 a3 a4 a5, l = [a0, a1, a2, a3, a4, a5] := by
  match l, h with
  | [a0, a1, a2, a3, a4, a5], _ => exact ⟨_, _, _, _, _, _, rfl⟩
theorem list12 {α : Type} {l : List α} (h : l.length = 12) : ∃ a0 a1 a2 a3 a4 a5 a6 a7 a8 a9 a10 a11, l = [a0, a1, a2, a3, a4, a5, a6, a7, a8, a9, a10, a11] := by
  match l, h with
  | [a0, a1, a2, a3, a4, a5, a6, a7, a8, a9, a10, a11], _ => exact ⟨_, _, _, _, _, _, _, _, _, _, _, _, rfl⟩
end Go.Proofs.YtjaipchlnnjaeaaDoor
end

section
/- From the machine of abstract values to the calls of the kit's laws. No program in sight. -/
namespace Go.Proofs.YtjaipchlnnjaeaaDoor
open Go.RowKit

theorem calls_of_acalls {P : Program} {f : FuncId} {args : List AV} {b : Bool} {own' : List Ent} (h : ACalls P f args [] (bV b) own') (vs : List Value) (W : World) (hg : ∀ p ∈ glbs, p.1 < W.heap.size ∧ some p.1 ∉ ([] : List (Option Nat)) ∧ ∃ t fz, W.heap[p.1]? = some (.cells p.2 t fz)) (ha : AV.satL (fun _ => False) [] [] W args vs) :
    Calls P f vs.toArray W fun e w' => e = .returned (.bool b) ∧ Below W.heap.size W w' := by
  refine (h (fun _ => False) [] W vs ⟨rfl, (fun _ h => h.elim), (fun _ h => nomatch h), (fun _ _ _ h => by cases h), (fun _ _ h => by cases h), hg⟩ ha).mono ?_
  intro e w' ⟨v, κ', he, hv, _, tr⟩
  refine ⟨?_, tr.os, tr.tape, tr.output, tr.size, fun k hk => tr.old k hk (by simp)⟩
  rw [he]
  have : v = .bool b := by simpa [AV.sat, Dat.sat] using hv
  rw [this]

end Go.Proofs.YtjaipchlnnjaeaaDoor
end

section
/- Opening arguments as data: numbers, texts, slices of any depth. No program in sight. -/
namespace Go.Proofs.YtjaipchlnnjaeaaDoor
open Go.ChangeShapes Go.WideShapes Go.ChangeAt Go.RowKit
set_option linter.unusedVariables false
set_option linter.unusedSimpArgs false

section
variable {H : Type} {enc : TypeId × Value → H} {P : Program} {w : World} {base : Nat} {spare : Nat → Bool} {held : Bool}
/-- What reads at a type is the data of something. -/
def Opens (enc : TypeId × Value → H) (P : Program) (w : World) (base : Nat) (spare : Nat → Bool) (held : Bool) (t : TypeId) {α : Type} (f : α → List Dat) (ok : α → Prop) : Prop :=
  ∀ (fuel : Nat) (cs : List Value) (x : DataW H × List MemPlace), DataW.trod enc P w base spare held fuel t cs = some x →
    ∃ a, ok a ∧ (f a).length = cs.length ∧ ∀ (j : Nat) (y : Dat), (f a)[j]? = some y → ∃ u, cs[j]? = some u ∧ u.oneCell' = true ∧ Dat.sat (badK (fun _ => False) []) w y u
theorem opens_one {t : TypeId} {α : Type} {g : α → Dat} {ok : α → Prop} (h : ∀ (fuel : Nat) (cs : List Value) (x : DataW H × List MemPlace), DataW.trod enc P w base spare held fuel t cs = some x → ∃ a u, ok a ∧ cs = [u] ∧ u.oneCell' = true ∧ Dat.sat (badK (fun _ => False) []) w (g a) u) : Opens enc P w base spare held t (fun a => [g a]) ok := fun fuel cs x hx => by
  obtain ⟨a, u, h1, rfl, h2, h3⟩ := h fuel cs x hx
  refine ⟨a, h1, rfl, fun j y hy => ?_⟩
  cases j with
  | succ j => simp at hy
  | zero =>
    simp only [List.getElem?_cons_zero, Option.some.injEq] at hy
    subst hy
    exact ⟨u, rfl, h2, h3⟩
theorem opens_string {t : TypeId} (ht : P.underlying t = some .string) : Opens enc P w base spare held t sD (fun l => isB l ∧ l.length ≤ maxLen) :=
  opens_one fun fuel cs x hx => by
    obtain ⟨s, rfl, _, hs⟩ := DataW.trod_string ht hx
    refine ⟨s.data.toList.map (·.toNat), .string s, ⟨isB_nat s, by rw [List.length_map]; exact hs⟩, rfl, rfl, ?_⟩
    rw [Dat.sat, bytesOf_nat]
theorem opens_int {t : TypeId} (ht : P.underlying t = some (.int .i64)) : Opens enc P w base spare held t iD (fun n => -9223372036854775808 ≤ n ∧ n < 9223372036854775808) :=
  opens_one fun fuel cs x hx => by
    obtain ⟨n, rfl, _, hw⟩ := DataW.trod_int ht hx
    refine ⟨n, _, ?_, rfl, rfl, rfl⟩
    have h1 : IntKind.i64.max = 9223372036854775807 := by decide +kernel
    have h2 : IntKind.i64.min = -9223372036854775808 := by decide +kernel
    simp only [Lit.wf, Bool.and_eq_true, decide_eq_true_eq] at hw
    rw [h1, h2] at hw
    omega
theorem opens_bool {t : TypeId} (ht : P.underlying t = some .bool) : Opens enc P w base spare held t tD (fun _ => True) :=
  opens_one fun fuel cs x hx => by
    obtain ⟨b, rfl, _⟩ := DataW.trod_bool ht hx
    exact ⟨b, _, trivial, rfl, rfl, rfl⟩
theorem choose_list {α : Type} {Q : Nat → α → Prop} : ∀ n, (∀ i, i < n → ∃ a, Q i a) → ∃ l : List α, l.length = n ∧ ∀ i a, l[i]? = some a → Q i a
  | 0, _ => ⟨[], rfl, fun i a h => by simp at h⟩
  | n + 1, h => by
    obtain ⟨l, hl, hq⟩ := choose_list n (fun i hi => h i (by omega))
    obtain ⟨a, ha⟩ := h n (by omega)
    refine ⟨l ++ [a], by simp [hl], fun i b hb => ?_⟩
    by_cases hi : i < n
    · rw [List.getElem?_append_left (by omega)] at hb; exact hq i b hb
    · have : i = n := by
        have := (List.getElem?_eq_some_iff.1 hb).1
        simp [hl] at this; omega
      subst this
      rw [List.getElem?_append_right (by omega), hl, Nat.sub_self] at hb
      simp only [List.getElem?_cons_zero, Option.some.injEq] at hb
      subst hb; exact ha
theorem opens_slice {t e : TypeId} {sz : Nat} {α : Type} {f : α → List Dat} {ok : α → Prop} (ht : P.underlying t = some (.slice e)) (hc : P.cellsOf e = sz) (h0 : 0 < sz) (he : Opens enc P w base spare held e f ok) :
    Opens enc P w base spare held t (fun l : List α => [.sl sz (l.map f)]) (fun l => (∀ a ∈ l, ok a) ∧ l.length ≤ maxLen) :=
  opens_one fun fuel cs x hx => by
    rcases DataW.trod_slice ht hx with ⟨rfl, _⟩ | ⟨a, len, cap, elems, rest, n, _, rfl, _, hb, hl, hm, hlen, hel, _, _⟩
    · refine ⟨[], .slice none 0 0, ⟨fun a h => by simp at h, Nat.zero_le _⟩, rfl, rfl, ?_⟩
      rw [Dat.sat]
      exact ⟨none, 0, rfl, Nat.le_refl _, Nat.zero_le _, fun h => by simp at h⟩
    · have each : ∀ i, i < len → ∃ el, ok el ∧ (f el).length = sz ∧ ∀ (j : Nat) (y : Dat), (f el)[j]? = some y → ∃ u, w.cell? ((a.add (i * sz)).add j) = some u ∧ u.oneCell' = true ∧ Dat.sat (badK (fun _ => False) []) w y u := fun i hi => by
        have h1 := hel i hi
        rw [List.getElem?_eq_getElem (by omega), hc, Option.bind_eq_some_iff] at h1
        obtain ⟨cs', h2, h3⟩ := h1
        obtain ⟨_, h4, h5⟩ := World.cells?_some h2
        obtain ⟨el, k1, k2, k3⟩ := he n cs' _ h3
        refine ⟨el, k1, by omega, fun j y hy => ?_⟩
        obtain ⟨u, k4, k5, k6⟩ := k3 j y hy
        have hj : j < sz := by rw [← h4]; exact (List.getElem?_eq_some_iff.1 k4).1
        exact ⟨u, by rw [h5 j hj]; exact k4, k5, k6⟩
      obtain ⟨l, hll, hlq⟩ := choose_list len each
      refine ⟨l, .slice (some a) len cap, ⟨fun el hel2 => ?_, by omega⟩, rfl, rfl, ?_⟩
      · obtain ⟨i, hi, rfl⟩ := List.getElem_of_mem hel2
        exact (hlq i _ (List.getElem?_eq_getElem hi)).1
      · rw [Dat.sat]
        refine ⟨some a, cap, by rw [List.length_map, hll], by rw [List.length_map]; omega, hm, fun hp => ?_⟩
        rw [List.length_map] at hp
        have hfirst := hlq 0 _ (List.getElem?_eq_getElem hp)
        obtain ⟨_, k2, k3⟩ := hfirst
        obtain ⟨u, k4, _, _⟩ := k3 0 _ (List.getElem?_eq_getElem (by omega))
        have e0 : (a.add (0 * sz)).add 0 = a := by simp [Addr.add]
        rw [e0] at k4
        obtain ⟨b, o, sp⟩ := a
        have hsp : sp = none := by
          unfold World.cell? at k4
          split at k4
          · split at k4
            · cases k4
            · rename_i h1; simpa using h1
          · cases k4
        subst hsp
        have hlt : b < w.heap.size := by
          have := World.block_lt_of_cell? _ _ k4
          exact this
        refine ⟨b, o, rfl, hlt, by simp [badK], Dat.rowsSat_iff.2 fun j el hj => ?_⟩
        rw [List.getElem?_map] at hj
        cases hx : l[j]? with
        | none => rw [hx] at hj; cases hj
        | some v =>
          rw [hx] at hj
          simp only [Option.map_some, Option.some.injEq] at hj
          subst hj
          obtain ⟨_, k2', k3'⟩ := hlq j v hx
          refine ⟨k2', Dat.rowSat_iff.2 fun j2 y hy => ?_⟩
          obtain ⟨u', k4', k5', k6'⟩ := k3' j2 y hy
          refine ⟨u', ?_, k5', k6'⟩
          rw [← k4']
          congr 1
          simp only [Addr.add]
          by_cases h1 : j * sz = 0
          · rw [if_pos h1, h1]
            by_cases h2 : j2 = 0
            · rw [if_pos h2, h2]; simp
            · rw [if_neg h2]; simp
          · rw [if_neg h1]
            by_cases h2 : j2 = 0
            · rw [if_pos h2, h2]; simp
            · rw [if_neg h2]
/-- The value of one cell. -/
theorem opens_cell {t : TypeId} {α : Type} {g : α → Dat} {ok : α → Prop} {fuel : Nat} {c : Value} {x : DataW H × List MemPlace} (h : Opens enc P w base spare held t (fun a => [g a]) ok) (hx : DataW.trod enc P w base spare held fuel t [c] = some x) : ∃ a, ok a ∧ Dat.sat (badK (fun _ => False) []) w (g a) c := by
  obtain ⟨a, h1, _, h3⟩ := h fuel [c] x hx
  obtain ⟨u, h4, _, h6⟩ := h3 0 (g a) rfl
  simp only [List.getElem?_cons_zero, Option.some.injEq] at h4
  subst h4
  exact ⟨a, h1, h6⟩
theorem one_cell {t : TypeId} {α : Type} {g : α → Dat} {ok : α → Prop} {fuel : Nat} {c : Value} {x : DataW H × List MemPlace} (h : Opens enc P w base spare held t (fun a => [g a]) ok) (hx : DataW.trod enc P w base spare held fuel t [c] = some x) : c.oneCell' = true := by
  obtain ⟨a, h1, _, h3⟩ := h fuel [c] x hx
  obtain ⟨u, h4, h5, _⟩ := h3 0 (g a) rfl
  simp only [List.getElem?_cons_zero, Option.some.injEq] at h4
  subst h4
  exact h5
theorem opens_arg {t : TypeId} {α : Type} {g : α → Dat} {ok : α → Prop} {v : Value} {d : DataW H} {ps : List MemPlace} (h : Opens enc P w base spare held t (fun a => [g a]) ok) (hv : v.cells.toList = [v]) (hx : DataW.Trod enc P w base spare held t v d ps) : ∃ a, ok a ∧ AV.sat (fun _ => False) [] [] w (.d (g a)) v := by
  obtain ⟨fuel, hf⟩ := hx
  rw [hv] at hf
  obtain ⟨a, h1, h2⟩ := opens_cell h hf
  exact ⟨a, h1, by rw [AV.sat]; exact h2⟩
variable {r : Reach} {b0 : Nat}
theorem cells_sl {t e : TypeId} {v : Value} (ht : P.underlying t = some (.slice e)) (h : Value.okWide P w r b0 t v) : v.cells.toList = [v] := by
  simp only [Value.okWide, ht, Cell.okWide] at h
  cases v <;> simp_all [Cell.ok, Value.cells]
theorem cells_str {t : TypeId} {v : Value} (ht : P.underlying t = some .string) (h : Value.okWide P w r b0 t v) : v.cells.toList = [v] := by
  simp only [Value.okWide, ht, Cell.okWide] at h
  cases v <;> simp_all [Cell.ok, Value.cells]
end
theorem list5 {α : Type} {l : List α} (h : l.length = 5) : ∃ a0 a1 a2 a3 a4, l = [a0, a1, a2, a3, a4] := by
  match l, h with
  | [a0, a1, a2, a3, a4], _ => exact ⟨_, _, _, _, _, rfl⟩
theorem list8 {α : Type} {l : List α} (h : l.length = 8) : ∃ a0 a1 a2 a3 a4 a5 a6 a7, l = [a0, a1, a2, a3, a4, a5, a6, a7] := by
  match l, h with
  | [a0, a1, a2, a3, a4, a5, a6, a7], _ => exact ⟨_, _, _, _, _, _, _, _, rfl⟩
end Go.Proofs.YtjaipchlnnjaeaaDoor
end

section
/- The package-level variable of package field, as the row lists it. -/
namespace Go.Proofs.YtjaipchlnnjaeaaDoor
open Go.ChangeShapes Go.WideShapes Go.ChangeAt Go.RowKit
set_option linter.unusedVariables false
set_option linter.unusedSimpArgs false
set_option maxRecDepth 100000
section
variable {H : Type} {enc : TypeId × Value → H} {w : World} {base : Nat} {spare : Nat → Bool} {held : Bool}
theorem cellsI : Tryd.prog.cellsOf 3 = 1 := by kernel_rfl
theorem cells125 : Tryd.prog.cellsOf 125 = 2 := by kernel_rfl
theorem cells126 : Tryd.prog.cellsOf 126 = 4 := by kernel_rfl
theorem two_cells {fuel : Nat} {c0 c1 : Value} {a b : Int} {q : List MemPlace} (h : DataW.trod enc Tryd.prog w base spare held fuel 125 [c0, c1] = some (.agg [.lit (.int .i64 a), .lit (.int .i64 b)], q)) : c0 = .int .i64 a ∧ c1 = .int .i64 b := by
  obtain ⟨xs, n, _, hx, _, hlen, hg⟩ := DataW.trod_struct Tryd.underlying125 h
  have h0 := hg 0 _ rfl
  have h1 := hg 1 _ rfl
  obtain ⟨y0, y1, rfl⟩ : ∃ y0 y1, xs = [y0, y1] := by
    match xs, hlen with
    | [y0, y1], _ => exact ⟨_, _, rfl⟩
  replace h0 : DataW.trod enc Tryd.prog w base spare held n 3 [c0] = some y0 := by
    have e : List.take (Tryd.prog.cellsOf 3) [c0, c1] = [c0] := by rw [cellsI]; rfl
    rw [← e]; exact h0
  replace h1 : DataW.trod enc Tryd.prog w base spare held n 3 [c1] = some y1 := by
    have e : List.take (Tryd.prog.cellsOf 3) [c1] = [c1] := by rw [cellsI]; rfl
    rw [← e]; exact h1
  obtain ⟨m0, g0, e0, _⟩ := DataW.trod_int Tryd.underlying3 h0
  obtain ⟨m1, g1, e1, _⟩ := DataW.trod_int Tryd.underlying3 h1
  subst e0; subst e1
  obtain ⟨hx1, _⟩ := Prod.mk.inj hx
  simp only [List.map_cons, List.map_nil, DataW.agg.injEq, List.cons.injEq, DataW.lit.injEq, Lit.int.injEq, and_true, true_and] at hx1
  obtain ⟨rfl, rfl⟩ := hx1
  simp only [List.cons.injEq, and_true] at g0 g1
  exact ⟨g0, g1⟩
theorem fields_cells {fuel : Nat} {cs : Array Value} {q : List MemPlace} (h : DataW.trod enc Tryd.prog w base spare held fuel 126 cs.toList = some (Rows.laid_solvent_field_fields, q)) : cs = #[.int .i64 8, .int .i64 285, .int .i64 16, .int .i64 69643] := by
  obtain ⟨xs, m, _, hx, hcl, hlen, hg⟩ := DataW.trod_array Tryd.underlying126 h
  obtain ⟨l⟩ := cs
  obtain ⟨c0, c1, c2, c3, rfl⟩ := list4 (hcl.trans cells126)
  have h0 := hg 0 (by decide)
  have h1 := hg 1 (by decide)
  obtain ⟨y0, y1, rfl⟩ : ∃ y0 y1, xs = [y0, y1] := by
    match xs, hlen with
    | [y0, y1], _ => exact ⟨_, _, rfl⟩
  rw [cells125] at h0 h1
  replace h0 : DataW.trod enc Tryd.prog w base spare held m 125 [c0, c1] = some y0 := h0
  replace h1 : DataW.trod enc Tryd.prog w base spare held m 125 [c2, c3] = some y1 := h1
  obtain ⟨hx1, _⟩ := Prod.mk.inj hx
  unfold Rows.laid_solvent_field_fields at hx1
  simp only [List.map_cons, List.map_nil, DataW.agg.injEq, List.cons.injEq, and_true] at hx1
  obtain ⟨y00, y01⟩ := y0
  obtain ⟨y10, y11⟩ := y1
  obtain ⟨r0, r1⟩ := hx1
  dsimp only at r0 r1
  subst r0; subst r1
  obtain ⟨rfl, rfl⟩ := two_cells h0
  obtain ⟨rfl, rfl⟩ := two_cells h1
  rfl
theorem satL_cons {F : Nat → Prop} {own : List Ent} {κ : List (Option Nat)} {x : AV} {v : Value} {l : List AV} {vs : List Value} (h : AV.sat F own κ w x v) (hl : AV.satL F own κ w l vs) : AV.satL F own κ w (x :: l) (v :: vs) := by
  rw [AV.satL]; exact ⟨h, hl⟩
theorem sat_any {F : Nat → Prop} {own : List Ent} {κ : List (Option Nat)} {v : Value} (h : v.oneCell' = true) : AV.sat F own κ w (.d .any) v := by
  rw [AV.sat, Dat.sat]; exact h
theorem sat_dat {x : Dat} {v : Value} (h : Dat.sat (badK (fun _ => False) []) w x v) : AV.sat (fun _ => False) [] [] w (.d x) v := by
  rw [AV.sat]; exact h
theorem sat_agg {F : Nat → Prop} {own : List Ent} {κ : List (Option Nat)} {l : List AV} {vs : List Value} (h : AV.satL F own κ w l vs) : AV.sat F own κ w (.agg l) (.agg vs.toArray) := by
  rw [AV.sat]; exact ⟨_, rfl, h⟩
theorem satL_nil {F : Nat → Prop} {own : List Ent} {κ : List (Option Nat)} : AV.satL F own κ w [] [] := by rw [AV.satL]; trivial
end
end Go.Proofs.YtjaipchlnnjaeaaDoor
end
