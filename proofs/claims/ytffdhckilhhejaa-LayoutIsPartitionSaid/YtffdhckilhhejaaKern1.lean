/- A machine of abstract values over the model: what values and memory mean, and what stays as it was. No program in sight; no condition. -/
import Derived.WalkKit
import Derived.Still
import Derived.Deep.Draws
import Derived.Lib.Hide
namespace Go.Proofs.Ytffdhckilhhejaa
open Go.RowKit
set_option linter.unusedVariables false
set_option linter.unusedSimpArgs false

/-- Data that no one writes to any more: a value, an unknown value of one cell, a slice that reads as these elements (each a list of sz cells). -/
inductive Dat where
  | v (x : Value)
  | any
  | sl (sz : Nat) (elems : List (List Dat))

mutual
def Dat.sat (B : Nat → Prop) (w : World) : Dat → Value → Prop
  | .v x, u => u = x
  | .any, u => u.oneCell' = true
  | .sl sz elems, u => ∃ A c, u = .slice A elems.length c ∧ elems.length ≤ c ∧ c ≤ maxLen ∧ (0 < elems.length → ∃ b o, A = some ⟨b, o, none⟩ ∧ b < w.heap.size ∧ ¬ B b ∧ Dat.rowsSat B w b sz o elems)
def Dat.rowSat (B : Nat → Prop) (w : World) (b : Nat) (o : Nat) : List Dat → Prop
  | [] => True
  | x :: xs => (∃ u, w.cell? ⟨b, o, none⟩ = some u ∧ u.oneCell' = true ∧ Dat.sat B w x u) ∧ Dat.rowSat B w b (o + 1) xs
def Dat.rowsSat (B : Nat → Prop) (w : World) (b sz : Nat) (o : Nat) : List (List Dat) → Prop
  | [] => True
  | e :: es => (e.length = sz ∧ Dat.rowSat B w b o e) ∧ Dat.rowsSat B w b sz (o + sz) es
end

theorem Dat.rowSat_iff {B : Nat → Prop} {w : World} {b : Nat} : ∀ {l : List Dat} {o : Nat}, Dat.rowSat B w b o l ↔ ∀ j x, l[j]? = some x → ∃ u, w.cell? ⟨b, o + j, none⟩ = some u ∧ u.oneCell' = true ∧ Dat.sat B w x u
  | [], o => by simp [Dat.rowSat]
  | y :: ys, o => by
    rw [Dat.rowSat, Dat.rowSat_iff]
    constructor
    · rintro ⟨h0, h1⟩ j x hj
      cases j with
      | zero => obtain rfl : y = x := by simpa using hj
                exact h0
      | succ j => rw [show o + (j + 1) = o + 1 + j from by omega]; exact h1 j x (by simpa using hj)
    · intro h
      exact ⟨h 0 y (by simp), fun j x hj => by rw [show o + 1 + j = o + (j + 1) from by omega]; exact h (j + 1) x (by simpa using hj)⟩
theorem Dat.rowsSat_iff {B : Nat → Prop} {w : World} {b sz : Nat} : ∀ {l : List (List Dat)} {o : Nat}, Dat.rowsSat B w b sz o l ↔ ∀ j e, l[j]? = some e → e.length = sz ∧ Dat.rowSat B w b (o + j * sz) e
  | [], o => by simp [Dat.rowsSat]
  | y :: ys, o => by
    rw [Dat.rowsSat, Dat.rowsSat_iff]
    constructor
    · rintro ⟨h0, h1⟩ j x hj
      cases j with
      | zero => obtain rfl : y = x := by simpa using hj
                rw [Nat.zero_mul, Nat.add_zero]; exact h0
      | succ j => rw [show o + (j + 1) * sz = o + sz + j * sz from by rw [Nat.succ_mul]; omega]; exact h1 j x (by simpa using hj)
    · intro h
      refine ⟨by simpa using h 0 y (by simp), fun j x hj => ?_⟩
      rw [show o + sz + j * sz = o + (j + 1) * sz from by rw [Nat.succ_mul]; omega]; exact h (j + 1) x (by simpa using hj)

/-- w' is w with more blocks; what B leaves alone is as it was, and B' leaves it alone too. -/
structure Wide (B B' : Nat → Prop) (w w' : World) : Prop where
  size : w.heap.size ≤ w'.heap.size
  same : ∀ b, b < w.heap.size → ¬ B b → w'.heap[b]? = w.heap[b]?
  free : ∀ b, b < w.heap.size → ¬ B b → ¬ B' b

theorem cell_eq {w w' : World} {b : Nat} (h : w'.heap[b]? = w.heap[b]?) (o : Nat) : w'.cell? ⟨b, o, none⟩ = w.cell? ⟨b, o, none⟩ := by simp [World.cell?, h]

mutual
theorem Dat.sat_wide {B B' : Nat → Prop} {w w' : World} (h : Wide B B' w w') : ∀ (x : Dat) {u : Value}, Dat.sat B w x u → Dat.sat B' w' x u
  | .v x, u, hs => by simpa [Dat.sat] using hs
  | .any, u, hs => by simpa [Dat.sat] using hs
  | .sl sz elems, u, hs => by
    rw [Dat.sat] at hs ⊢
    obtain ⟨A, c, h2, h3, h4, h5⟩ := hs
    refine ⟨A, c, h2, h3, h4, fun hp => ?_⟩
    obtain ⟨b, o, h6, h7, h8, h9⟩ := h5 hp
    exact ⟨b, o, h6, Nat.lt_of_lt_of_le h7 h.size, h.free b h7 h8, Dat.rowsSat_wide h (h.same b h7 h8) elems h9⟩
theorem Dat.rowSat_wide {B B' : Nat → Prop} {w w' : World} (h : Wide B B' w w') {b : Nat} (hb : w'.heap[b]? = w.heap[b]?) : ∀ (l : List Dat) {o : Nat}, Dat.rowSat B w b o l → Dat.rowSat B' w' b o l
  | [], o, hs => by simp [Dat.rowSat]
  | x :: xs, o, hs => by
    rw [Dat.rowSat] at hs ⊢
    obtain ⟨⟨u, h1, h2, h3⟩, h4⟩ := hs
    exact ⟨⟨u, by rw [cell_eq hb]; exact h1, h2, Dat.sat_wide h x h3⟩, Dat.rowSat_wide h hb xs h4⟩
theorem Dat.rowsSat_wide {B B' : Nat → Prop} {w w' : World} (h : Wide B B' w w') {b : Nat} (hb : w'.heap[b]? = w.heap[b]?) {sz : Nat} : ∀ (l : List (List Dat)) {o : Nat}, Dat.rowsSat B w b sz o l → Dat.rowsSat B' w' b sz o l
  | [], o, hs => by simp [Dat.rowsSat]
  | e :: es, o, hs => by
    rw [Dat.rowsSat] at hs ⊢
    exact ⟨⟨hs.1.1, Dat.rowSat_wide h hb e hs.1.2⟩, Dat.rowsSat_wide h hb es hs.2⟩
end

/-- An abstract value: unknown; data; a slice, a pointer into a row or a variable of the call's own (by its place among them); a pointer into data; a function value; a struct or an array; several results. -/
inductive AV where
  | top
  | d (x : Dat)
  | osl (i ver o n : Nat)
  | rpt (i ver j o : Nat)
  | opt (i o : Nat)
  | fpt (sz : Nat) (elems : List (List Dat)) (j o : Nat)
  | fn (f : FuncId) (caps : List AV)
  | agg (l : List AV)
  | tup (l : List AV)

/-- Memory of the call's own: a variable; a slice's row (its version, its elements' size and type, what it reads as). -/
inductive Ent where
  | box (l : List AV)
  | row (ver sz : Nat) (e : TypeId) (elems : List (List Dat))

def Ent.upto (y : Ent) (ver : Nat) : Prop := match y with | .row v _ _ _ => ver ≤ v | .box _ => False

def badK (F : Nat → Prop) (κ : List (Option Nat)) (b : Nat) : Prop := F b ∨ some b ∈ κ

/-- Where a slice of row i begins. -/
def OslAt (κ : List (Option Nat)) (w : World) (i sz o c : Nat) (A : Option Addr) : Prop :=
  (∃ g, κ[i]? = some (some g) ∧ A = some ⟨g, o * sz, none⟩ ∧ ∃ cur e fz, w.heap[g]? = some (.cells cur e fz) ∧ (o + c) * sz = cur.size) ∨ (κ[i]? = some none ∧ A = none ∧ c = 0)

mutual
def AV.sat (F : Nat → Prop) (own : List Ent) (κ : List (Option Nat)) (w : World) : AV → Value → Prop
  | .top, _ => True
  | .d x, u => x.sat (badK F κ) w u
  | .osl i ver o n, u => (∃ y, own[i]? = some y ∧ y.upto ver ∧ u.oneCell' = true) ∧ ∀ sz e cells, own[i]? = some (.row ver sz e cells) → o + n ≤ cells.length ∧ ∃ A c, u = .slice A n c ∧ n ≤ c ∧ c ≤ maxLen ∧ ((0 < n ∨ o = 0) → OslAt κ w i sz o c A)
  | .rpt i ver j o, u => (∃ y, own[i]? = some y ∧ y.upto ver ∧ u.oneCell' = true) ∧ ∀ sz e cells, own[i]? = some (.row ver sz e cells) → j < cells.length ∧ ∃ g, κ[i]? = some (some g) ∧ u = .pointer (some ⟨g, j * sz + o, none⟩)
  | .opt i o, u => ∃ g l, own[i]? = some (Ent.box l) ∧ κ[i]? = some (some g) ∧ u = .pointer (some ⟨g, o, none⟩)
  | .fpt sz elems j o, u => ∃ b q, u = .pointer (some ⟨b, q + j * sz + o, none⟩) ∧ b < w.heap.size ∧ ¬ badK F κ b ∧ Dat.rowsSat (badK F κ) w b sz q elems
  | .fn f caps, u => ∃ vs : Array Value, u = .func (.func f) #[] vs ∧ AV.satL F own κ w caps vs.toList
  | .agg l, u => ∃ vs : Array Value, u = .agg vs ∧ AV.satL F own κ w l vs.toList
  | .tup l, u => ∃ vs : Array Value, u = .tuple vs ∧ AV.satL F own κ w l vs.toList
def AV.satL (F : Nat → Prop) (own : List Ent) (κ : List (Option Nat)) (w : World) : List AV → List Value → Prop
  | [], [] => True
  | x :: xs, u :: us => AV.sat F own κ w x u ∧ AV.satL F own κ w xs us
  | _, _ => False
end

def EntSat (F : Nat → Prop) (own : List Ent) (κ : List (Option Nat)) (w : World) (og : Option Nat) : Ent → Prop
  | .box l => ∃ g, og = some g ∧ ∃ cur t, w.heap[g]? = some (.cells cur t (0, 0)) ∧ AV.satL F own κ w l cur.toList ∧ ∀ u ∈ cur.toList, u.oneCell' = true
  | .row _ sz e cells => 0 < sz ∧ ((og = none ∧ cells = []) ∨ ∃ g, og = some g ∧ ∃ cur, w.heap[g]? = some (.cells cur e (0, 0)) ∧ cells.length * sz ≤ cur.size ∧ Dat.rowsSat (badK F κ) w g sz 0 cells)

structure OwnSat (F : Nat → Prop) (own : List Ent) (κ : List (Option Nat)) (w : World) : Prop where
  len : own.length = κ.length
  frame : ∀ b, F b → b < w.heap.size
  lt : ∀ g, some g ∈ κ → g < w.heap.size ∧ ¬ F g
  inj : ∀ (i j g : Nat), κ[i]? = some (some g) → κ[j]? = some (some g) → i = j
  ent : ∀ (i : Nat) (x : Ent), own[i]? = some x → EntSat F own κ w (κ.getD i none) x

/-- What one step leaves as it was. -/
structure Tr (F : Nat → Prop) (m : Nat) (own : List Ent) (κ : List (Option Nat)) (w : World) (own' : List Ent) (κ' : List (Option Nat)) (w' : World) : Prop where
  os : w'.os = w.os
  tape : w'.tape = w.tape
  output : w'.output = w.output
  size : w.heap.size ≤ w'.heap.size
  old : ∀ b, b < w.heap.size → some b ∉ κ → w'.heap[b]? = w.heap[b]?
  new : ∀ b, some b ∈ κ' → some b ∈ κ ∨ w.heap.size ≤ b
  pre : κ'.take m = κ.take m
  keep : ∀ x u, AV.sat F own κ w x u → AV.sat F own' κ' w' x u

theorem Tr.refl (F : Nat → Prop) (m : Nat) (own : List Ent) (κ : List (Option Nat)) (w : World) : Tr F m own κ w own κ w :=
  ⟨rfl, rfl, rfl, Nat.le_refl _, fun _ _ _ => rfl, fun _ h => .inl h, rfl, fun _ _ h => h⟩

theorem Tr.wide {F : Nat → Prop} {κ κ' : List (Option Nat)} {w w' : World} (size : w.heap.size ≤ w'.heap.size) (old : ∀ b, b < w.heap.size → some b ∉ κ → w'.heap[b]? = w.heap[b]?) (new : ∀ b, some b ∈ κ' → some b ∈ κ ∨ w.heap.size ≤ b) :
    Wide (badK F κ) (badK F κ') w w' :=
  ⟨size, fun b hb h => old b hb fun hk => h (.inr hk), fun b hb h hb' => by
    rcases hb' with hf | hk
    · exact h (.inl hf)
    · rcases new b hk with h1 | h1
      · exact h (.inr h1)
      · omega⟩

/-- Whether an entry, changed, keeps what values say of it: a variable stays a variable in its place; a row gets a new version, or has the same length, elements and place. -/
def Fits (x : Ent) (og : Option Nat) (x' : Ent) (og' : Option Nat) (w w' : World) : Prop :=
  match x, x' with
  | .box _, .box _ => og' = og
  | .row v s e c, .row v' s' e' c' => v < v' ∨ (v = v' ∧ s = s' ∧ e = e' ∧ c.length = c'.length ∧ og' = og ∧ ∀ g, og = some g → ∀ cur t fz, w.heap[g]? = some (.cells cur t fz) → ∃ cur' t' fz', w'.heap[g]? = some (.cells cur' t' fz') ∧ cur.size = cur'.size)
  | _, _ => False

/-- Under what change of memory every abstract value keeps its meaning. -/
structure Stab (F : Nat → Prop) (own : List Ent) (κ : List (Option Nat)) (w : World) (own' : List Ent) (κ' : List (Option Nat)) (w' : World) : Prop where
  wide : Wide (badK F κ) (badK F κ') w w'
  ent : ∀ (i : Nat) (x : Ent) (og : Option Nat), own[i]? = some x → κ[i]? = some og → ∃ x' og', own'[i]? = some x' ∧ κ'[i]? = some og' ∧ Fits x og x' og' w w'

mutual
theorem AV.sat_stab {F : Nat → Prop} {own own' : List Ent} {κ κ' : List (Option Nat)} {w w' : World} (h : Stab F own κ w own' κ' w') (hκ : ∀ (i : Nat) (x : Ent), own[i]? = some x → ∃ og, κ[i]? = some og) : ∀ (x : AV) {u : Value}, AV.sat F own κ w x u → AV.sat F own' κ' w' x u
  | .top, u, hs => by simp [AV.sat]
  | .d x, u, hs => by
    rw [AV.sat] at hs ⊢
    exact Dat.sat_wide h.wide x hs
  | .osl i ver o n, u, hs => by
    rw [AV.sat] at hs ⊢
    obtain ⟨⟨y, hy, hv, h1c⟩, hs2⟩ := hs
    obtain ⟨og, hog⟩ := hκ i y hy
    obtain ⟨y', og', hy', hog', hf⟩ := h.ent i y og hy hog
    cases y with
    | box l => exact hv.elim
    | row v s t c =>
      cases y' with
      | box l => exact hf.elim
      | row v' s' t' c' =>
        have hle : ver ≤ v := hv
        refine ⟨⟨_, hy', ?_, h1c⟩, fun sz e cells' hc => ?_⟩
        · show ver ≤ v'
          rcases hf with h1 | h1
          · omega
          · omega
        · rw [hy'] at hc
          obtain ⟨rfl, rfl, rfl, rfl⟩ : v' = ver ∧ s' = sz ∧ t' = e ∧ c' = cells' := by simpa using hc
          rcases hf with h1 | ⟨rfl, rfl, rfl, h1, rfl, h4⟩
          · omega
          · obtain ⟨h5, A, c2, h6, h7, h8, h9⟩ := hs2 _ _ _ hy
            refine ⟨by omega, A, c2, h6, h7, h8, fun hp => ?_⟩
            rcases h9 hp with ⟨g, g1, g2, cur, t, fz, g3, g4⟩ | ⟨g1, g2⟩
            · obtain rfl : og' = some g := by rw [hog] at g1; simpa using g1
              obtain ⟨cur', t', fz', g5, g6⟩ := h4 g rfl cur t fz g3
              exact .inl ⟨g, hog', g2, cur', t', fz', g5, by omega⟩
            · obtain rfl : og' = none := by rw [hog] at g1; simpa using g1
              exact .inr ⟨hog', g2⟩
  | .rpt i ver j o, u, hs => by
    rw [AV.sat] at hs ⊢
    obtain ⟨⟨y, hy, hv, h1c⟩, hs2⟩ := hs
    obtain ⟨og, hog⟩ := hκ i y hy
    obtain ⟨y', og', hy', hog', hf⟩ := h.ent i y og hy hog
    cases y with
    | box l => exact hv.elim
    | row v s t c =>
      cases y' with
      | box l => exact hf.elim
      | row v' s' t' c' =>
        have hle : ver ≤ v := hv
        refine ⟨⟨_, hy', ?_, h1c⟩, fun sz e cells' hc => ?_⟩
        · show ver ≤ v'
          rcases hf with h1 | h1
          · omega
          · omega
        · rw [hy'] at hc
          obtain ⟨rfl, rfl, rfl, rfl⟩ : v' = ver ∧ s' = sz ∧ t' = e ∧ c' = cells' := by simpa using hc
          rcases hf with h1 | ⟨rfl, rfl, rfl, h1, rfl, h4⟩
          · omega
          · obtain ⟨h5, g, h6, h7⟩ := hs2 _ _ _ hy
            exact ⟨by omega, g, by rw [hog'] ; rw [hog] at h6; exact h6, h7⟩
  | .opt i o, u, hs => by
    rw [AV.sat] at hs ⊢
    obtain ⟨g, l, h1, h2, h3⟩ := hs
    obtain ⟨y', og', hy', hog', hf⟩ := h.ent i _ _ h1 h2
    cases y' with
    | box l' => exact ⟨g, l', hy', by rw [hog']; exact congrArg some hf, h3⟩
    | row v' s' t' c' => exact hf.elim
  | .fpt sz elems j o, u, hs => by
    rw [AV.sat] at hs ⊢
    obtain ⟨b, q, h1, h2, h3, h4⟩ := hs
    exact ⟨b, q, h1, Nat.lt_of_lt_of_le h2 h.wide.size, h.wide.free b h2 h3, Dat.rowsSat_wide h.wide (h.wide.same b h2 h3) elems h4⟩
  | .fn f caps, u, hs => by
    rw [AV.sat] at hs ⊢
    obtain ⟨vs, h1, h2⟩ := hs
    exact ⟨vs, h1, AV.satL_stab h hκ caps h2⟩
  | .agg l, u, hs => by
    rw [AV.sat] at hs ⊢
    obtain ⟨vs, h1, h2⟩ := hs
    exact ⟨vs, h1, AV.satL_stab h hκ l h2⟩
  | .tup l, u, hs => by
    rw [AV.sat] at hs ⊢
    obtain ⟨vs, h1, h2⟩ := hs
    exact ⟨vs, h1, AV.satL_stab h hκ l h2⟩
theorem AV.satL_stab {F : Nat → Prop} {own own' : List Ent} {κ κ' : List (Option Nat)} {w w' : World} (h : Stab F own κ w own' κ' w') (hκ : ∀ (i : Nat) (x : Ent), own[i]? = some x → ∃ og, κ[i]? = some og) : ∀ (l : List AV) {us : List Value}, AV.satL F own κ w l us → AV.satL F own' κ' w' l us
  | [], [], hs => by simp [AV.satL]
  | x :: xs, u :: us, hs => by
    rw [AV.satL] at hs ⊢
    exact ⟨AV.sat_stab h hκ x hs.1, AV.satL_stab h hκ xs hs.2⟩
  | [], _ :: _, hs => by simp [AV.satL] at hs
  | _ :: _, [], hs => by simp [AV.satL] at hs
end

theorem getD_some {κ : List (Option Nat)} {i g : Nat} (h : κ[i]? = some (some g)) : κ.getD i none = some g := by simp [List.getD_eq_getElem?_getD, h]
theorem OwnSat.lt' {F : Nat → Prop} {own : List Ent} {κ : List (Option Nat)} {w : World} (h : OwnSat F own κ w) {i g : Nat} (hi : κ[i]? = some (some g)) : g < w.heap.size ∧ ¬ F g := h.lt g (List.mem_of_getElem? hi)


theorem OwnSat.kap {F : Nat → Prop} {own : List Ent} {κ : List (Option Nat)} {w : World} (h : OwnSat F own κ w) (i : Nat) (x : Ent) (hx : own[i]? = some x) : ∃ og, κ[i]? = some og := by
  have hlt : i < own.length := (List.getElem?_eq_some_iff.1 hx).1
  exact ⟨_, List.getElem?_eq_getElem (by rw [← h.len]; exact hlt)⟩

theorem Fits.same (x : Ent) (og : Option Nat) {w w' : World} (h : ∀ g, og = some g → w'.heap[g]? = w.heap[g]?) : Fits x og x og w w' := by
  cases x with
  | box l => rfl
  | row v s e c => exact .inr ⟨rfl, rfl, rfl, rfl, rfl, fun g hg cur t fz hc => ⟨cur, t, fz, by rw [h g hg]; exact hc, rfl⟩⟩

/-- An entry keeps its meaning. -/
theorem EntSat.stab {F : Nat → Prop} {own own' : List Ent} {κ κ' : List (Option Nat)} {w w' : World} (h : Stab F own κ w own' κ' w') (hκ : ∀ (i : Nat) (x : Ent), own[i]? = some x → ∃ og, κ[i]? = some og)
    {og : Option Nat} {x : Ent} (hb : ∀ g, og = some g → w'.heap[g]? = w.heap[g]?) (he : EntSat F own κ w og x) : EntSat F own' κ' w' og x := by
  cases x with
  | box l =>
    obtain ⟨g, hg, cur, t, h1, h2, h3⟩ := he
    exact ⟨g, hg, cur, t, by rw [hb g hg]; exact h1, AV.satL_stab h hκ l h2, h3⟩
  | row v s e c =>
    obtain ⟨h0, h1⟩ := he
    refine ⟨h0, h1.imp id ?_⟩
    rintro ⟨g, hg, cur, h2, h3, h4⟩
    exact ⟨g, hg, cur, by rw [hb g hg]; exact h2, h3, Dat.rowsSat_wide h.wide (hb g hg) c h4⟩

section
variable {F : Nat → Prop} {m : Nat} {own : List Ent} {κ : List (Option Nat)} {w w' : World}

/-- One entry is changed, or moves to a new place. -/
theorem step_upd {i : Nat} {x x' : Ent} {og og' : Option Nat} (ho : OwnSat F own κ w) (hi : own[i]? = some x) (hog : κ[i]? = some og)
    (hos : w'.os = w.os) (htp : w'.tape = w.tape) (hout : w'.output = w.output) (hsz : w.heap.size ≤ w'.heap.size)
    (hsame : ∀ b, b < w.heap.size → og ≠ some b → w'.heap[b]? = w.heap[b]?)
    (hog' : og' = og ∨ ∃ g, og' = some g ∧ w.heap.size ≤ g ∧ g < w'.heap.size) (hm : m ≤ i ∨ og' = og) (hfit : Fits x og x' og' w w')
    (hent : Stab F own κ w (own.set i x') (κ.set i og') w' → EntSat F (own.set i x') (κ.set i og') w' og' x') :
    OwnSat F (own.set i x') (κ.set i og') w' ∧ Tr F m own κ w (own.set i x') (κ.set i og') w' := by
  have hlo : i < own.length := (List.getElem?_eq_some_iff.1 hi).1
  have hlk : i < κ.length := (List.getElem?_eq_some_iff.1 hog).1
  have old : ∀ b, b < w.heap.size → some b ∉ κ → w'.heap[b]? = w.heap[b]? := fun b hb hk => hsame b hb fun e => hk (e ▸ List.mem_of_getElem? hog)
  have new : ∀ b, some b ∈ κ.set i og' → some b ∈ κ ∨ w.heap.size ≤ b := fun b hb => by
    rcases List.mem_or_eq_of_mem_set hb with h1 | h1
    · exact .inl h1
    · rcases hog' with h2 | ⟨g, h2, h3, h4⟩
      · exact .inl (by rw [h1, h2]; exact List.mem_of_getElem? hog)
      · rw [h2] at h1; obtain rfl : b = g := by simpa using h1
        exact .inr h3
  have hst : Stab F own κ w (own.set i x') (κ.set i og') w' := ⟨Tr.wide hsz old new, fun j y oj hy hoj => by
    by_cases hji : j = i
    · subst hji
      obtain rfl : x = y := by rw [hi] at hy; simpa using hy
      obtain rfl : og = oj := by rw [hog] at hoj; simpa using hoj
      exact ⟨x', og', by simp [hlo], by simp [hlk], hfit⟩
    · refine ⟨y, oj, by rw [List.getElem?_set_ne (Ne.symm hji)]; exact hy, by rw [List.getElem?_set_ne (Ne.symm hji)]; exact hoj, Fits.same y oj fun g hg => ?_⟩
      subst hg
      refine hsame g (ho.lt' hoj).1 fun e => hji ?_
      rw [e] at hog
      exact ho.inj j i g hoj hog⟩
  refine ⟨⟨by simp [ho.len], fun b hb => Nat.lt_of_lt_of_le (ho.frame b hb) hsz, fun g hg => ?_, fun a b g ha hb => ?_, fun j y hy => ?_⟩,
    ⟨hos, htp, hout, hsz, old, new, ?_, fun y u => AV.sat_stab hst ho.kap y⟩⟩
  · rcases List.mem_or_eq_of_mem_set hg with h1 | h1
    · have := ho.lt g h1; exact ⟨by omega, this.2⟩
    · rcases hog' with h2 | ⟨g', h2, h3, h4⟩
      · have := ho.lt g (by rw [h1, h2]; exact List.mem_of_getElem? hog); exact ⟨by omega, this.2⟩
      · rw [h2] at h1; obtain rfl : g = g' := by simpa using h1
        exact ⟨h4, fun hf => by have := ho.frame g hf; omega⟩
  · have key : ∀ j, (κ.set i og')[j]? = some (some g) → (j = i ∧ og' = some g) ∨ (j ≠ i ∧ κ[j]? = some (some g)) := fun j hj => by
      by_cases hji : j = i
      · subst hji; rw [List.getElem?_set_self hlk] at hj; exact .inl ⟨rfl, by simpa using hj⟩
      · rw [List.getElem?_set_ne (Ne.symm hji)] at hj; exact .inr ⟨hji, hj⟩
    have fresh : ∀ j, j ≠ i → κ[j]? = some (some g) → og' ≠ some g := fun j hj hk e => by
      rcases hog' with h2 | ⟨g', h2, h3, h4⟩
      · rw [← h2, e] at hog; exact hj (ho.inj j i g hk hog)
      · rw [h2] at e; obtain rfl : g' = g := by simpa using e
        have := (ho.lt' hk).1; omega
    rcases key a ha with ⟨h1, h2⟩ | ⟨h1, h2⟩ <;> rcases key b hb with ⟨h3, h4⟩ | ⟨h3, h4⟩
    · omega
    · exact absurd h2 (fresh b h3 h4)
    · exact absurd h4 (fresh a h1 h2)
    · exact ho.inj a b g h2 h4
  · by_cases hji : j = i
    · subst hji
      rw [List.getElem?_set_self hlo] at hy
      obtain rfl : x' = y := by simpa using hy
      have : (κ.set j og').getD j none = og' := by simp [List.getD_eq_getElem?_getD, hlk]
      rw [this]; exact hent hst
    · rw [List.getElem?_set_ne (Ne.symm hji)] at hy
      have e1 : (κ.set i og').getD j none = κ.getD j none := by simp [List.getD_eq_getElem?_getD, List.getElem?_set_ne (Ne.symm hji)]
      rw [e1]
      refine EntSat.stab hst ho.kap (fun g hg => ?_) (ho.ent j y hy)
      obtain ⟨oj, hoj⟩ := ho.kap j y hy
      have : κ.getD j none = oj := by simp [List.getD_eq_getElem?_getD, hoj]
      rw [this] at hg; subst hg
      refine hsame g (ho.lt' hoj).1 fun e => hji ?_
      rw [e] at hog
      exact ho.inj j i g hoj hog
  · rcases hm with hm | hm
    · rw [List.take_set_of_le hm]
    · rw [hm]; congr 1
      apply List.ext_getElem?
      intro j
      by_cases hji : j = i
      · subst hji; rw [List.getElem?_set_self hlk, hog]
      · rw [List.getElem?_set_ne (Ne.symm hji)]

/-- A new entry. -/
theorem step_push {x : Ent} {og : Option Nat} (hm : m ≤ κ.length) (ho : OwnSat F own κ w) (hos : w'.os = w.os) (htp : w'.tape = w.tape) (hout : w'.output = w.output) (hsz : w.heap.size ≤ w'.heap.size)
    (hsame : ∀ b, b < w.heap.size → w'.heap[b]? = w.heap[b]?) (hog : og = none ∨ ∃ g, og = some g ∧ w.heap.size ≤ g ∧ g < w'.heap.size)
    (hent : Stab F own κ w (own ++ [x]) (κ ++ [og]) w' → EntSat F (own ++ [x]) (κ ++ [og]) w' og x) :
    OwnSat F (own ++ [x]) (κ ++ [og]) w' ∧ Tr F m own κ w (own ++ [x]) (κ ++ [og]) w' := by
  have new : ∀ b, some b ∈ κ ++ [og] → some b ∈ κ ∨ w.heap.size ≤ b := fun b hb => by
    rcases List.mem_append.1 hb with h1 | h1
    · exact .inl h1
    · have h1 : some b = og := by simpa using h1
      rcases hog with h2 | ⟨g, h2, h3, h4⟩
      · rw [h2] at h1; cases h1
      · rw [h2] at h1; obtain rfl : b = g := by simpa using h1
        exact .inr h3
  have hst : Stab F own κ w (own ++ [x]) (κ ++ [og]) w' := ⟨Tr.wide hsz (fun b hb _ => hsame b hb) new, fun j y oj hy hoj => by
    have h1 : j < own.length := (List.getElem?_eq_some_iff.1 hy).1
    have h2 : j < κ.length := (List.getElem?_eq_some_iff.1 hoj).1
    refine ⟨y, oj, by rw [List.getElem?_append_left h1]; exact hy, by rw [List.getElem?_append_left h2]; exact hoj, Fits.same y oj fun g hg => ?_⟩
    subst hg
    exact hsame g (ho.lt' hoj).1⟩
  refine ⟨⟨by simp [ho.len], fun b hb => Nat.lt_of_lt_of_le (ho.frame b hb) hsz, fun g hg => ?_, fun a b g ha hb => ?_, fun j y hy => ?_⟩,
    ⟨hos, htp, hout, hsz, fun b hb _ => hsame b hb, new, List.take_append_of_le_length hm, fun y u => AV.sat_stab hst ho.kap y⟩⟩
  · rcases List.mem_append.1 hg with h1 | h1
    · have := ho.lt g h1; exact ⟨by omega, this.2⟩
    · have h1 : some g = og := by simpa using h1
      rcases hog with h2 | ⟨g', h2, h3, h4⟩
      · rw [h2] at h1; cases h1
      · rw [h2] at h1; obtain rfl : g = g' := by simpa using h1
        exact ⟨h4, fun hf => by have := ho.frame g hf; omega⟩
  · have key : ∀ j, (κ ++ [og])[j]? = some (some g) → (j = κ.length ∧ og = some g) ∨ κ[j]? = some (some g) := fun j hj => by
      rcases Nat.lt_trichotomy j κ.length with hlt | rfl | hgt
      · rw [List.getElem?_append_left hlt] at hj; exact .inr hj
      · rw [List.getElem?_concat_length] at hj; exact .inl ⟨rfl, by simpa using hj⟩
      · rw [List.getElem?_eq_none (by simp; omega)] at hj; cases hj
    have fresh : ∀ j, κ[j]? = some (some g) → og ≠ some g := fun j hk e => by
      rcases hog with h2 | ⟨g', h2, h3, h4⟩
      · rw [h2] at e; cases e
      · rw [h2] at e; obtain rfl : g' = g := by simpa using e
        have := (ho.lt' hk).1; omega
    rcases key a ha with ⟨h1, h2⟩ | h2 <;> rcases key b hb with ⟨h3, h4⟩ | h4
    · omega
    · exact absurd h2 (fresh b h4)
    · exact absurd h4 (fresh a h2)
    · exact ho.inj a b g h2 h4
  · rcases Nat.lt_trichotomy j own.length with hlt | rfl | hgt
    · rw [List.getElem?_append_left hlt] at hy
      have e1 : (κ ++ [og]).getD j none = κ.getD j none := by simp [List.getD_eq_getElem?_getD, List.getElem?_append_left (ho.len ▸ hlt)]
      rw [e1]
      refine EntSat.stab hst ho.kap (fun g hg => ?_) (ho.ent j y hy)
      obtain ⟨oj, hoj⟩ := ho.kap j y hy
      have : κ.getD j none = oj := by simp [List.getD_eq_getElem?_getD, hoj]
      rw [this] at hg; subst hg
      exact hsame g (ho.lt' hoj).1
    · rw [List.getElem?_concat_length] at hy
      obtain rfl : x = y := by simpa using hy
      have : (κ ++ [og]).getD own.length none = og := by rw [ho.len]; simp [List.getD_eq_getElem?_getD]
      rw [this]; exact hent hst
    · rw [List.getElem?_eq_none (by simp; omega)] at hy; cases hy

/-- More blocks, of no one's. -/
theorem step_more (ho : OwnSat F own κ w) (hos : w'.os = w.os) (htp : w'.tape = w.tape) (hout : w'.output = w.output) (hsz : w.heap.size ≤ w'.heap.size)
    (hsame : ∀ b, b < w.heap.size → w'.heap[b]? = w.heap[b]?) : OwnSat F own κ w' ∧ Tr F m own κ w own κ w' := by
  have hst : Stab F own κ w own κ w' := ⟨Tr.wide hsz (fun b hb _ => hsame b hb) (fun b hb => .inl hb), fun j y oj hy hoj => ⟨y, oj, hy, hoj, Fits.same y oj fun g hg => by
    subst hg; exact hsame g (ho.lt' hoj).1⟩⟩
  refine ⟨⟨ho.len, fun b hb => Nat.lt_of_lt_of_le (ho.frame b hb) hsz, fun g hg => ?_, ho.inj, fun j y hy => ?_⟩, ⟨hos, htp, hout, hsz, fun b hb _ => hsame b hb, fun b hb => .inl hb, rfl, fun y u => AV.sat_stab hst ho.kap y⟩⟩
  · have := ho.lt g hg; exact ⟨by omega, this.2⟩
  · refine EntSat.stab hst ho.kap (fun g hg => ?_) (ho.ent j y hy)
    obtain ⟨oj, hoj⟩ := ho.kap j y hy
    have : κ.getD j none = oj := by simp [List.getD_eq_getElem?_getD, hoj]
    rw [this] at hg; subst hg
    exact hsame g (ho.lt' hoj).1
end
end Go.Proofs.Ytffdhckilhhejaa
