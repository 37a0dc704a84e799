/- Words for memory: slices that read as lists of integers, owned rows, and small lemmas on worlds. No program in sight. -/
import Derived.WalkKit
import Derived.WalkLawsBesides
import Derived.WalkSpells
import Derived.Handy
import Derived.PlainAid
import Derived.Outline
import Derived.Laws.OwnMore
import Derived.Laws.CopyOwn
import Derived.Deep.AppendLies
import Derived.Deep.Draws
import Derived.Deep.QuietTactic
import Derived.Deep.LoopGhost
import Derived.Deep.DeepFit
import Derived.Deep.DeepCutAuto
import Derived.Deep.RegionLaw
import Derived.Deep.RegionHeld3
import Derived.BigQuiet
import Derived.StillTailTactics
import Derived.Lib.Hide
import Derived.Carry
import Derived.Deep.Onto
namespace Go.Proofs.Ytffdhckilhhejaa
open Go.RowKit

theorem block_of_add (a : Addr) (n : Nat) : (a.add n).block = a.block := by unfold Addr.add; split <;> rfl
theorem add_of_add (a : Addr) (i j : Nat) : (a.add i).add j = a.add (i + j) := by
  unfold Addr.add
  by_cases hi : i = 0 <;> by_cases hj : j = 0 <;> simp [hi, hj, Nat.add_assoc]

/-- A slice value that reads as the list 'l' of int64 numbers. It lies below the heap's size. -/
def Ints (w : World) (v : Value) (l : List Int) : Prop :=
  ∃ (A : Option Addr) (c : Nat), v = .slice A l.length c ∧ l.length ≤ c ∧ c ≤ maxLen ∧ (0 < l.length → ∃ b o, A = some ⟨b, o, none⟩ ∧ b < w.heap.size ∧ ∀ j, j < l.length → w.cell? ⟨b, o + j, none⟩ = some (.int .i64 (l.getD j 0)))

theorem Ints.keep {w w' : World} {v : Value} {l : List Int} (h : Ints w v l) (hb : Below w.heap.size w w') : Ints w' v l := by
  obtain ⟨A, c, rfl, h1, h2, h3⟩ := h
  refine ⟨A, c, rfl, h1, h2, fun hp => ?_⟩
  obtain ⟨b, o, rfl, hlt, hc⟩ := h3 hp
  refine ⟨b, o, rfl, Nat.lt_of_lt_of_le hlt hb.size, fun j hj => ?_⟩
  rw [hb.cell (p := ⟨b, o + j, none⟩) hlt]; exact hc j hj

/-- An owned row of int64 numbers reads as its list. -/
theorem Ints.of_own {w : World} {base e n : Nat} {v : Value} {l : List Int} (h : w.ownsRow base e 1 v n (l.map (Value.int .i64))) : Ints w v l := by
  have hn : l.length = n := by have := h.1; simpa using this
  rcases h.2 with ⟨rfl, hx⟩ | ⟨g, cap, cur, rfl, hb, hh, hnc, hcm, hcs, htake⟩
  · subst hx
    have : l = [] := List.eq_nil_of_length_eq_zero hn
    subst this
    exact ⟨none, 0, rfl, by simp, by simp [maxLen], fun hp => by simp at hp⟩
  · subst hn
    refine ⟨_, cap, rfl, hnc, hcm, fun hp => ⟨g, 0, rfl, ?_, fun j hj => ?_⟩⟩
    · rcases Nat.lt_or_ge g w.heap.size with hlt | hge
      · exact hlt
      · rw [Array.getElem?_eq_none hge] at hh; cases hh
    · rw [cell_of_row w g (0 + j) cur e (0, 0) hh, Nat.zero_add]
      have h1 : cur.toList[j]? = (l.map (Value.int .i64))[j]? := by
        rw [← htake, List.getElem?_take, if_pos (by simpa using hj)]
      have h2 : cur[j]? = cur.toList[j]? := by simp
      rw [h2, h1]
      simp [List.getElem?_map, List.getElem?_eq_getElem hj]

theorem ret_i {k : IntKind} {a b : Int} (h : a = b) : Ending.returned (.int k a) = .returned (.int k b) := by rw [h]
theorem ret_b {a b : Bool} (h : a = b) : Ending.returned (.bool a) = .returned (.bool b) := by rw [h]
theorem getD_lt {α : Type} (l : List α) (k : Nat) (d : α) (h : k < l.length) : l.getD k d = l[k] := by simp [List.getD_eq_getElem?_getD, List.getElem?_eq_getElem h]

theorem below_drewN {B : Nat} {a w : World} (h : Below B a w) (n : Nat) : Below B a (w.drewN n) := ⟨h.os, h.tape, h.output, h.size, h.block⟩
/-- What a call leaves as it was, seen from an earlier world. -/
theorem Below.then {B : Nat} {a w w' : World} (h : Below B a w) (hb : Below w.heap.size w w') (hB : B ≤ w.heap.size) : Below B a w' := h.trans (hb.mono hB)
theorem Below.lt {B : Nat} {w w' : World} (h : Below B w w') {k : Nat} (hk : k < w.heap.size) : k < w'.heap.size := Nat.lt_of_lt_of_le hk h.size

theorem bcell {W w1 : World} (hb : Below W.heap.size W w1) : (∀ b o, b < W.heap.size → w1.cell? ⟨b, o, none⟩ = W.cell? ⟨b, o, none⟩) ∧ (∀ b o, b < W.heap.size → w1.frozen? ⟨b, o, none⟩ = W.frozen? ⟨b, o, none⟩) :=
  ⟨fun b o h => hb.cell (p := ⟨b, o, none⟩) h, fun b o h => hb.frozen (p := ⟨b, o, none⟩) h⟩

theorem Ints.drewN {w : World} {v : Value} {l : List Int} (h : Ints w v l) (n : Nat) : Ints (w.drewN n) v l := h
theorem Ints.drew {w : World} {v : Value} {l : List Int} (h : Ints w v l) : Ints w.drew v l := h
theorem Ints.alloc {w : World} {v : Value} {l : List Int} (h : Ints w v l) (o : Obj) : Ints (w.alloc o) v l := h.keep ((Below.refl _ _).alloc (Nat.le_refl _) o)
theorem Ints.nil (w : World) : Ints w (.slice none 0 0) [] := ⟨none, 0, rfl, by simp, by simp [maxLen], fun h => by simp at h⟩

/-- 'append(v, u)' of one element onto a row of the call's own. -/
theorem wpList_append1 {P : Program} {w : World} {ops : Array Oper} {rest : List Oper} {o : Oper} {a : Act} {Q : Exit → Act → World → Prop} (hgd : o.guard = none) (s x : Operand) (t : TypeId)
    (ho : o.op = .call { callee := .builtin .append, args := #[s, x], argTypes := #[t, t] })
    (e : TypeId) (z : Value) (bytes : Nat) (ht : P.underlying t = some (.slice e)) (hinfo : (P.info? e).map (fun i => (i.zero, i.size, i.bytes)) = some (some z, 1, bytes)) (hzs : z.cells.size = 1)
    (W : World) (base : Nat) (v : Value) (n : Nat) (xs : List Value) (hs : a.eval s = v) (hown : w.ownsRow base e 1 v n xs)
    (g : Nat) (u : Value) (hx : a.eval x = .slice (some ⟨g, 0, none⟩) 1 1) (hu : w.cell? ⟨g, 0, none⟩ = some u) (h1 : u.oneCell' = true)
    (hn : n ≤ 1000000000) (hby : bytes ≤ 64) (hW : Below base W w) (hbase : base ≤ w.heap.size)
    (h : ∀ v' w', w'.ownsRow base e 1 v' (n + 1) (xs ++ [u]) → Below base W w' → w.grownBy w' v.ownBlock → wpList P ops Q rest (a.put o.dst v') w') : wpList P ops Q (o :: rest) a w := by
  obtain ⟨i, hi, hz, hsize, hb⟩ := info_parts hinfo
  refine wpList_append_own w hgd s x t ho base e i z 1 bytes ht hi hz hsize hb hzs (by omega) v n xs hs hown ⟨g, 0, none⟩ 1 1 [u] hx rfl ?_ ?_ (by unfold maxLen; omega) ?_ hbase ?_
  · intro j y hy
    match j, hy with
    | 0, hy => simp at hy; subst hy; simpa [Addr.add] using hu
  · intro y hy; simp at hy; subst hy; exact h1
  · have h2 : (n + 1) * bytes ≤ (n + 1) * 64 := Nat.mul_le_mul_left _ hby
    omega
  · intro v' w' hown' hg _
    exact h v' w' hown' (hW.grown hg hbase fun k hk => (hown.lt k hk).1) hg

/-- A callee's 'Below', seen from the caller's own first world. -/
theorem Below.after {w X w1 : World} (h : Below w.heap.size w X) (hb : Below X.heap.size X w1) : Below w.heap.size w w1 := h.trans (hb.mono h.size)

theorem tdiv_nat (a b : Nat) (h : a ≤ 9223372036854775807) (hb : 0 < b) : IntKind.i64.wrap ((a : Int).tdiv b) = ((a / b : Nat) : Int) := by
  rw [IntWalk.i64_quo (a : Int) b (by omega)]; simp
theorem tmod_nat (a b : Nat) : ((a : Nat) : Int).tmod b = ((a % b : Nat) : Int) := by
  rw [Int.tmod_eq_emod_of_nonneg (Int.natCast_nonneg _)]; simp

theorem toNat_div_mod (a b m : Nat) : ((a : Int) / (b : Int) % (m : Int)).toNat = a / b % m := by
  have h : ((a : Int) / (b : Int) % (m : Int)) = ((a / b % m : Nat) : Int) := by simp
  rw [h]; exact Int.toNat_natCast _
theorem toNat_div (a b : Nat) : ((a : Int) / (b : Int)).toNat = a / b := by
  have h : ((a : Int) / (b : Int)) = ((a / b : Nat) : Int) := by simp
  rw [h]; exact Int.toNat_natCast _
theorem toNat_mod (a b : Nat) : ((a : Int) % (b : Int)).toNat = a % b := by
  have h : ((a : Int) % (b : Int)) = ((a % b : Nat) : Int) := by simp
  rw [h]; exact Int.toNat_natCast _

/-- 'append(v, u)': the element has just been laid in a block of its own. -/
theorem wpList_appendX {P : Program} {X : World} {u : Value} {e0 : TypeId} {ops : Array Oper} {rest : List Oper} {o : Oper} {a : Act} {Q : Exit → Act → World → Prop} (hgd : o.guard = none) (s x : Operand) (t : TypeId)
    (ho : o.op = .call { callee := .builtin .append, args := #[s, x], argTypes := #[t, t] })
    (e : TypeId) (z : Value) (bytes : Nat) (ht : P.underlying t = some (.slice e)) (hinfo : (P.info? e).map (fun i => (i.zero, i.size, i.bytes)) = some (some z, 1, bytes)) (hzs : z.cells.size = 1) (hby : bytes ≤ 64)
    (W : World) (base : Nat) (v : Value) (n : Nat) (xs : List Value) (hs : a.eval s = v) (hown : X.ownsRow base e 1 v n xs)
    (g : Nat) (hx : a.eval x = .slice (some ⟨g, 0, none⟩) 1 1) (hg : g = X.heap.size) (h1 : u.oneCell' = true)
    (hn : n ≤ 1000000000) (hW : Below base W X) (hbase : base ≤ X.heap.size)
    (h : ∀ v' w', w'.ownsRow base e 1 v' (n + 1) (xs ++ [u]) → Below base W w' → X.grownBy w' v.ownBlock → wpList P ops Q rest (a.put o.dst v') w') : wpList P ops Q (o :: rest) a (X.alloc (.cells #[u] e0)) := by
  subst hg
  refine wpList_append1 hgd s x t ho e z bytes ht hinfo hzs W base v n xs hs (hown.alloc _) X.heap.size u hx (by simp) h1 hn hby (hW.alloc hbase _) (by simp; omega) ?_
  intro v' w' hown' hb' hg'
  have hsz : X.heap.size ≤ (X.alloc (.cells #[u] e0)).heap.size := by simp
  exact h v' w' hown' hb' ⟨hg'.os, hg'.tape, hg'.output, Nat.le_trans hsz hg'.size, fun k hk hne => (hg'.block k (Nat.lt_of_lt_of_le hk hsz) hne).trans (Below.heap_alloc X _ k hk)⟩

/-- 'make([]T, n)' of one-cell elements: a new row of n zero values of the call's own. -/
theorem wpList_make1 {P : Program} {w : World} {ops : Array Oper} {rest : List Oper} {o : Oper} {a : Act} {Q : Exit → Act → World → Prop} (hgd : o.guard = none) (l c : Operand) (t : TypeId) (hop : o.op = Op.makeSlice t l c)
    (e : TypeId) (z : Value) (bytes : Nat) (ht : P.underlying t = some (.slice e)) (hinfo : (P.info? e).map (fun i => (i.zero, i.size, i.bytes)) = some (some z, 1, bytes)) (hzs : z.cells = #[z])
    (L C : Int) (n : Nat) (hl : a.eval l = .int .i64 L) (hc : a.eval c = .int .i64 C) (hL : L = n) (hC : C = n) (hn : n ≤ 1000000000) (hby : bytes ≤ 64)
    (h : ∀ w', w'.ownsRow w.heap.size e 1 (.slice (some ⟨w.heap.size, 0, none⟩) n n) n (List.replicate n z) → Below w.heap.size w w' → w.heap.size < w'.heap.size → wpList P ops Q rest (a.put o.dst (.slice (some ⟨w.heap.size, 0, none⟩) n n)) w') : wpList P ops Q (o :: rest) a w := by
  obtain ⟨i, hi, hz, hsize, hb⟩ := info_parts hinfo
  refine wpList_make_full w hgd l c t hop w.heap.size e i z 1 ht hi hz hsize .i64 .i64 L C n hl hc hL hC ?_ (by unfold maxLen; omega) (Nat.le_refl _) ?_
  · rw [hb]
    have := Nat.mul_le_mul hby hn
    omega
  · intro w' hown hg
    rw [hzs, Nat.mul_one, toList_madeCells_one] at hown
    refine h w' hown ⟨hg.os, hg.tape, hg.output, hg.size, fun k hk => hg.block k hk (by simp)⟩ ?_
    rcases hown.2 with ⟨hv, _⟩ | ⟨g, cap, cur, hv, _, hh, _⟩
    · simp at hv
    · simp only [Value.slice.injEq, Option.some.injEq, Addr.mk.injEq, and_true] at hv
      obtain ⟨rfl, _⟩ := hv
      exact (Array.getElem?_eq_some_iff.1 hh).1

/-- Filling a list from the left. -/
theorem fill_step {α : Type} (xs L : List α) (k : Nat) (v : α) (hl : xs.length = L.length) (hk : k < L.length) (h : xs.take k = L.take k) (hv : L[k] = v) : (xs.set k v).take (k + 1) = L.take (k + 1) := by
  subst hv
  rw [List.take_succ_eq_append_getElem hk, ← h, List.take_set, List.take_succ_eq_append_getElem (by omega : k < xs.length), List.set_append_right _ _ (by simp; omega)]
  have : k - (List.take k xs).length = 0 := by simp; omega
  rw [this]; rfl
theorem fill_done {α : Type} (xs L : List α) (k : Nat) (hl : xs.length = L.length) (hk : L.length ≤ k) (h : xs.take k = L.take k) : xs = L := by
  rwa [List.take_of_length_le (by omega), List.take_of_length_le (by omega)] at h

theorem own_drewN {w : World} {base : Nat} {e : TypeId} {size : Nat} {v : Value} {n : Nat} {xs : List Value} (h : w.ownsRow base e size v n xs) (k : Nat) : (w.drewN k).ownsRow base e size v n xs := h

theorem own_shape {w : World} {base : Nat} {e : TypeId} {size : Nat} {v : Value} {n : Nat} {xs : List Value} (h : w.ownsRow base e size v n xs) : ∃ A c, v = .slice A n c := by
  rcases h.2 with ⟨rfl, rfl⟩ | ⟨g, cap, cur, hv, _⟩
  · exact ⟨_, _, rfl⟩
  · exact ⟨_, _, hv⟩
/-- A slice literal, just laid. -/
theorem Ints.lit (w : World) (e : TypeId) (l : List Int) (n : Nat) (hn : l.length = n) (hm : n ≤ 1000000000) :
    Ints (w.alloc (.cells (l.map (Value.int .i64)).toArray e)) (.slice (some ⟨w.heap.size, 0, none⟩) n n) l := by
  have h := World.ownsRow_lit (base := 0) (size := 1) (e := e) w (l.map (Value.int .i64)).toArray n (Nat.zero_le _) (by unfold maxLen; omega) (by simp [hn])
  exact Ints.of_own (by simpa using h)
theorem Ints.ext {w w' : World} {v : Value} {l : List Int} (h : Ints w v l) (hb : Below w.heap.size w w') : Ints w' v l := h.keep hb

/-- The cells of a configuration in memory. -/
def Box6 (w : World) (g : Nat) (d r n s l i : Int) : Prop :=
  g < w.heap.size ∧ w.cell? ⟨g, 0, none⟩ = some (.int .i64 d) ∧ w.cell? ⟨g, 1, none⟩ = some (.int .i64 r) ∧ w.cell? ⟨g, 2, none⟩ = some (.int .i64 n) ∧ w.cell? ⟨g, 3, none⟩ = some (.int .i64 s) ∧ w.cell? ⟨g, 4, none⟩ = some (.int .i64 l) ∧ w.cell? ⟨g, 5, none⟩ = some (.int .i64 i)
theorem Box6.keep {w w' : World} {g : Nat} {d r n s l i : Int} (h : Box6 w g d r n s l i) (hb : Below w.heap.size w w') : Box6 w' g d r n s l i := by
  obtain ⟨h0, h1, h2, h3, h4, h5, h6⟩ := h
  have hc := fun o => hb.cell (p := ⟨g, o, none⟩) h0
  exact ⟨Nat.lt_of_lt_of_le h0 hb.size, (hc 0).trans h1, (hc 1).trans h2, (hc 2).trans h3, (hc 3).trans h4, (hc 4).trans h5, (hc 5).trans h6⟩
theorem Box6.new (w : World) (t : TypeId) (d r n s l i : Int) : Box6 (w.alloc (.cells #[.int .i64 d, .int .i64 r, .int .i64 n, .int .i64 s, .int .i64 l, .int .i64 i] t)) w.heap.size d r n s l i := by
  refine ⟨by simp, ?_, ?_, ?_, ?_, ?_, ?_⟩ <;> simp
/-- A row of numbers in memory. -/
def Row (w : World) (b o : Nat) (l : List Int) : Prop := b < w.heap.size ∧ ∀ j, j < l.length → w.cell? ⟨b, o + j, none⟩ = some (.int .i64 (l.getD j 0))
theorem Row.keep {w w' : World} {b o : Nat} {l : List Int} (h : Row w b o l) (hb : Below w.heap.size w w') : Row w' b o l :=
  ⟨Nat.lt_of_lt_of_le h.1 hb.size, fun j hj => (hb.cell (p := ⟨b, o + j, none⟩) h.1).trans (h.2 j hj)⟩
theorem Ints.row {w : World} {v : Value} {l : List Int} (h : Ints w v l) (hp : 0 < l.length) : ∃ b o c, v = .slice (some ⟨b, o, none⟩) l.length c ∧ l.length ≤ c ∧ c ≤ 9223372036854775807 ∧ Row w b o l := by
  obtain ⟨A, c, rfl, h1, h2, h3⟩ := h
  obtain ⟨b, o, rfl, hlt, hc⟩ := h3 hp
  exact ⟨b, o, c, rfl, h1, by unfold maxLen at h2; omega, hlt, hc⟩
theorem Row.ints {w : World} {b o c : Nat} {l : List Int} (h : Row w b o l) (h1 : l.length ≤ c) (h2 : c ≤ 9223372036854775807) : Ints w (.slice (some ⟨b, o, none⟩) l.length c) l :=
  ⟨_, c, rfl, h1, by unfold maxLen; omega, fun _ => ⟨b, o, rfl, h.1, h.2⟩⟩
/-! ### A region that draws its order, whose operations read old cells and whose callees make memory but hand back numbers: one walk of the lexical order. -/
/-- A world in which all that was there in W is as it was. -/
structure Ext (W : World) where
  w : World
  h : Below W.heap.size W w
instance (W : World) : Nonempty (Ext W) := ⟨⟨W, Below.refl _ _⟩⟩
theorem wp_region_ext {P : Program} {id : Nat} {Q : Exit → Act → World → Prop} {a : Act} {w : World} {l : List Oper} (hm : P.follows .mixedOrders = true) (hB : Region.lexB .any l.toArray = true)
    (h : wpQuiet P l.toArray (fun w' => ∃ y : Ext w, w' = y.w) (fun a' => ∀ w', (∃ y : Ext w, w' = y.w) → Q .normal a' w') l a) : (Code.region id l.toArray true).wp P Q a w :=
  wp_region_quiet (C := fun w' => ∃ y : Ext w, w' = y.w) hm hB ⟨⟨w.drew, (Below.refl _ _).drew⟩, rfl⟩ (by simpa using h)
theorem ext_of {P : Program} {f : FuncId} {args : Array Value} {W : World} {y : Ext W} {v : Value}
    (h : Calls P f args y.w fun e w' => e = .returned v ∧ Below y.w.heap.size y.w w') : Calls P f args y.w fun e w'' => e = .returned v ∧ ∃ z : Ext W, w'' = z.w :=
  h.mono fun _ w' ⟨he, hb⟩ => ⟨he, ⟨w', Below.after y.h hb⟩, rfl⟩
theorem ext_same {P : Program} {f : FuncId} {args : Array Value} {W : World} {y : Ext W} {v : Value}
    (h : Calls P f args y.w fun e w' => e = .returned v ∧ y.w = w') : Calls P f args y.w fun e w'' => e = .returned v ∧ ∃ z : Ext W, w'' = z.w :=
  h.mono fun _ _ ⟨he, hw⟩ => ⟨he, y, hw.symm⟩
theorem ext_drew {P : Program} {f : FuncId} {args : Array Value} {W : World} {y : Ext W} {v : Value}
    (h : Calls P f args y.w fun e w' => e = .returned v ∧ ∃ n, w' = y.w.drewN n) : Calls P f args y.w fun e w'' => e = .returned v ∧ ∃ z : Ext W, w'' = z.w :=
  h.mono fun _ _ ⟨he, n, hw⟩ => ⟨he, ⟨y.w.drewN n, below_drewN y.h n⟩, hw⟩
theorem Box6.ext {W : World} {g : Nat} {d r n s l i : Int} (h : Box6 W g d r n s l i) :
    (∀ y : Ext W, y.w.cell? ⟨g, 0, none⟩ = some (.int .i64 d)) ∧ (∀ y : Ext W, y.w.cell? ⟨g, 1, none⟩ = some (.int .i64 r)) ∧ (∀ y : Ext W, y.w.cell? ⟨g, 2, none⟩ = some (.int .i64 n)) ∧
    (∀ y : Ext W, y.w.cell? ⟨g, 3, none⟩ = some (.int .i64 s)) ∧ (∀ y : Ext W, y.w.cell? ⟨g, 4, none⟩ = some (.int .i64 l)) ∧ (∀ y : Ext W, y.w.cell? ⟨g, 5, none⟩ = some (.int .i64 i)) := by
  refine ⟨fun y => ?_, fun y => ?_, fun y => ?_, fun y => ?_, fun y => ?_, fun y => ?_⟩ <;> (obtain ⟨_, h1, h2, h3, h4, h5, h6⟩ := h.keep y.h; assumption)
/-! ### A block that is known whole -/
def Blk (w : World) (g : Nat) (t : TypeId) (cs : Array Value) : Prop := w.heap[g]? = some (.cells cs t (0, 0))
section
variable {w w' : World} {g : Nat} {t : TypeId} {cs : Array Value}
theorem Blk.lt (h : Blk w g t cs) : g < w.heap.size := by
  rcases Nat.lt_or_ge g w.heap.size with hlt | hge
  · exact hlt
  · unfold Blk at h; rw [Array.getElem?_eq_none hge] at h; cases h
theorem Blk.cell (h : Blk w g t cs) (i : Nat) : w.cell? ⟨g, i, none⟩ = cs[i]? := cell_of_row w g i cs t (0, 0) h
theorem Blk.frozen (h : Blk w g t cs) (i : Nat) : w.frozen? ⟨g, i, none⟩ = false := by
  unfold Blk at h
  simp [World.frozen?, h]
theorem Blk.new (w : World) (t : TypeId) (cs : Array Value) : Blk (w.alloc (.cells cs t)) w.heap.size t cs := heap_alloc_new w _
theorem Blk.drewN (h : Blk w g t cs) (n : Nat) : Blk (w.drewN n) g t cs := h
theorem Blk.alloc (h : Blk w g t cs) (o : Obj) : Blk (w.alloc o) g t cs := (Below.heap_alloc w o g h.lt).trans h
theorem Blk.set_ (h : Blk w g t cs) (i : Nat) (u : Value) : Blk (w.setCell ⟨g, i, none⟩ u) g t (cs.setIfInBounds i u) := by
  unfold Blk at h ⊢
  simp [World.setCell, Array.getElem?_modify, h]
theorem Blk.far (h : Blk w g t cs) {p : Addr} (hp : g ≠ p.block) (u : Value) : Blk (w.setCell p u) g t cs := (Below.heap_setCell w p u g hp).trans h
theorem Blk.below {B : Nat} (h : Blk w g t cs) (hb : Below B w w') (hg : g < B) : Blk w' g t cs := (hb.block g hg).trans h
theorem Blk.keep (h : Blk w g t cs) (hb : Below w.heap.size w w') : Blk w' g t cs := h.below hb h.lt
end
theorem Row.keepB {w w' : World} {b o B : Nat} {l : List Int} (h : Row w b o l) (hb : Below B w w') (hB : b < B) : Row w' b o l :=
  ⟨Nat.lt_of_lt_of_le h.1 hb.size, fun j hj => (hb.cell (p := ⟨b, o + j, none⟩) hB).trans (h.2 j hj)⟩
theorem Box6.keepB {w w' : World} {g B : Nat} {d r n s l i : Int} (h : Box6 w g d r n s l i) (hb : Below B w w') (hB : g < B) : Box6 w' g d r n s l i := by
  obtain ⟨h0, h1, h2, h3, h4, h5, h6⟩ := h
  have hc := fun o => hb.cell (p := ⟨g, o, none⟩) hB
  exact ⟨Nat.lt_of_lt_of_le h0 hb.size, (hc 0).trans h1, (hc 1).trans h2, (hc 2).trans h3, (hc 3).trans h4, (hc 4).trans h5, (hc 5).trans h6⟩
theorem below_set {B g : Nat} {w : World} (hB : B ≤ g) (i : Nat) (u : Value) : Below B w (w.setCell ⟨g, i, none⟩ u) := (Below.refl B w).setCell (p := ⟨g, i, none⟩) hB u

/-- An array of n numbers. -/
def arr (n : Nat) (f : Nat → Value) : Array Value := ((List.range n).map f).toArray
theorem arr_get (n : Nat) (f : Nat → Value) (i : Nat) (h : i < n) : (arr n f)[i]? = some (f i) := by simp [arr, h]
theorem arr_size (n : Nat) (f : Nat → Value) : (arr n f).size = n := by simp [arr]
theorem arr_set (n : Nat) (f : Nat → Value) (i : Nat) (u : Value) : (arr n f).setIfInBounds i u = arr n (fun j => if j = i then u else f j) := by
  unfold arr
  rw [List.setIfInBounds_toArray]
  congr 1
  apply List.ext_getElem
  · simp
  · intro j h1 h2
    rw [List.getElem_set]
    simp only [List.getElem_map, List.getElem_range]
    by_cases h : i = j
    · rw [if_pos h, if_pos h.symm]
    · rw [if_neg h, if_neg (fun e => h e.symm)]
theorem arr_congr (n : Nat) (f h : Nat → Value) (e : ∀ i, i < n → f i = h i) : arr n f = arr n h := by
  unfold arr; congr 1; exact List.map_congr_left fun i hi => e i (List.mem_range.1 hi)

theorem run_index_arr {P : Program} (t e : TypeId) (n : Nat) (cs : Array Value) (j : Nat) (u : Value) (ht : P.underlying t = some (.array n e)) (he : ∀ w, (isAgg e).run P w = .ok false w) (hs : (P.info? e).map (·.size) = some 1) (hj : j < n) (hu : cs[j]? = some u) (w : World) :
    (Instr.index t (.agg cs) (.int .i64 (j : Int))).run P w = .ok u w := by
  cases hq : P.info? e with
  | none => simp [hq] at hs
  | some i =>
    have h1 : i.size = 1 := by simpa [hq] using hs
    simp [Instr.index, asIntOf, run_underlying ht, sizeOf, typeInfo, hq, h1, hj, part, he, hu]
theorem Row.far {w : World} {b o : Nat} {l : List Int} (h : Row w b o l) {p : Addr} (hp : b ≠ p.block) (u : Value) : Row (w.setCell p u) b o l :=
  ⟨by simpa [World.setCell] using h.1, fun j hj => (World.cell?_setCell_other w p ⟨b, o + j, none⟩ u (fun e => hp (by rw [e]))).trans (h.2 j hj)⟩
theorem Box6.far {w : World} {g : Nat} {d r n s l i : Int} (h : Box6 w g d r n s l i) {p : Addr} (hp : g ≠ p.block) (u : Value) : Box6 (w.setCell p u) g d r n s l i := by
  obtain ⟨h0, h1, h2, h3, h4, h5, h6⟩ := h
  have hc := fun o => World.cell?_setCell_other w p ⟨g, o, none⟩ u (fun e => hp (by rw [e]))
  exact ⟨by simpa [World.setCell] using h0, (hc 0).trans h1, (hc 1).trans h2, (hc 2).trans h3, (hc 3).trans h4, (hc 4).trans h5, (hc 5).trans h6⟩
/-- Two results, the first a struct in a block that is known whole. -/
theorem results_cell_tmp {P : Program} {fn : Func} {p : Tmp} {ty : TypeId} {q : Tmp} (h : fn.results = #[.cell p ty, .tmp q]) (tmps : Array Value) (w : World) (g : Nat) (t : TypeId) (cs : Array Value) (d : TypeDesc)
    (hp : tmps.getD p undef = .pointer (some ⟨g, 0, none⟩)) (hg : Blk w g t cs)
    (hu : P.underlying ty = some d) (hd : (match d with | .struct _ | .array _ _ => true | _ => false) = true) (hi : (P.info? ty).map (·.size) = some cs.size) :
    (results fn tmps).run P w = .ok (.tuple #[.agg cs, tmps.getD q undef]) w := by
  have hp' : tmps[p]?.getD undef = .pointer (some ⟨g, 0, none⟩) := by simpa using hp
  simp [results, h, hp', asAddr, run_loadVar_row w g t ty cs (0, 0) d hg hu hd hi]
end Go.Proofs.Ytffdhckilhhejaa
