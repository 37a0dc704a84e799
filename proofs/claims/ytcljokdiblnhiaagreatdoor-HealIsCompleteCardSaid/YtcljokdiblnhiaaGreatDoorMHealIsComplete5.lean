import Derived.Test.YtcljokdiblnhiaaGreatDoorMHealIsComplete4
import Derived.WalkKit
import Derived.WalkLawsBesides
import Derived.WalkSpells
import Derived.Handy
import Derived.PlainAid
import Derived.Outline
import Derived.Laws.OwnMore
import Derived.Laws.CopyOwn
import Derived.Deep.AppendLies
import Derived.Deep.Draws
import Derived.Deep.QuietTactic
import Derived.Deep.LoopGhost
import Derived.Deep.DeepFit
import Derived.Deep.DeepCutAuto
import Derived.Deep.RegionLaw
import Derived.Deep.RegionHeld3
import Derived.BigQuiet
import Derived.StillTailTactics
import Derived.Lib.Hide
import Derived.Carry
import Derived.Deep.Onto
import Derived.Test.YtcljokdiblnhiaaGreatDoorChecked
import Derived.Lib.SliceRun
/- Joined texts: DgB DgP DgD DgD2 DgD3 DgD4 DgD5 DgL1 DgL2 DgL3 Hl0 Kern50 DgO Hl1 St3S St4S St5S St6S St7S St8S Hl2. -/
set_option linter.unusedVariables false
set_option linter.unusedSimpArgs false
section
namespace Go.Proofs.YtcljokdiblnhiaaGreatDoor
open Go.RowKit
def Ints (w : World) (v : Value) (l : List Int) : Prop :=
  ∃ (A : Option Addr) (c : Nat), v = .slice A l.length c ∧ l.length ≤ c ∧ c ≤ maxLen ∧ (0 < l.length → ∃ b o, A = some ⟨b, o, none⟩ ∧ b < w.heap.size ∧ ∀ j, j < l.length → w.cell? ⟨b, o + j, none⟩ = some (.int .i64 (l.getD j 0)))
theorem Ints.keep {w w' : World} {v : Value} {l : List Int} (h : Ints w v l) (hb : Below w.heap.size w w') : Ints w' v l := by
  obtain ⟨A, c, rfl, h1, h2, h3⟩ := h
  refine ⟨A, c, rfl, h1, h2, fun hp => ?_⟩
  obtain ⟨b, o, rfl, hlt, hc⟩ := h3 hp
  refine ⟨b, o, rfl, Nat.lt_of_lt_of_le hlt hb.size, fun j hj => ?_⟩
  rw [hb.cell (p := ⟨b, o + j, none⟩) hlt]; exact hc j hj
theorem Ints.of_own {w : World} {base e n : Nat} {v : Value} {l : List Int} (h : w.ownsRow base e 1 v n (l.map (Value.int .i64))) : Ints w v l := by
  have hn : l.length = n := by have := h.1; simpa using this
  rcases h.2 with ⟨rfl, hx⟩ | ⟨g, cap, cur, rfl, hb, hh, hnc, hcm, hcs, htake⟩
  · subst hx
    have : l = [] := List.eq_nil_of_length_eq_zero hn
    subst this
    exact ⟨none, 0, rfl, by simp, by simp [maxLen], fun hp => by simp at hp⟩
  · subst hn
    refine ⟨_, cap, rfl, hnc, hcm, fun hp => ⟨g, 0, rfl, ?_, fun j hj => ?_⟩⟩
    · rcases Nat.lt_or_ge g w.heap.size with hlt | hge
      · exact hlt
      · rw [Array.getElem?_eq_none hge] at hh; cases hh
    · rw [cell_of_row w g (0 + j) cur e (0, 0) hh, Nat.zero_add]
      have h1 : cur.toList[j]? = (l.map (Value.int .i64))[j]? := by
        rw [← htake, List.getElem?_take, if_pos (by simpa using hj)]
      have h2 : cur[j]? = cur.toList[j]? := by simp
      rw [h2, h1]
      simp [List.getElem?_map, List.getElem?_eq_getElem hj]
theorem ret_i {k : IntKind} {a b : Int} (h : a = b) : Ending.returned (.int k a) = .returned (.int k b) := by rw [h]
theorem ret_b {a b : Bool} (h : a = b) : Ending.returned (.bool a) = .returned (.bool b) := by rw [h]
theorem getD_ltB {α : Type} (l : List α) (k : Nat) (d : α) (h : k < l.length) : l.getD k d = l[k] := by simp [List.getD_eq_getElem?_getD, List.getElem?_eq_getElem h]
theorem below_drewN {B : Nat} {a w : World} (h : Below B a w) (n : Nat) : Below B a (w.drewN n) := ⟨h.os, h.tape, h.output, h.size, h.block⟩
theorem Below.then {B : Nat} {a w w' : World} (h : Below B a w) (hb : Below w.heap.size w w') (hB : B ≤ w.heap.size) : Below B a w' := h.trans (hb.mono hB)
theorem Below.lt {B : Nat} {w w' : World} (h : Below B w w') {k : Nat} (hk : k < w.heap.size) : k < w'.heap.size := Nat.lt_of_lt_of_le hk h.size
theorem bcell {W w1 : World} (hb : Below W.heap.size W w1) : (∀ b o, b < W.heap.size → w1.cell? ⟨b, o, none⟩ = W.cell? ⟨b, o, none⟩) ∧ (∀ b o, b < W.heap.size → w1.frozen? ⟨b, o, none⟩ = W.frozen? ⟨b, o, none⟩) :=
  ⟨fun b o h => hb.cell (p := ⟨b, o, none⟩) h, fun b o h => hb.frozen (p := ⟨b, o, none⟩) h⟩
theorem Ints.drewN {w : World} {v : Value} {l : List Int} (h : Ints w v l) (n : Nat) : Ints (w.drewN n) v l := h
theorem Ints.drew {w : World} {v : Value} {l : List Int} (h : Ints w v l) : Ints w.drew v l := h
theorem Ints.alloc {w : World} {v : Value} {l : List Int} (h : Ints w v l) (o : Obj) : Ints (w.alloc o) v l := h.keep ((Below.refl _ _).alloc (Nat.le_refl _) o)
theorem Ints.nil (w : World) : Ints w (.slice none 0 0) [] := ⟨none, 0, rfl, by simp, by simp [maxLen], fun h => by simp at h⟩
theorem wpList_append1 {P : Program} {w : World} {ops : Array Oper} {rest : List Oper} {o : Oper} {a : Act} {Q : Exit → Act → World → Prop} (hgd : o.guard = none) (s x : Operand) (t : TypeId)
    (ho : o.op = .call { callee := .builtin .append, args := #[s, x], argTypes := #[t, t] })
    (e : TypeId) (z : Value) (bytes : Nat) (ht : P.underlying t = some (.slice e)) (hinfo : (P.info? e).map (fun i => (i.zero, i.size, i.bytes)) = some (some z, 1, bytes)) (hzs : z.cells.size = 1)
    (W : World) (base : Nat) (v : Value) (n : Nat) (xs : List Value) (hs : a.eval s = v) (hown : w.ownsRow base e 1 v n xs)
    (g : Nat) (u : Value) (hx : a.eval x = .slice (some ⟨g, 0, none⟩) 1 1) (hu : w.cell? ⟨g, 0, none⟩ = some u) (h1 : u.oneCell' = true)
    (hn : n ≤ 1000000000) (hby : bytes ≤ 64) (hW : Below base W w) (hbase : base ≤ w.heap.size)
    (h : ∀ v' w', w'.ownsRow base e 1 v' (n + 1) (xs ++ [u]) → Below base W w' → w.grownBy w' v.ownBlock → wpList P ops Q rest (a.put o.dst v') w') : wpList P ops Q (o :: rest) a w := by
  obtain ⟨i, hi, hz, hsize, hb⟩ := info_parts hinfo
  refine wpList_append_own w hgd s x t ho base e i z 1 bytes ht hi hz hsize hb hzs (by omega) v n xs hs hown ⟨g, 0, none⟩ 1 1 [u] hx rfl ?_ ?_ (by unfold maxLen; omega) ?_ hbase ?_
  · intro j y hy
    match j, hy with
    | 0, hy => simp at hy; subst hy; simpa [Addr.add] using hu
  · intro y hy; simp at hy; subst hy; exact h1
  · have h2 : (n + 1) * bytes ≤ (n + 1) * 64 := Nat.mul_le_mul_left _ hby
    omega
  · intro v' w' hown' hg _
    exact h v' w' hown' (hW.grown hg hbase fun k hk => (hown.lt k hk).1) hg
theorem Below.after {w X w1 : World} (h : Below w.heap.size w X) (hb : Below X.heap.size X w1) : Below w.heap.size w w1 := h.trans (hb.mono h.size)
theorem toNat_div_mod (a b m : Nat) : ((a : Int) / (b : Int) % (m : Int)).toNat = a / b % m := by
  have h : ((a : Int) / (b : Int) % (m : Int)) = ((a / b % m : Nat) : Int) := by simp
  rw [h]; exact Int.toNat_natCast _
theorem wpList_make1 {P : Program} {w : World} {ops : Array Oper} {rest : List Oper} {o : Oper} {a : Act} {Q : Exit → Act → World → Prop} (hgd : o.guard = none) (l c : Operand) (t : TypeId) (hop : o.op = Op.makeSlice t l c)
    (e : TypeId) (z : Value) (bytes : Nat) (ht : P.underlying t = some (.slice e)) (hinfo : (P.info? e).map (fun i => (i.zero, i.size, i.bytes)) = some (some z, 1, bytes)) (hzs : z.cells = #[z])
    (L C : Int) (n : Nat) (hl : a.eval l = .int .i64 L) (hc : a.eval c = .int .i64 C) (hL : L = n) (hC : C = n) (hn : n ≤ 1000000000) (hby : bytes ≤ 64)
    (h : ∀ w', w'.ownsRow w.heap.size e 1 (.slice (some ⟨w.heap.size, 0, none⟩) n n) n (List.replicate n z) → Below w.heap.size w w' → w.heap.size < w'.heap.size → wpList P ops Q rest (a.put o.dst (.slice (some ⟨w.heap.size, 0, none⟩) n n)) w') : wpList P ops Q (o :: rest) a w := by
  obtain ⟨i, hi, hz, hsize, hb⟩ := info_parts hinfo
  refine wpList_make_full w hgd l c t hop w.heap.size e i z 1 ht hi hz hsize .i64 .i64 L C n hl hc hL hC ?_ (by unfold maxLen; omega) (Nat.le_refl _) ?_
  · rw [hb]
    have := Nat.mul_le_mul hby hn
    omega
  · intro w' hown hg
    rw [hzs, Nat.mul_one, toList_madeCells_one] at hown
    refine h w' hown ⟨hg.os, hg.tape, hg.output, hg.size, fun k hk => hg.block k hk (by simp)⟩ ?_
    rcases hown.2 with ⟨hv, _⟩ | ⟨g, cap, cur, hv, _, hh, _⟩
    · simp at hv
    · simp only [Value.slice.injEq, Option.some.injEq, Addr.mk.injEq, and_true] at hv
      obtain ⟨rfl, _⟩ := hv
      exact (Array.getElem?_eq_some_iff.1 hh).1
theorem fill_step {α : Type} (xs L : List α) (k : Nat) (v : α) (hl : xs.length = L.length) (hk : k < L.length) (h : xs.take k = L.take k) (hv : L[k] = v) : (xs.set k v).take (k + 1) = L.take (k + 1) := by
  subst hv
  rw [List.take_succ_eq_append_getElem hk, ← h, List.take_set, List.take_succ_eq_append_getElem (by omega : k < xs.length), List.set_append_right _ _ (by simp; omega)]
  have : k - (List.take k xs).length = 0 := by simp; omega
  rw [this]; rfl
theorem fill_done {α : Type} (xs L : List α) (k : Nat) (hl : xs.length = L.length) (hk : L.length ≤ k) (h : xs.take k = L.take k) : xs = L := by
  rwa [List.take_of_length_le (by omega), List.take_of_length_le (by omega)] at h
theorem own_shape {w : World} {base : Nat} {e : TypeId} {size : Nat} {v : Value} {n : Nat} {xs : List Value} (h : w.ownsRow base e size v n xs) : ∃ A c, v = .slice A n c := by
  rcases h.2 with ⟨rfl, rfl⟩ | ⟨g, cap, cur, hv, _⟩
  · exact ⟨_, _, rfl⟩
  · exact ⟨_, _, hv⟩
theorem Ints.lit (w : World) (e : TypeId) (l : List Int) (n : Nat) (hn : l.length = n) (hm : n ≤ 1000000000) :
    Ints (w.alloc (.cells (l.map (Value.int .i64)).toArray e)) (.slice (some ⟨w.heap.size, 0, none⟩) n n) l := by
  have h := World.ownsRow_lit (base := 0) (size := 1) (e := e) w (l.map (Value.int .i64)).toArray n (Nat.zero_le _) (by unfold maxLen; omega) (by simp [hn])
  exact Ints.of_own (by simpa using h)
def Box6 (w : World) (g : Nat) (d r n s l i : Int) : Prop :=
  g < w.heap.size ∧ w.cell? ⟨g, 0, none⟩ = some (.int .i64 d) ∧ w.cell? ⟨g, 1, none⟩ = some (.int .i64 r) ∧ w.cell? ⟨g, 2, none⟩ = some (.int .i64 n) ∧ w.cell? ⟨g, 3, none⟩ = some (.int .i64 s) ∧ w.cell? ⟨g, 4, none⟩ = some (.int .i64 l) ∧ w.cell? ⟨g, 5, none⟩ = some (.int .i64 i)
theorem Box6.keep {w w' : World} {g : Nat} {d r n s l i : Int} (h : Box6 w g d r n s l i) (hb : Below w.heap.size w w') : Box6 w' g d r n s l i := by
  obtain ⟨h0, h1, h2, h3, h4, h5, h6⟩ := h
  have hc := fun o => hb.cell (p := ⟨g, o, none⟩) h0
  exact ⟨Nat.lt_of_lt_of_le h0 hb.size, (hc 0).trans h1, (hc 1).trans h2, (hc 2).trans h3, (hc 3).trans h4, (hc 4).trans h5, (hc 5).trans h6⟩
theorem Box6.new (w : World) (t : TypeId) (d r n s l i : Int) : Box6 (w.alloc (.cells #[.int .i64 d, .int .i64 r, .int .i64 n, .int .i64 s, .int .i64 l, .int .i64 i] t)) w.heap.size d r n s l i := by
  refine ⟨by simp, ?_, ?_, ?_, ?_, ?_, ?_⟩ <;> simp
def Row (w : World) (b o : Nat) (l : List Int) : Prop := b < w.heap.size ∧ ∀ j, j < l.length → w.cell? ⟨b, o + j, none⟩ = some (.int .i64 (l.getD j 0))
theorem Row.keep {w w' : World} {b o : Nat} {l : List Int} (h : Row w b o l) (hb : Below w.heap.size w w') : Row w' b o l :=
  ⟨Nat.lt_of_lt_of_le h.1 hb.size, fun j hj => (hb.cell (p := ⟨b, o + j, none⟩) h.1).trans (h.2 j hj)⟩
theorem Ints.row {w : World} {v : Value} {l : List Int} (h : Ints w v l) (hp : 0 < l.length) : ∃ b o c, v = .slice (some ⟨b, o, none⟩) l.length c ∧ l.length ≤ c ∧ c ≤ 9223372036854775807 ∧ Row w b o l := by
  obtain ⟨A, c, rfl, h1, h2, h3⟩ := h
  obtain ⟨b, o, rfl, hlt, hc⟩ := h3 hp
  exact ⟨b, o, c, rfl, h1, by unfold maxLen at h2; omega, hlt, hc⟩
theorem Row.ints {w : World} {b o c : Nat} {l : List Int} (h : Row w b o l) (h1 : l.length ≤ c) (h2 : c ≤ 9223372036854775807) : Ints w (.slice (some ⟨b, o, none⟩) l.length c) l :=
  ⟨_, c, rfl, h1, by unfold maxLen; omega, fun _ => ⟨b, o, rfl, h.1, h.2⟩⟩
/-! ### A region that draws its order, whose operations read old cells and whose callees make memory but hand back numbers: one walk of the lexical order. -/
structure Ext (W : World) where
  w : World
  h : Below W.heap.size W w
instance (W : World) : Nonempty (Ext W) := ⟨⟨W, Below.refl _ _⟩⟩
/-! ### A block that is known whole -/
def BlkB (w : World) (g : Nat) (t : TypeId) (cs : Array Value) : Prop := w.heap[g]? = some (.cells cs t (0, 0))
section
variable {w w' : World} {g : Nat} {t : TypeId} {cs : Array Value}
theorem BlkB.lt (h : BlkB w g t cs) : g < w.heap.size := by
  rcases Nat.lt_or_ge g w.heap.size with hlt | hge
  · exact hlt
  · unfold BlkB at h; rw [Array.getElem?_eq_none hge] at h; cases h
theorem BlkB.cell (h : BlkB w g t cs) (i : Nat) : w.cell? ⟨g, i, none⟩ = cs[i]? := cell_of_row w g i cs t (0, 0) h
theorem BlkB.frozen (h : BlkB w g t cs) (i : Nat) : w.frozen? ⟨g, i, none⟩ = false := by
  unfold BlkB at h
  simp [World.frozen?, h]
theorem BlkB.new (w : World) (t : TypeId) (cs : Array Value) : BlkB (w.alloc (.cells cs t)) w.heap.size t cs := heap_alloc_new w _
theorem BlkB.drewN (h : BlkB w g t cs) (n : Nat) : BlkB (w.drewN n) g t cs := h
theorem BlkB.alloc (h : BlkB w g t cs) (o : Obj) : BlkB (w.alloc o) g t cs := (Below.heap_alloc w o g h.lt).trans h
theorem BlkB.below {B : Nat} (h : BlkB w g t cs) (hb : Below B w w') (hg : g < B) : BlkB w' g t cs := (hb.block g hg).trans h
theorem BlkB.keep (h : BlkB w g t cs) (hb : Below w.heap.size w w') : BlkB w' g t cs := h.below hb h.lt
end
end Go.Proofs.YtcljokdiblnhiaaGreatDoor
end
section
namespace Go.Proofs.YtcljokdiblnhiaaGreatDoor
theorem getD_lt' {α : Type} (l : List α) (k : Nat) (d : α) (h : k < l.length) : l.getD k d = l[k] := by simp [List.getD_eq_getElem?_getD, List.getElem?_eq_getElem h]
def idxP (p : Int → Bool) (l : List Int) : Int := if l.any p then (l.findIdx p : Int) else -1
theorem idxP_at (l : List Int) (p : Int → Bool) (k : Nat) (hk : k < l.length) (h : p l[k] = true) (hb : ∀ j, j < k → p (l.getD j 0) = false) : idxP p l = k := by
  unfold idxP; rw [if_pos (List.any_eq_true.2 ⟨_, List.getElem_mem hk, h⟩)]
  have h1 : l.findIdx p < l.length := List.findIdx_lt_length_of_exists ⟨_, List.getElem_mem hk, h⟩
  have h2 := List.findIdx_getElem (w := h1)
  have h4 : ¬ l.findIdx p < k := fun hlt => by
    have h3 := hb _ hlt; rw [getD_lt' _ _ _ h1, h2] at h3; cases h3
  have h5 : ¬ k < l.findIdx p := fun hlt => by
    have := List.not_of_lt_findIdx hlt
    simp [h] at this
  omega
theorem idxP_no (l : List Int) (p : Int → Bool) (hb : ∀ j, j < l.length → p (l.getD j 0) = false) : idxP p l = -1 := by
  unfold idxP; rw [if_neg]
  intro hx
  obtain ⟨a, ha, hp⟩ := List.any_eq_true.1 hx
  obtain ⟨k, hk, h⟩ := List.getElem_of_mem ha
  have := hb k hk; rw [getD_lt' _ _ _ hk, h, hp] at this; cases this
theorem idxP_cases (p : Int → Bool) (l : List Int) : (idxP p l = -1 ∧ ∀ a ∈ l, p a = false) ∨ ∃ k : Nat, ∃ h : k < l.length, idxP p l = k ∧ p l[k] = true ∧ (∀ a ∈ l.take k, p a = false) := by
  unfold idxP
  by_cases hx : l.any p
  · rw [if_pos hx]
    obtain ⟨a, ha, hp⟩ := List.any_eq_true.1 hx
    have h1 : l.findIdx p < l.length := List.findIdx_lt_length_of_exists ⟨a, ha, hp⟩
    refine .inr ⟨l.findIdx p, h1, rfl, List.findIdx_getElem (w := h1), fun b hb => ?_⟩
    obtain ⟨j, hj, rfl⟩ := List.getElem_of_mem hb
    rw [List.length_take] at hj
    rw [List.getElem_take]
    have := List.not_of_lt_findIdx (xs := l) (p := p) (i := j) (by omega)
    simpa using this
  · rw [if_neg hx]
    refine .inl ⟨rfl, fun a ha => ?_⟩
    cases hp : p a
    · rfl
    · exact absurd (List.any_eq_true.2 ⟨a, ha, hp⟩) hx
theorem filter_take_one (l : List Int) (q : Int → Bool) (j : Nat) (h : j < l.length) : (l.take (j + 1)).filter q = (l.take j).filter q ++ (if q l[j] then [l[j]] else []) := by
  rw [List.take_succ_eq_append_getElem h, List.filter_append]
  congr 1
  cases hq : q l[j] <;> simp [hq]
theorem del_keep (l ys : List Int) (q : Int → Bool) (i j : Nat) (hij : i < j) (hj : j < l.length) (hl : ys.length = l.length) (h1 : ys.take i = (l.take j).filter q) (h2 : ys.drop j = l.drop j) (hq : q l[j] = true) :
    (ys.set i l[j]).take (i + 1) = (l.take (j + 1)).filter q ∧ (ys.set i l[j]).drop (j + 1) = l.drop (j + 1) := by
  constructor
  · rw [filter_take_one l q j hj, hq, if_pos rfl, ← h1]
    rw [List.take_set]
    rw [List.take_succ_eq_append_getElem (by omega : i < ys.length)]
    rw [List.set_append_right _ _ (by simp; omega)]
    have : i - (List.take i ys).length = 0 := by simp; omega
    rw [this]; rfl
  · rw [List.drop_set_of_lt (by omega), ← List.drop_drop, h2, List.drop_drop]
theorem del_drop (l ys : List Int) (q : Int → Bool) (i j : Nat) (hj : j < l.length) (h1 : ys.take i = (l.take j).filter q) (h2 : ys.drop j = l.drop j) (hq : q l[j] = false) :
    ys.take i = (l.take (j + 1)).filter q ∧ ys.drop (j + 1) = l.drop (j + 1) := by
  constructor
  · rw [filter_take_one l q j hj, hq, h1]; simp
  · rw [← List.drop_drop, h2, List.drop_drop]
theorem getD_drop_eq (l ys : List Int) (j : Nat) (hj : j < l.length) (hl : ys.length = l.length) (h2 : ys.drop j = l.drop j) : ys.getD j 0 = l[j] := by
  have h3 : (ys.drop j)[0]? = (l.drop j)[0]? := by rw [h2]
  rw [List.getElem?_drop, List.getElem?_drop] at h3
  simp at h3
  rw [getD_lt' _ _ _ (by omega)]
  rw [List.getElem?_eq_getElem (by omega), List.getElem?_eq_getElem hj] at h3
  simpa using h3
/-! ### The multipliers -/
def prog (r k : Nat) : List Nat := (List.range k).map fun i => 1 + i * r
def cnt (d r : Nat) : Nat := (d - 1 + r - 1) / r
def muls (d r : Nat) : List Nat := if d = 1 then [1] else (prog r (cnt d r)).filter fun a => Nat.gcd a d == 1
theorem prog_succ (r k : Nat) : prog r (k + 1) = prog r k ++ [1 + k * r] := by simp [prog, List.range_succ]
theorem prog_length (r k : Nat) : (prog r k).length = k := by simp [prog]
theorem cnt_eq (d r k : Nat) (hr : 1 ≤ r) (h1 : d ≤ 1 + k * r) (h2 : k = 0 ∨ 1 + (k - 1) * r < d) (hd : 1 ≤ d) : k = cnt d r := by
  unfold cnt
  rcases h2 with h2 | h2
  · subst h2
    symm; apply Nat.div_eq_of_lt; omega
  · obtain ⟨j, rfl⟩ : ∃ j, k = j + 1 := by
      rcases Nat.eq_zero_or_pos k with h | h
      · subst h
        exact absurd h2 (by omega)
      · exact ⟨k - 1, by omega⟩
    symm
    rw [Nat.div_eq_iff (by omega)]
    simp only [Nat.add_sub_cancel] at h2
    rw [Nat.succ_mul] at h1 ⊢
    omega
def I (l : List Nat) : List Int := l.map fun n : Nat => (n : Int)
theorem I_length (l : List Nat) : (I l).length = l.length := by simp [I]
theorem I_getD (l : List Nat) (k : Nat) : (I l).getD k 0 = (l.getD k 0 : Nat) := by
  simp [I, List.getD_eq_getElem?_getD]
  cases l[k]? <;> simp
theorem I_append (l m : List Nat) : I (l ++ m) = I l ++ I m := by simp [I]
theorem prog_lt (r k d a : Nat) (h2 : k = 0 ∨ 1 + (k - 1) * r < d) (ha : a ∈ prog r k) : 1 ≤ a ∧ a < d := by
  simp only [prog, List.mem_map, List.mem_range] at ha
  obtain ⟨i, hi, rfl⟩ := ha
  have h1 : i * r ≤ (k - 1) * r := Nat.mul_le_mul_right _ (by omega)
  omega
theorem filter_I (l : List Nat) (d : Nat) : (I l).filter (fun a => !decide (1 < Nat.gcd a.toNat d)) = I (l.filter fun a => !decide (1 < Nat.gcd a d)) := by
  induction l with
  | nil => rfl
  | cons a l ih =>
    simp only [I, List.map_cons, List.filter_cons, Int.toNat_natCast] at ih ⊢
    rw [ih]
    split <;> simp
theorem prog_filter (d r k : Nat) (hd : 2 ≤ d) : (prog r k).filter (fun a => !decide (1 < Nat.gcd a d)) = (prog r k).filter fun a => Nat.gcd a d == 1 := by
  apply List.filter_congr
  intro a ha
  have h1 : 0 < Nat.gcd a d := Nat.gcd_pos_of_pos_right _ (by omega)
  rw [Bool.eq_iff_iff]
  simp; omega
theorem muls_length (d r : Nat) (hd : 1 ≤ d) (hd2 : d ≤ 64) (hr : 1 ≤ r) : (muls d r).length ≤ 64 := by
  unfold muls
  split
  · simp
  · refine Nat.le_trans (List.length_filter_le _ _) ?_
    rw [prog_length]; unfold cnt
    have : (d - 1 + r - 1) / r ≤ d - 1 := by
      rw [← Nat.lt_succ_iff, Nat.div_lt_iff_lt_mul (by omega), Nat.succ_mul]
      have := Nat.le_mul_of_pos_right (d - 1) (by omega : 0 < r)
      omega
    omega
theorem cnt_bd (d r : Nat) (hr : 1 ≤ r) (hd : 1 ≤ d) : cnt d r = 0 ∨ 1 + (cnt d r - 1) * r < d := by
  unfold cnt
  have h1 := Nat.div_mul_le_self (d - 1 + r - 1) r
  generalize hq : (d - 1 + r - 1) / r = q at *
  rcases Nat.eq_zero_or_pos q with h | h
  · exact .inl h
  · obtain ⟨j, rfl⟩ : ∃ j, q = j + 1 := ⟨q - 1, by omega⟩
    rw [Nat.succ_mul] at h1
    simp only [Nat.add_sub_cancel]
    omega
theorem muls_mem (d r a : Nat) (hd : 1 ≤ d) (hr : 1 ≤ r) (ha : a ∈ muls d r) : 1 ≤ a ∧ a ≤ d ∧ Nat.gcd a d = 1 ∧ (a < d ∨ d = 1) := by
  unfold muls at ha
  split at ha
  · simp at ha; subst ha; subst_vars; exact ⟨by omega, by omega, by simp, .inr rfl⟩
  · rw [List.mem_filter] at ha
    have := prog_lt r (cnt d r) d a (cnt_bd d r hr hd) ha.1
    exact ⟨this.1, by omega, by simpa using ha.2, .inl this.2⟩
theorem cnt_pos (d r : Nat) (hd : 2 ≤ d) (hr : 1 ≤ r) : 1 ≤ cnt d r := by
  unfold cnt
  rw [Nat.le_div_iff_mul_le (by omega)]; omega
theorem muls_pos (d r : Nat) (hd : 1 ≤ d) (hr : 1 ≤ r) : 1 ≤ (muls d r).length := by
  unfold muls
  split
  · simp
  · have h1 : 1 ∈ (prog r (cnt d r)).filter fun a => Nat.gcd a d == 1 := by
      rw [List.mem_filter]
      exact ⟨by simp only [prog, List.mem_map, List.mem_range]; exact ⟨0, cnt_pos d r (by omega) hr, by simp⟩, by simp⟩
    exact List.length_pos_of_mem h1
end Go.Proofs.YtcljokdiblnhiaaGreatDoor
end
section
namespace Go.Proofs.YtcljokdiblnhiaaGreatDoor
open Go.RowKit
theorem infoInt : (Tryz.prog.info? 3).map (fun i => (i.zero, i.size, i.bytes)) = some (some (.int .i64 0), 1, 8) := by kernel_rfl
set_option maxHeartbeats 400000 in
theorem common_any (a b : Int) (w : World) (ha : 0 ≤ a) (hb : 0 ≤ b) (ha2 : a ≤ 9223372036854775807) (hb2 : b ≤ 9223372036854775807) :
    Calls Tryz.prog 234 #[.int .i64 a, .int .i64 b] w fun e w' => e = .returned (.int .i64 (Nat.gcd a.toNat b.toNat)) ∧ ∃ n, w' = w.drewN n := by
  obtain ⟨x0, rfl⟩ := Int.eq_ofNat_of_zero_le ha
  obtain ⟨y0, rfl⟩ := Int.eq_ofNat_of_zero_le hb
  rw [Int.toNat_natCast, Int.toNat_natCast]
  go_enter Tryz.func234, Tryz.ntmps234
  go_wp2
  go_loopw [0, 1] (fun a b wr => ∃ x y n : Nat, a = .int .i64 x ∧ b = .int .i64 y ∧ x ≤ 9223372036854775807 ∧ y ≤ 9223372036854775807 ∧ Nat.gcd x y = Nat.gcd x0 y0 ∧ wr = w.drewN n) (fun _ b _ => (intOf b).toNat)
  case atStart => exact ⟨x0, y0, 0, rfl, rfl, by omega, by omega, rfl, rfl⟩
  case round =>
    obtain ⟨x, y, n, rfl, rfl, hx, hy, hg, rfl⟩ := hrel
    have HG := Lib.hid hg; clear hg
    by_cases hlt : 0 < y
    · go_wp2
      go_quiet (fail)
      go_wp2
      go_roundw
      case rel => exact ⟨y, x % y, _, rfl, by simp, by omega, by have := Nat.mod_lt x hlt; omega, by rw [← HG.out, Nat.gcd_comm y, ← Nat.gcd_rec]; exact Nat.gcd_comm _ _, World.drewN_drewN _ _ _⟩
      case measure => simp [intOf]; exact Nat.mod_lt _ hlt
    · go_wp2
      go_ret
      obtain rfl : y = 0 := by omega
      exact ⟨ret_i (by rw [← HG.out]; simp), _, rfl⟩
def cd (d : Nat) (a : Int) : Bool := decide (1 < Nat.gcd a.toNat d)
theorem cd_def (d : Nat) (a : Int) : decide ((1 : Int) < (Nat.gcd a.toNat d : Int)) = cd d a := by
  unfold cd; rw [decide_eq_decide]; omega
theorem mult1_any (a : Int) (d : Nat) (g : Nat) (w : World) (ha : 0 ≤ a) (ha2 : a ≤ 64) (hd2 : d ≤ 64) (hc : w.cell? ⟨g, 0, none⟩ = some (.int .i64 d)) :
    Calls Tryz.prog 233 #[.int .i64 a, .pointer (some ⟨g, 0, none⟩)] w fun e w' => e = .returned (.bool (cd d a)) ∧ ∃ n, w' = w.drewN n := by
  go_enter Tryz.func233, Tryz.ntmps233
  go_wp2_with (go_at_call 234; refine (common_any _ _ _ (by omega) (by omega) (by omega) (by omega)).mono ?_; rintro e w' ⟨rfl, n, rfl⟩)
  go_ret
  refine ⟨ret_b ?_, n, rfl⟩
  exact cd_def d a
theorem indexFunc_any (v : Value) (l : List Int) (d g : Nat) (w : World) (h : Ints w v l) (hl : ∀ a ∈ l, 0 ≤ a ∧ a ≤ 64) (hd2 : d ≤ 64) (hc : w.cell? ⟨g, 0, none⟩ = some (.int .i64 d)) :
    Calls Tryz.prog 155 #[v, .func (.func 233) #[] #[.pointer (some ⟨g, 0, none⟩)]] w fun e w' => e = .returned (.int .i64 (idxP (cd d) l)) ∧ ∃ n, w' = w.drewN n := by
  obtain ⟨A, c, rfl, h1, h2, h3⟩ := h
  unfold maxLen at h2
  have HL := Lib.hid hl; clear hl
  go_enter Tryz.func155, Tryz.ntmps155
  go_wp2
  go_loopw [8] (fun i wr => ∃ k n : Nat, k ≤ l.length ∧ i = .int .i64 k ∧ wr = w.drewN n ∧ ∀ j, j < k → cd d (l.getD j 0) = false) (fun i _ => l.length - (intOf i).toNat)
  case atStart => exact ⟨0, 0, Nat.zero_le _, rfl, rfl, by omega⟩
  case round =>
    obtain ⟨k, n, hk, rfl, rfl, hno⟩ := hrel
    have HN := Lib.hid hno; clear hno
    by_cases hlt : k < l.length
    · obtain ⟨b, o, rfl, _, hck⟩ := h3 (by omega)
      replace hck := hck k hlt
      have hb := HL.out l[k] (List.getElem_mem hlt)
      obtain ⟨hb1, hb2⟩ := hb
      rw [getD_ltB _ _ _ hlt] at hck
      clear h3
      cases hcd : cd d l[k]
      · have HC := Lib.hid hcd
        go_wp2_with (go_at_call 233; refine (mult1_any _ d g _ (by omega) (by omega) hd2 (by go_simp)).mono ?_; rintro e w' ⟨rfl, n', rfl⟩)
        go_roundw
        case rel =>
          refine ⟨k + 1, _, by omega, by go_num, rfl, fun j hj => ?_⟩
          rcases Nat.lt_or_ge j k with h | h
          · exact HN.out j h
          · have : j = k := by omega
            subst this
            rw [getD_ltB _ _ _ hlt]; exact HC.out
        case measure => simp [intOf]; omega
      · have HC := Lib.hid hcd
        go_wp2_with (go_at_call 233; refine (mult1_any _ d g _ (by omega) (by omega) hd2 (by go_simp)).mono ?_; rintro e w' ⟨rfl, n', rfl⟩)
        go_ret
        exact ⟨ret_i (idxP_at l _ k hlt HC.out HN.out).symm, _, rfl⟩
    · go_wp2
      go_ret
      exact ⟨ret_i (idxP_no l _ fun j hj => HN.out j (by omega)).symm, _, rfl⟩
def RetOwn (w : World) (l : List Int) (e : Ending) (w' : World) : Prop :=
  ∃ v, e = .returned v ∧ w'.ownsRow w.heap.size 3 1 v l.length (l.map (Value.int .i64)) ∧ Below w.heap.size w w'
def RetOwnB (base : Nat) (w : World) (l : List Int) (e : Ending) (w' : World) : Prop :=
  ∃ v, e = .returned v ∧ w'.ownsRow base 3 1 v l.length (l.map (Value.int .i64)) ∧ Below base w w'
theorem run_clear_tail {P : Program} (w : World) (t e ty : TypeId) (z : Value) (ht : P.underlying t = some (.slice e)) (hv : ∀ w, (zeroValue e).run P w = .ok z w) (hz : z.cells = #[z]) (h1 : z.oneCell' = true)
    (base g n cap i : Nat) (xs : List Value) (hi : i ≤ n) (hown : w.ownsRow base e 1 (.slice (some ⟨g, 0, none⟩) n cap) n xs) :
    ∃ w', (Builtin.clear_ #[t] ty #[.slice (if cap = i then some ⟨g, 0, none⟩ else some ⟨g, i, none⟩) (n - i) (cap - i)]).run P w = .ok (.tuple #[]) w' ∧
      w'.ownsRow base e 1 (.slice (some ⟨g, 0, none⟩) i cap) i (xs.take i) ∧ w.grownBy w' (some g) := by
  have hown0 := hown
  rcases hown.2 with ⟨h, _⟩ | ⟨g', cap', cur, h, hbg, hh, hnc, hcm, hcs, htake⟩
  · simp at h
  · simp only [Value.slice.injEq, Option.some.injEq, Addr.mk.injEq, and_true, true_and] at h
    obtain ⟨rfl, rfl⟩ := h
    have hxl : xs.length = n := by simpa using hown.1
    rcases Nat.lt_or_ge i n with hlt | hge
    · rw [if_neg (by omega)]
      have hzc : (Builtin.zeroCells z.cells (n - i)).toList = List.replicate (n - i) z := by
        rw [hz]
        simp [Builtin.zeroCells]
        apply List.ext_getElem
        · simp
        · intro i h1 h2
          simp [Nat.mod_one]
      have hst := run_storeCells_at P g i e (List.replicate (n - i) z) 0 cur w hh (by simp; omega) (fun v hv' => by rw [List.eq_of_mem_replicate hv']; exact h1)
      simp only [Nat.add_zero] at hst
      obtain ⟨cur', hc'⟩ : ∃ c, c = (List.take i cur.toList ++ List.replicate (n - i) z ++ List.drop (i + (List.replicate (n - i) z).length) cur.toList).toArray := ⟨_, rfl⟩
      rw [← hc'] at hst
      have hs' : cur'.size = cap * 1 := by subst hc'; simp; omega
      have ht' : cur'.toList.take (i * 1) = xs.take i := by
        subst hc'
        simp only [Nat.mul_one, List.append_assoc]
        rw [List.take_append_of_le_length (by simp; omega), List.take_take, Nat.min_self, ← htake, List.take_take]
        congr 1; omega
      refine ⟨w.setRow g cur', ?_, ⟨by simp; omega, .inr ⟨g, cap, cur', rfl, hbg, setRow_heap w g cur cur' e _ hh, by omega, hcm, hs', ht'⟩⟩, ⟨rfl, rfl, rfl, by simp, fun k _ hk => setRow_other w g k _ (fun e => hk (by simp [e]))⟩⟩
      obtain ⟨m, hm⟩ : ∃ m, n - i = m + 1 := ⟨n - i - 1, by omega⟩
      rw [hm] at hzc hst ⊢
      simp [Builtin.clear_, run_underlying ht, hv, hzc, hst]
    · obtain rfl : i = n := by omega
      refine ⟨w, ?_, ?_, World.grownBy.refl w _⟩
      · rw [Nat.sub_self]
        by_cases hc : cap = i
        · rw [if_pos hc]; simp [Builtin.clear_, run_underlying ht]
        · rw [if_neg hc]; simp [Builtin.clear_, run_underlying ht]
      · rw [List.take_of_length_le (by omega)]; exact hown0
theorem zeroInt (w : World) : (zeroValue 3).run Tryz.prog w = .ok (.int .i64 0) w := by kernel_rfl
set_option maxHeartbeats 800000 in
theorem deleteFunc_any (v : Value) (l : List Int) (d g0 base : Nat) (w : World) (hown : w.ownsRow base 3 1 v l.length (l.map (Value.int .i64))) (hbase : base ≤ w.heap.size) (hl : ∀ a ∈ l, 0 ≤ a ∧ a ≤ 64) (hln : l.length ≤ 64) (hd2 : d ≤ 64) (hg0 : g0 < base) (hc : w.cell? ⟨g0, 0, none⟩ = some (.int .i64 d)) :
    Calls Tryz.prog 232 #[v, .func (.func 233) #[] #[.pointer (some ⟨g0, 0, none⟩)]] w (RetOwnB base w (l.filter fun a => !cd d a)) := by
  have hI := Ints.of_own hown
  have HO := Lib.hid hown
  have HL := Lib.hid hl
  rcases idxP_cases (cd d) l with ⟨hi, hno⟩ | ⟨k, hk, hi, hp, hno⟩
  · have HN := Lib.hid hno
    have hIF := indexFunc_any v l d g0 w hI hl hd2 hc
    rw [hi] at hIF
    clear hno hi hl hown
    go_enter Tryz.func232, Tryz.ntmps232
    go_wp2_with (go_at_call 155; refine hIF.mono ?_; rintro e w' ⟨rfl, n', rfl⟩)
    go_ret
    have hf : (l.filter fun a => !cd d a) = l := List.filter_eq_self.2 fun a ha => by rw [HN.out a ha]; rfl
    refine ⟨v, rfl, ?_, below_drewN (Below.refl _ _) _⟩
    rw [hf]; exact HO.out
  · have HN := Lib.hid hno
    have HP := Lib.hid hp
    have hIF := indexFunc_any v l d g0 w hI hl hd2 hc
    rw [hi] at hIF
    obtain ⟨g, cap, rfl, hgb, hglt⟩ := hown.form (by omega)
    clear hno hi hl hp hown hI
    have hk64 : k < 64 := by omega
    have hk1 : ((k : Int) == -1) = false := by simp
    go_enter Tryz.func232, Tryz.ntmps232
    go_wp2_with (go_at_call 155; refine hIF.mono ?_; rintro e w' ⟨rfl, n', rfl⟩)
    have hcap : cap ≤ 9223372036854775807 ∧ l.length ≤ cap := by
      rcases HO.out.2 with ⟨h, _⟩ | ⟨g', cap', cur, h, _, _, h1, h2, _⟩
      · simp at h
      · simp only [Value.slice.injEq, Option.some.injEq, Addr.mk.injEq, and_true, true_and] at h
        obtain ⟨rfl, rfl⟩ := h
        exact ⟨by unfold maxLen at h2; omega, h1⟩
    obtain ⟨hcap1, hcap2⟩ := hcap
    go_loopw [5, 6] (fun i j wr => ∃ (i' j' : Nat) (ys : List Int), i = .int .i64 i' ∧ j = .int .i64 j' ∧ i' < j' ∧ j' ≤ l.length ∧ ys.length = l.length ∧
        wr.ownsRow base 3 1 (.slice (some ⟨g, 0, none⟩) l.length cap) l.length (ys.map (Value.int .i64)) ∧ Below base w wr ∧
        ys.take i' = (l.take j').filter (fun a => !cd d a) ∧ ys.drop j' = l.drop j')
      (fun _ j _ => l.length - (intOf j).toNat)
    case atStart =>
      refine ⟨k, k + 1, l, rfl, by go_num, by omega, by omega, rfl, HO.out, below_drewN (Below.refl _ _) _, ?_, rfl⟩
      rw [filter_take_one l _ k hk, HP.out]
      have : (l.take k).filter (fun a => !cd d a) = l.take k := List.filter_eq_self.2 fun a ha => by rw [HN.out a ha]; rfl
      simp [this]
    case round =>
      obtain ⟨i, j, ys, rfl, rfl, hij, hjl, hyl, hown, hbel, hy1, hy2⟩ := hrel
      have HOW := Lib.hid hown
      have HY := Lib.hid hy1
      have HY2 := Lib.hid hy2
      have hsz := hbel.size
      by_cases hlt : j < l.length
      · have hb := HL.out l[j] (List.getElem_mem hlt)
        obtain ⟨hb1, hb2⟩ := hb
        have hcj : wr.cell? ⟨g, j, none⟩ = some (.int .i64 l[j]) := by
          rw [hown.cellAt j (by omega), List.getElem?_map, List.getElem?_eq_getElem (by omega)]
          have := getD_drop_eq l ys j hlt hyl hy2
          rw [getD_ltB _ _ _ (by omega)] at this
          simp [this]
        have hfr : wr.frozen? ⟨g, i, none⟩ = false := hown.frozenAt i
        have hci : wr.cell? ⟨g, i, none⟩ = some (.int .i64 (ys.getD i 0)) := by
          rw [hown.cellAt i (by omega), List.getElem?_map, List.getElem?_eq_getElem (by omega), getD_ltB _ _ _ (by omega)]; rfl
        have hcg : wr.cell? ⟨g0, 0, none⟩ = some (.int .i64 d) := by rw [hbel.cell (p := ⟨g0, 0, none⟩) hg0]; exact hc
        have HB := Lib.hid hbel
        clear hown hy1 hy2 hc hbel
        cases hq : cd d l[j]
        · have HQ := Lib.hid hq
          go_wp2_with (go_at_call 233; refine (mult1_any _ d g0 _ (by omega) (by omega) hd2 (by go_simp)).mono ?_; rintro e w' ⟨rfl, n', rfl⟩)
          go_roundw
          case rel =>
            have hdk := del_keep l ys (fun a => !cd d a) i j hij hlt hyl HY.out HY2.out (by rw [HQ.out]; rfl)
            have hst := World.ownsRow.stored HOW.out i (.int .i64 l[j])
            refine ⟨i + 1, j + 1, ys.set i l[j], by go_num, by go_num, by omega, by omega, by simpa using hyl, ?_, ?_, hdk.1, hdk.2⟩
            · rw [List.map_set]; exact hst.1
            · exact below_drewN (HB.out.setCell (p := ⟨g, i, none⟩) (by simpa using hgb) _) _
          case measure => simp [intOf]; omega
        · have HQ := Lib.hid hq
          go_wp2_with (go_at_call 233; refine (mult1_any _ d g0 _ (by omega) (by omega) hd2 (by go_simp)).mono ?_; rintro e w' ⟨rfl, n', rfl⟩)
          go_roundw
          case rel =>
            have hdk := del_drop l ys (fun a => !cd d a) i j hlt HY.out HY2.out (by rw [HQ.out]; rfl)
            exact ⟨i, j + 1, ys, rfl, by go_num, by omega, by omega, hyl, HOW.out, below_drewN HB.out _, hdk.1, hdk.2⟩
          case measure => simp [intOf]; omega
      · obtain rfl : j = l.length := by omega
        obtain ⟨w2, hrun, hown2, hg2⟩ := run_clear_tail (P := Tryz.prog) wr 48 3 0 (.int .i64 0) Tryz.underlying48 zeroInt rfl rfl base g l.length cap i (ys.map (Value.int .i64)) (by omega) hown
        have HB := Lib.hid hbel
        have HH := Lib.hid hown2
        have HG := Lib.hid hg2
        clear hown hy1 hy2 hc hbel hown2 hg2
        have hend : RetOwnB base w (l.filter fun a => !cd d a) (.returned (.slice (some ⟨g, 0, none⟩) i cap)) w2 := by
          have h1 : (ys.take i).length = i := by rw [List.length_take]; omega
          have h2 : ys.take i = l.filter (fun a => !cd d a) := by rw [HY.out, List.take_length]
          rw [← h2]
          refine ⟨_, rfl, ?_, HB.out.grown HG.out (by omega) (by simp; omega)⟩
          rw [h1, List.map_take]; exact HH.out
        have HE := Lib.hid hend
        clear hend
        rw [if_neg (by omega)] at hrun
        have hcl : ∀ ty, (Builtin.clear_ #[48] ty #[.slice (some ⟨g, i, none⟩) (l.length - i) (cap - i)]).run Tryz.prog wr = .ok (.tuple #[]) w2 := fun ty => hrun
        go_wp2
        go_ret
        exact HE.out
end Go.Proofs.YtcljokdiblnhiaaGreatDoor
end
section
namespace Go.Proofs.YtcljokdiblnhiaaGreatDoor
open Go.RowKit
theorem cd_filter (d : Nat) (l : List Nat) : (I l).filter (fun a => !cd d a) = I (l.filter fun a => !decide (1 < Nat.gcd a d)) := filter_I l d
set_option maxHeartbeats 800000 in
theorem multipliers_any (d r : Nat) (w : World) (hd : 1 ≤ d) (hd2 : d ≤ 64) (hr : 1 ≤ r) (hr2 : r ≤ 8) (hdr : d = 1 → r = 1) :
    Calls Tryz.prog 223 #[.agg #[.int .i64 d, .int .i64 r]] w (RetOwn w (I (muls d r))) := by
  by_cases h1 : d = 1
  · obtain rfl := hdr h1
    subst h1
    go_enter Tryz.func223, Tryz.ntmps223
    go_wp2
    go_ret
    refine ⟨_, rfl, ?_, ((Below.refl _ _).alloc (Nat.le_refl _) _).alloc (by simp) _⟩
    have := World.ownsRow_lit (base := w.heap.size) (size := 1) (e := 3) (w.alloc (.cells #[.int .i64 1, .int .i64 1] 280)) #[.int .i64 1] 1 (by simp) (by simp [maxLen]) (by simp)
    simpa [I, muls] using this
  · have h2 : ((d : Int) == 1) = false := by simp; omega
    have HD := Lib.hid h1
    clear hdr h1
    go_enter Tryz.func223, Tryz.ntmps223
    go_wp2
    go_loopw [3, 4] (fun v a wr => ∃ k : Nat, a = .int .i64 (1 + k * r : Nat) ∧ k ≤ 64 ∧ (k = 0 ∨ 1 + (k - 1) * r < d) ∧ wr.ownsRow (w.heap.size + 1) 3 1 v k ((I (prog r k)).map (Value.int .i64)) ∧
        Below (w.heap.size + 1) (w.alloc (.cells #[.int .i64 d, .int .i64 r] 280)) wr)
      (fun _ a _ => d - (intOf a).toNat)
    case atStart => exact ⟨0, by simp, by omega, .inl rfl, World.ownsRow_nil _ _ _ _, Below.refl _ _⟩
    case round =>
      obtain ⟨k, rfl, hk, hk2, hown, hbel⟩ := hrel
      have hsz : w.heap.size + 1 ≤ wr.heap.size := by have := hbel.size; simpa using this
      have hc0 : wr.cell? ⟨w.heap.size, 0, none⟩ = some (.int .i64 d) := by rw [hbel.cell (p := ⟨w.heap.size, 0, none⟩) (by simp)]; simp
      have hc1 : wr.cell? ⟨w.heap.size, 1, none⟩ = some (.int .i64 r) := by rw [hbel.cell (p := ⟨w.heap.size, 1, none⟩) (by simp)]; simp
      have hkr : k * r ≤ 64 * 8 := Nat.mul_le_mul hk hr2
      obtain ⟨a, ha⟩ : ∃ a, a = 1 + k * r := ⟨_, rfl⟩
      rw [← ha]
      have ha2 : a ≤ 1000 := by omega
      have HA := Lib.hid ha
      have HB := Lib.hid hbel
      have HO := Lib.hid hown
      by_cases hlt : a < d
      · have hk3 : k < 64 := by
          have := Nat.le_mul_of_pos_right k (by omega : 0 < r)
          omega
        clear ha hkr hbel hown
        go_wp2_with (at_builtin; refine wpList_append1 rfl _ _ _ rfl 3 (.int .i64 0) 8 Tryz.underlying48 infoInt rfl _ (w.heap.size + 1) _ k _ rfl (HO.out.alloc _) wr.heap.size (.int .i64 a) rfl (by simp) rfl (by omega) (by omega) (HB.out.alloc (by omega) _) (by simp; omega) ?_; intro v1 w1 hown1 hbel1 hg1; have hc11 : w1.cell? ⟨w.heap.size, 1, none⟩ = some (.int .i64 r) := (by rw [hbel1.cell (p := ⟨w.heap.size, 1, none⟩) (by simp)]; simp); have HO1 := Lib.hid hown1; have HB1 := Lib.hid hbel1; clear hown1 hbel1 hg1)
        go_roundw
        case rel =>
          refine ⟨k + 1, ?_, by omega, .inr ?_, ?_, HB1.out⟩
          · rw [HA.out, Nat.succ_mul]; go_num
          · rw [Nat.add_sub_cancel, ← HA.out]; exact hlt
          · rw [prog_succ, I_append, List.map_append, ← HA.out]; exact HO1.out
        case measure => simp [intOf]; omega
      · have hkc : k = cnt d r := cnt_eq d r k hr (by omega) hk2 hd
        clear ha hkr hbel hown
        have hL : (I (prog r k)).length = k := by rw [I_length, prog_length]
        have hbd : ∀ a ∈ I (prog r k), 0 ≤ a ∧ a ≤ 64 := by
          intro a ha
          simp only [I, List.mem_map] at ha
          obtain ⟨n, hn, rfl⟩ := ha
          have := prog_lt r k d n hk2 hn
          omega
        have HL := Lib.hid hL
        have HK := Lib.hid hkc
        have HBD := Lib.hid hbd
        clear hL hkc hbd
        go_wp2_with (go_at_call 232; refine (deleteFunc_any _ (I (prog r k)) d w.heap.size (w.heap.size + 1) wr (by rw [HL.out]; exact HO.out) hsz HBD.out (by rw [HL.out]; exact hk) hd2 (by omega) hc0).mono ?_; rintro e w' ⟨v', rfl, hown', hbel'⟩; have HO' := Lib.hid hown'; have HB' := Lib.hid hbel'; clear hown' hbel')
        go_ret
        have hm : ((I (prog r k)).filter fun a => !cd d a) = I (muls d r) := by
          rw [cd_filter, prog_filter d r k (by have := HD.out; omega), HK.out, muls, if_neg HD.out]
        rw [hm] at HO'
        refine ⟨v', rfl, ?_, ?_⟩
        · exact HO'.out.mono (by omega)
        · exact (((Below.refl _ _).alloc (Nat.le_refl _) _).trans (HB.out.mono (by omega))).trans (HB'.out.mono (by omega))
end Go.Proofs.YtcljokdiblnhiaaGreatDoor
end
section
namespace Go.Proofs.YtcljokdiblnhiaaGreatDoor
open Go.RowKit
def OkC (d r n s l i : Int) : Prop := (1 ≤ d ∧ d ≤ 64) ∧ (1 ≤ r ∧ r ≤ 8) ∧ (1 ≤ n ∧ n ≤ 4096) ∧ (0 ≤ s ∧ s ≤ d - 1) ∧ (1 ≤ l ∧ l ≤ 65536) ∧ (1 ≤ i ∧ i ≤ 65536) ∧ d % r = 0
instance (d r n s l i : Int) : Decidable (OkC d r n s l i) := by unfold OkC; infer_instance
def chk13 (d r n s l i : Int) : Int := if OkC d r n s l i then 0 else 1
theorem chk13_yes {d r n s l i : Int} (h : OkC d r n s l i) : chk13 d r n s l i = 0 := if_pos h
theorem chk13_no {d r n s l i : Int} (h : ¬ OkC d r n s l i) : chk13 d r n s l i = 1 := if_neg h
theorem within_any (a b c : Int) (w : World) :
    Calls Tryz.prog 222 #[.int .i64 a, .int .i64 b, .int .i64 c] w fun e w' => e = .returned (.bool (decide (b ≤ a) && decide (a ≤ c))) ∧ w = w' := by
  by_cases h : b ≤ a
  · by_cases h2 : a ≤ c
    · go_enter Tryz.func222, Tryz.ntmps222
      go_wp2
      go_ret
      first | (simp [h, h2]; done) | (simp [h, h2]; omega)
    · have h2' : c < a := by omega
      go_enter Tryz.func222, Tryz.ntmps222
      go_wp2
      go_ret
      first | (simp [h, h2]; done) | (simp [h, h2]; omega)
  · have h' : a < b := by omega
    go_enter Tryz.func222, Tryz.ntmps222
    go_wp2
    go_ret
    first | (simp [h]; done) | (simp; intros; omega)
set_option maxHeartbeats 1600000 in
theorem check_any (d r n s l i : Int) (w : World) :
    Calls Tryz.prog 192 #[.agg #[.int .i64 d, .int .i64 r, .int .i64 n, .int .i64 s, .int .i64 l, .int .i64 i]] w fun e w' => e = .returned (.int .i64 (chk13 d r n s l i)) ∧ Below w.heap.size w w' := by
  go_enter Tryz.func192, Tryz.ntmps192
  go_wp2_with (go_at_call 222; refine (within_any _ _ _ _).mono ?_; rintro e w' ⟨rfl, rfl⟩)
  all_goals (go_ret; refine ⟨ret_i ?_, by go_grown⟩)
  all_goals first
    | (rw [chk13_no]; unfold OkC; intro h; obtain ⟨h1, h2, h3, h4, h5, h6, h7⟩ := h; first | (exact absurd h1 ‹_›) | (exact absurd h2 ‹_›) | (exact absurd h3 ‹_›) | (exact absurd h4 ‹_›) | (exact absurd h5 ‹_›) | (exact absurd h6 ‹_›) | (have hx : (d % r != 0) = true := (by assumption); simp [h7] at hx); done)
    | (rw [chk13_yes]; have hx : (d % r != 0) = false := (by assumption); exact ⟨‹_›, ‹_›, ‹_›, ‹_›, ‹_›, ‹_›, by simpa using hx⟩)
    | skip
theorem check_yes (d r n s l i : Int) (w : World) (h : OkC d r n s l i) :
    Calls Tryz.prog 192 #[.agg #[.int .i64 d, .int .i64 r, .int .i64 n, .int .i64 s, .int .i64 l, .int .i64 i]] w fun e w' => e = .returned (.int .i64 0) ∧ Below w.heap.size w w' := by
  have := check_any d r n s l i w; rwa [chk13_yes h] at this
theorem check_no (d r n s l i : Int) (w : World) (h : ¬ OkC d r n s l i) :
    Calls Tryz.prog 192 #[.agg #[.int .i64 d, .int .i64 r, .int .i64 n, .int .i64 s, .int .i64 l, .int .i64 i]] w fun e w' => e = .returned (.int .i64 1) ∧ Below w.heap.size w w' := by
  have := check_any d r n s l i w; rwa [chk13_no h] at this
def mulI (d r n s l i : Int) : List Int := if OkC d r n s l i then I (muls d.toNat r.toNat) else []
theorem mulI_yes {d r n s l i : Int} (h : OkC d r n s l i) : mulI d r n s l i = I (muls d.toNat r.toNat) := if_pos h
theorem mulI_no {d r n s l i : Int} (h : ¬ OkC d r n s l i) : mulI d r n s l i = [] := if_neg h
theorem RetOwn.nil {w w' : World} (hb : Below w.heap.size w w') : RetOwn w [] (.returned (.slice none 0 0)) w' := ⟨_, rfl, World.ownsRow_nil _ _ _ _, hb⟩
theorem RetOwn.later {w w1 : World} {l : List Int} {e : Ending} {w' : World} (h : RetOwn w1 l e w') (hb : Below w.heap.size w w1) : RetOwn w l e w' := by
  obtain ⟨v, rfl, ho, hb'⟩ := h
  exact ⟨v, rfl, ho.mono hb.size, hb.trans (hb'.mono hb.size)⟩
set_option maxHeartbeats 400000 in
theorem multsOf_any (d r n s l i : Int) (w : World) :
    Calls Tryz.prog 193 #[.agg #[.int .i64 d, .int .i64 r, .int .i64 n, .int .i64 s, .int .i64 l, .int .i64 i]] w (RetOwn w (mulI d r n s l i)) := by
  by_cases hok : OkC d r n s l i
  · rw [mulI_yes hok]
    have hok2 := hok
    obtain ⟨⟨h1, h2⟩, ⟨h3, h4⟩, _, _, _, _, h5⟩ := hok2
    have H5 := Lib.hid h5
    clear h5
    have HK := Lib.hid hok
    clear hok
    obtain ⟨D, rfl⟩ := Int.eq_ofNat_of_zero_le (by omega : 0 ≤ d)
    obtain ⟨R, rfl⟩ := Int.eq_ofNat_of_zero_le (by omega : 0 ≤ r)
    have hdr : D = 1 → R = 1 := by
      intro h; subst h
      have h6 : ((1 : Nat) % R : Nat) = 0 := by have := H5.out; omega
      rcases Nat.lt_or_ge 1 R with h7 | h7
      · rw [Nat.mod_eq_of_lt h7] at h6; omega
      · omega
    have HDR := Lib.hid hdr
    clear hdr
    go_enter Tryz.func193, Tryz.ntmps193
    go_wp2_with (first | (go_at_call 192; refine (check_yes _ _ _ _ _ _ _ HK.out).mono ?_; rintro e w1 ⟨rfl, hb1⟩; obtain ⟨hc, hf⟩ := bcell hb1; have HB := Lib.hid hb1; clear hb1) | (go_at_call 223; refine (multipliers_any D R _ (by omega) (by omega) (by omega) (by omega) HDR.out).mono ?_; rintro e w2 ⟨v, rfl, hown, hb2⟩))
    go_ret
    have hb : Below w.heap.size w w1 := ((Below.refl _ _).alloc (Nat.le_refl _) _).trans (HB.out.mono (by simp))
    exact RetOwn.later ⟨v, rfl, hown, hb2⟩ hb
  · rw [mulI_no hok]
    have HK := Lib.hid hok
    clear hok
    go_enter Tryz.func193, Tryz.ntmps193
    go_wp2_with (go_at_call 192; refine (check_no _ _ _ _ _ _ _ HK.out).mono ?_; rintro e w1 ⟨rfl, hb1⟩)
    go_ret
    exact RetOwn.nil (((Below.refl _ _).alloc (Nat.le_refl _) _).trans (hb1.mono (by simp)))
end Go.Proofs.YtcljokdiblnhiaaGreatDoor
end
section
namespace Go.Proofs.YtcljokdiblnhiaaGreatDoor
open Go.RowKit
def mulAt (d r row : Nat) : Nat := (muls d r).getD (row / d % (muls d r).length) 0
theorem mulAt_mem (d r row : Nat) (hd : 1 ≤ d) (hr : 1 ≤ r) : mulAt d r row ∈ muls d r := by
  have h1 := muls_pos d r hd hr
  have h2 := Nat.mod_lt (row / d) (by omega : 0 < (muls d r).length)
  unfold mulAt; rw [getD_ltB _ _ _ h2]; exact List.getElem_mem h2
theorem ret_t3 {a b a' b' : Int} {c : Bool} (h1 : a = a') (h2 : b = b') : Ending.returned (.tuple #[.int .i64 a, .int .i64 b, .bool c]) = .returned (.tuple #[.int .i64 a', .int .i64 b', .bool c]) := by rw [h1, h2]
set_option maxHeartbeats 800000 in
theorem rule_yes (d r n s l i row : Int) (w : World) (hok : OkC d r n s l i) (hr0 : 0 ≤ row) (hr1 : row < n) :
    Calls Tryz.prog 148 #[.agg #[.int .i64 d, .int .i64 r, .int .i64 n, .int .i64 s, .int .i64 l, .int .i64 i], .int .i64 row] w
      fun e w' => e = .returned (.tuple #[.int .i64 (mulAt d.toNat r.toNat row.toNat), .int .i64 (row % d), .bool true]) ∧ Below w.heap.size w w' := by
  have hok2 := hok
  obtain ⟨⟨h1, h2⟩, ⟨h3, h4⟩, ⟨_, h5⟩, _⟩ := hok2
  obtain ⟨D, rfl⟩ := Int.eq_ofNat_of_zero_le (by omega : 0 ≤ d)
  obtain ⟨R, rfl⟩ := Int.eq_ofNat_of_zero_le (by omega : 0 ≤ r)
  obtain ⟨X, rfl⟩ := Int.eq_ofNat_of_zero_le hr0
  have hm := mulI_yes hok
  simp only [Int.toNat_natCast] at hm ⊢
  have hm1 := muls_pos D R (by omega) (by omega)
  have hm2 := muls_length D R (by omega) (by omega) (by omega)
  obtain ⟨m, hmm⟩ : ∃ m, m = (muls D R).length := ⟨_, rfl⟩
  have hix := Nat.mod_lt (X / D) (by omega : 0 < m)
  have hD0 : 0 < D := by omega
  have hq : X / D ≤ X := Nat.div_le_self _ _
  rw [← hmm] at hm1 hm2
  have hfin : (I (muls D R)).getD (X / D % m) 0 = (mulAt D R X : Int) := by rw [I_getD, mulAt, ← hmm]
  have hlen : (I (muls D R)).length = m := by rw [I_length, hmm]
  have HFIN := Lib.hid hfin
  have HLEN := Lib.hid hlen
  have HM := Lib.hid hm
  have hm0 : ((m : Int) == 0) = false := by simp; omega
  clear hm hok hfin hlen hmm
  go_enter Tryz.func148, Tryz.ntmps148
  go_wp2_with (go_at_call 193; refine (multsOf_any _ _ _ _ _ _ _).mono ?_; rintro e w1 ⟨v, rfl, hown, hb1⟩; rw [HM.out] at hown; have hI := Ints.of_own hown; obtain ⟨A, c, rfl, h6, h7, h8⟩ := hI; rw [HLEN.out] at hown h6 h8 ⊢; obtain ⟨b, o, rfl, h9, h10⟩ := h8 (by omega); have h11 := h10 (X / D % m) hix; rw [HFIN.out] at h11; clear hown h10; obtain ⟨hc, hf⟩ := bcell hb1; have HB := Lib.hid hb1; clear hb1)
  have hcd : w1.cell? ⟨w.heap.size, 0, none⟩ = some (.int .i64 D) := by rw [hc _ _ (by simp)]; simp
  clear h8 hc hf
  have hDz : ((D : Int) == 0) = false := by simp; omega
  have hq1 : 0 ≤ (X : Int) / (D : Int) := Int.ediv_nonneg (by omega) (by omega)
  have hq2 : (X : Int) / (D : Int) ≤ 4096 := Int.le_trans (Int.ediv_le_self _ (by omega)) (by omega)
  have hq3 : 0 ≤ (X : Int) / (D : Int) % (m : Int) := Int.emod_nonneg _ (by omega)
  have hq4 : (X : Int) / (D : Int) % (m : Int) < m := Int.emod_lt_of_pos _ (by omega)
  have hq5 : ((X : Int) / (D : Int) % (m : Int)).toNat = X / D % m := toNat_div_mod X D m
  go_quiet (fail)
  go_wp2
  go_ret3
  exact ⟨ret_t3 rfl (by simp), below_drewN (Below.after (by go_grown) HB.out) _⟩
set_option maxHeartbeats 800000 in
theorem rule_no (d r n s l i row : Int) (w : World) (hno : ¬ (OkC d r n s l i ∧ 0 ≤ row ∧ row < n)) :
    Calls Tryz.prog 148 #[.agg #[.int .i64 d, .int .i64 r, .int .i64 n, .int .i64 s, .int .i64 l, .int .i64 i], .int .i64 row] w
      fun e w' => e = .returned (.tuple #[.int .i64 0, .int .i64 0, .bool false]) ∧ Below w.heap.size w w' := by
  by_cases hok : OkC d r n s l i
  · have hm : 0 < (mulI d r n s l i).length ∧ (mulI d r n s l i).length ≤ 64 := by
      rw [mulI_yes hok, I_length]
      obtain ⟨⟨h1, h2⟩, ⟨h3, h4⟩, _⟩ := hok
      exact ⟨muls_pos _ _ (by omega) (by omega), muls_length _ _ (by omega) (by omega) (by omega)⟩
    obtain ⟨L, hL⟩ : ∃ L, mulI d r n s l i = L := ⟨_, rfl⟩
    rw [hL] at hm
    obtain ⟨hm1, hm2⟩ := hm
    have HL := Lib.hid hL
    have HN := Lib.hid hno
    have HK := Lib.hid hok
    have hz : ((L.length : Int) == 0) = false := by simp; intro h; subst h; simp at hm1
    clear hL hno hok
    go_enter Tryz.func148, Tryz.ntmps148
    go_wp2_with (go_at_call 193; refine (multsOf_any _ _ _ _ _ _ _).mono ?_; rintro e w1 ⟨v, rfl, hown, hb1⟩; rw [HL.out] at hown; obtain ⟨A, c, rfl⟩ := own_shape hown; clear hown; obtain ⟨hc, hf⟩ := bcell hb1; have HB := Lib.hid hb1; clear hb1)
    all_goals first
      | (go_ret3; exact ⟨rfl, Below.after (by go_grown) HB.out⟩)
      | (exfalso; have hx : 0 ≤ row ∧ row < n := (by assumption); exact HN.out ⟨HK.out, hx.1, hx.2⟩)
  · have hm := mulI_no hok
    have HM := Lib.hid hm
    clear hno hok hm
    go_enter Tryz.func148, Tryz.ntmps148
    go_wp2_with (go_at_call 193; refine (multsOf_any _ _ _ _ _ _ _).mono ?_; rintro e w1 ⟨v, rfl, hown, hb1⟩; rw [HM.out] at hown; obtain ⟨A, c, rfl⟩ := own_shape hown; clear hown; have HB := Lib.hid hb1; clear hb1)
    go_ret3
    exact ⟨rfl, Below.after (by go_grown) HB.out⟩
end Go.Proofs.YtcljokdiblnhiaaGreatDoor
end
section
namespace Go.Proofs.YtcljokdiblnhiaaGreatDoor
open Go.RowKit
def ord (d r row : Nat) : List Nat := (List.range d).map fun p => (mulAt d r row * p + row) % d
theorem ord_length (d r row : Nat) : (ord d r row).length = d := by simp [ord]
theorem ord_getD (d r row p : Nat) (h : p < d) : (I (ord d r row)).getD p 0 = ((mulAt d r row * p + row) % d : Nat) := by
  rw [getD_ltB _ _ _ (by rw [I_length, ord_length]; exact h)]; simp [I, ord]
def ordI (d r n s l i row : Int) : List Int := if OkC d r n s l i ∧ 0 ≤ row ∧ row < n then I (ord d.toNat r.toNat row.toNat) else []
theorem ordI_yes {d r n s l i row : Int} (h : OkC d r n s l i ∧ 0 ≤ row ∧ row < n) : ordI d r n s l i row = I (ord d.toNat r.toNat row.toNat) := if_pos h
theorem ordI_no {d r n s l i row : Int} (h : ¬ (OkC d r n s l i ∧ 0 ≤ row ∧ row < n)) : ordI d r n s l i row = [] := if_neg h
theorem mul_bd (a p : Nat) (ha : a ≤ 64) (hp : p ≤ 64) : 0 ≤ (a : Int) * (p : Int) ∧ (a : Int) * (p : Int) ≤ 4096 := by
  have h := Nat.mul_le_mul ha hp
  have e : (a : Int) * (p : Int) = ((a * p : Nat) : Int) := by simp
  omega
set_option maxHeartbeats 800000 in
theorem order_any (d r n s l i row : Int) (w : World) :
    Calls Tryz.prog 88 #[.agg #[.int .i64 d, .int .i64 r, .int .i64 n, .int .i64 s, .int .i64 l, .int .i64 i], .int .i64 row] w (RetOwn w (ordI d r n s l i row)) := by
  by_cases hok : OkC d r n s l i ∧ 0 ≤ row ∧ row < n
  · have ho := ordI_yes hok
    obtain ⟨hok1, hr0, hr1⟩ := hok
    have hok2 := hok1
    obtain ⟨⟨h1, h2⟩, ⟨h3, h4⟩, ⟨_, h5⟩, _⟩ := hok2
    obtain ⟨D, rfl⟩ := Int.eq_ofNat_of_zero_le (by omega : 0 ≤ d)
    obtain ⟨R, rfl⟩ := Int.eq_ofNat_of_zero_le (by omega : 0 ≤ r)
    obtain ⟨X, rfl⟩ := Int.eq_ofNat_of_zero_le hr0
    simp only [Int.toNat_natCast] at ho
    rw [ho]
    have hru := rule_yes D R n s l i X
    simp only [Int.toNat_natCast] at hru
    have hmm := muls_mem D R _ (by omega) (by omega) (mulAt_mem D R X (by omega) (by omega))
    obtain ⟨a, ha⟩ : ∃ a, a = mulAt D R X := ⟨_, rfl⟩
    have hL : ∀ p, p < D → (I (ord D R X)).getD p 0 = ((a * p + X) % D : Nat) := fun p hp => by rw [ord_getD D R X p hp, ha]
    have hLl : (I (ord D R X)).length = D := by rw [I_length, ord_length]
    rw [← ha] at hru hmm
    obtain ⟨L, hLL⟩ : ∃ L, L = I (ord D R X) := ⟨_, rfl⟩
    simp only [← hLL] at hL hLl ⊢
    have ha64 : a ≤ 64 := by omega
    have hxd : (X : Int) % D < D := Int.emod_lt_of_pos _ (by omega)
    have hxd0 : 0 ≤ (X : Int) % D := Int.emod_nonneg _ (by omega)
    have HRU := Lib.hid hru
    have HK := Lib.hid hok1
    have HL := Lib.hid hL
    have HLl := Lib.hid hLl
    have hDz : ((D : Int) == 0) = false := by simp; omega
    clear hru hok1 hL hLl ho hLL hmm ha
    go_enter Tryz.func88, Tryz.ntmps88
    go_wp2_with (first
      | (go_at_call 148; refine (HRU.out _ HK.out (by omega) hr1).mono ?_; rintro e w1 ⟨rfl, hb1⟩; have hcd : w1.cell? ⟨w.heap.size, 0, none⟩ = some (.int .i64 D) := (by rw [hb1.cell (p := ⟨w.heap.size, 0, none⟩) (by simp)]; simp); have hs1 : w.heap.size < w1.heap.size := (by have := hb1.size; simp at this; omega); have HB1 := Lib.hid hb1; clear hb1)
      | (at_make; refine wpList_make1 rfl _ _ 48 rfl 3 (.int .i64 0) 8 Tryz.underlying48 infoInt rfl D D D rfl rfl rfl rfl (by omega) (by omega) ?_; intro w2 hown2 hb2 hs2; have HO2 := Lib.hid hown2; have HB2 := Lib.hid hb2; clear hown2 hb2))
    obtain ⟨g, hg⟩ : ∃ g, g = w1.heap.size := ⟨_, rfl⟩
    rw [← hg] at HO2 HB2 hs2 ⊢
    have hsg : w.heap.size < g := by omega
    have HG := Lib.hid hg
    clear hg
    go_loopw [24] (fun k wr => ∃ (k' : Nat) (xs : List Int), k = .int .i64 k' ∧ k' ≤ D ∧ xs.length = D ∧ xs.take k' = L.take k' ∧
        wr.ownsRow g 3 1 (.slice (some ⟨g, 0, none⟩) D D) D (xs.map (Value.int .i64)) ∧ Below g w1 wr)
      (fun k _ => D - (intOf k).toNat)
    case atStart =>
      refine ⟨0, List.replicate D 0, rfl, by omega, by simp, by simp, ?_, HB2.out⟩
      rw [List.map_replicate]; exact HO2.out
    case round =>
      obtain ⟨k, xs, rfl, hk, hxl, hx, hown, hbel⟩ := hrel
      have hs2 := hbel.size
      have HX := Lib.hid hx
      have HO := Lib.hid hown
      have HB := Lib.hid hbel
      have HXL := Lib.hid hxl
      by_cases hlt : k < D
      · have hcell : wr.cell? ⟨g, k, none⟩ = some (.int .i64 (xs.getD k 0)) := by
          rw [hown.cellAt k (by omega), List.getElem?_map, List.getElem?_eq_getElem (by omega), getD_ltB _ _ _ (by omega)]; rfl
        have hfr : wr.frozen? ⟨g, k, none⟩ = false := hown.frozenAt k
        have hcw : wr.cell? ⟨w.heap.size, 0, none⟩ = some (.int .i64 D) := by rw [hbel.cell (p := ⟨w.heap.size, 0, none⟩) hsg]; exact hcd
        obtain ⟨hp1, hp2⟩ := mul_bd a k ha64 (by omega)
        clear hx hown hbel hxl hcd
        go_wp2
        go_roundw
        case rel =>
          have hv := HL.out k hlt
          have hlen : k < L.length := by rw [HLl.out]; exact hlt
          rw [getD_ltB _ _ _ hlen] at hv
          have hsz := HG.out
          have hst := World.ownsRow.stored HO.out k (.int .i64 (((a : Int) * k + X) % D))
          refine ⟨k + 1, xs.set k (((a : Int) * k + X) % D), by go_num, by omega, by simp; exact HXL.out, ?_, ?_, ?_⟩
          · exact fill_step xs L k _ (by rw [HXL.out, HLl.out]) hlen HX.out (by rw [hv]; simp)
          · rw [List.map_set]; exact hst.1
          · exact HB.out.setCell (p := ⟨g, k, none⟩) (by simp) _
        case measure => simp [intOf]; omega
      · obtain rfl : k = D := by omega
        go_wp2
        go_ret
        have hf : xs = L := fill_done xs L k (by rw [HXL.out, HLl.out]) (by rw [HLl.out]; exact Nat.le_refl _) HX.out
        refine ⟨_, rfl, ?_, ?_⟩
        · rw [HLl.out, ← hf]; exact HO.out.mono (by omega)
        · exact (Below.after (by go_grown) HB1.out).trans (HB.out.mono (by omega))
  · rw [ordI_no hok]
    have HK := Lib.hid hok
    clear hok
    go_enter Tryz.func88, Tryz.ntmps88
    go_wp2_with (go_at_call 148; refine (rule_no _ _ _ _ _ _ _ _ HK.out).mono ?_; rintro e w1 ⟨rfl, hb1⟩; have HB1 := Lib.hid hb1; clear hb1)
    go_ret
    exact RetOwn.nil (Below.after (by go_grown) HB1.out)
end Go.Proofs.YtcljokdiblnhiaaGreatDoor
end
section
namespace Go.Proofs.YtcljokdiblnhiaaGreatDoor
open Go.RowKit
set_option maxRecDepth 100000
abbrev cfgA (d r n s l i : Int) : AV := .agg [iV d, iV r, iV n, iV s, iV l, iV i]
theorem ints_of_own {F : Nat → Prop} {w w' : World} {e : Nat} {v : Value} {l : List Int} (ho : OwnSat F [] [] w) (h : w'.ownsRow w.heap.size e 1 v l.length (l.map (Value.int .i64))) : AV.sat F [] [] w' (ints l) v := by
  rw [AV.sat, Dat.sat]
  rcases h.2 with ⟨rfl, hx⟩ | ⟨g, cap, cur, rfl, hb, hh, hnc, hcm, hcs, htake⟩
  · have : l = [] := List.eq_nil_of_length_eq_zero hx
    subst this
    exact ⟨none, 0, rfl, by simp, by simp [maxLen], fun h => by simp at h⟩
  · refine ⟨_, cap, by simp, by simpa using hnc, hcm, fun _ => ⟨g, 0, rfl, (Array.getElem?_eq_some_iff.1 hh).1, fun hbad => ?_, ?_⟩⟩
    · rcases hbad with hbad | hbad
      · have := ho.frame g hbad; omega
      · cases hbad
    · rw [Dat.rowsSat_iff]
      intro j x hx
      rw [List.getElem?_map] at hx
      cases hj : l[j]? with
      | none => rw [hj] at hx; cases hx
      | some n =>
        rw [hj] at hx; obtain rfl : iD n = x := by simpa using hx
        refine ⟨rfl, ?_⟩
        simp only [iD, Dat.rowSat, and_true]
        refine ⟨.int .i64 n, ?_, rfl, rfl⟩
        rw [cell_of_row w' g _ cur e (0, 0) hh, Nat.zero_add, Nat.mul_one]
        have hlt : j < l.length := (List.getElem?_eq_some_iff.1 hj).1
        have h1 : cur.toList[j]? = (l.map (Value.int .i64))[j]? := by rw [← htake, List.getElem?_take, if_pos (by omega)]
        have h2 : cur[j]? = cur.toList[j]? := by simp
        rw [h2, h1, List.getElem?_map, hj]; rfl
theorem A_dchk (d r n s l i : Int) : ACalls Tryz.prog 192 [cfgA d r n s l i] [] (iV (chk13 d r n s l i)) [] := acalls_of_exact rfl fun w => check_any d r n s l i w
theorem A_dord (d r n s l i row : Int) : ACalls Tryz.prog 88 [cfgA d r n s l i, iV row] [] (ints (ordI d r n s l i row)) [] := acalls_of_val rfl fun w => (order_any d r n s l i row w).mono fun e w' ⟨v, he, h1, h2⟩ => ⟨v, he, h2, fun F ho => ints_of_own ho h1⟩
end Go.Proofs.YtcljokdiblnhiaaGreatDoor
end
section
namespace Go.Proofs.YtcljokdiblnhiaaGreatDoor
open Go.RowKit
set_option maxRecDepth 100000
attribute [local irreducible] Quiet Eff OpOk AWPG ACont ABlock ACalls
def OkL (d r n s l i w : Int) : Prop := OkC d r n s l i ∧ 1 ≤ w ∧ w ≤ 32
instance (d r n s l i w : Int) : Decidable (OkL d r n s l i w) := by unfold OkL; infer_instance
def vldL (d r n s l i w : Int) : Bool := decide (OkL d r n s l i w)
def grpI (d r n s l i w : Int) : Int := if OkL d r n s l i w then (d - s) / w else 0
theorem A_lvalid (d r n s l i wd : Int) : ACalls Tryz.prog 147 [cfgA d r n s l i, iV wd] [] (bV (vldL d r n s l i wd)) [] := by
  refine acalls_of_body Tryz.func147 rfl (Nat.le_of_ble_eq_true rfl) ?_
  (repeat' (first
  | (apply yFb; exact rfl; exact rfl)
  | (apply W.qd; (first
    | (apply (yW (A_dchk _ _ _ _ _ _)); exact rfl; exact rfl; (iterate 3 kernel_rfl))|(apply q_mv; (conv => lhs; whnf))|(apply q_as; (conv => lhs; whnf))|(apply yU; (iterate 4 exact rfl))|(apply q_leq; exact rfl; exact rfl)|(apply q_geq; exact rfl; exact rfl)|(apply q_eql; exact rfl; exact rfl)|(apply (yEb (u := .d _)); exact rfl; exact rfl)
    | (apply (yDb (u := .d _)); exact rfl; exact rfl)))|(apply W.ed; (apply yBb; (iterate 3 exact rfl); kernel_rfl; kernel_rfl))|(refine W.gOff _ _ rfl rfl (by intro h; cases h) ?_)|(apply yA)|(apply yB)|(apply yC; kernel_rfl)|(apply yE)|(apply yJ)
  | (refine W.gT _ _ rfl rfl (fun hb => ?_) (fun hb => ?_) <;> ((try simp only [hb, zA, zB]) <;> (try simp only [zC, zD, zE, zF, zG, zH, zI, zJ] at hb) <;> (try (exfalso; omega))))))
  all_goals refine Ends.b rfl ?_
  all_goals (unfold chk13 at *; unfold vldL OkL; simp_all)
  omega
theorem OkL.bd {d r n s l i w : Int} (h : OkL d r n s l i w) : (1 ≤ d ∧ d ≤ 64) ∧ (1 ≤ r ∧ r ≤ 8) ∧ (1 ≤ n ∧ n ≤ 4096) ∧ (0 ≤ s ∧ s ≤ d - 1) ∧ 1 ≤ w ∧ w ≤ 32 := by
  obtain ⟨⟨h1, h2, h3, h4, _⟩, h5⟩ := h; exact ⟨h1, h2, h3, h4, h5⟩
theorem A_lgroups (d r n s l i wd : Int) : ACalls Tryz.prog 89 [cfgA d r n s l i, iV wd] [] (iV (grpI d r n s l i wd)) [] := by
  refine acalls_of_body Tryz.func89 rfl (Nat.le_of_ble_eq_true rfl) ?_
  by_cases hok : OkL d r n s l i wd
  · have hv : vldL d r n s l i wd = true := decide_eq_true hok
    have := A_lvalid d r n s l i wd
    rw [hv] at this
    obtain ⟨h1, h2, h3, h4, h5⟩ := hok.bd
    (repeat' (first
  | (apply W.qd; (first
    | (apply (yW (this)); exact rfl; exact rfl; (iterate 3 kernel_rfl))|(apply q_mv; (conv => lhs; whnf))|(apply q_as; (conv => lhs; whnf))|(apply yS; (iterate 3 exact rfl))|(apply yT; (iterate 4 exact rfl))|(apply yU; (iterate 4 exact rfl))|(apply q_not; exact rfl)|(apply q_sub; exact rfl; exact rfl; omega)
    | (apply q_quo; exact rfl; exact rfl; omega; omega; omega)))|(apply W.ed; (apply yBb; (iterate 3 exact rfl); kernel_rfl; kernel_rfl))|(apply yA)|(apply yB)|(apply yC; kernel_rfl)|(apply yE)|(apply yH)|(apply yJ)
  | (apply yR; exact rfl)))
    all_goals exact Ends.i rfl (if_pos hok).symm
  · have hv : vldL d r n s l i wd = false := decide_eq_false hok
    have := A_lvalid d r n s l i wd
    rw [hv] at this
    (repeat' (first
  | (apply W.qd; (first
    | (apply (yW (this)); exact rfl; exact rfl; (iterate 3 kernel_rfl))|(apply q_mv; (conv => lhs; whnf))|(apply q_as; (conv => lhs; whnf))|(apply yU; (iterate 4 exact rfl))
    | (apply q_not; exact rfl)))|(apply W.ed; (apply yBb; (iterate 3 exact rfl); kernel_rfl; kernel_rfl))|(apply yA)|(apply yB)|(apply yC; kernel_rfl)|(apply yE)|(apply yJ)|(apply yP)
  | (apply yQ; exact rfl)))
    all_goals exact Ends.i rfl (if_neg hok).symm
end Go.Proofs.YtcljokdiblnhiaaGreatDoor
end
section
namespace Go.Proofs.YtcljokdiblnhiaaGreatDoor
open Go.RowKit
set_option maxRecDepth 100000
set_option maxHeartbeats 2000000
attribute [local irreducible] Quiet Eff OpOk AWPG ACont ABlock ACalls
def plcI (d r n s l i row w g : Int) : List Int := if 0 ≤ g ∧ g < grpI d r n s l i w then ((ordI d r n s l i row).drop (g * w).toNat).take w.toNat else []
def sprI (d r n s l i row w : Int) : List Int := if OkL d r n s l i w then (ordI d r n s l i row).drop (grpI d r n s l i w * w).toNat else []
theorem ordI_len (d r n s l i row : Int) : (ordI d r n s l i row).length ≤ 64 ∧ ((ordI d r n s l i row).length ≠ 0 → ((ordI d r n s l i row).length : Int) = d) := by
  unfold ordI
  split
  · rename_i h
    have h1 := h.1.1
    rw [I_length, ord_length]; omega
  · simp
theorem grpI_bd {d r n s l i w : Int} (h : OkL d r n s l i w) : 0 ≤ grpI d r n s l i w ∧ grpI d r n s l i w * w ≤ d - s ∧ grpI d r n s l i w ≤ 64 := by
  obtain ⟨h1, h2, h3, h4, h5⟩ := h.bd
  unfold grpI
  rw [if_pos h]
  have e1 := Int.ediv_mul_le (d - s) (show w ≠ 0 by omega)
  have e2 : 0 ≤ (d - s) / w := Int.ediv_nonneg (by omega) (by omega)
  have e3 : (d - s) / w ≤ d - s := Int.ediv_le_self _ (by omega)
  exact ⟨e2, e1, by omega⟩
theorem grpI_pos {d r n s l i w g : Int} (h0 : 0 ≤ g) (h : g < grpI d r n s l i w) : OkL d r n s l i w := by
  unfold grpI at h
  split at h
  · assumption
  · omega
theorem plc_bd {d r n s l i row w g : Int} (hl : (ordI d r n s l i row).length ≠ 0) (h0 : 0 ≤ g) (h : g < grpI d r n s l i w) : 0 ≤ g * w ∧ g * w + w ≤ (ordI d r n s l i row).length ∧ 1 ≤ w ∧ w ≤ 32 := by
  have hok := grpI_pos h0 h
  obtain ⟨h1, h2, h3, h4, h5⟩ := hok.bd
  obtain ⟨g1, g2, g3⟩ := grpI_bd hok
  have h6 := (ordI_len d r n s l i row).2 hl
  have h7 : (g + 1) * w ≤ grpI d r n s l i w * w := Int.mul_le_mul_of_nonneg_right (by omega) (by omega)
  have h8 : 0 ≤ g * w := Int.mul_nonneg h0 (by omega)
  rw [Int.add_mul, Int.one_mul] at h7
  omega
theorem A_lplace (d r n s l i row wd gr : Int) : ACalls Tryz.prog 37 [cfgA d r n s l i, iV row, iV wd, iV gr] [] (ints (plcI d r n s l i row wd gr)) [] := by
  refine acalls_of_body Tryz.func37 rfl (Nat.le_of_ble_eq_true rfl) ?_
  have hlen := ordI_len d r n s l i row
  (repeat' (first
  | (apply yFb; exact rfl; exact rfl)
  | (apply W.qd; (first
    | (apply (yW (A_dord _ _ _ _ _ _ _)); exact rfl; exact rfl; (iterate 3 kernel_rfl))|(apply (yW (A_lgroups _ _ _ _ _ _ _)); exact rfl; exact rfl; (iterate 3 kernel_rfl))|(apply q_mv; (conv => lhs; whnf))|(apply q_as; (conv => lhs; whnf))|(apply yU; (iterate 4 exact rfl))|(apply q_lss; exact rfl; exact rfl)|(apply q_geq; exact rfl; exact rfl)|(apply q_eql; exact rfl; exact rfl)|(apply yV; exact rfl; exact rfl)|(apply (yEb (u := .d _)); exact rfl; exact rfl)
    | (apply (yDb (u := .d _)); exact rfl; exact rfl)))|(apply W.ed; (apply yBb; (iterate 3 exact rfl); kernel_rfl; kernel_rfl))|(refine W.gOff _ _ rfl rfl (by intro h; cases h) ?_)|(apply yA)|(apply yB)|(apply yC; kernel_rfl)|(apply yE)|(apply yH)|(apply yJ)|(apply yP)|(apply yQ; exact rfl)|(refine W.gF _ _ rfl rfl (fun hb => ?_) (fun hb => ?_) <;> ((try simp only [hb, zA, zB]) <;> (try simp only [zC, zD, zE, zF, zG, zH, zI, zJ] at hb) <;> (try (exfalso; omega))))
  | (refine W.cond _ rfl (fun hb => ?_) (fun hb => ?_) <;> ((try simp only [hb, zA, zB]) <;> (try simp only [zC, zD, zE, zF, zG, zH, zI, zJ] at hb) <;> (try (exfalso; omega))))))
  · exact Ends.nil rfl (by unfold plcI; rw [if_neg (by omega)]; rfl)
  · rename_i h0 h1
    have h9 : (ordI d r n s l i row).length ≠ 0 := by omega
    have hF := plc_bd h9 h1 hb
    have hF2 : -9223372036854775808 ≤ gr * wd ∧ gr * wd < 9223372036854775808 := by omega
    (repeat (first
  | (apply W.qd; (first
    | (apply q_mv; (conv => lhs; whnf))|(apply q_as; (conv => lhs; whnf))|(apply q_add; exact rfl; exact rfl; omega)
    | (apply q_mul; exact rfl; exact rfl; (first | omega | assumption))))|(apply yA)|(apply yB)|(apply yC; kernel_rfl)
  | (apply yE)))
    refine W.qd (q_slc_map (gr * wd).toNat ((gr * wd).toNat + wd.toNat) rfl rfl (by exact ⟨_, _, rfl, by omega⟩) (by exact ⟨_, _, rfl, by omega⟩) (by omega) (by omega) (.inr ⟨rfl, rfl, (gr * wd).toNat + wd.toNat, (by exact ⟨_, _, rfl, by omega⟩), by omega, by omega⟩)) ?_
    (repeat (first
  | (apply W.qd; (apply q_as; (conv => lhs; whnf)))|(apply yB)|(apply yE)
  | (apply yJ)))
    exact Ends.sl rfl (by unfold plcI; rw [if_pos ⟨h1, hb⟩, Nat.add_sub_cancel_left])
  · exact Ends.nil rfl (by unfold plcI; rw [if_neg (by omega)]; rfl)
  · refine Ends.nil rfl ?_
    have : ordI d r n s l i row = [] := List.eq_nil_of_length_eq_zero (by omega)
    unfold plcI; rw [this]; split <;> simp
theorem A_lspares (d r n s l i row wd : Int) : ACalls Tryz.prog 84 [cfgA d r n s l i, iV row, iV wd] [] (ints (sprI d r n s l i row wd)) [] := by
  have hlen := ordI_len d r n s l i row
  have ho := A_dord d r n s l i row
  have hv := A_lvalid d r n s l i wd
  have hg := A_lgroups d r n s l i wd
  have hmL : ((ordI d r n s l i row).map iD).length = (ordI d r n s l i row).length := List.length_map _
  refine acalls_of_body Tryz.func84 rfl (Nat.le_of_ble_eq_true rfl) ?_
  unfold sprI
  by_cases hok : OkL d r n s l i wd
  · rw [if_pos hok]
    rw [show vldL d r n s l i wd = true from decide_eq_true hok] at hv
    obtain ⟨h1, h2, h3, h4, h5⟩ := hok.bd
    obtain ⟨g1, g2, g3⟩ := grpI_bd hok
    have g4 : 0 ≤ grpI d r n s l i wd * wd := Int.mul_nonneg g1 (by omega)
    generalize grpI d r n s l i wd = G at *
    have hF2 : -9223372036854775808 ≤ G * wd ∧ G * wd < 9223372036854775808 := by omega
    generalize ordI d r n s l i row = L at *
    by_cases h0 : L.length = 0
    · obtain rfl := List.eq_nil_of_length_eq_zero h0
      (repeat' (first
  | (apply W.qd; (first
    | (apply (yW (ho)); exact rfl; exact rfl; (iterate 3 kernel_rfl))|(apply q_mv; (conv => lhs; whnf))|(apply q_as; (conv => lhs; whnf))|(apply yU; (iterate 4 exact rfl))|(apply q_eql; exact rfl; exact rfl)|(apply yV; exact rfl; exact rfl)
    | (apply (yEb (u := .d _)); exact rfl; exact rfl)))|(apply W.ed; (apply yBb; (iterate 3 exact rfl); kernel_rfl; kernel_rfl))|(refine W.gOff _ _ rfl rfl (by intro h; cases h) ?_)|(apply yA)|(apply yB)|(apply yC; kernel_rfl)|(apply yE)|(apply yJ)|(apply yP)
  | (apply yQ; exact rfl)))
      all_goals first | (exfalso; omega) | exact Ends.nil rfl (by simp)
    · have hL := hlen.2 h0
      (repeat' (first
  | (apply yFb; exact rfl; exact rfl)
  | (apply W.qd; (first
    | (apply (yW (ho)); exact rfl; exact rfl; (iterate 3 kernel_rfl))|(apply (yW (hv)); exact rfl; exact rfl; (iterate 3 kernel_rfl))|(apply (yW (hg)); exact rfl; exact rfl; (iterate 3 kernel_rfl))
    | ((apply (q_slc_map (G * wd).toNat L.length); exact rfl; exact rfl; exact ⟨_, _, rfl, by omega⟩; exact rfl; omega; omega; exact (.inl rfl)))|(apply q_mv; (conv => lhs; whnf))|(apply q_as; (conv => lhs; whnf))|(apply yU; (iterate 4 exact rfl))|(apply q_eql; exact rfl; exact rfl)|(apply q_not; exact rfl)|(apply q_mul; exact rfl; exact rfl; (first | omega | assumption))|(apply yV; exact rfl; exact rfl)
    | (apply (yDb (u := .d _)); exact rfl; exact rfl)))|(apply W.ed; (apply yBb; (iterate 3 exact rfl); kernel_rfl; kernel_rfl))|(apply yA)|(apply yB)|(apply yC; kernel_rfl)|(apply yE)|(apply yH)|(apply yJ)|(apply yR; exact rfl)
  | (refine W.gF _ _ rfl rfl (fun hb => ?_) (fun hb => ?_) <;> ((try simp only [hb, zA, zB]) <;> (try simp only [zC, zD, zE, zF, zG, zH, zI, zJ] at hb) <;> (try (exfalso; omega))))))
      all_goals first | (exfalso; omega) | exact Ends.sl rfl (by rw [List.take_of_length_le (by simp)])
  · rw [if_neg hok]
    rw [show vldL d r n s l i wd = false from decide_eq_false hok] at hv
    generalize ordI d r n s l i row = L at *
    (repeat' (first
  | (apply yFb; exact rfl; exact rfl)
  | (apply W.qd; (first
    | (apply (yW (ho)); exact rfl; exact rfl; (iterate 3 kernel_rfl))|(apply (yW (hv)); exact rfl; exact rfl; (iterate 3 kernel_rfl))|(apply q_mv; (conv => lhs; whnf))|(apply q_as; (conv => lhs; whnf))|(apply yU; (iterate 4 exact rfl))|(apply q_eql; exact rfl; exact rfl)|(apply q_not; exact rfl)|(apply yV; exact rfl; exact rfl)|(apply (yEb (u := .d _)); exact rfl; exact rfl)
    | (apply (yDb (u := .d _)); exact rfl; exact rfl)))|(apply W.ed; (apply yBb; (iterate 3 exact rfl); kernel_rfl; kernel_rfl))|(refine W.gOff _ _ rfl rfl (by intro h; cases h) ?_)|(apply yA)|(apply yB)|(apply yC; kernel_rfl)|(apply yE)|(apply yJ)|(apply yP)|(apply yQ; exact rfl)
  | (refine W.gF _ _ rfl rfl (fun hb => ?_) (fun hb => ?_) <;> ((try simp only [hb, zA, zB]) <;> (try simp only [zC, zD, zE, zF, zG, zH, zI, zJ] at hb) <;> (try (exfalso; omega))))))
    all_goals first | (exfalso; omega) | exact Ends.nil rfl rfl
def atA (l : List Int) (row u : Int) : AV :=
  if 0 ≤ u ∧ u < l.length then .tup [.agg [iV (l.getD u.toNat 0), iV 4, iV row], iV 0] else .tup [.agg [iV 0, iV 0, iV 0], iV 1]
theorem plcI_len (d r n s l i row w g : Int) : (plcI d r n s l i row w g).length ≤ 64 := by
  have := (ordI_len d r n s l i row).1
  unfold plcI; split
  · simp only [List.length_take, List.length_drop]; omega
  · simp
theorem A_lat (d r n s l i wd row gr u : Int) : ACalls Tryz.prog 66 [cfgA d r n s l i, iV wd, .agg [iV row, iV gr, iV u]] [] (atA (plcI d r n s l i row wd gr) row u) [] := by
  refine acalls_of_body Tryz.func66 rfl (Nat.le_of_ble_eq_true rfl) ?_
  have hlen := plcI_len d r n s l i row wd gr
  have hpl := A_lplace d r n s l i row wd gr
  generalize plcI d r n s l i row wd gr = L at *
  (repeat' (first
  | (apply yFb; exact rfl; exact rfl)
  | (apply W.qd; (first
    | (apply (yW (hpl)); exact rfl; exact rfl; (iterate 3 kernel_rfl))|(apply q_mv; (conv => lhs; whnf))|(apply q_as; (conv => lhs; whnf))|(apply yS; (iterate 3 exact rfl))|(apply yT; (iterate 4 exact rfl))|(apply yU; (iterate 4 exact rfl))|(apply q_lss; exact rfl; exact rfl)|(apply q_geq; exact rfl; exact rfl)|(apply yV; exact rfl; exact rfl)|(apply yX; (iterate 3 exact rfl); (first | omega | (focus (simp; done))))|(apply yZ; exact rfl; exact rfl; kernel_rfl)|(apply yGb; (iterate 4 exact rfl); (first | (with_reducible exact rfl) | exact natI_spec rfl | assumption | exact (Int.toNat_of_nonneg (by omega)).symm); (first | omega | (focus (simp only [List.length_map]; omega)) | (focus (simp; done)) | (focus (simp; omega))))|(apply (yEb (u := .d _)); exact rfl; exact rfl)
    | (apply (yDb (u := .d _)); exact rfl; exact rfl)))
  | (apply W.ed; (first
    | (apply yBb; (iterate 3 exact rfl); kernel_rfl; kernel_rfl)
    | (apply yCb; (iterate 3 exact rfl); kernel_rfl)))|(apply W.en; (apply e_st_boxF; (iterate 6 exact rfl); (iterate 3 kernel_rfl)))|(refine W.gOff _ _ rfl rfl (by intro h; cases h) ?_)|(apply yA)|(apply yB)|(apply yC; kernel_rfl)|(apply yD; exact rfl; kernel_rfl)|(apply yE)|(apply yF; kernel_rfl)|(apply yH)|(apply yJ)|(apply yP)|(apply yQ; exact rfl)|(refine W.gF _ _ rfl rfl (fun hb => ?_) (fun hb => ?_) <;> ((try simp only [hb, zA, zB]) <;> (try simp only [zC, zD, zE, zF, zG, zH, zI, zJ] at hb) <;> (try (exfalso; omega))))
  | (refine W.cond _ rfl (fun hb => ?_) (fun hb => ?_) <;> ((try simp only [hb, zA, zB]) <;> (try simp only [zC, zD, zE, zF, zG, zH, zI, zJ] at hb) <;> (try (exfalso; omega))))))
  · refine Ends.cell2 rfl rfl rfl rfl ?_
    unfold atA; rw [if_neg (by omega)]; rfl
  · refine Ends.cell2 rfl rfl rfl rfl ?_
    unfold atA; rw [if_pos (by omega), getD_ltB _ _ _ (by omega)]; rfl
  · refine Ends.cell2 rfl rfl rfl rfl ?_
    unfold atA; rw [if_neg (by omega)]; rfl
end Go.Proofs.YtcljokdiblnhiaaGreatDoor
end
section
namespace Go.Proofs.YtcljokdiblnhiaaGreatDoor
open Go.RowKit
abbrev Se := Int × Int × Int × Int
def seD (s : Se) : List Dat := [.v (.int .i64 s.1), .v (.int .i64 s.2.1), .v (.int .i64 s.2.2.1), .v (.int .i64 s.2.2.2)]
abbrev ses (l : List Se) : AV := .d (.sl 4 (l.map seD))
abbrev seA (s : Se) : AV := .agg ((seD s).map .d)
def se0 : Se := (0, 0, 0, 0)
def atB (a g u : Int) (x : Se) : Bool := decide (x.1 = a) && (decide (x.2.1 = g) && decide (x.2.2.1 = u))
def srvB (inn : List Bool) (d : Int) : Bool := decide (0 ≤ d) && (decide (d < inn.length) && inn.getD d.toNat false)
def seatN (mv : List Se) (a g : Int) (h : Int) (u : Nat) : Int := if 0 ≤ idxA (atB a g u) mv then (mv.getD (idxA (atB a g u) mv).toNat se0).2.2.2 else h
def seatsN (L : List Int) (mv : List Se) (a g : Int) : List Int := (List.range L.length).map fun u => seatN mv a g (L.getD u 0) u
def atDisk (row dk : Int) (x : Se) : Bool := decide (x.1 = row) && decide (x.2.2.2 = dk)
def freeB (mv : List Se) (inn : List Bool) (row dk : Int) : Bool := srvB inn dk && !decide (0 ≤ idxA (atDisk row dk) mv)
def spareN (L : List Int) (mv : List Se) (inn : List Bool) (row : Int) : List Int := L.filter (freeB mv inn row)
theorem seatsN_len (L : List Int) (mv : List Se) (a g : Int) : (seatsN L mv a g).length = L.length := by unfold seatsN; simp
theorem seatsN_get {L : List Int} {mv : List Se} {a g : Int} {u : Nat} (h : u < L.length) : (seatsN L mv a g)[u]'(by rw [seatsN_len]; exact h) = seatN mv a g L[u] u := by
  have e : L.getD u 0 = L[u] := by rw [List.getD_eq_getElem?_getD, List.getElem?_eq_getElem h]; rfl
  unfold seatsN
  rw [List.getElem_map, List.getElem_range, e]
def seatTo (L : List Int) (mv : List Se) (a g : Int) (u : Nat) : List Int := (seatsN L mv a g).take u ++ L.drop u
theorem seatTo_zero (L : List Int) (mv : List Se) (a g : Int) : seatTo L mv a g 0 = L := by unfold seatTo; simp
theorem seatTo_all (L : List Int) (mv : List Se) (a g : Int) : seatTo L mv a g L.length = seatsN L mv a g := by
  unfold seatTo
  rw [List.drop_length, List.append_nil, ← seatsN_len L mv a g, List.take_length]
theorem seatTo_len (L : List Int) (mv : List Se) (a g : Int) {u : Nat} (h : u ≤ L.length) : (seatTo L mv a g u).length = L.length := by
  unfold seatTo
  rw [List.length_append, List.length_take, List.length_drop, seatsN_len]; omega
theorem seatTo_set {L : List Int} {mv : List Se} {a g : Int} {u : Nat} (h : u < L.length) : (seatTo L mv a g u).set u (seatN mv a g L[u] u) = seatTo L mv a g (u + 1) := by
  unfold seatTo
  have h1 : ((seatsN L mv a g).take u).length = u := by rw [List.length_take, seatsN_len]; omega
  rw [List.set_append_right _ _ (by rw [h1]; omega), h1, Nat.sub_self, List.drop_eq_getElem_cons h, List.set_cons_zero, List.take_succ_eq_append_getElem (by rw [seatsN_len]; exact h), seatsN_get h, List.append_assoc]
  rfl
theorem seatTo_keep {L : List Int} {mv : List Se} {a g : Int} {u : Nat} (h : u < L.length) (hs : seatN mv a g L[u] u = L[u]) : seatTo L mv a g (u + 1) = seatTo L mv a g u := by
  rw [← seatTo_set h, hs]
  unfold seatTo
  have h1 : ((seatsN L mv a g).take u).length = u := by rw [List.length_take, seatsN_len]; omega
  rw [List.set_append_right _ _ (by rw [h1]; omega), h1, Nat.sub_self, List.drop_eq_getElem_cons h, List.set_cons_zero]
end Go.Proofs.YtcljokdiblnhiaaGreatDoor
end
section
namespace Go.Proofs.YtcljokdiblnhiaaGreatDoor
open Go.RowKit
section
variable {P : Program} {m : Nat} {env : List (Nat × AV)} {own : List Ent} {dst : Option Tmp} {ty : TypeId} {pos : String} {af : Array Edge} {gd : Option (Nat × Bool)}
theorem q_slc_oslM {t e e' : TypeId} {sz by' : Nat} {z : Value} {x lo hi mx : Operand} {p ver q n : Nat} {l : List (List Dat)} (va vb vm : Nat) (ht : slInfo P t = some (e, sz, by', z)) (hx : lookO env x = .osl p ver q n) (hp : own[p]? = some (.row ver sz e' l))
    (h1 : bnd env (some lo) 0 va) (h2 : bnd env (some hi) 0 vb) (h3 : bnd env (some mx) 0 vm) (hab : va ≤ vb) (hbm : vb ≤ vm) (hmn : vm ≤ n) : Quiet P m ⟨dst, .slice t x (some lo) (some hi) (some mx), ty, pos, af, gd⟩ env own [p] (.win p ver (q + va) (vb - va)) :=
  Quiet.val fun F own' κ a w hs _ hsame _ => by
    have hh := hs x (by simp [Op.operands]); rw [hx, AV.sat] at hh
    have hp' : own'[p]? = some (.row ver sz e' l) := by rw [hsame p (by simp)]; exact hp
    obtain ⟨h4, A, c, h5, h6, h7, h8⟩ := hh.2 sz e' l hp'
    obtain ⟨he, i, hi1, hi2, _, _⟩ := slInfo_spec ht
    have hb := run_bounds (P := P) (a := a) (mx := some mx) true (fun y hy => hs y (mem_slice (x := x) (t := t) hy)) h1 (show bnd env (some hi) n vb from h2) (show bnd env (some mx) c vm from h3) hab hbm (by omega) (.inr rfl)
    refine ⟨.slice (if vm = va then A else A.map (·.add (va * sz))) (vb - va) (vm - va), exec_v ?_, ?_⟩
    · simp only [Option.map_some] at hb
      simp [h5, Instr.sliceAt, run_underlying he, Instr.slice, hb, sizeOf, typeInfo, hi1, hi2]
    · rw [AV.sat]
      refine ⟨by obtain ⟨y1, y2, y3, _⟩ := hh.1; exact ⟨y1, y2, y3, rfl⟩, fun sz2 e2 c2 hc => ?_⟩
      rw [hp'] at hc
      obtain ⟨rfl, rfl, rfl⟩ : sz = sz2 ∧ e' = e2 ∧ l = c2 := by simpa using hc
      refine ⟨by omega, _, vm - va, rfl, by omega, by omega, fun hpos => ?_⟩
      have hcond : 0 < n ∨ q = 0 := by omega
      rcases h8 hcond with ⟨g, g1, rfl, cur, e3, fz, g3, g4⟩ | ⟨g1, rfl, rfl⟩
      · refine .inl ⟨g, g1, ?_, cur, e3, fz, g3, ?_⟩
        · split
          · rename_i h9
            have h10 : va = 0 := by omega
            subst h10; rfl
          · simp [add_none, Nat.add_mul]
        · refine Nat.le_trans (Nat.mul_le_mul_right _ ?_) (Nat.le_of_eq g4)
          omega
      · refine .inr ⟨g1, ?_, by omega⟩
        split <;> simp
theorem q_len_win {t : TypeId} {x : Operand} {i ver j n sz : Nat} {e : TypeId} {l : List (List Dat)} (hx : lookO env x = .win i ver j n) (hi : own[i]? = some (.row ver sz e l)) (ht : isSl P t = true) :
    Quiet P m ⟨dst, .call ⟨.builtin .len, #[x], #[t]⟩, ty, pos, af, gd⟩ env own [i] (iV n) :=
  Quiet.val fun F own' κ a w hs _ hsame _ => by
    have h1 := hs x (by simp [Op.operands, Call.operands]); rw [hx, AV.sat] at h1
    obtain ⟨_, A, c, h2, _⟩ := h1.2 sz e l (by rw [hsame i (by simp)]; exact hi)
    refine ⟨.int .i64 n, ?_, sat_v.2 rfl⟩
    rw [exec_builtin]
    simp only [builtin]
    exact exec_v (by simp only [List.map_toArray, List.map_cons, List.map_nil, h2]; exact run_len_sl ht A _ c w)
theorem q_ix_win {t e e' : TypeId} {sz by' : Nat} {z : Value} {x y : Operand} {p ver q n : Nat} {l : List (List Dat)} {k : IntKind} {i : Int} {j : Nat} (hx : lookO env x = .win p ver q n) (hp : own[p]? = some (.row ver sz e' l)) (ht : slInfo P t = some (e, sz, by', z)) (hy : lookO env y = .d (.v (.int k i))) (hij : i = j) (hj : j < n) :
    Quiet P m ⟨dst, .indexAddr t x y, ty, pos, af, gd⟩ env own [p] (.rpt p ver (q + j) 0) :=
  Quiet.val fun F own' κ a w hs _ hsame _ => by
    have h1 := hs x (by simp [Op.operands]); rw [hx, AV.sat] at h1
    have h2 := hs y (by simp [Op.operands]); rw [hy, sat_v] at h2
    have hp' : own'[p]? = some (.row ver sz e' l) := by rw [hsame p (by simp)]; exact hp
    obtain ⟨h3, A, c, h4, h5, h6, h7⟩ := h1.2 sz e' l hp'
    rcases h7 (.inl (by omega)) with ⟨g, g1, g2, _⟩ | ⟨_, _, rfl⟩
    · refine ⟨.pointer (some ⟨g, q * sz + j * sz, none⟩), exec_v ?_, ?_⟩
      · rw [h4, h2, hij, g2]; exact run_indexAt ht g _ _ c k j hj w
      · rw [AV.sat]
        refine ⟨by obtain ⟨y1, y2, y3, _⟩ := h1.1; exact ⟨y1, y2, y3, rfl⟩, fun sz2 e2 c2 hc => ?_⟩
        rw [hp'] at hc
        obtain ⟨rfl, rfl, rfl⟩ : sz = sz2 ∧ e' = e2 ∧ l = c2 := by simpa using hc
        exact ⟨by omega, g, g1, by rw [Nat.add_mul]; simp⟩
    · omega
end
end Go.Proofs.YtcljokdiblnhiaaGreatDoor
end
section
namespace Go.Proofs.YtcljokdiblnhiaaGreatDoor
open Go.RowKit
set_option maxHeartbeats 4000000
set_option maxRecDepth 100000
def fillN (L : List Int) (p : Nat) : List Int := L.take p ++ List.replicate (L.length - p) 0
theorem fillN_zero (L : List Int) : fillN L 0 = List.replicate L.length 0 := by unfold fillN; simp
theorem fillN_all (L : List Int) : fillN L L.length = L := by unfold fillN; simp
theorem fillN_len {L : List Int} {p : Nat} (h : p ≤ L.length) : (fillN L p).length = L.length := by unfold fillN; simp; omega
theorem fillN_set {L : List Int} {p : Nat} (h : p < L.length) : (fillN L p).set p L[p] = fillN L (p + 1) := by
  unfold fillN
  have h1 : (L.take p).length = p := by rw [List.length_take]; omega
  rw [List.set_append_right _ _ (by rw [h1]; omega), h1, Nat.sub_self, show L.length - p = (L.length - (p + 1)) + 1 by omega, List.replicate_succ, List.set_cons_zero, List.take_succ_eq_append_getElem h, List.append_assoc]
  rfl
theorem OkC.nat2 {d r n s l i : Int} (h : OkC d r n s l i) : ∃ D R : Nat, d = D ∧ r = R ∧ 1 ≤ D ∧ D ≤ 64 ∧ 1 ≤ R ∧ R ≤ 8 := by
  obtain ⟨⟨h1, h2⟩, ⟨h3, h4⟩, _⟩ := h
  exact ⟨d.toNat, r.toNat, by omega, by omega, by omega, by omega, by omega, by omega⟩
theorem A_rule13 (d r n s l i row : Int) : ACalls Tryz.prog 148 [cfgA d r n s l i, iV row] [] (if OkC d r n s l i ∧ 0 ≤ row ∧ row < n then .tup [iV (mulAt d.toNat r.toNat row.toNat : Nat), iV (row % d), bV true] else .tup [iV 0, iV 0, bV false]) [] := by
  split
  · rename_i h
    exact acalls_of_val rfl fun w => (rule_yes d r n s l i row w h.1 h.2.1 h.2.2).mono fun e w' ⟨he, hb⟩ => ⟨_, he, hb, fun F ho => by
      rw [AV.sat]; exact ⟨_, rfl, by simp [AV.satL, sat_v]⟩⟩
  · rename_i h
    exact acalls_of_val rfl fun w => (rule_no d r n s l i row w h).mono fun e w' ⟨he, hb⟩ => ⟨_, he, hb, fun F ho => by
      rw [AV.sat]; exact ⟨_, rfl, by simp [AV.satL, sat_v]⟩⟩
attribute [local irreducible] Quiet Eff OpOk AWPG ACont ABlock ACalls AGoto
theorem A_dordO {d r n s l i row : Int} (h : OkC d r n s l i ∧ 0 ≤ row ∧ row < n) : ACalls Tryz.prog 88 [cfgA d r n s l i, iV row] [] (.osl 0 0 0 (ordI d r n s l i row).length) [.row 0 1 3 ((ordI d r n s l i row).map iD)] := by
  have hr := A_rule13 d r n s l i row
  rw [if_pos h] at hr
  obtain ⟨hok, h0, h1⟩ := h
  rw [ordI_yes ⟨hok, h0, h1⟩]
  obtain ⟨D, R, rfl, rfl, hD1, hD2, hR1, hR2⟩ := hok.nat2
  obtain ⟨X, rfl⟩ := Int.eq_ofNat_of_zero_le h0
  simp only [Int.toNat_natCast] at hr ⊢
  have hLl : (I (ord D R X)).length = D := by rw [I_length, ord_length]
  have hmm := muls_mem D R _ hD1 hR1 (mulAt_mem D R X hD1 hR1)
  have hget : ∀ p (hp : p < (I (ord D R X)).length), ((mulAt D R X : Nat) : Int) * (p : Int) + (X : Int) % (D : Int) ≥ 0 ∧ (((mulAt D R X : Nat) : Int) * (p : Int) + (X : Int) % (D : Int)) % (D : Int) = (I (ord D R X))[p] := fun p hp => by
    have e := ord_getD D R X p (by omega)
    rw [List.getD_eq_getElem?_getD, List.getElem?_eq_getElem hp, Option.getD_some] at e
    rw [e]
    have h9 : (X : Int) % (D : Int) = ((X % D : Nat) : Int) := by omega
    refine ⟨by rw [h9]; exact Int.add_nonneg (Int.mul_nonneg (by omega) (by omega)) (by omega), ?_⟩
    rw [h9]
    rw [← Int.natCast_mul, ← Int.natCast_add, ← Int.natCast_emod, Nat.add_mod_mod]
  generalize hL : I (ord D R X) = L at *
  generalize hA : mulAt D R X = a at *
  refine acalls_of_bodyO Tryz.func88 rfl (Nat.le_of_ble_eq_true rfl) ?_
  (repeat' (first
  | (apply W.qd; (first
    | (apply (yW (hr)); exact rfl; exact rfl; (iterate 3 kernel_rfl))|(apply q_mv; (conv => lhs; whnf))|(apply q_as; (conv => lhs; whnf))|(apply yS; (iterate 3 exact rfl))|(apply yT; (iterate 4 exact rfl))|(apply yU; (iterate 4 exact rfl))|(apply q_not; exact rfl)|(apply yAb; exact rfl; exact rfl)
    | (apply q_len_osl; (iterate 3 exact rfl))))
  | (apply W.ed; (first
    | (apply yBb; (iterate 3 exact rfl); kernel_rfl; kernel_rfl)
    | (apply (e_makeG (f := iD) 0); exact rfl; exact rfl; (first | (with_reducible exact rfl) | exact natI_spec rfl | assumption | exact (Int.toNat_of_nonneg (by omega)).symm); (iterate 7 exact rfl); omega)))|(apply yA)|(apply yB)|(apply (W.regionS 6); exact rfl; kernel_rfl)|(apply yE)|(apply yG)|(apply yH)
  | (apply yR; exact rfl)))
  have hf0 := fillN_zero L
  rw [hLl] at hf0
  refine AWP.loopW (α := Nat) (fun p => p ≤ D) (fun p => ⟨[(24, iV p), (23, iV D), (22, .osl 1 0 0 D), (8, .osl 1 0 0 D), (5, iV a), (6, iV ((X : Int) % (D : Int))), (2, .opt 0 0)], [.box [iV D, iV R, iV n, iV s, iV l, iV i], .row 0 1 3 ((fillN L p).map iD)]⟩) (fun p => D - p) 0 (Nat.zero_le _) ?wkA fun p hp => ?_
  case wkA => exact ⟨[0, 1], rfl, rfl, by rw [hf0]; rfl, rfl, rfl, rfl, rfl, rfl, rfl, rfl, trivial⟩
  by_cases hpl : p < D
  · obtain ⟨g1, g2⟩ := hget p (by omega)
    have hs := fillN_set (show p < L.length by omega)
    have hfl := fillN_len (show p ≤ L.length by omega)
    have hb1 : a * p ≤ 64 * 64 := Nat.mul_le_mul (by omega) (by omega)
    have h8 : -9223372036854775808 ≤ (a : Int) * (p : Int) ∧ (a : Int) * (p : Int) < 9223372036854775808 := by
      rw [← Int.natCast_mul]; omega
    have h7 : 0 ≤ (X : Int) % (D : Int) ∧ (X : Int) % (D : Int) < 64 := ⟨Int.emod_nonneg _ (by omega), by have := Int.emod_lt_of_pos (X : Int) (show (0 : Int) < D by omega); omega⟩
    have h6 : -9223372036854775808 ≤ (a : Int) * (p : Int) + (X : Int) % (D : Int) ∧ (a : Int) * (p : Int) + (X : Int) % (D : Int) < 9223372036854775808 := by
      rw [← Int.natCast_mul] at *; omega
    clear hget
    generalize fillN L p = Z at *
    (repeat' (first
  | (apply W.qd; (first
    | (apply q_mv; (conv => lhs; whnf))|(apply q_as; (conv => lhs; whnf))|(apply yS; (iterate 3 exact rfl))|(apply yT; (iterate 4 exact rfl))|(apply q_lss; exact rfl; exact rfl)|(apply q_add; exact rfl; exact rfl; omega)|(apply q_mul; exact rfl; exact rfl; (first | omega | assumption))|(apply q_rem; exact rfl; exact rfl; omega; omega)
    | (apply q_ix_osl0; (iterate 4 exact rfl); (first | (with_reducible exact rfl) | exact natI_spec rfl | assumption | exact (Int.toNat_of_nonneg (by omega)).symm); (first | omega | (focus (simp only [List.length_map]; omega)) | (focus (simp; done)) | (focus (simp; omega))))))|(apply W.ln; (apply l_st_rpt; (iterate 7 exact rfl); exact fun _ => rfl; (first | omega | (focus (simp only [List.length_map]; omega)) | (focus (simp; omega)))))|(apply yA)|(apply yB)|(apply yC; kernel_rfl)|(apply yE)|(apply yG)|(apply yH)|(apply yL)
  | (refine W.cond _ rfl (fun hb => ?_) (fun hb => ?_) <;> ((try simp only [hb, zA, zB]) <;> (try simp only [zC, zD, zE, zF, zG, zH, zI, zJ] at hb) <;> (try (exfalso; omega))))))
    refine ⟨p + 1, by omega, by omega, ?_⟩
    rw [← hs, ← g2]
    exact ⟨[0, 1], rfl, rfl, rfl, iV_eq (by omega), rfl, rfl, rfl, rfl, rfl, rfl, trivial⟩
  · obtain rfl : p = D := by omega
    have hfa := fillN_all L
    rw [hLl] at hfa
    rw [hfa, hLl]
    (repeat' (first
  | (apply W.qd; (first
    | (apply q_mv; (conv => lhs; whnf))|(apply q_as; (conv => lhs; whnf))
    | (apply q_lss; exact rfl; exact rfl)))|(apply yA)|(apply yB)|(apply yC; kernel_rfl)|(apply yE)|(apply yI)|(apply yJ)|(apply yK)|(apply yM)
  | (refine W.cond _ rfl (fun hb => ?_) (fun hb => ?_) <;> ((try simp only [hb, zA, zB]) <;> (try simp only [zC, zD, zE, zF, zG, zH, zI, zJ] at hb) <;> (try (exfalso; omega))))))
    exact ⟨.inl rfl, [1], [.osl 1 0 0 p], rfl, rfl, ⟨rfl, trivial⟩, AVle.of_eq rfl, rfl⟩
theorem A_lplaceO {d r n s l i row wd gr : Int} (h : plcI d r n s l i row wd gr ≠ []) : ACalls Tryz.prog 37 [cfgA d r n s l i, iV row, iV wd, iV gr] [] (.win 0 0 (gr * wd).toNat wd.toNat) [.row 0 1 3 ((ordI d r n s l i row).map iD)] := by
  have h0 : 0 ≤ gr ∧ gr < grpI d r n s l i wd := by
    unfold plcI at h
    split at h
    · assumption
    · exact absurd rfl h
  have hne : (ordI d r n s l i row).length ≠ 0 := fun e => by
    have e2 := List.eq_nil_of_length_eq_zero e
    unfold plcI at h
    rw [if_pos h0, e2] at h
    simp at h
  have hok : OkC d r n s l i ∧ 0 ≤ row ∧ row < n := by
    rcases Classical.em (OkC d r n s l i ∧ 0 ≤ row ∧ row < n) with h1 | h1
    · exact h1
    · rw [ordI_no h1] at hne; exact absurd rfl hne
  have ho := A_dordO hok
  have hg := A_lgroups d r n s l i wd
  have hF := plc_bd hne h0.1 h0.2
  have hl := (ordI_len d r n s l i row).1
  obtain ⟨h1, h2⟩ := h0
  obtain ⟨F, hFe⟩ := Int.eq_ofNat_of_zero_le hF.1
  obtain ⟨V, rfl⟩ := Int.eq_ofNat_of_zero_le (show 0 ≤ wd by omega)
  rw [hFe, Int.toNat_natCast, Int.toNat_natCast]
  have hF2 : -9223372036854775808 ≤ gr * (V : Int) ∧ gr * (V : Int) < 9223372036854775808 := by omega
  generalize ordI d r n s l i row = L at *
  generalize grpI d r n s l i V = G at *
  have hmL : (L.map iD).length = L.length := List.length_map _
  refine acalls_of_bodyO Tryz.func37 rfl (Nat.le_of_ble_eq_true rfl) ?_
  (repeat' (first
  | (apply yFb; exact rfl; exact rfl)
  | (apply W.qd; (first
    | (apply (yW (hg)); exact rfl; exact rfl; (iterate 3 kernel_rfl))
    | ((apply (q_slc_oslM F (F + V) (F + V)); (iterate 3 exact rfl); exact ⟨_, _, rfl, by omega⟩; exact ⟨_, _, rfl, by omega⟩; exact ⟨_, _, rfl, by omega⟩; omega; omega; omega))
    | ((apply q_as; exact Eq.refl (AV.win _ _ _ _)))|(apply q_mv; (conv => lhs; whnf))|(apply q_as; (conv => lhs; whnf))|(apply yU; (iterate 4 exact rfl))|(apply q_lss; exact rfl; exact rfl)|(apply q_geq; exact rfl; exact rfl)|(apply q_eql; exact rfl; exact rfl)|(apply q_add; exact rfl; exact rfl; omega)|(apply q_mul; exact rfl; exact rfl; (first | omega | assumption))|(apply q_len_osl; (iterate 3 exact rfl))
    | (apply (yDb (u := .d _)); exact rfl; exact rfl)))
  | (apply W.ed; (first
    | (apply (e_callJ (js := []) (ho)); (iterate 5 exact rfl); kernel_rfl; kernel_rfl)
    | (apply yBb; (iterate 3 exact rfl); kernel_rfl; kernel_rfl)))|(apply yA)|(apply yB)|(apply yC; kernel_rfl)|(apply yE)|(apply yH)|(apply yJ)|(refine W.gF _ _ rfl rfl (fun hb => ?_) (fun hb => ?_) <;> ((try simp only [hb, zA, zB]) <;> (try simp only [zC, zD, zE, zF, zG, zH, zI, zJ] at hb) <;> (try (exfalso; omega))))
  | (refine W.cond _ rfl (fun hb => ?_) (fun hb => ?_) <;> ((try simp only [hb, zA, zB]) <;> (try simp only [zC, zD, zE, zF, zG, zH, zI, zJ] at hb) <;> (try (exfalso; omega))))))
  all_goals first
    | (exfalso; omega)
    | exact ⟨.inl rfl, [1], [.win 1 0 (0 + F) (F + V - F)], rfl, rfl, ⟨rfl, trivial⟩, AVle.of_eq (by rw [Nat.zero_add, Nat.add_sub_cancel_left]; rfl), rfl⟩
end Go.Proofs.YtcljokdiblnhiaaGreatDoor
end
section
namespace Go.Proofs.YtcljokdiblnhiaaGreatDoor
open Go.RowKit
set_option maxHeartbeats 4000000
set_option maxRecDepth 100000
theorem fi_unit : fldsT Tryz.prog 73 = some [.i 0, .i 1, .i 2] := by kernel_rfl
theorem idxA_ge0 {α : Type} {q : α → Bool} {l : List α} (h : 0 ≤ idxA q l) : ∃ j : Nat, ∃ hj : j < l.length, idxA q l = (j : Int) := by
  obtain ⟨j, e⟩ := idxA_nat h
  exact ⟨j, (idxA_iff.1 e).1, e⟩
theorem set_midI {P Z S : List Int} {F u : Nat} {v : Int} (hP : P.length = F) (hu : u < Z.length) : (P ++ (Z ++ S)).set (F + u) v = P ++ (Z.set u v ++ S) := by
  subst hP
  rw [List.set_append_right _ _ (by omega), Nat.add_sub_cancel_left, List.set_append_left _ _ hu]
theorem bV_eq {a b : Bool} (h : a = b) : bV a = bV b := by rw [h]
theorem frz_win {own : List Ent} {js : List Nat} {i ver o n sz : Nat} {e : TypeId} {l : List (List Dat)} (ho : own[i]? = some (.row ver sz e l)) (hj : plc js i = none) : AV.frz own js (.win i ver o n) = .d (.sl sz ((l.drop o).take n)) := by
  simp [AV.frz, frzSl, ho, hj]
attribute [local irreducible] Quiet Eff OpOk AWPG ACont ABlock ACalls AGoto
theorem A_serves {inn : List Bool} {d : Int} : ACalls Tryz.prog 74 [bools inn, iV d] [] (bV (srvB inn d)) [] := by
  refine acalls_of_body Tryz.func74 rfl (Nat.le_of_ble_eq_true rfl) ?_
  have hm : (inn.map tD).length = inn.length := List.length_map _
  unfold srvB
  by_cases h : 0 ≤ d ∧ d < (inn.length : Int)
  · obtain ⟨D, rfl⟩ := Int.eq_ofNat_of_zero_le h.1
    have hd : D < inn.length := by omega
    have e : inn.getD D false = inn[D] := by rw [List.getD_eq_getElem?_getD, List.getElem?_eq_getElem hd]; rfl
    rw [decide_eq_true h.1, decide_eq_true h.2, Int.toNat_natCast, e, Bool.true_and, Bool.true_and]
    generalize hq : inn[D] = b at *
    (repeat' (first
  | (apply yFb; exact rfl; exact rfl)
  | (apply W.qd; (first
    | (apply q_mv; (conv => lhs; whnf))|(apply q_as; (conv => lhs; whnf))|(apply q_lss; exact rfl; exact rfl)|(apply q_geq; exact rfl; exact rfl)|(apply yV; exact rfl; exact rfl)|(apply yX; (iterate 3 exact rfl); (first | omega | (focus (simp; done))))|(apply yGb; (iterate 4 exact rfl); (first | (with_reducible exact rfl) | exact natI_spec rfl | assumption | exact (Int.toNat_of_nonneg (by omega)).symm); (first | omega | (focus (simp only [List.length_map]; omega)) | (focus (simp; done)) | (focus (simp; omega))))
    | (apply (yEb (u := .d _)); exact rfl; exact rfl)))|(apply yA)|(apply yB)|(apply yC; kernel_rfl)|(apply yE)|(apply yJ)
  | (refine W.gT _ _ rfl rfl (fun hb => ?_) (fun hb => ?_) <;> ((try simp only [hb, zA, zB]) <;> (try simp only [zC, zD, zE, zF, zG, zH, zI, zJ] at hb) <;> (try (exfalso; omega))))))
    all_goals first | (exfalso; omega) | exact Ends.b rfl rfl | (refine Ends.b rfl ?_; rw [← hq])
  · have hx : (decide (0 ≤ d) && (decide (d < (inn.length : Int)) && inn.getD d.toNat false)) = false := by
      rcases Int.lt_or_le d 0 with h1 | h1
      · rw [decide_eq_false (by omega), Bool.false_and]
      · rw [decide_eq_false (show ¬ d < (inn.length : Int) from fun h2 => h ⟨h1, h2⟩), Bool.false_and, Bool.and_false]
    rw [hx]
    (repeat' (first
  | (apply yFb; exact rfl; exact rfl)
  | (apply W.qd; (first
    | (apply q_mv; (conv => lhs; whnf))|(apply q_as; (conv => lhs; whnf))|(apply q_lss; exact rfl; exact rfl)|(apply q_geq; exact rfl; exact rfl)|(apply yV; exact rfl; exact rfl)|(apply (yEb (u := .d _)); exact rfl; exact rfl)
    | (apply (yDb (u := .d _)); exact rfl; exact rfl)))|(refine W.gOff _ _ rfl rfl (by intro h; cases h) ?_)|(apply yA)|(apply yB)|(apply yC; kernel_rfl)|(apply yE)|(apply yJ)
  | (refine W.gT _ _ rfl rfl (fun hb => ?_) (fun hb => ?_) <;> ((try simp only [hb, zA, zB]) <;> (try simp only [zC, zD, zE, zF, zG, zH, zI, zJ] at hb) <;> (try (exfalso; omega))))))
    all_goals first | (exfalso; omega) | exact Ends.b rfl rfl
theorem A_ixS {O : List Ent} {g : FuncId} {caps : List AV} (q : Se → Bool) (l : List Se) (hl : l.length ≤ 9223372036854775807) (hgf : isFn Tryz.prog g = true) (hg : ∀ x ∈ l, ACalls Tryz.prog g (seA x :: caps) O (bV (q x)) O) : ACalls Tryz.prog 71 [ses l, .fn g caps] O (iV (idxA q l)) O := by
  refine acalls_of_bodyS Tryz.func71 rfl (Nat.le_of_ble_eq_true rfl) ?_
  have hm : (l.map seD).length = l.length := List.length_map _
  (repeat (first
  | (apply W.qd; (first
    | (apply q_mv; (conv => lhs; whnf))|(apply q_as; (conv => lhs; whnf))
    | (apply yV; exact rfl; exact rfl)))|(apply yA)|(apply yB)|(apply yC; kernel_rfl)|(apply yE)
  | (apply yG)))
  refine AWP.loopE (α := Nat) (fun k => k ≤ l.length ∧ ∀ x ∈ l.take k, q x = false) (fun k => ⟨[(8, iV k), (7, iV l.length), (0, ses l), (1, .fn g caps)], O⟩) (fun k => l.length - k) 0 ⟨by omega, by simp⟩ ⟨rfl, rfl, iV_eq (by rw [hm]), rfl, rfl, trivial⟩ fun k hk => ?_
  by_cases hkl : k < l.length
  · have hx := hg l[k] (List.getElem_mem hkl)
    (repeat' (first
  | (apply W.qd; (first
    | (apply q_mv; (conv => lhs; whnf))|(apply q_as; (conv => lhs; whnf))|(apply q_lss; exact rfl; exact rfl)|(apply q_add; exact rfl; exact rfl; omega)|(apply yY; (iterate 3 exact rfl); (first | omega | (focus (simp; done))))
    | (apply yGb; (iterate 4 exact rfl); (first | (with_reducible exact rfl) | exact natI_spec rfl | assumption | exact (Int.toNat_of_nonneg (by omega)).symm); (first | omega | (focus (simp only [List.length_map]; omega)) | (focus (simp; done)) | (focus (simp; omega))))))|(apply W.ed; (apply (e_callS (hx)); exact rfl; exact rfl; (first | assumption | kernel_rfl)))|(apply yA)|(apply yB)|(apply yC; kernel_rfl)|(apply yE)|(apply yG)|(apply yH)|(apply yJ)|(apply yP)|(apply yL)|(apply yN)
  | (refine W.cond _ rfl (fun hb => ?_) (fun hb => ?_) <;> ((try simp only [hb, zA, zB]) <;> (try simp only [zC, zD, zE, zF, zG, zH, zI, zJ] at hb) <;> (try (exfalso; omega))))))
    · exact EndsS.i rfl (idxA_hit hkl hb hk.2).symm
    · refine ⟨k + 1, ⟨by omega, fun x hx => ?_⟩, by omega, ⟨rfl, by (repeat (first | exact trivial | refine ⟨rfl, ?_⟩))⟩⟩
      rw [List.take_succ_eq_append_getElem hkl] at hx
      rcases List.mem_append.1 hx with hx | hx
      · exact hk.2 x hx
      · rw [List.mem_singleton.1 hx]; exact hb
  · (repeat' (first
  | (apply W.qd; (first
    | (apply q_as; (conv => lhs; whnf))
    | (apply q_lss; exact rfl; exact rfl)))|(apply yA)|(apply yB)|(apply yC; kernel_rfl)|(apply yE)|(apply yI)|(apply yJ)|(apply yK)|(apply yM)
  | (refine W.cond _ rfl (fun hb => ?_) (fun hb => ?_) <;> ((try simp only [hb, zA, zB]) <;> (try simp only [zC, zD, zE, zF, zG, zH, zI, zJ] at hb) <;> (try (exfalso; omega))))))
    refine EndsS.i rfl (idxA_miss fun x hx => hk.2 x ?_).symm
    rwa [List.take_of_length_le (by omega)]
theorem A_hasS {O : List Ent} {g : FuncId} {caps : List AV} (q : Se → Bool) (l : List Se) (hl : l.length ≤ 9223372036854775807) (hgf : isFn Tryz.prog g = true) (hg : ∀ x ∈ l, ACalls Tryz.prog g (seA x :: caps) O (bV (q x)) O) : ACalls Tryz.prog 86 [ses l, .fn g caps] O (bV (decide (0 ≤ idxA q l))) O := by
  refine acalls_of_bodyS Tryz.func86 rfl (Nat.le_of_ble_eq_true rfl) ?_
  have hi := A_ixS q l hl hgf hg
  (repeat' (first
  | (apply W.qd; (first
    | (apply q_mv; (conv => lhs; whnf))|(apply q_as; (conv => lhs; whnf))
    | (apply q_geq; exact rfl; exact rfl)))|(apply W.ed; (apply (e_callS (hi)); exact rfl; exact rfl; (first | assumption | kernel_rfl)))|(apply yA)|(apply yB)|(apply yC; kernel_rfl)|(apply yE)
  | (apply yJ)))
  exact EndsS.b rfl rfl
abbrev untO (a g u : Int) : List Ent := [.box [iV a, iV g, iV u]]
theorem A_seatF (x : Se) {a g u : Int} : ACalls Tryz.prog 72 [seA x, .opt 0 0] (untO a g u) (bV (atB a g u x)) (untO a g u) := by
  refine acalls_of_bodyO Tryz.func72 rfl (Nat.le_of_ble_eq_true rfl) ?_
  (repeat' (first
  | (apply W.qd; (first
    | ((apply (q_eqT fi_unit); (iterate 5 exact rfl); exact (show _ = atB a g u x by unfold atB; rw [Bool.eq_iff_iff]; simp)))|(apply q_as; (conv => lhs; whnf))|(apply yS; (iterate 3 exact rfl))
    | (apply yU; (iterate 4 exact rfl))))|(apply W.ed; (apply yBb; (iterate 3 exact rfl); kernel_rfl; kernel_rfl))|(apply yA)|(apply yB)|(apply yC; kernel_rfl)|(apply yE)
  | (apply yJ)))
  exact ⟨.inl rfl, [0], [bV (atB a g u x)], rfl, rfl, ⟨rfl, trivial⟩, AVle.of_eq rfl, rfl⟩
theorem A_seats {d r n s l i wd a g : Int} {mv : List Se} (hm : mv.length ≤ 1000000) : ACalls Tryz.prog 32 [cfgA d r n s l i, iV wd, .agg [iV a, iV g], ses mv] [] (ints (seatsN (plcI d r n s l i a wd g) mv a g)) [] := by
  have hmm : (mv.map seD).length = mv.length := List.length_map _
  refine acalls_of_body Tryz.func32 rfl (Nat.le_of_ble_eq_true rfl) ?_
  by_cases h : plcI d r n s l i a wd g = []
  · have hp := A_lplace d r n s l i a wd g
    rw [h] at hp ⊢
    (repeat' (first
  | (apply W.qd; (first
    | (apply (yW (hp)); exact rfl; exact rfl; (iterate 3 kernel_rfl))|(apply q_mv; (conv => lhs; whnf))|(apply q_as; (conv => lhs; whnf))|(apply yS; (iterate 3 exact rfl))|(apply yT; (iterate 4 exact rfl))|(apply yU; (iterate 4 exact rfl))
    | (apply yV; exact rfl; exact rfl)))|(apply W.ed; (apply yBb; (iterate 3 exact rfl); kernel_rfl; kernel_rfl))|(apply yA)|(apply yB)|(apply (W.regionS 3); exact rfl; kernel_rfl)|(apply yE)
  | (apply yG)))
    refine AWP.loopW (α := Nat) (fun u => u ≤ 0) (fun u => ⟨[(22, iV u), (21, iV 0), (9, ints [])], []⟩) (fun u => 0 - u) 0 (Nat.zero_le _) ⟨[], rfl, rfl, rfl, by (repeat (first | exact trivial | refine ⟨rfl, ?_⟩))⟩ fun u hu => ?_
    obtain rfl : u = 0 := by omega
    (repeat' (first
  | (apply W.qd; (first
    | (apply q_mv; (conv => lhs; whnf))|(apply q_as; (conv => lhs; whnf))
    | (apply q_lss; exact rfl; exact rfl)))|(apply yA)|(apply yB)|(apply yC; kernel_rfl)|(apply yE)|(apply yI)|(apply yJ)|(apply yK)|(apply yM)
  | (apply yR; exact rfl)))
    all_goals first | (exfalso; omega) | exact Ends.sl rfl rfl
  have hp := A_lplaceO h
  have hle := plcI_len d r n s l i a wd g
  obtain ⟨P, S, F, V, hP, hV, hF, hVw, hor⟩ : ∃ P S : List Int, ∃ F V : Nat, P.length = F ∧ (plcI d r n s l i a wd g).length = V ∧ (g * wd).toNat = F ∧ wd.toNat = V ∧ ordI d r n s l i a = P ++ (plcI d r n s l i a wd g ++ S) := by
    have h0 : 0 ≤ g ∧ g < grpI d r n s l i wd := by
      unfold plcI at h
      split at h
      · assumption
      · exact absurd rfl h
    have hne : (ordI d r n s l i a).length ≠ 0 := fun e => by
      have e2 := List.eq_nil_of_length_eq_zero e
      unfold plcI at h
      rw [if_pos h0, e2] at h
      simp at h
    have hb := plc_bd hne h0.1 h0.2
    refine ⟨(ordI d r n s l i a).take (g * wd).toNat, ((ordI d r n s l i a).drop (g * wd).toNat).drop wd.toNat, (g * wd).toNat, wd.toNat, ?_, ?_, rfl, rfl, ?_⟩
    · rw [List.length_take]; omega
    · unfold plcI
      rw [if_pos h0, List.length_take, List.length_drop]; omega
    · unfold plcI
      rw [if_pos h0, List.take_append_drop, List.take_append_drop]
  rw [hF, hVw, hor] at hp
  generalize plcI d r n s l i a wd g = L at *
  clear h hor hF hVw
  have hz := seatTo_zero L mv a g
  have hfull := seatTo_all L mv a g
  rw [hV] at hfull
  (repeat' (first
  | (apply W.qd; (first
    | ((apply q_len_win; (iterate 3 exact rfl)))
    | ((apply q_mv; exact Eq.refl (AV.win _ _ _ _)))
    | ((apply q_as; exact Eq.refl (AV.win _ _ _ _)))|(apply q_mv; (conv => lhs; whnf))|(apply q_as; (conv => lhs; whnf))|(apply yS; (iterate 3 exact rfl))|(apply yT; (iterate 4 exact rfl))
    | (apply yU; (iterate 4 exact rfl))))
  | (apply W.ed; (first
    | (apply (e_callJ (js := []) (hp)); (iterate 5 exact rfl); kernel_rfl; kernel_rfl)
    | (apply yBb; (iterate 3 exact rfl); kernel_rfl; kernel_rfl)))|(apply yA)|(apply yB)|(apply (W.regionS 3); exact rfl; kernel_rfl)|(apply yE)
  | (apply yG)))
  refine AWP.loopW (α := Nat) (fun u => u ≤ V) (fun u => ⟨[(22, iV u), (21, iV V), (9, .win 2 0 F V), (6, .opt 1 0), (3, ses mv)], [.box [iV d, iV r, iV n, iV s, iV l, iV i], .box [iV a, iV g], .row 0 1 3 ((P ++ (seatTo L mv a g u ++ S)).map iD)]⟩) (fun u => V - u) 0 (Nat.zero_le _) ?wkA fun u hu => ?_
  case wkA => rw [hz]; exact ⟨[0, 1, 2], rfl, rfl, rfl, rfl, rfl, rfl, rfl, rfl, trivial⟩
  by_cases hul : u < V
  · have hi := A_ixS (O := untO a g u) (g := 72) (caps := [.opt 0 0]) (atB a g u) mv (by omega) (by kernel_rfl) (fun x _ => A_seatF x)
    have hs := seatTo_set (L := L) (mv := mv) (a := a) (g := g) (show u < L.length by omega)
    have hk := seatTo_keep (L := L) (mv := mv) (a := a) (g := g) (show u < L.length by omega)
    have hzl := seatTo_len L mv a g (u := u) (by omega)
    have hsn : seatN mv a g L[u] u = if 0 ≤ idxA (atB a g u) mv then (mv.getD (idxA (atB a g u) mv).toNat se0).2.2.2 else L[u] := rfl
    by_cases h0 : 0 ≤ idxA (atB a g u) mv
    · obtain ⟨j, hj, e⟩ := idxA_ge0 h0
      rw [if_pos h0] at hsn
      rw [e, Int.toNat_natCast, List.getD_eq_getElem?_getD, List.getElem?_eq_getElem hj, Option.getD_some] at hsn
      rw [hsn] at hs
      rw [e] at hi
      clear hk h0 hsn e
      generalize seatTo L mv a g u = Z at *
      have hset := set_midI (S := S) (v := mv[j].2.2.2) hP (show u < Z.length by omega)
      have hFl : F + u < (P ++ (Z ++ S)).length := by simp; omega
      generalize hR : P ++ (Z ++ S) = R at *
      (repeat' (first
  | (apply W.qd; (first
    | ((apply q_ix_win; (iterate 5 exact rfl); omega))
    | ((apply q_mv; exact Eq.refl (AV.win _ _ _ _)))|(apply q_mv; (conv => lhs; whnf))|(apply q_as; (conv => lhs; whnf))|(apply yU; (iterate 4 exact rfl))|(apply q_lss; exact rfl; exact rfl)|(apply q_geq; exact rfl; exact rfl)|(apply q_add; exact rfl; exact rfl; omega)|(apply yX; (iterate 3 exact rfl); (first | omega | (focus (simp; done))))|(apply q_fld_fptF; (iterate 3 exact rfl))|(apply yZ; exact rfl; exact rfl; kernel_rfl)|(apply q_makeFunc)
    | (apply yGb; (iterate 4 exact rfl); (first | (with_reducible exact rfl) | exact natI_spec rfl | assumption | exact (Int.toNat_of_nonneg (by omega)).symm); (first | omega | (focus (simp only [List.length_map]; omega)) | (focus (simp; done)) | (focus (simp; omega))))))
  | (apply W.ed; (first
    | (apply (e_callJ (js := [3]) (hi)); (iterate 5 exact rfl); kernel_rfl; kernel_rfl)
    | (apply yCb; (iterate 3 exact rfl); kernel_rfl)))
  | (apply W.ln; (first
    | (apply l_st_box; (iterate 6 exact rfl); (iterate 3 kernel_rfl))
    | (apply l_st_rpt; (iterate 7 exact rfl); exact fun _ => rfl; (first | omega | (focus (simp only [List.length_map]; omega)) | (focus (simp; omega))))))|(apply yA)|(apply yB)|(apply yC; kernel_rfl)|(apply yE)|(apply yG)|(apply yH)|(apply yL)|(apply yQ; exact rfl)
  | (refine W.cond _ rfl (fun hb => ?_) (fun hb => ?_) <;> ((try simp only [hb, zA, zB]) <;> (try simp only [zC, zD, zE, zF, zG, zH, zI, zJ] at hb) <;> (try (exfalso; omega))))))
      all_goals first
        | (exfalso; omega)|(refine ⟨u + 1, by omega, by omega, ?_⟩; rw [← hs, ← hset]; exact ⟨[0, 1, 2], rfl, rfl, rfl, iV_eq (by omega), rfl, rfl, rfl, rfl, trivial⟩)
    · rw [if_neg h0] at hsn
      have hk2 := hk hsn
      have hi0 : idxA (atB a g u) mv < 0 := by omega
      generalize idxA (atB a g u) mv = ix at *
      clear hk hsn hs
      generalize seatTo L mv a g u = Z at *
      (repeat' (first
  | (apply W.qd; (first
    | (apply q_mv; (conv => lhs; whnf))|(apply q_as; (conv => lhs; whnf))|(apply yU; (iterate 4 exact rfl))|(apply q_lss; exact rfl; exact rfl)|(apply q_geq; exact rfl; exact rfl)|(apply q_add; exact rfl; exact rfl; omega)|(apply yZ; exact rfl; exact rfl; kernel_rfl)
    | (apply q_makeFunc)))
  | (apply W.ed; (first
    | (apply (e_callJ (js := [3]) (hi)); (iterate 5 exact rfl); kernel_rfl; kernel_rfl)
    | (apply yCb; (iterate 3 exact rfl); kernel_rfl)))|(apply W.ln; (apply l_st_box; (iterate 6 exact rfl); (iterate 3 kernel_rfl)))|(apply yA)|(apply yB)|(apply yC; kernel_rfl)|(apply yE)|(apply yG)|(apply yH)|(apply yL)
  | (refine W.cond _ rfl (fun hb => ?_) (fun hb => ?_) <;> ((try simp only [hb, zA, zB]) <;> (try simp only [zC, zD, zE, zF, zG, zH, zI, zJ] at hb) <;> (try (exfalso; omega))))))
      all_goals first
        | (exfalso; omega)|(refine ⟨u + 1, by omega, by omega, ?_⟩; rw [hk2]; exact ⟨[0, 1, 2], rfl, rfl, rfl, iV_eq (by omega), rfl, rfl, rfl, rfl, trivial⟩)
  · obtain rfl : u = V := by omega
    rw [hfull]
    have hsl := seatsN_len L mv a g
    generalize seatsN L mv a g = Z at *
    have hfin : (((P ++ (Z ++ S)).map iD).drop F).take u = Z.map iD := by
      rw [← List.map_drop, ← List.map_take, List.drop_append_of_le_length (by omega), List.drop_eq_nil_of_le (by omega), List.nil_append, List.take_append_of_le_length (by omega), List.take_of_length_le (by omega)]
    (repeat' (first
  | (apply W.qd; (first
    | ((apply q_mv; exact Eq.refl (AV.win _ _ _ _)))
    | ((apply q_as; exact Eq.refl (AV.win _ _ _ _)))
    | (apply q_lss; exact rfl; exact rfl)))|(apply yA)|(apply yB)|(apply yC; kernel_rfl)|(apply yE)|(apply yI)|(apply yJ)|(apply yK)|(apply yM)
  | (refine W.cond _ rfl (fun hb => ?_) (fun hb => ?_) <;> ((try simp only [hb, zA, zB]) <;> (try simp only [zC, zD, zE, zF, zG, zH, zI, zJ] at hb) <;> (try (exfalso; omega))))))
    exact ⟨.inl rfl, [], [.win 2 0 F u], rfl, ⟨rfl, trivial⟩, AVle.of_eq ((frz_win rfl rfl).trans (by rw [hfin])), rfl⟩
theorem A_spareG (x : Se) {row dk : Int} : ACalls Tryz.prog 87 [seA x, .opt 0 0, .opt 1 0] [.box [iV row], .box [iV dk]] (bV (atDisk row dk x)) [.box [iV row], .box [iV dk]] := by
  refine acalls_of_bodyO Tryz.func87 rfl (Nat.le_of_ble_eq_true rfl) ?_
  (repeat' (first
  | (apply yFb; exact rfl; exact rfl)
  | (apply W.qd; (first
    | (apply q_mv; (conv => lhs; whnf))|(apply q_as; (conv => lhs; whnf))|(apply yS; (iterate 3 exact rfl))|(apply yT; (iterate 4 exact rfl))|(apply q_eql; exact rfl; exact rfl)|(apply (yEb (u := .d _)); exact rfl; exact rfl)
    | (apply (yDb (u := .d _)); exact rfl; exact rfl)))|(apply W.ed; (apply yBb; (iterate 3 exact rfl); kernel_rfl; kernel_rfl))|(refine W.gOff _ _ rfl rfl (by intro h; cases h) ?_)|(apply yA)|(apply yB)|(apply yC; kernel_rfl)|(apply yE)|(apply yJ)
  | (refine W.gT _ _ rfl rfl (fun hb => ?_) (fun hb => ?_) <;> ((try simp only [hb, zA, zB]) <;> (try simp only [zC, zD, zE, zF, zG, zH, zI, zJ] at hb) <;> (try (exfalso; omega))))))
  all_goals (refine ⟨.inl rfl, [0, 1], [_], rfl, rfl, ⟨rfl, trivial⟩, AVle.of_eq (Eq.trans (b := bV _) rfl (bV_eq ?_)), rfl⟩; unfold atDisk; rw [Bool.eq_iff_iff]; simp <;> omega)
abbrev spO (inn : List Bool) (mv : List Se) (row : Int) : List Ent := [.box [bools inn], .box [ses mv], .box [iV row]]
theorem A_spareF {inn : List Bool} {mv : List Se} {row : Int} (dk : Int) (hm : mv.length ≤ 1000000) : ACalls Tryz.prog 85 [iV dk, .opt 0 0, .opt 1 0, .opt 2 0] (spO inn mv row) (bV (freeB mv inn row dk)) (spO inn mv row) := by
  have hs := A_serves (inn := inn) (d := dk)
  have hh := A_hasS (O := [.box [iV row], .box [iV dk]]) (g := 87) (caps := [.opt 0 0, .opt 1 0]) (atDisk row dk) mv (by omega) (by kernel_rfl) (fun x _ => A_spareG x)
  refine acalls_of_bodyO Tryz.func85 rfl (Nat.le_of_ble_eq_true rfl) ?_
  unfold freeB
  cases hsv : srvB inn dk with
  | false =>
    rw [hsv] at hs
    (repeat' (first
  | (apply W.qd; (first
    | (apply (yW (hs)); exact rfl; exact rfl; (iterate 3 kernel_rfl))|(apply q_mv; (conv => lhs; whnf))|(apply q_as; (conv => lhs; whnf))|(apply yT; (iterate 4 exact rfl))
    | (apply (yDb (u := .d _)); exact rfl; exact rfl)))|(apply W.ed; (apply yBb; (iterate 3 exact rfl); kernel_rfl; kernel_rfl))|(refine W.gOff _ _ rfl rfl (by intro h; cases h) ?_)|(apply yA)|(apply yB)|(apply yC; kernel_rfl)|(apply yE)
  | (apply yJ)))
    all_goals exact ⟨.inl rfl, [0, 1, 2], [bV false], rfl, rfl, ⟨rfl, trivial⟩, AVle.of_eq rfl, rfl⟩
  | true =>
    rw [hsv] at hs
    generalize decide (0 ≤ idxA (atDisk row dk) mv) = b at *
    (repeat' (first
  | (apply yFb; exact rfl; exact rfl)
  | (apply W.qd; (first
    | (apply (yW (hs)); exact rfl; exact rfl; (iterate 3 kernel_rfl))|(apply q_mv; (conv => lhs; whnf))|(apply q_as; (conv => lhs; whnf))|(apply yT; (iterate 4 exact rfl))|(apply q_not; exact rfl)|(apply q_makeFunc)
    | (apply (yEb (u := .d _)); exact rfl; exact rfl)))
  | (apply W.ed; (first
    | (apply (e_callJ (js := [2, 3]) (hh)); (iterate 5 exact rfl); kernel_rfl; kernel_rfl)
    | (apply yBb; (iterate 3 exact rfl); kernel_rfl; kernel_rfl)))|(apply yA)|(apply yB)|(apply yC; kernel_rfl)|(apply yE)
  | (apply yJ)))
    all_goals exact ⟨.inl rfl, [0, 1, 2], [bV (!b)], rfl, rfl, ⟨rfl, trivial⟩, AVle.of_eq rfl, rfl⟩
theorem A_filterSp {inn : List Bool} {mv : List Se} {row : Int} {L : List Int} (hl : L.length ≤ 1000000) (hm : mv.length ≤ 1000000) : ACalls Tryz.prog 75 [ints L, .fn 85 [.opt 0 0, .opt 1 0, .opt 2 0]] (spO inn mv row) (ints (L.filter (freeB mv inn row))) (spO inn mv row) := by
  refine acalls_of_bodyO Tryz.func75 rfl (Nat.le_of_ble_eq_true rfl) ?_
  have hc := fun dk => A_spareF (inn := inn) (mv := mv) (row := row) dk hm
  have hmL : (L.map iD).length = L.length := List.length_map _
  generalize freeB mv inn row = q at *
  (repeat' (first
  | (apply W.qd; (apply q_as; (conv => lhs; whnf)))|(apply yA)|(apply yB)|(apply (W.regionS 2); exact rfl; kernel_rfl)
  | (apply yE)))
  refine AWP.nilRow 5 1 3 rfl (by omega) ?_
  (repeat' (first
  | (apply W.qd; (first
    | (apply q_mv; (conv => lhs; whnf))
    | (apply yV; exact rfl; exact rfl)))|(apply yB)|(apply (W.regionS 3); exact rfl; kernel_rfl)|(apply yE)
  | (apply yG)))
  refine AWP.loopW (α := Nat) (fun k => k ≤ L.length) (fun k => ⟨[(10, iV k), (9, iV L.length), (8, ints L), (5, .osl 3 ((L.take k).filter q).length 0 ((L.take k).filter q).length), (1, .fn 85 [.opt 0 0, .opt 1 0, .opt 2 0])], spO inn mv row ++ [.row ((L.take k).filter q).length 1 3 (((L.take k).filter q).map iD)]⟩) (fun k => L.length - k) 0 (Nat.zero_le _) ?wkA fun k hk => ?_
  case wkA => exact ⟨[0, 1, 2, 3], rfl, rfl, rfl, rfl, iV_eq (by rw [hmL]), rfl, rfl, rfl, trivial⟩
  have hfl : ((L.take k).filter q).length ≤ k := Nat.le_trans (List.length_filter_le _ _) (by rw [List.length_take]; omega)
  by_cases hkl : k < L.length
  · have hx := hc L[k]
    have hst : (L.take (k + 1)).filter q = (L.take k).filter q ++ (if q L[k] = true then [L[k]] else []) := by
      rw [List.take_succ_eq_append_getElem hkl, List.filter_append]
      congr 1
      cases hq : q L[k] <;> simp [hq]
    generalize (L.take k).filter q = A at *
    cases hq : q L[k] with
    | false =>
      rw [hq] at hx hst
      rw [if_neg (by simp), List.append_nil] at hst
      (repeat' (first
  | (apply W.qd; (first
    | (apply q_mv; (conv => lhs; whnf))|(apply q_as; (conv => lhs; whnf))|(apply q_lss; exact rfl; exact rfl)|(apply q_add; exact rfl; exact rfl; omega)|(apply yX; (iterate 3 exact rfl); (first | omega | (focus (simp; done))))
    | (apply yGb; (iterate 4 exact rfl); (first | (with_reducible exact rfl) | exact natI_spec rfl | assumption | exact (Int.toNat_of_nonneg (by omega)).symm); (first | omega | (focus (simp only [List.length_map]; omega)) | (focus (simp; done)) | (focus (simp; omega))))))|(apply W.ed; (apply (e_callJ (js := [0, 1, 2]) (hx)); (iterate 5 exact rfl); kernel_rfl; kernel_rfl))|(apply yA)|(apply yB)|(apply yC; kernel_rfl)|(apply yE)|(apply yG)|(apply yH)|(apply yL)|(apply yR; exact rfl)
  | (refine W.cond _ rfl (fun hb => ?_) (fun hb => ?_) <;> ((try simp only [hb, zA, zB]) <;> (try simp only [zC, zD, zE, zF, zG, zH, zI, zJ] at hb) <;> (try (exfalso; omega))))))
      all_goals (refine ⟨k + 1, by omega, by omega, ?_⟩; rw [hst]; exact ⟨[0, 1, 2, 3], rfl, rfl, rfl, iV_eq (by omega), rfl, rfl, rfl, rfl, trivial⟩)
    | true =>
      rw [hq] at hx hst
      rw [if_pos rfl] at hst
      have el : (A ++ [L[k]]).length = A.length + 1 := by simp
      (repeat' (first
  | (apply W.qd; (first
    | (apply q_mv; (conv => lhs; whnf))|(apply q_as; (conv => lhs; whnf))|(apply q_lss; exact rfl; exact rfl)|(apply q_add; exact rfl; exact rfl; omega)|(apply yX; (iterate 3 exact rfl); (first | omega | (focus (simp; done))))|(apply q_litF; (iterate 5 exact rfl); kernel_rfl; kernel_rfl; exact rfl)
    | (apply yGb; (iterate 4 exact rfl); (first | (with_reducible exact rfl) | exact natI_spec rfl | assumption | exact (Int.toNat_of_nonneg (by omega)).symm); (first | omega | (focus (simp only [List.length_map]; omega)) | (focus (simp; done)) | (focus (simp; omega))))))|(apply W.ld; (apply l_app1; (iterate 8 exact rfl); (first | omega | (focus (simp; omega)) | (focus (simp; done)))))|(apply W.ed; (apply (e_callJ (js := [0, 1, 2]) (hx)); (iterate 5 exact rfl); kernel_rfl; kernel_rfl))|(apply yA)|(apply yB)|(apply yC; kernel_rfl)|(apply yE)|(apply yG)|(apply yH)|(apply yL)|(apply yQ; exact rfl)
  | (refine W.cond _ rfl (fun hb => ?_) (fun hb => ?_) <;> ((try simp only [hb, zA, zB]) <;> (try simp only [zC, zD, zE, zF, zG, zH, zI, zJ] at hb) <;> (try (exfalso; omega))))))
      all_goals (refine ⟨k + 1, by omega, by omega, ?_⟩; rw [hst, el]; exact ⟨[0, 1, 2, 3], rfl, rfl, rfl, iV_eq (by omega), rfl, rfl, congrArg (AV.osl 3 (A.length + 1) 0) (by simp), rfl, trivial⟩)
  · obtain rfl : k = L.length := by omega
    rw [List.take_length] at *
    generalize L.filter q = A at *
    (repeat' (first
  | (apply W.qd; (first
    | (apply q_mv; (conv => lhs; whnf))|(apply q_as; (conv => lhs; whnf))
    | (apply q_lss; exact rfl; exact rfl)))|(apply yA)|(apply yB)|(apply yC; kernel_rfl)|(apply yE)|(apply yI)|(apply yJ)|(apply yK)|(apply yM)
  | (refine W.cond _ rfl (fun hb => ?_) (fun hb => ?_) <;> ((try simp only [hb, zA, zB]) <;> (try simp only [zC, zD, zE, zF, zG, zH, zI, zJ] at hb) <;> (try (exfalso; omega))))))
    exact ⟨.inl rfl, [0, 1, 2], [.osl 3 A.length 0 A.length], rfl, rfl, ⟨rfl, trivial⟩, AVle.of_eq (frz_rowJ rfl rfl (by simp)), rfl⟩
theorem sprI_len (d r n s l i row w : Int) : (sprI d r n s l i row w).length ≤ 64 := by
  have := (ordI_len d r n s l i row).1
  unfold sprI; split
  · rw [List.length_drop]; omega
  · simp
theorem A_spare {d r n s l i wd row : Int} {mv : List Se} {inn : List Bool} (hm : mv.length ≤ 1000000) : ACalls Tryz.prog 36 [cfgA d r n s l i, iV wd, iV row, ses mv, bools inn] [] (ints (spareN (sprI d r n s l i row wd) mv inn row)) [] := by
  have hp := A_lspares d r n s l i row wd
  have hle := sprI_len d r n s l i row wd
  generalize sprI d r n s l i row wd = L at *
  have hf := A_filterSp (inn := inn) (mv := mv) (row := row) (L := L) (by omega) hm
  refine acalls_of_body Tryz.func36 rfl (Nat.le_of_ble_eq_true rfl) ?_
  unfold spareN
  (repeat' (first
  | (apply W.qd; (first
    | (apply (yW (hp)); exact rfl; exact rfl; (iterate 3 kernel_rfl))|(apply q_mv; (conv => lhs; whnf))|(apply q_as; (conv => lhs; whnf))|(apply yT; (iterate 4 exact rfl))|(apply yU; (iterate 4 exact rfl))
    | (apply q_makeFunc)))
  | (apply W.ed; (first
    | (apply (e_callJ (js := [3, 2, 1]) (hf)); (iterate 5 exact rfl); kernel_rfl; kernel_rfl)
    | (apply yBb; (iterate 3 exact rfl); kernel_rfl; kernel_rfl)))|(apply yA)|(apply yB)|(apply yC; kernel_rfl)|(apply yE)
  | (apply yJ)))
  all_goals exact Ends.sl rfl rfl
end Go.Proofs.YtcljokdiblnhiaaGreatDoor
end
section
namespace Go.Proofs.YtcljokdiblnhiaaGreatDoor
open Go.RowKit
set_option maxHeartbeats 4000000
set_option maxRecDepth 100000
def ltS (c : Se → Se → Int) (x y : Se) : Bool := decide (c x y < 0)
structure CmpS (cf : FuncId) (caps : List AV) (B : Ent) (c : Se → Se → Int) : Prop where
  isf : isFn Tryz.prog cf = true
  call : ∀ (x y : Se) (ver : Nat) (rows : List (List Dat)), ACalls Tryz.prog cf (.agg ((seD x).map .d) :: .agg ((seD y).map .d) :: caps) [B, .row ver 4 94 rows] (iV (c x y)) [B, .row ver 4 94 rows]
  weak : Weak (ltS c)
attribute [local irreducible] Quiet Eff OpOk AWPG ACont ABlock ACalls AGoto
section
variable {B : Ent} {cf : FuncId} {caps : List AV} {c : Se → Se → Int} {ver N : Nat}
abbrev srtS (B : Ent) (ver : Nat) (L : List Se) : List Ent := [B, .row ver 4 94 (L.map seD)]
theorem A_swapRangeS {a b n : Nat} {L : List Se} (hN : N ≤ L.length) (hL : L.length ≤ 1000000) (ha : a + n ≤ N) (hb : b + n ≤ N) :
    ACalls Tryz.prog 230 [.osl 1 ver 0 N, iV a, iV b, iV n, .fn cf caps] (srtS B ver L) (.tup []) (srtS B ver (swpF se0 n L a b)) := by
  refine acalls_of_bodyS Tryz.func230 rfl (Nat.le_of_ble_eq_true rfl) ?_
  generalize hR : swpF se0 n L a b = R
  (repeat' (first
  | (apply W.qd; (apply q_as; (conv => lhs; whnf)))|(apply yA)|(apply yB)|(apply yC; kernel_rfl)|(apply yE)
  | (apply yG)))
  refine AWP.loopE (α := List Se × Nat) (fun p => p.2 ≤ n ∧ p.1.length = L.length ∧ swpF se0 (n - p.2) p.1 (a + p.2) (b + p.2) = R) (fun p => ⟨[(10, iV p.2), (0, .osl 1 ver 0 N), (1, iV a), (2, iV b), (3, iV n)], srtS B ver p.1⟩) (fun p => n - p.2) (L, 0) ⟨Nat.zero_le _, rfl, hR⟩ ⟨rfl, by (repeat (first | exact trivial | refine ⟨rfl, ?_⟩))⟩ fun p hp => ?_
  obtain ⟨K, i⟩ := p
  obtain ⟨h1, h2, h3⟩ := hp
  dsimp only at h1 h2 h3 ⊢
  by_cases hin : i < n
  · rw [show n - i = (n - (i + 1)) + 1 by omega, swpF] at h3
    have e1 : K.getD (a + i) se0 = K[a + i]'(by omega) := by rw [List.getD_eq_getElem?_getD, List.getElem?_eq_getElem (by omega)]; rfl
    have e2 : K.getD (b + i) se0 = K[b + i]'(by omega) := by rw [List.getD_eq_getElem?_getD, List.getElem?_eq_getElem (by omega)]; rfl
    unfold swpN at h3
    rw [e1, e2] at h3
    (repeat' (first
  | (apply W.qd; (first
    | (apply q_mv; (conv => lhs; whnf))|(apply q_as; (conv => lhs; whnf))|(apply q_lss; exact rfl; exact rfl)|(apply q_add; exact rfl; exact rfl; omega)|(apply q_ix_osl0; (iterate 4 exact rfl); (first | (with_reducible exact rfl) | exact natI_spec rfl | assumption | exact (Int.toNat_of_nonneg (by omega)).symm); (first | omega | (focus (simp only [List.length_map]; omega)) | (focus (simp; done)) | (focus (simp; omega))))
    | (apply q_ld_rptsm; (iterate 4 exact rfl); (first | omega | (focus (simp only [List.length_map]; omega)) | (focus (simp; done)) | (focus (simp; omega))))))|(apply W.en; ((apply (e_st_rptM _); (iterate 9 exact rfl))))|(apply yA)|(apply yB)|(apply yC; kernel_rfl)|(apply yD; exact rfl; kernel_rfl)|(apply yE)|(apply yF; kernel_rfl)|(apply yG)|(apply yH)|(apply yL)
  | (refine W.cond _ rfl (fun hb => ?_) (fun hb => ?_) <;> ((try simp only [hb, zA, zB]) <;> (try simp only [zC, zD, zE, zF, zG, zH, zI, zJ] at hb) <;> (try (exfalso; omega))))))
    exact ⟨(_, i + 1), ⟨by omega, by simp [h2], h3⟩, by dsimp only; omega, rfl, iV_eq (by omega), rfl, rfl, rfl, rfl, trivial⟩
  · rw [show n - i = 0 by omega, swpF] at h3
    subst h3
    (repeat' (first
  | (apply W.qd; (first
    | (apply q_mv; (conv => lhs; whnf))
    | (apply q_lss; exact rfl; exact rfl)))|(apply yA)|(apply yB)|(apply yC; kernel_rfl)|(apply yE)|(apply yI)|(apply yK)|(apply yM)
  | (refine W.cond _ rfl (fun hb => ?_) (fun hb => ?_) <;> ((try simp only [hb, zA, zB]) <;> (try simp only [zC, zD, zE, zF, zG, zH, zI, zJ] at hb) <;> (try (exfalso; omega))))))
    exact ⟨.inr rfl, [], trivial, AVle.of_eq rfl, rfl⟩
theorem A_rotateS {a m b : Nat} {P U V S : List Se} (hN : N ≤ (P ++ (U ++ (V ++ S))).length) (hL : (P ++ (U ++ (V ++ S))).length ≤ 1000000) (ha : P.length = a) (hm : P.length + U.length = m) (hb : m + V.length = b) (hbN : b ≤ N) (hU : 0 < U.length) (hV : 0 < V.length) :
    ACalls Tryz.prog 213 [.osl 1 ver 0 N, iV a, iV m, iV b, .fn cf caps] (srtS B ver (P ++ (U ++ (V ++ S)))) (.tup []) (srtS B ver (P ++ (V ++ (U ++ S)))) := by
  refine acalls_of_bodyS Tryz.func213 rfl (Nat.le_of_ble_eq_true rfl) ?_
  generalize hR : P ++ (V ++ (U ++ S)) = R
  generalize hT : (P ++ (U ++ (V ++ S))).length = T at *
  (repeat' (first
  | (apply W.qd; (first
    | (apply q_mv; (conv => lhs; whnf))|(apply q_as; (conv => lhs; whnf))
    | (apply q_sub; exact rfl; exact rfl; omega)))|(apply yA)|(apply yB)|(apply yC; kernel_rfl)|(apply yE)
  | (apply yG)))
  refine AWP.loopE (α := List Se × Nat × Nat) (fun p => p.1.length = T ∧ ∃ P U V S : List Se, p.1 = P ++ (U ++ (V ++ S)) ∧ P ++ (V ++ (U ++ S)) = R ∧ P.length + U.length = m ∧ U.length = p.2.1 ∧ V.length = p.2.2 ∧ 0 < U.length ∧ 0 < V.length ∧ m + V.length ≤ N) (fun p => ⟨[(10, iV p.2.1), (11, iV p.2.2), (0, .osl 1 ver 0 N), (2, iV m), (4, .fn cf caps)], srtS B ver p.1⟩) (fun p => p.2.1 + p.2.2) (P ++ (U ++ (V ++ S)), U.length, V.length) ⟨hT, P, U, V, S, rfl, hR, hm, rfl, rfl, hU, hV, by omega⟩ ?w0 fun p hp => ?_
  case w0 => exact ⟨rfl, iV_eq (by dsimp only; omega), iV_eq (by dsimp only; omega), rfl, rfl, rfl, trivial⟩
  obtain ⟨K, i, j⟩ := p
  obtain ⟨h0, P, U, V, S, h1, h2, h3, h4, h5, h6, h7, h8⟩ := hp
  dsimp only at h0 h1 h4 h5 ⊢
  clear hU hV ha hb hm hT hR
  have em : ((m : Int) - (i : Int)) = ((m - i : Nat) : Int) := by omega
  rcases Nat.lt_trichotomy i j with hij | hij | hij
  · have hcall := A_swapRangeS (B := B) (ver := ver) (N := N) (a := m - i) (b := m + j - i) (n := i) (L := K) (cf := cf) (caps := caps) (by omega) (by omega) (by omega) (by omega)
    have e2 : iV (((m : Int) + (j : Int)) - (i : Int)) = iV ((m + j - i : Nat) : Int) := iV_eq (by omega)
    rw [← e2, ← em] at hcall
    have hblk := swpF_block se0 U (V.drop (j - i)) P (V.take (j - i)) S (by rw [List.length_drop]; omega)
    have eK : P ++ (U ++ (V.take (j - i) ++ (V.drop (j - i) ++ S))) = K := by rw [h1, ← List.append_assoc (V.take _), List.take_append_drop]
    rw [eK, h4, show P.length = m - i by omega, show m - i + i + (V.take (j - i)).length = m + j - i by rw [List.length_take]; omega] at hblk
    rw [hblk] at hcall
    have hlen : (P ++ (V.drop (j - i) ++ (V.take (j - i) ++ (U ++ S)))).length = K.length := by rw [← eK]; simp; omega
    (repeat' (first
  | (apply W.qd; (first
    | (apply q_mv; (conv => lhs; whnf))|(apply q_as; (conv => lhs; whnf))|(apply q_gtr; exact rfl; exact rfl)|(apply q_neq; exact rfl; exact rfl)|(apply q_add; exact rfl; exact rfl; omega)
    | (apply q_sub; exact rfl; exact rfl; omega)))|(apply W.ed; ((exact e_callA hcall rfl rfl rfl)))|(apply yA)|(apply yB)|(apply yC; kernel_rfl)|(apply yE)|(apply yG)|(apply yH)|(apply yL)
  | (refine W.cond _ rfl (fun hb => ?_) (fun hb => ?_) <;> ((try simp only [hb, zA, zB]) <;> (try simp only [zC, zD, zE, zF, zG, zH, zI, zJ] at hb) <;> (try (exfalso; omega))))))
    refine ⟨(P ++ (V.drop (j - i) ++ (V.take (j - i) ++ (U ++ S))), i, j - i), ⟨by dsimp only; omega, P, V.drop (j - i), V.take (j - i), U ++ S, rfl, ?_, by rw [List.length_drop]; omega, by rw [List.length_drop]; dsimp only; omega, by rw [List.length_take]; dsimp only; omega, by rw [List.length_drop]; omega, by rw [List.length_take]; omega, by rw [List.length_take]; omega⟩, by dsimp only; omega, rfl, rfl, iV_eq (by dsimp only; omega), rfl, rfl, rfl, trivial⟩
    rw [← h2, ← List.append_assoc (V.take _), List.take_append_drop]
  · subst hij
    have hcall := A_swapRangeS (B := B) (ver := ver) (N := N) (a := m - i) (b := m) (n := i) (L := K) (cf := cf) (caps := caps) (by omega) (by omega) (by omega) (by omega)
    rw [← em] at hcall
    have hblk := swpF_block se0 U V P [] S (by omega)
    rw [show P ++ (U ++ ([] ++ (V ++ S))) = K by rw [h1]; simp, h4, show P.length = m - i by omega, show m - i + i + ([] : List Se).length = m by simp; omega] at hblk
    rw [hblk, show P ++ (V ++ ([] ++ (U ++ S))) = R by rw [← h2]; simp] at hcall
    (repeat' (first
  | (apply W.qd; (first
    | (apply q_mv; (conv => lhs; whnf))|(apply q_neq; exact rfl; exact rfl)
    | (apply q_sub; exact rfl; exact rfl; omega)))|(apply W.ed; ((exact e_callA hcall rfl rfl rfl)))|(apply yA)|(apply yB)|(apply yC; kernel_rfl)|(apply yE)|(apply yI)|(apply yK)|(apply yM)
  | (refine W.cond _ rfl (fun hb => ?_) (fun hb => ?_) <;> ((try simp only [hb, zA, zB]) <;> (try simp only [zC, zD, zE, zF, zG, zH, zI, zJ] at hb) <;> (try (exfalso; omega))))))
    exact ⟨.inr rfl, [], trivial, AVle.of_eq rfl, rfl⟩
  · have hcall := A_swapRangeS (B := B) (ver := ver) (N := N) (a := m - i) (b := m) (n := j) (L := K) (cf := cf) (caps := caps) (by omega) (by omega) (by omega) (by omega)
    rw [← em] at hcall
    have hblk := swpF_block se0 (U.take j) V P (U.drop j) S (by rw [List.length_take]; omega)
    have eK : P ++ (U.take j ++ (U.drop j ++ (V ++ S))) = K := by rw [h1, ← List.append_assoc (U.take _), List.take_append_drop]
    have eTj : (U.take j).length = j := by rw [List.length_take]; omega
    rw [eK, eTj, show P.length = m - i by omega, show m - i + j + (U.drop j).length = m by rw [List.length_drop]; omega] at hblk
    rw [hblk] at hcall
    have hlen : (P ++ (V ++ (U.drop j ++ (U.take j ++ S)))).length = K.length := by rw [← eK]; simp; omega
    (repeat' (first
  | (apply W.qd; (first
    | (apply q_mv; (conv => lhs; whnf))|(apply q_as; (conv => lhs; whnf))|(apply q_gtr; exact rfl; exact rfl)|(apply q_neq; exact rfl; exact rfl)
    | (apply q_sub; exact rfl; exact rfl; omega)))|(apply W.ed; ((exact e_callA hcall rfl rfl rfl)))|(apply yA)|(apply yB)|(apply yC; kernel_rfl)|(apply yE)|(apply yG)|(apply yH)|(apply yL)
  | (refine W.cond _ rfl (fun hb => ?_) (fun hb => ?_) <;> ((try simp only [hb, zA, zB]) <;> (try simp only [zC, zD, zE, zF, zG, zH, zI, zJ] at hb) <;> (try (exfalso; omega))))))
    refine ⟨(P ++ (V ++ (U.drop j ++ (U.take j ++ S))), i - j, j), ⟨by dsimp only; omega, P ++ V, U.drop j, U.take j, S, by simp, ?_, by rw [List.length_drop, List.length_append]; omega, by rw [List.length_drop]; dsimp only; omega, by rw [eTj], by rw [List.length_drop]; omega, by omega, by omega⟩, by dsimp only; omega, rfl, iV_eq (by dsimp only; omega), rfl, rfl, rfl, rfl, trivial⟩
    rw [← h2, List.append_assoc, ← List.append_assoc (U.take _), List.take_append_drop]
end
end Go.Proofs.YtcljokdiblnhiaaGreatDoor
end
section
namespace Go.Proofs.YtcljokdiblnhiaaGreatDoor
open Go.RowKit
set_option maxHeartbeats 4000000
set_option maxRecDepth 100000
attribute [local irreducible] Quiet Eff OpOk AWPG ACont ABlock ACalls AGoto
section
variable {B : Ent} {cf : FuncId} {caps : List AV} {c : Se → Se → Int} {ver N : Nat}
theorem A_insSortS {a b : Nat} {P S R : List Se} (hc : CmpS cf caps B c) (hN : N ≤ (P ++ (S ++ R)).length) (hL : (P ++ (S ++ R)).length ≤ 1000000) (ha : P.length = a) (hb : a + S.length = b) (hbN : b ≤ N) :
    ACalls Tryz.prog 179 [.osl 1 ver 0 N, iV a, iV b, .fn cf caps] (srtS B ver (P ++ (S ++ R))) (.tup []) (srtS B ver (P ++ (sortN (ltS c) S ++ R))) := by
  refine acalls_of_bodyS Tryz.func179 rfl (Nat.le_of_ble_eq_true rfl) ?_
  have hw := hc.weak
  have hgf := hc.isf
  have hcl := hc.call
  generalize hT : (P ++ (S ++ R)).length = T at *
  (repeat' (first
  | (apply W.qd; (first
    | (apply q_mv; (conv => lhs; whnf))|(apply q_as; (conv => lhs; whnf))
    | (apply q_add; exact rfl; exact rfl; omega)))|(apply yA)|(apply yB)|(apply yC; kernel_rfl)|(apply yE)
  | (apply yG)))
  refine AWP.loopE (α := List Se × Nat) (fun p => p.1.length = T ∧ a + 1 ≤ p.2 ∧ p.2 ≤ b + 1 ∧ p.1 = P ++ (sortN (ltS c) (S.take (p.2 - a)) ++ (S.drop (p.2 - a) ++ R))) (fun p => ⟨[(8, iV p.2), (0, .osl 1 ver 0 N), (1, iV a), (2, iV b), (3, .fn cf caps)], srtS B ver p.1⟩) (fun p => b + 1 - p.2) (P ++ (S ++ R), a + 1) ⟨hT, Nat.le_refl _, by dsimp only; omega, ?i0⟩ ?w0 fun p hp => ?_
  case i0 =>
    dsimp only
    rw [Nat.add_sub_cancel_left]
    have e : sortN (ltS c) (S.take 1) = S.take 1 := by cases S <;> rfl
    rw [e, ← List.append_assoc (S.take 1), List.take_append_drop]
  case w0 => exact ⟨rfl, iV_eq (by dsimp only; omega), rfl, rfl, rfl, rfl, trivial⟩
  obtain ⟨K, i⟩ := p
  obtain ⟨h1, h2, h3, h4⟩ := hp
  dsimp only at h1 h2 h3 h4 ⊢
  by_cases hib : i < b
  · have hia : i - a < S.length := by omega
    obtain ⟨x, hx⟩ : ∃ x, x = S[i - a] := ⟨_, rfl⟩
    have hdrop : S.drop (i - a) = x :: S.drop (i - a + 1) := by rw [hx]; exact List.drop_eq_getElem_cons hia
    have htake : S.take (i - a + 1) = S.take (i - a) ++ [x] := by rw [hx]; exact List.take_succ_eq_append_getElem hia
    obtain ⟨k1, k2⟩ := sortN_spec hw (S.take (i - a))
    have hkl : (sortN (ltS c) (S.take (i - a))).length = i - a := by rw [sortN_len, List.length_take]; omega
    have hfin : ∀ A Bq : List Se, Srt (ltS c) (A ++ Bq) → (∀ b ∈ Bq, ltS c x b = true) → Stb (ltS c) (S.take (i - a) ++ [x]) (A ++ x :: Bq) → (∀ A' u, A = A' ++ [u] → ltS c x u = false) → P ++ (A ++ x :: (Bq ++ (S.drop (i - a + 1) ++ R))) = P ++ (sortN (ltS c) (S.take (i + 1 - a)) ++ (S.drop (i + 1 - a) ++ R)) := fun A Bq q1 q2 q3 q4 => by
      have q5 : Srt (ltS c) (A ++ x :: Bq) := srt_insert hw q1 (fun y hy => by
        rcases List.eq_nil_or_concat A with rfl | ⟨A', u, rfl⟩
        · simp at hy
        · rw [List.concat_eq_append] at hy q1 q4
          exact hw.le_trans (q1.left.last hw hy) (q4 A' u rfl)) (fun y hy => hw.asymm (q2 y hy))
      have q6 := sortN_eq hw q5 q3
      rw [← htake] at q6
      rw [show i + 1 - a = i - a + 1 by omega, ← q6]
      simp
    clear hdrop htake
    have h4 : K = P ++ (sortN (ltS c) (S.take (i - a)) ++ x :: ([] ++ (S.drop (i - a + 1) ++ R))) := by
      rw [h4, show S.drop (i - a) = x :: S.drop (i - a + 1) by rw [hx]; exact List.drop_eq_getElem_cons hia]; simp
    generalize sortN (ltS c) (S.take (i - a)) = Z at *
    (repeat' (first
  | (apply W.qd; (first
    | (apply q_mv; (conv => lhs; whnf))|(apply q_as; (conv => lhs; whnf))
    | (apply q_lss; exact rfl; exact rfl)))|(apply yA)|(apply yB)|(apply yC; kernel_rfl)|(apply yE)|(apply yG)|(apply yH)
  | (refine W.cond _ rfl (fun hb => ?_) (fun hb => ?_) <;> ((try simp only [hb, zA, zB]) <;> (try simp only [zC, zD, zE, zF, zG, zH, zI, zJ] at hb) <;> (try (exfalso; omega))))))
    refine AWP.loopE (α := List Se × Nat) (fun p => p.1.length = T ∧ p.2 ≤ i ∧ ∃ A Bq : List Se, p.1 = P ++ (A ++ x :: (Bq ++ (S.drop (i - a + 1) ++ R))) ∧ P.length + A.length = p.2 ∧ Srt (ltS c) (A ++ Bq) ∧ (∀ b ∈ Bq, ltS c x b = true) ∧ Stb (ltS c) (S.take (i - a) ++ [x]) (A ++ x :: Bq)) (fun p => ⟨[(9, iV p.2), (8, iV i), (0, .osl 1 ver 0 N), (1, iV a), (2, iV b), (3, .fn cf caps)], srtS B ver p.1⟩) (fun p => p.2) (K, i) ⟨h1, Nat.le_refl _, Z, [], h4, by dsimp only; omega, by rw [List.append_nil]; exact k1, by simp, k2.app (Stb.refl [x])⟩ ⟨rfl, by (repeat (first | exact trivial | refine ⟨rfl, ?_⟩))⟩ fun p hp => ?_
    obtain ⟨K', j⟩ := p
    obtain ⟨g1, g2, A, Bq, g3, g4, g5, g6, g7⟩ := hp
    dsimp only at g1 g2 g3 g4 ⊢
    clear h4 h1 k1 k2 hkl
    by_cases hja : a < j
    · rcases List.eq_nil_or_concat A with rfl | ⟨A', u, rfl⟩
      · simp only [List.length_nil] at g4; omega
      · rw [List.concat_eq_append] at g3 g4 g5 g7
        have hl1 : A'.length + 1 = (A' ++ [u]).length := by simp
        have hj1 : j < K'.length := by omega
        have ej : (j : Int) - 1 = ((j - 1 : Nat) : Int) := by omega
        have gK : K' = (P ++ A') ++ u :: x :: (Bq ++ (S.drop (i - a + 1) ++ R)) := by rw [g3]; simp
        have el : (P ++ A').length = j - 1 := by rw [List.length_append]; omega
        have ed1 : K'.getD (j - 1) se0 = u := by rw [gK, ← el]; exact getD_mid _ _ _ _
        have ed2 : K'.getD j se0 = x := by
          have := getD_mid se0 ((P ++ A') ++ [u]) (Bq ++ (S.drop (i - a + 1) ++ R)) x
          rw [List.length_append, el, List.length_singleton, show j - 1 + 1 = j by omega] at this
          rw [gK]; simpa using this
        have eg1 : K'[j - 1]'(by omega) = u := by rw [← ed1, List.getD_eq_getElem?_getD, List.getElem?_eq_getElem (by omega)]; rfl
        have eg2 : K'[j] = x := by rw [← ed2, List.getD_eq_getElem?_getD, List.getElem?_eq_getElem (by omega)]; rfl
        have hcall := hcl (K'[j]) (K'[j - 1]'(by omega)) ver (K'.map seD)
        by_cases hlt : c (K'[j]) (K'[j - 1]'(by omega)) < 0
        · have hswp := swp_adj' se0 (P ++ A') (Bq ++ (S.drop (i - a + 1) ++ R)) u x
          rw [← gK, el, show j - 1 + 1 = j by omega] at hswp
          unfold swpN at hswp
          have hux : ltS c x u = true := by unfold ltS; rw [← eg1, ← eg2]; exact decide_eq_true hlt
          rw [ed1, ed2, ← eg1, ← eg2] at hswp
          clear hfin hcl
          (repeat' (first
  | (apply yFb; exact rfl; exact rfl)
  | (apply W.qd; (first
    | (apply q_mv; (conv => lhs; whnf))|(apply q_as; (conv => lhs; whnf))|(apply q_lss; exact rfl; exact rfl)|(apply q_gtr; exact rfl; exact rfl)|(apply q_sub; exact rfl; exact rfl; omega)|(apply (yEb (u := .d _)); exact rfl; exact rfl)|(apply q_ix_osl0; (iterate 4 exact rfl); (first | (with_reducible exact rfl) | exact natI_spec rfl | assumption | exact (Int.toNat_of_nonneg (by omega)).symm); (first | omega | (focus (simp only [List.length_map]; omega)) | (focus (simp; done)) | (focus (simp; omega))))
    | (apply q_ld_rptsm; (iterate 4 exact rfl); (first | omega | (focus (simp only [List.length_map]; omega)) | (focus (simp; done)) | (focus (simp; omega))))))|(apply W.ed; (apply (e_callS (hcall)); exact rfl; exact rfl; (first | assumption | kernel_rfl)))|(apply W.en; ((apply (e_st_rptM _); (iterate 9 exact rfl))))|(apply yA)|(apply yB)|(apply yC; kernel_rfl)|(apply yD; exact rfl; kernel_rfl)|(apply yE)|(apply yF; kernel_rfl)|(apply yG)|(apply yH)|(apply yL)|(refine W.gT _ _ rfl rfl (fun hb => ?_) (fun hb => ?_) <;> ((try simp only [hb, zA, zB]) <;> (try simp only [zC, zD, zE, zF, zG, zH, zI, zJ] at hb) <;> (try (exfalso; omega))))
  | (refine W.cond _ rfl (fun hb => ?_) (fun hb => ?_) <;> ((try simp only [hb, zA, zB]) <;> (try simp only [zC, zD, zE, zF, zG, zH, zI, zJ] at hb) <;> (try (exfalso; omega))))))
          refine ⟨(_, j - 1), ⟨by simp [g1], by dsimp only; omega, A', u :: Bq, hswp.trans ?_, by dsimp only; omega, by simpa using g5, fun y hy => ?_, Stb.trans g7 ?_⟩, by dsimp only; omega, rfl, iV_eq (by dsimp only; omega), rfl, rfl, rfl, rfl, rfl, trivial⟩
          · rw [eg1, eg2]; simp
          · rcases List.mem_cons.1 hy with rfl | hy
            · exact hux
            · exact g6 y hy
          · have := ((Stb.refl A').app (Stb.swap (lt := ltS c) hw (U := [u]) (X := [x]) fun y hy z hz => by rw [List.mem_singleton.1 hy, List.mem_singleton.1 hz]; exact hux)).app (Stb.refl Bq)
            simpa using this
        · have hux : ltS c x u = false := by unfold ltS; rw [← eg1, ← eg2]; exact decide_eq_false hlt
          have hK := hfin (A' ++ [u]) Bq g5 g6 g7 fun A2 u2 e => by
            obtain ⟨_, rfl⟩ := List.append_inj' e rfl |>.imp id (fun h => by simpa using h)
            exact hux
          rw [← g3] at hK
          clear hfin hcl
          (repeat' (first
  | (apply yFb; exact rfl; exact rfl)
  | (apply W.qd; (first
    | (apply q_mv; (conv => lhs; whnf))|(apply q_as; (conv => lhs; whnf))|(apply q_lss; exact rfl; exact rfl)|(apply q_gtr; exact rfl; exact rfl)|(apply q_add; exact rfl; exact rfl; omega)|(apply q_sub; exact rfl; exact rfl; omega)|(apply (yEb (u := .d _)); exact rfl; exact rfl)|(apply q_ix_osl0; (iterate 4 exact rfl); (first | (with_reducible exact rfl) | exact natI_spec rfl | assumption | exact (Int.toNat_of_nonneg (by omega)).symm); (first | omega | (focus (simp only [List.length_map]; omega)) | (focus (simp; done)) | (focus (simp; omega))))
    | (apply q_ld_rptsm; (iterate 4 exact rfl); (first | omega | (focus (simp only [List.length_map]; omega)) | (focus (simp; done)) | (focus (simp; omega))))))|(apply W.ed; (apply (e_callS (hcall)); exact rfl; exact rfl; (first | assumption | kernel_rfl)))|(apply yA)|(apply yB)|(apply yC; kernel_rfl)|(apply yD; exact rfl; kernel_rfl)|(apply yE)|(apply yF; kernel_rfl)|(apply yI)|(apply yK)|(apply yL)|(apply yM)|(refine W.gT _ _ rfl rfl (fun hb => ?_) (fun hb => ?_) <;> ((try simp only [hb, zA, zB]) <;> (try simp only [zC, zD, zE, zF, zG, zH, zI, zJ] at hb) <;> (try (exfalso; omega))))
  | (refine W.cond _ rfl (fun hb => ?_) (fun hb => ?_) <;> ((try simp only [hb, zA, zB]) <;> (try simp only [zC, zD, zE, zF, zG, zH, zI, zJ] at hb) <;> (try (exfalso; omega))))))
          exact ⟨(K', i + 1), ⟨g1, by dsimp only; omega, by dsimp only; omega, hK⟩, by dsimp only; omega, rfl, iV_eq (by dsimp only; omega), rfl, rfl, rfl, rfl, trivial⟩
    · have hA : A = [] := List.eq_nil_of_length_eq_zero (by omega)
      subst hA
      have hK := hfin [] Bq g5 g6 g7 fun A2 u2 e => by simp at e
      rw [← g3] at hK
      clear hfin hcl
      (repeat' (first
  | (apply W.qd; (first
    | (apply q_mv; (conv => lhs; whnf))|(apply q_as; (conv => lhs; whnf))|(apply q_gtr; exact rfl; exact rfl)|(apply q_add; exact rfl; exact rfl; omega)
    | (apply (yDb (u := .d _)); exact rfl; exact rfl)))|(refine W.gOff _ _ rfl rfl (by intro h; cases h) ?_)|(apply yA)|(apply yB)|(apply yC; kernel_rfl)|(apply yD; exact rfl; kernel_rfl)|(apply yE)|(apply yF; kernel_rfl)|(apply yI)|(apply yK)|(apply yL)|(apply yM)|(apply yR; exact rfl)
  | (refine W.gT _ _ rfl rfl (fun hb => ?_) (fun hb => ?_) <;> ((try simp only [hb, zA, zB]) <;> (try simp only [zC, zD, zE, zF, zG, zH, zI, zJ] at hb) <;> (try (exfalso; omega))))))
      exact ⟨(K', i + 1), ⟨g1, by dsimp only; omega, by dsimp only; omega, hK⟩, by dsimp only; omega, rfl, iV_eq (by dsimp only; omega), rfl, rfl, rfl, rfl, trivial⟩
  · have e1 : S.take (i - a) = S := List.take_of_length_le (by omega)
    have e2 : S.drop (i - a) = [] := List.drop_eq_nil_of_le (by omega)
    rw [e1, e2, List.nil_append] at h4
    rw [← h4]
    clear hcl
    (repeat' (first
  | (apply W.qd; (first
    | (apply q_mv; (conv => lhs; whnf))
    | (apply q_lss; exact rfl; exact rfl)))|(apply yA)|(apply yB)|(apply yC; kernel_rfl)|(apply yE)|(apply yI)|(apply yK)|(apply yM)
  | (refine W.cond _ rfl (fun hb => ?_) (fun hb => ?_) <;> ((try simp only [hb, zA, zB]) <;> (try simp only [zC, zD, zE, zF, zG, zH, zI, zJ] at hb) <;> (try (exfalso; omega))))))
    exact ⟨.inr rfl, [], trivial, AVle.of_eq rfl, rfl⟩
end
end Go.Proofs.YtcljokdiblnhiaaGreatDoor
end
section
namespace Go.Proofs.YtcljokdiblnhiaaGreatDoor
open Go.RowKit
set_option maxHeartbeats 4000000
set_option maxRecDepth 100000
attribute [local irreducible] Quiet Eff OpOk AWPG ACont ABlock ACalls AGoto
section
variable {B : Ent} {cf : FuncId} {caps : List AV} {c : Se → Se → Int} {ver N : Nat}
theorem halfS (i j : Nat) : ((i + j) >>> 1) = (i + j) / 2 := by rw [Nat.shiftRight_eq_div_pow]
theorem A_mergeLS {a m b : Nat} {P R : List Se} {x : Se} {Y : List Se} (hc : CmpS cf caps B c) (hN : N ≤ (P ++ (([x] ++ Y) ++ R)).length) (hL : (P ++ (([x] ++ Y) ++ R)).length ≤ 1000000) (ha : P.length = a) (hm : a + 1 = m) (hb : m + Y.length = b) (hbN : b ≤ N) (hY : Srt (ltS c) Y) :
    ACalls Tryz.prog 180 [.osl 1 ver 0 N, iV a, iV m, iV b, .fn cf caps] (srtS B ver (P ++ (([x] ++ Y) ++ R))) (.tup []) (srtS B ver (P ++ (sortN (ltS c) ([x] ++ Y) ++ R))) := by
  refine acalls_of_bodyS Tryz.func180 rfl (Nat.le_of_ble_eq_true rfl) ?_
  have hw := hc.weak
  have hgf := hc.isf
  have hcl := hc.call
  obtain ⟨K, hK⟩ : ∃ K, K = P ++ (([x] ++ Y) ++ R) := ⟨_, rfl⟩
  rw [← hK] at hN hL ⊢
  have hKl : K.length = P.length + 1 + Y.length + R.length := by rw [hK]; simp; omega
  have hga : ∀ (h : a < K.length), K[a] = x := fun h => by
    have h0 : K[a]? = some x := by rw [hK, ← ha, List.getElem?_append_right (Nat.le_refl _), Nat.sub_self]; rfl
    rw [List.getElem?_eq_getElem h] at h0
    exact Option.some.inj h0
  have hgm : ∀ (t : Nat) (h : t < Y.length) (h2 : m + t < K.length), K[m + t] = Y[t] := fun t h h2 => by
    have e : K = (P ++ [x]) ++ (Y ++ R) := by rw [hK]; simp
    have e2 : (P ++ [x]).length = m := by simp; omega
    simp only [e]
    rw [List.getElem_append_right (by omega), List.getElem_append_left (by omega)]
    congr 1
    omega
  let p : Nat → Bool := fun h => !(ltS c (K.getD h se0) x)
  have hp : ∀ (h : Nat) (hh : h < K.length), p h = !(ltS c K[h] x) := fun h hh => by
    show (!(ltS c (K.getD h se0) x)) = _
    rw [List.getD_eq_getElem?_getD, List.getElem?_eq_getElem hh]; rfl
  generalize hQ : p = Q at hp
  clear hQ
  obtain ⟨b1, b2, b3, b4⟩ := bs_spec Q (b - m) m b (Nat.le_refl _) (by omega)
  generalize hI : bsN Q m b = I at *
  have hfin : P ++ ((Y.take (I - m) ++ x :: Y.drop (I - m)) ++ R) = P ++ (sortN (ltS c) ([x] ++ Y) ++ R) := by
    have q0 : Y.take (I - m) ++ Y.drop (I - m) = Y := List.take_append_drop _ _
    have q1 : ∀ y ∈ Y.take (I - m), ltS c y x = true := fun y hy => by
      by_cases h0 : m < I
      · have := b3 h0
        rw [hp _ (by omega)] at this
        have e : K[I - 1]'(by omega) = Y[I - m - 1]'(by omega) := by
          have := hgm (I - m - 1) (by omega) (by omega)
          rw [← this]; congr 1; omega
        rw [e] at this
        have h5 : ltS c (Y[I - m - 1]'(by omega)) x = true := by simpa using this
        have h6 : Y.take (I - m) = Y.take (I - m - 1) ++ [Y[I - m - 1]'(by omega)] := by
          have := List.take_succ_eq_append_getElem (l := Y) (i := I - m - 1) (by omega)
          rwa [show I - m - 1 + 1 = I - m by omega] at this
        have h7 : Srt (ltS c) (Y.take (I - m - 1) ++ [Y[I - m - 1]'(by omega)]) := by
          rw [← h6]
          rw [← q0] at hY
          exact hY.left
        rw [h6] at hy
        exact hw.le_lt (h7.last hw hy) h5
      · rw [show I - m = 0 by omega] at hy; simp at hy
    have q2 : ∀ y ∈ Y.drop (I - m), ltS c y x = false := fun y hy => by
      by_cases h0 : I < b
      · have := b4 h0
        rw [hp _ (by omega)] at this
        have e : K[I]'(by omega) = Y[I - m]'(by omega) := by
          have := hgm (I - m) (by omega) (by omega)
          rw [← this]; congr 1; omega
        rw [e] at this
        have h5 : ltS c (Y[I - m]'(by omega)) x = false := by simpa using this
        have h6 : Y.drop (I - m) = Y[I - m]'(by omega) :: Y.drop (I - m + 1) := List.drop_eq_getElem_cons (by omega)
        have h7 : Srt (ltS c) (Y[I - m]'(by omega) :: Y.drop (I - m + 1)) := by
          rw [← h6]
          rw [← q0] at hY
          exact hY.right
        rw [h6] at hy
        exact hw.le_trans h5 (h7.head hw hy)
      · rw [List.drop_eq_nil_of_le (by omega)] at hy; simp at hy
    have q3 : Srt (ltS c) (Y.take (I - m) ++ x :: Y.drop (I - m)) := srt_insert hw (by rw [q0]; exact hY) (fun y hy => hw.asymm (q1 y hy)) q2
    have q4 : Stb (ltS c) ([x] ++ Y) (Y.take (I - m) ++ x :: Y.drop (I - m)) := by
      have := (Stb.swap (lt := ltS c) hw (U := [x]) (X := Y.take (I - m)) fun y hy u hu => by rw [List.mem_singleton.1 hu]; exact q1 y hy).app (Stb.refl (Y.drop (I - m)))
      rw [List.append_assoc, q0] at this
      simpa using this
    rw [sortN_eq hw q3 q4]
  clear hY b3 b4 hgm
  (repeat' (first
  | (apply W.qd; (first
    | (apply q_mv; (conv => lhs; whnf))|(apply q_as; (conv => lhs; whnf))|(apply q_eql; exact rfl; exact rfl)
    | (apply q_sub; exact rfl; exact rfl; omega)))|(apply yA)|(apply yB)|(apply yC; kernel_rfl)|(apply yE)|(apply yG)
  | (refine W.cond _ rfl (fun hb => ?_) (fun hb => ?_) <;> ((try simp only [hb, zA, zB]) <;> (try simp only [zC, zD, zE, zF, zG, zH, zI, zJ] at hb) <;> (try (exfalso; omega))))))
  refine AWP.loopE (α := Nat × Nat) (fun q => m ≤ q.1 ∧ q.1 ≤ q.2 ∧ q.2 ≤ b ∧ bsN Q q.1 q.2 = I) (fun q => ⟨[(10, iV q.1), (11, iV q.2), (0, .osl 1 ver 0 N), (1, iV a), (2, iV m), (3, iV b), (4, .fn cf caps)], srtS B ver K⟩) (fun q => q.2 - q.1) (m, b) ⟨Nat.le_refl _, by dsimp only; omega, Nat.le_refl _, hI⟩ ⟨rfl, by (repeat (first | exact trivial | refine ⟨rfl, ?_⟩))⟩ fun q hq => ?_
  obtain ⟨i, j⟩ := q
  obtain ⟨h1, h2, h3, h4⟩ := hq
  dsimp only at h1 h2 h3 h4 ⊢
  clear hI
  by_cases hij : i < j
  · have eh := halfS i j
    have eij : (i : Int) + (j : Int) = ((i + j : Nat) : Int) := by omega
    have hh : (i + j) >>> 1 < K.length := by omega
    have hcall := hcl (K[(i + j) >>> 1]) (K[a]'(by omega)) ver (K.map seD)
    have hQh : Q ((i + j) / 2) = !(ltS c K[(i + j) >>> 1] x) := by rw [← eh]; exact hp _ hh
    have hx0 := hga (by omega)
    by_cases hlt : c (K[(i + j) >>> 1]) (K[a]'(by omega)) < 0
    · have hlt' : ltS c (K[(i + j) >>> 1]) x = true := by unfold ltS; rw [← hx0]; exact decide_eq_true hlt
      rw [hlt'] at hQh
      rw [bs_right hij hQh] at h4
      clear hcl hfin hp
      (repeat' (first
  | (apply W.qd; (first
    | ((apply q_convU; (iterate 3 exact rfl); assumption; omega))|(apply q_mv; (conv => lhs; whnf))|(apply q_as; (conv => lhs; whnf))|(apply q_lss; exact rfl; exact rfl)|(apply q_add; exact rfl; exact rfl; omega)|(apply q_convI; (iterate 3 exact rfl); omega)|(apply q_shrN; exact rfl; exact rfl; (first | (with_reducible exact rfl) | exact natI_spec rfl | assumption | exact (Int.toNat_of_nonneg (by omega)).symm); (first | (with_reducible exact rfl) | exact natI_spec rfl | assumption | exact (Int.toNat_of_nonneg (by omega)).symm); focus (show _ ≤ 64; omega))|(apply q_ix_osl0; (iterate 4 exact rfl); (first | (with_reducible exact rfl) | exact natI_spec rfl | assumption | exact (Int.toNat_of_nonneg (by omega)).symm); (first | omega | (focus (simp only [List.length_map]; omega)) | (focus (simp; done)) | (focus (simp; omega))))
    | (apply q_ld_rptsm; (iterate 4 exact rfl); (first | omega | (focus (simp only [List.length_map]; omega)) | (focus (simp; done)) | (focus (simp; omega))))))|(apply W.ed; (apply (e_callS (hcall)); exact rfl; exact rfl; (first | assumption | kernel_rfl)))|(apply yA)|(apply yB)|(apply yC; kernel_rfl)|(apply yD; exact rfl; kernel_rfl)|(apply yE)|(apply yF; kernel_rfl)|(apply yG)|(apply yH)|(apply yL)
  | (refine W.cond _ rfl (fun hb => ?_) (fun hb => ?_) <;> ((try simp only [hb, zA, zB]) <;> (try simp only [zC, zD, zE, zF, zG, zH, zI, zJ] at hb) <;> (try (exfalso; omega))))))
      exact ⟨((i + j) / 2 + 1, j), ⟨by dsimp only; omega, by dsimp only; omega, h3, h4⟩, by dsimp only; omega, rfl, iV_eq (by dsimp only; omega), rfl, rfl, rfl, rfl, rfl, rfl, trivial⟩
    · have hlt' : ltS c (K[(i + j) >>> 1]) x = false := by unfold ltS; rw [← hx0]; exact decide_eq_false hlt
      rw [hlt'] at hQh
      rw [bs_left hij hQh] at h4
      clear hcl hfin hp
      (repeat' (first
  | (apply W.qd; (first
    | ((apply q_convU; (iterate 3 exact rfl); assumption; omega))|(apply q_mv; (conv => lhs; whnf))|(apply q_as; (conv => lhs; whnf))|(apply q_lss; exact rfl; exact rfl)|(apply q_add; exact rfl; exact rfl; omega)|(apply q_convI; (iterate 3 exact rfl); omega)|(apply q_shrN; exact rfl; exact rfl; (first | (with_reducible exact rfl) | exact natI_spec rfl | assumption | exact (Int.toNat_of_nonneg (by omega)).symm); (first | (with_reducible exact rfl) | exact natI_spec rfl | assumption | exact (Int.toNat_of_nonneg (by omega)).symm); focus (show _ ≤ 64; omega))|(apply q_ix_osl0; (iterate 4 exact rfl); (first | (with_reducible exact rfl) | exact natI_spec rfl | assumption | exact (Int.toNat_of_nonneg (by omega)).symm); (first | omega | (focus (simp only [List.length_map]; omega)) | (focus (simp; done)) | (focus (simp; omega))))
    | (apply q_ld_rptsm; (iterate 4 exact rfl); (first | omega | (focus (simp only [List.length_map]; omega)) | (focus (simp; done)) | (focus (simp; omega))))))|(apply W.ed; (apply (e_callS (hcall)); exact rfl; exact rfl; (first | assumption | kernel_rfl)))|(apply yA)|(apply yB)|(apply yC; kernel_rfl)|(apply yD; exact rfl; kernel_rfl)|(apply yE)|(apply yF; kernel_rfl)|(apply yG)|(apply yH)|(apply yL)
  | (refine W.cond _ rfl (fun hb => ?_) (fun hb => ?_) <;> ((try simp only [hb, zA, zB]) <;> (try simp only [zC, zD, zE, zF, zG, zH, zI, zJ] at hb) <;> (try (exfalso; omega))))))
      exact ⟨(i, (i + j) / 2), ⟨h1, by dsimp only; omega, by dsimp only; omega, h4⟩, by dsimp only; omega, rfl, rfl, iV_eq (by dsimp only; omega), rfl, rfl, rfl, rfl, rfl, trivial⟩
  · rw [bs_done Q hij] at h4
    subst h4
    clear hcl hp
    (repeat' (first
  | (apply W.qd; (first
    | (apply q_mv; (conv => lhs; whnf))|(apply q_as; (conv => lhs; whnf))
    | (apply q_lss; exact rfl; exact rfl)))|(apply yA)|(apply yB)|(apply yC; kernel_rfl)|(apply yE)|(apply yG)|(apply yI)|(apply yK)|(apply yM)
  | (refine W.cond _ rfl (fun hb => ?_) (fun hb => ?_) <;> ((try simp only [hb, zA, zB]) <;> (try simp only [zC, zD, zE, zF, zG, zH, zI, zJ] at hb) <;> (try (exfalso; omega))))))
    refine AWP.loopE (α := List Se × Nat) (fun q => a ≤ q.2 ∧ q.2 < i ∧ q.1 = P ++ ((Y.take (q.2 - a) ++ x :: Y.drop (q.2 - a)) ++ R)) (fun q => ⟨[(13, iV q.2), (10, iV i), (0, .osl 1 ver 0 N)], srtS B ver q.1⟩) (fun q => i - q.2) (K, a) ⟨Nat.le_refl _, by dsimp only; omega, by dsimp only; rw [Nat.sub_self, hK]; simp⟩ ⟨rfl, by (repeat (first | exact trivial | refine ⟨rfl, ?_⟩))⟩ fun q hq => ?_
    obtain ⟨K', k⟩ := q
    obtain ⟨g1, g2, g3⟩ := hq
    dsimp only at g1 g2 g3 ⊢
    by_cases hk : k < i - 1
    · have hka : k - a < Y.length := by omega
      have gl : K'.length = K.length := by rw [g3, hK]; simp; omega
      obtain ⟨yk, hyk⟩ : ∃ yk, yk = Y[k - a] := ⟨_, rfl⟩
      have hyd : Y.drop (k - a) = yk :: Y.drop (k - a + 1) := by rw [hyk]; exact List.drop_eq_getElem_cons hka
      have hyt : Y.take (k - a + 1) = Y.take (k - a) ++ [yk] := by rw [hyk]; exact List.take_succ_eq_append_getElem hka
      have gK : K' = (P ++ Y.take (k - a)) ++ x :: yk :: (Y.drop (k - a + 1) ++ R) := by rw [g3, hyd]; simp
      have el : (P ++ Y.take (k - a)).length = k := by rw [List.length_append, List.length_take]; omega
      have hswp := swp_adj se0 (P ++ Y.take (k - a)) (Y.drop (k - a + 1) ++ R) x yk
      rw [← gK, el] at hswp
      have et : (P ++ Y.take (k - a)) ++ yk :: x :: (Y.drop (k - a + 1) ++ R) = P ++ ((Y.take (k + 1 - a) ++ x :: Y.drop (k + 1 - a)) ++ R) := by
        rw [show k + 1 - a = k - a + 1 by omega, hyt]; simp
      rw [et] at hswp
      unfold swpN at hswp
      have e1 : K'.getD k se0 = K'[k]'(by omega) := by rw [List.getD_eq_getElem?_getD, List.getElem?_eq_getElem (by omega)]; rfl
      have e2 : K'.getD (k + 1) se0 = K'[k + 1]'(by omega) := by rw [List.getD_eq_getElem?_getD, List.getElem?_eq_getElem (by omega)]; rfl
      rw [e1, e2] at hswp
      clear hfin
      (repeat' (first
  | (apply W.qd; (first
    | (apply q_mv; (conv => lhs; whnf))|(apply q_as; (conv => lhs; whnf))|(apply q_lss; exact rfl; exact rfl)|(apply q_add; exact rfl; exact rfl; omega)|(apply q_sub; exact rfl; exact rfl; omega)|(apply q_ix_osl0; (iterate 4 exact rfl); (first | (with_reducible exact rfl) | exact natI_spec rfl | assumption | exact (Int.toNat_of_nonneg (by omega)).symm); (first | omega | (focus (simp only [List.length_map]; omega)) | (focus (simp; done)) | (focus (simp; omega))))
    | (apply q_ld_rptsm; (iterate 4 exact rfl); (first | omega | (focus (simp only [List.length_map]; omega)) | (focus (simp; done)) | (focus (simp; omega))))))|(apply W.en; ((apply (e_st_rptM _); (iterate 9 exact rfl))))|(apply yA)|(apply yB)|(apply yC; kernel_rfl)|(apply yD; exact rfl; kernel_rfl)|(apply yE)|(apply yF; kernel_rfl)|(apply yG)|(apply yH)|(apply yL)
  | (refine W.cond _ rfl (fun hb => ?_) (fun hb => ?_) <;> ((try simp only [hb, zA, zB]) <;> (try simp only [zC, zD, zE, zF, zG, zH, zI, zJ] at hb) <;> (try (exfalso; omega))))))
      exact ⟨(_, k + 1), ⟨by dsimp only; omega, by dsimp only; omega, hswp⟩, by dsimp only; omega, rfl, iV_eq (by dsimp only; omega), rfl, rfl, trivial⟩
    · have ek : k = i - 1 := by omega
      subst ek
      rw [show i - 1 - a = i - m by omega, hfin] at g3
      subst g3
      (repeat' (first
  | (apply W.qd; (first
    | (apply q_mv; (conv => lhs; whnf))|(apply q_lss; exact rfl; exact rfl)
    | (apply q_sub; exact rfl; exact rfl; omega)))|(apply yA)|(apply yB)|(apply yC; kernel_rfl)|(apply yE)|(apply yI)|(apply yJ)|(apply yK)|(apply yP)|(apply yM)
  | (refine W.cond _ rfl (fun hb => ?_) (fun hb => ?_) <;> ((try simp only [hb, zA, zB]) <;> (try simp only [zC, zD, zE, zF, zG, zH, zI, zJ] at hb) <;> (try (exfalso; omega))))))
      exact ⟨.inl rfl, [], trivial, AVle.of_eq rfl, rfl⟩
end
end Go.Proofs.YtcljokdiblnhiaaGreatDoor
end
section
namespace Go.Proofs.YtcljokdiblnhiaaGreatDoor
open Go.RowKit
set_option maxHeartbeats 4000000
set_option maxRecDepth 100000
attribute [local irreducible] Quiet Eff OpOk AWPG ACont ABlock ACalls AGoto
section
variable {B : Ent} {cf : FuncId} {caps : List AV} {c : Se → Se → Int} {ver N : Nat}
theorem A_mergeRS {a m b : Nat} {P R : List Se} {y : Se} {X : List Se} (hc : CmpS cf caps B c) (hN : N ≤ (P ++ ((X ++ [y]) ++ R)).length) (hL : (P ++ ((X ++ [y]) ++ R)).length ≤ 1000000) (ha : P.length = a) (hm : a + X.length = m) (hb : m + 1 = b) (hbN : b ≤ N) (hX : Srt (ltS c) X) (hX2 : 2 ≤ X.length) :
    ACalls Tryz.prog 180 [.osl 1 ver 0 N, iV a, iV m, iV b, .fn cf caps] (srtS B ver (P ++ ((X ++ [y]) ++ R))) (.tup []) (srtS B ver (P ++ (sortN (ltS c) (X ++ [y]) ++ R))) := by
  refine acalls_of_bodyS Tryz.func180 rfl (Nat.le_of_ble_eq_true rfl) ?_
  have hw := hc.weak
  have hgf := hc.isf
  have hcl := hc.call
  obtain ⟨K, hK⟩ : ∃ K, K = P ++ ((X ++ [y]) ++ R) := ⟨_, rfl⟩
  rw [← hK] at hN hL ⊢
  have hKl : K.length = P.length + X.length + 1 + R.length := by rw [hK]; simp; omega
  have hgy : ∀ (h : m < K.length), K[m] = y := fun h => by
    have h0 : K[m]? = some y := by
      have e : K = (P ++ X) ++ (y :: R) := by rw [hK]; simp
      rw [e, List.getElem?_append_right (by simp; omega), show m - (P ++ X).length = 0 by simp; omega]; rfl
    rw [List.getElem?_eq_getElem h] at h0
    exact Option.some.inj h0
  have hgx : ∀ (t : Nat) (h : t < X.length) (h2 : a + t < K.length), K[a + t] = X[t] := fun t h h2 => by
    have e : K = P ++ (X ++ (y :: R)) := by rw [hK]; simp
    simp only [e]
    rw [List.getElem_append_right (by omega), List.getElem_append_left (by omega)]
    congr 1
    omega
  let p : Nat → Bool := fun h => ltS c y (K.getD h se0)
  have hp : ∀ (h : Nat) (hh : h < K.length), p h = ltS c y K[h] := fun h hh => by
    show ltS c y (K.getD h se0) = _
    rw [List.getD_eq_getElem?_getD, List.getElem?_eq_getElem hh]; rfl
  generalize hQ : p = Q at hp
  clear hQ
  obtain ⟨b1, b2, b3, b4⟩ := bs_spec Q (m - a) a m (Nat.le_refl _) (by omega)
  generalize hI : bsN Q a m = I at *
  have hfin : P ++ ((X.take (I - a) ++ y :: X.drop (I - a)) ++ R) = P ++ (sortN (ltS c) (X ++ [y]) ++ R) := by
    have q0 : X.take (I - a) ++ X.drop (I - a) = X := List.take_append_drop _ _
    have q1 : ∀ x ∈ X.take (I - a), ltS c y x = false := fun x hx => by
      by_cases h0 : a < I
      · have := b3 h0
        rw [hp _ (by omega)] at this
        have e : K[I - 1]'(by omega) = X[I - a - 1]'(by omega) := by
          have := hgx (I - a - 1) (by omega) (by omega)
          rw [← this]; congr 1; omega
        rw [e] at this
        have h6 : X.take (I - a) = X.take (I - a - 1) ++ [X[I - a - 1]'(by omega)] := by
          have := List.take_succ_eq_append_getElem (l := X) (i := I - a - 1) (by omega)
          rwa [show I - a - 1 + 1 = I - a by omega] at this
        have h7 : Srt (ltS c) (X.take (I - a - 1) ++ [X[I - a - 1]'(by omega)]) := by
          rw [← h6]
          rw [← q0] at hX
          exact hX.left
        rw [h6] at hx
        exact hw.le_trans (h7.last hw hx) this
      · rw [show I - a = 0 by omega] at hx; simp at hx
    have q2 : ∀ x ∈ X.drop (I - a), ltS c y x = true := fun x hx => by
      by_cases h0 : I < m
      · have := b4 h0
        rw [hp _ (by omega)] at this
        have e : K[I]'(by omega) = X[I - a]'(by omega) := by
          have := hgx (I - a) (by omega) (by omega)
          rw [← this]; congr 1; omega
        rw [e] at this
        have h6 : X.drop (I - a) = X[I - a]'(by omega) :: X.drop (I - a + 1) := List.drop_eq_getElem_cons (by omega)
        have h7 : Srt (ltS c) (X[I - a]'(by omega) :: X.drop (I - a + 1)) := by
          rw [← h6]
          rw [← q0] at hX
          exact hX.right
        rw [h6] at hx
        exact hw.lt_le this (h7.head hw hx)
      · rw [List.drop_eq_nil_of_le (by omega)] at hx; simp at hx
    have q3 : Srt (ltS c) (X.take (I - a) ++ y :: X.drop (I - a)) := srt_insert hw (by rw [q0]; exact hX) q1 (fun x hx => hw.asymm (q2 x hx))
    have q4 : Stb (ltS c) (X ++ [y]) (X.take (I - a) ++ y :: X.drop (I - a)) := by
      have := (Stb.refl (X.take (I - a))).app (Stb.swap (lt := ltS c) hw (U := X.drop (I - a)) (X := [y]) fun z hz u hu => by rw [List.mem_singleton.1 hz]; exact q2 u hu)
      rw [← List.append_assoc, q0] at this
      simpa using this
    rw [sortN_eq hw q3 q4]
  clear hX b3 b4 hgx
  (repeat' (first
  | (apply W.qd; (first
    | (apply q_mv; (conv => lhs; whnf))|(apply q_as; (conv => lhs; whnf))|(apply q_eql; exact rfl; exact rfl)
    | (apply q_sub; exact rfl; exact rfl; omega)))|(apply yA)|(apply yB)|(apply yC; kernel_rfl)|(apply yE)|(apply yG)|(apply yH)
  | (refine W.cond _ rfl (fun hb => ?_) (fun hb => ?_) <;> ((try simp only [hb, zA, zB]) <;> (try simp only [zC, zD, zE, zF, zG, zH, zI, zJ] at hb) <;> (try (exfalso; omega))))))
  refine AWP.loopE (α := Nat × Nat) (fun q => a ≤ q.1 ∧ q.1 ≤ q.2 ∧ q.2 ≤ m ∧ bsN Q q.1 q.2 = I) (fun q => ⟨[(14, iV q.1), (15, iV q.2), (0, .osl 1 ver 0 N), (1, iV a), (2, iV m), (3, iV b), (4, .fn cf caps)], srtS B ver K⟩) (fun q => q.2 - q.1) (a, m) ⟨Nat.le_refl _, by dsimp only; omega, Nat.le_refl _, hI⟩ ⟨rfl, by (repeat (first | exact trivial | refine ⟨rfl, ?_⟩))⟩ fun q hq => ?_
  obtain ⟨i, j⟩ := q
  obtain ⟨h1, h2, h3, h4⟩ := hq
  dsimp only at h1 h2 h3 h4 ⊢
  clear hI
  by_cases hij : i < j
  · have eh := halfS i j
    have eij : (i : Int) + (j : Int) = ((i + j : Nat) : Int) := by omega
    have hh : (i + j) >>> 1 < K.length := by omega
    have hcall := hcl (K[m]'(by omega)) (K[(i + j) >>> 1]) ver (K.map seD)
    have hQh : Q ((i + j) / 2) = ltS c y K[(i + j) >>> 1] := by rw [← eh]; exact hp _ hh
    have hy0 := hgy (by omega)
    by_cases hlt : c (K[m]'(by omega)) (K[(i + j) >>> 1]) < 0
    · have hlt' : ltS c y (K[(i + j) >>> 1]) = true := by unfold ltS; rw [← hy0]; exact decide_eq_true hlt
      rw [hlt'] at hQh
      rw [bs_left hij hQh] at h4
      clear hcl hfin hp
      (repeat' (first
  | (apply W.qd; (first
    | ((apply q_convU; (iterate 3 exact rfl); assumption; omega))|(apply q_mv; (conv => lhs; whnf))|(apply q_as; (conv => lhs; whnf))|(apply q_lss; exact rfl; exact rfl)|(apply q_not; exact rfl)|(apply q_add; exact rfl; exact rfl; omega)|(apply q_convI; (iterate 3 exact rfl); omega)|(apply q_shrN; exact rfl; exact rfl; (first | (with_reducible exact rfl) | exact natI_spec rfl | assumption | exact (Int.toNat_of_nonneg (by omega)).symm); (first | (with_reducible exact rfl) | exact natI_spec rfl | assumption | exact (Int.toNat_of_nonneg (by omega)).symm); focus (show _ ≤ 64; omega))|(apply q_ix_osl0; (iterate 4 exact rfl); (first | (with_reducible exact rfl) | exact natI_spec rfl | assumption | exact (Int.toNat_of_nonneg (by omega)).symm); (first | omega | (focus (simp only [List.length_map]; omega)) | (focus (simp; done)) | (focus (simp; omega))))
    | (apply q_ld_rptsm; (iterate 4 exact rfl); (first | omega | (focus (simp only [List.length_map]; omega)) | (focus (simp; done)) | (focus (simp; omega))))))|(apply W.ed; (apply (e_callS (hcall)); exact rfl; exact rfl; (first | assumption | kernel_rfl)))|(apply yA)|(apply yB)|(apply yC; kernel_rfl)|(apply yD; exact rfl; kernel_rfl)|(apply yE)|(apply yF; kernel_rfl)|(apply yG)|(apply yH)|(apply yL)
  | (refine W.cond _ rfl (fun hb => ?_) (fun hb => ?_) <;> ((try simp only [hb, zA, zB]) <;> (try simp only [zC, zD, zE, zF, zG, zH, zI, zJ] at hb) <;> (try (exfalso; omega))))))
      exact ⟨(i, (i + j) / 2), ⟨h1, by dsimp only; omega, by dsimp only; omega, h4⟩, by dsimp only; omega, rfl, rfl, iV_eq (by dsimp only; omega), rfl, rfl, rfl, rfl, rfl, trivial⟩
    · have hlt' : ltS c y (K[(i + j) >>> 1]) = false := by unfold ltS; rw [← hy0]; exact decide_eq_false hlt
      rw [hlt'] at hQh
      rw [bs_right hij hQh] at h4
      clear hcl hfin hp
      (repeat' (first
  | (apply W.qd; (first
    | ((apply q_convU; (iterate 3 exact rfl); assumption; omega))|(apply q_mv; (conv => lhs; whnf))|(apply q_as; (conv => lhs; whnf))|(apply q_lss; exact rfl; exact rfl)|(apply q_not; exact rfl)|(apply q_add; exact rfl; exact rfl; omega)|(apply q_convI; (iterate 3 exact rfl); omega)|(apply q_shrN; exact rfl; exact rfl; (first | (with_reducible exact rfl) | exact natI_spec rfl | assumption | exact (Int.toNat_of_nonneg (by omega)).symm); (first | (with_reducible exact rfl) | exact natI_spec rfl | assumption | exact (Int.toNat_of_nonneg (by omega)).symm); focus (show _ ≤ 64; omega))|(apply q_ix_osl0; (iterate 4 exact rfl); (first | (with_reducible exact rfl) | exact natI_spec rfl | assumption | exact (Int.toNat_of_nonneg (by omega)).symm); (first | omega | (focus (simp only [List.length_map]; omega)) | (focus (simp; done)) | (focus (simp; omega))))
    | (apply q_ld_rptsm; (iterate 4 exact rfl); (first | omega | (focus (simp only [List.length_map]; omega)) | (focus (simp; done)) | (focus (simp; omega))))))|(apply W.ed; (apply (e_callS (hcall)); exact rfl; exact rfl; (first | assumption | kernel_rfl)))|(apply yA)|(apply yB)|(apply yC; kernel_rfl)|(apply yD; exact rfl; kernel_rfl)|(apply yE)|(apply yF; kernel_rfl)|(apply yG)|(apply yH)|(apply yL)
  | (refine W.cond _ rfl (fun hb => ?_) (fun hb => ?_) <;> ((try simp only [hb, zA, zB]) <;> (try simp only [zC, zD, zE, zF, zG, zH, zI, zJ] at hb) <;> (try (exfalso; omega))))))
      exact ⟨((i + j) / 2 + 1, j), ⟨by dsimp only; omega, by dsimp only; omega, h3, h4⟩, by dsimp only; omega, rfl, iV_eq (by dsimp only; omega), rfl, rfl, rfl, rfl, rfl, rfl, trivial⟩
  · rw [bs_done Q hij] at h4
    subst h4
    clear hcl hp
    (repeat' (first
  | (apply W.qd; (first
    | (apply q_mv; (conv => lhs; whnf))|(apply q_as; (conv => lhs; whnf))
    | (apply q_lss; exact rfl; exact rfl)))|(apply yA)|(apply yB)|(apply yC; kernel_rfl)|(apply yE)|(apply yG)|(apply yI)|(apply yK)|(apply yM)
  | (refine W.cond _ rfl (fun hb => ?_) (fun hb => ?_) <;> ((try simp only [hb, zA, zB]) <;> (try simp only [zC, zD, zE, zF, zG, zH, zI, zJ] at hb) <;> (try (exfalso; omega))))))
    refine AWP.loopE (α := List Se × Nat) (fun q => i ≤ q.2 ∧ q.2 ≤ m ∧ q.1 = P ++ ((X.take (q.2 - a) ++ y :: X.drop (q.2 - a)) ++ R)) (fun q => ⟨[(17, iV q.2), (14, iV i), (0, .osl 1 ver 0 N)], srtS B ver q.1⟩) (fun q => q.2) (K, m) ⟨by dsimp only; omega, Nat.le_refl _, ?kk⟩ ⟨rfl, by (repeat (first | exact trivial | refine ⟨rfl, ?_⟩))⟩ fun q hq => ?_
    case kk =>
      dsimp only
      rw [show m - a = X.length by omega, List.take_length, List.drop_length, hK]
    obtain ⟨K', k⟩ := q
    obtain ⟨g1, g2, g3⟩ := hq
    dsimp only at g1 g2 g3 ⊢
    by_cases hk : i < k
    · have hka : k - 1 - a < X.length := by omega
      have gl : K'.length = K.length := by rw [g3, hK]; simp; omega
      obtain ⟨u, hu⟩ : ∃ u, u = X[k - 1 - a] := ⟨_, rfl⟩
      have hyd : X.drop (k - 1 - a) = u :: X.drop (k - a) := by rw [hu, show k - a = k - 1 - a + 1 by omega]; exact List.drop_eq_getElem_cons hka
      have hyt : X.take (k - a) = X.take (k - 1 - a) ++ [u] := by rw [hu, show k - a = k - 1 - a + 1 by omega]; exact List.take_succ_eq_append_getElem hka
      have gK : K' = (P ++ X.take (k - 1 - a)) ++ u :: y :: (X.drop (k - a) ++ R) := by rw [g3, hyt]; simp
      have el : (P ++ X.take (k - 1 - a)).length = k - 1 := by rw [List.length_append, List.length_take]; omega
      have hswp := swp_adj' se0 (P ++ X.take (k - 1 - a)) (X.drop (k - a) ++ R) u y
      rw [← gK, el, show k - 1 + 1 = k by omega] at hswp
      have et : (P ++ X.take (k - 1 - a)) ++ y :: u :: (X.drop (k - a) ++ R) = P ++ ((X.take (k - 1 - a) ++ y :: X.drop (k - 1 - a)) ++ R) := by
        rw [hyd]; simp
      rw [et] at hswp
      unfold swpN at hswp
      have e1 : K'.getD k se0 = K'[k]'(by omega) := by rw [List.getD_eq_getElem?_getD, List.getElem?_eq_getElem (by omega)]; rfl
      have e2 : K'.getD (k - 1) se0 = K'[k - 1]'(by omega) := by rw [List.getD_eq_getElem?_getD, List.getElem?_eq_getElem (by omega)]; rfl
      rw [e1, e2] at hswp
      have ek : (k : Int) - 1 = ((k - 1 : Nat) : Int) := by omega
      clear hfin
      (repeat' (first
  | (apply W.qd; (first
    | (apply q_mv; (conv => lhs; whnf))|(apply q_as; (conv => lhs; whnf))|(apply q_gtr; exact rfl; exact rfl)|(apply q_sub; exact rfl; exact rfl; omega)|(apply q_ix_osl0; (iterate 4 exact rfl); (first | (with_reducible exact rfl) | exact natI_spec rfl | assumption | exact (Int.toNat_of_nonneg (by omega)).symm); (first | omega | (focus (simp only [List.length_map]; omega)) | (focus (simp; done)) | (focus (simp; omega))))
    | (apply q_ld_rptsm; (iterate 4 exact rfl); (first | omega | (focus (simp only [List.length_map]; omega)) | (focus (simp; done)) | (focus (simp; omega))))))|(apply W.en; ((apply (e_st_rptM _); (iterate 9 exact rfl))))|(apply yA)|(apply yB)|(apply yC; kernel_rfl)|(apply yD; exact rfl; kernel_rfl)|(apply yE)|(apply yF; kernel_rfl)|(apply yG)|(apply yH)|(apply yL)
  | (refine W.cond _ rfl (fun hb => ?_) (fun hb => ?_) <;> ((try simp only [hb, zA, zB]) <;> (try simp only [zC, zD, zE, zF, zG, zH, zI, zJ] at hb) <;> (try (exfalso; omega))))))
      exact ⟨(_, k - 1), ⟨by dsimp only; omega, by dsimp only; omega, hswp⟩, by dsimp only; omega, rfl, iV_eq (by dsimp only; omega), rfl, rfl, trivial⟩
    · have ek : k = i := by omega
      subst ek
      rw [hfin] at g3
      subst g3
      (repeat' (first
  | (apply W.qd; (first
    | (apply q_mv; (conv => lhs; whnf))
    | (apply q_gtr; exact rfl; exact rfl)))|(apply yA)|(apply yB)|(apply yC; kernel_rfl)|(apply yE)|(apply yI)|(apply yJ)|(apply yK)|(apply yP)|(apply yM)
  | (refine W.cond _ rfl (fun hb => ?_) (fun hb => ?_) <;> ((try simp only [hb, zA, zB]) <;> (try simp only [zC, zD, zE, zF, zG, zH, zI, zJ] at hb) <;> (try (exfalso; omega))))))
      exact ⟨.inl rfl, [], trivial, AVle.of_eq rfl, rfl⟩
def SymS (c : Se → Se → Int) (cf : FuncId) (caps : List AV) (B : Ent) (ver N : Nat) (P X Y R : List Se) : Prop :=
  ACalls Tryz.prog 180 [.osl 1 ver 0 N, iV P.length, iV (P.length + X.length : Nat), iV (P.length + X.length + Y.length : Nat), .fn cf caps] (srtS B ver (P ++ ((X ++ Y) ++ R))) (.tup []) (srtS B ver (P ++ (sortN (ltS c) (X ++ Y) ++ R)))
end
end Go.Proofs.YtcljokdiblnhiaaGreatDoor
end
section
namespace Go.Proofs.YtcljokdiblnhiaaGreatDoor
open Go.RowKit
set_option maxHeartbeats 4000000
set_option maxRecDepth 100000
attribute [local irreducible] Quiet Eff OpOk AWPG ACont ABlock ACalls AGoto
section
variable {B : Ent} {cf : FuncId} {caps : List AV} {c : Se → Se → Int} {ver N : Nat}
theorem getE_midS {P S : List Se} {k : Nat} {x : Se} {K : List Se} (hK : K = P ++ x :: S) (hk : P.length = k) (h : k < K.length) : K[k] = x := by
  have h0 : K[k]? = some x := by rw [hK, ← hk, List.getElem?_append_right (Nat.le_refl _), Nat.sub_self]; rfl
  rw [List.getElem?_eq_getElem h] at h0
  exact Option.some.inj h0
theorem A_symStepS {P X Y R : List Se} (hc : CmpS cf caps B c) (hN : N ≤ (P ++ ((X ++ Y) ++ R)).length) (hL : (P ++ ((X ++ Y) ++ R)).length ≤ 1000000) (hbN : P.length + X.length + Y.length ≤ N) (hX2 : 2 ≤ X.length) (hY2 : 2 ≤ Y.length) (sX : Srt (ltS c) X) (sY : Srt (ltS c) Y)
    (ih : ∀ P' X' Y' R' : List Se, (P' ++ ((X' ++ Y') ++ R')).length = (P ++ ((X ++ Y) ++ R)).length → X'.length + Y'.length < X.length + Y.length → 0 < X'.length → 0 < Y'.length → P'.length + X'.length + Y'.length ≤ N → Srt (ltS c) X' → Srt (ltS c) Y' → SymS c cf caps B ver N P' X' Y' R') :
    SymS c cf caps B ver N P X Y R := by
  unfold SymS at ih ⊢
  have hw := hc.weak
  have hgf := hc.isf
  have hcl := hc.call
  obtain ⟨a, ha⟩ : ∃ a, P.length = a := ⟨_, rfl⟩
  obtain ⟨m, hm⟩ : ∃ m, a + X.length = m := ⟨_, rfl⟩
  obtain ⟨b, hb⟩ : ∃ b, m + Y.length = b := ⟨_, rfl⟩
  rw [ha, hm, hb] at hbN ⊢
  obtain ⟨K, hK⟩ : ∃ K, P ++ ((X ++ Y) ++ R) = K := ⟨_, rfl⟩
  rw [hK] at hN hL ih ⊢
  have hKl : K.length = a + X.length + Y.length + R.length := by rw [← hK]; simp; omega
  obtain ⟨mid, hmid⟩ : ∃ mid, mid = (a + b) >>> 1 := ⟨_, rfl⟩
  have ehm := halfS a b
  have eab : (a : Int) + (b : Int) = ((a + b : Nat) : Int) := by omega
  obtain ⟨s0, r0, hlo, hhi⟩ : ∃ s0 r0 : Nat, (mid < m → s0 = mid + m - b ∧ r0 = mid) ∧ (m ≤ mid → s0 = a ∧ r0 = m) := by
    by_cases h : mid < m
    · exact ⟨mid + m - b, mid, fun _ => ⟨rfl, rfl⟩, fun h2 => by omega⟩
    · exact ⟨a, m, fun h2 => by omega, fun _ => ⟨rfl, rfl⟩⟩
  let p : Nat → Bool := fun h => ltS c (K.getD (mid + m - 1 - h) se0) (K.getD h se0)
  have hp : ∀ (h : Nat) (hh : h < K.length) (h2 : mid + m - 1 - h < K.length), p h = ltS c K[mid + m - 1 - h] K[h] := fun h hh h2 => by
    show ltS c (K.getD (mid + m - 1 - h) se0) (K.getD h se0) = _
    have q1 : K.getD h se0 = K[h] := by rw [List.getD_eq_getElem?_getD, List.getElem?_eq_getElem hh]; rfl
    have q2 : K.getD (mid + m - 1 - h) se0 = K[mid + m - 1 - h] := by rw [List.getD_eq_getElem?_getD, List.getElem?_eq_getElem h2]; rfl
    rw [q1, q2]
  generalize hQ : p = Q at hp
  clear hQ
  have hsr : s0 ≤ r0 := by omega
  obtain ⟨b1, b2, b3, b4⟩ := bs_spec Q (r0 - s0) s0 r0 (Nat.le_refl _) hsr
  generalize hI : bsN Q s0 r0 = I at *
  obtain ⟨e, he⟩ : ∃ e, e + I = mid + m := ⟨mid + m - I, by omega⟩
  have r_a : a ≤ I := by omega
  have r_m : I ≤ m := by omega
  have r_e : m ≤ e := by omega
  have r_b : e ≤ b := by omega
  obtain ⟨X1, hX1⟩ : ∃ l, l = X.take (I - a) := ⟨_, rfl⟩
  obtain ⟨X2, hX2'⟩ : ∃ l, l = X.drop (I - a) := ⟨_, rfl⟩
  obtain ⟨Y1, hY1⟩ : ∃ l, l = Y.take (e - m) := ⟨_, rfl⟩
  obtain ⟨Y2, hY2'⟩ : ∃ l, l = Y.drop (e - m) := ⟨_, rfl⟩
  have eX : X = X1 ++ X2 := by rw [hX1, hX2', List.take_append_drop]
  have eY : Y = Y1 ++ Y2 := by rw [hY1, hY2', List.take_append_drop]
  have lX1 : X1.length = I - a := by rw [hX1, List.length_take]; omega
  have lX2 : X2.length = m - I := by rw [hX2', List.length_drop]; omega
  have lY1 : Y1.length = e - m := by rw [hY1, List.length_take]; omega
  have lY2 : Y2.length = b - e := by rw [hY2', List.length_drop]; omega
  have lX : X.length = m - a := by omega
  have lY : Y.length = b - m := by omega
  clear hX1 hX2' hY1 hY2'
  subst eX eY
  have eK : K = P ++ (X1 ++ (X2 ++ (Y1 ++ (Y2 ++ R)))) := by rw [← hK]; simp
  have f1 : ∀ y ∈ Y1, ∀ x ∈ X2, ltS c y x = true := fun y hy x hx => by
    rcases List.eq_nil_or_concat Y1 with h0 | ⟨Y1', v, h0⟩
    · rw [h0] at hy; simp at hy
    rcases X2 with _ | ⟨u, X2'⟩
    · simp at hx
    rw [List.concat_eq_append] at h0
    subst h0
    have hIr : I < r0 := by
      have : 0 < (u :: X2').length := by simp
      have : 0 < (Y1' ++ [v]).length := by simp
      omega
    have := b4 hIr
    rw [hp I (by omega) (by omega)] at this
    rw [getE_midS (k := I) (P := P ++ X1) (S := X2' ++ ((Y1' ++ [v]) ++ (Y2 ++ R))) (x := u) (by rw [eK]; simp) (by simp; omega), getE_midS (k := mid + m - 1 - I) (P := P ++ (X1 ++ ((u :: X2') ++ Y1'))) (S := Y2 ++ R) (x := v) (by rw [eK]; simp) (by simp at lX2 lY1 ⊢; omega)] at this
    exact hw.lt_le (hw.le_lt (sY.left.last hw hy) this) (sX.right.head hw hx)
  have f2 : ∀ x ∈ X1, ∀ y ∈ Y2, ltS c y x = false := fun x hx y hy => by
    rcases List.eq_nil_or_concat X1 with h0 | ⟨X1', u, h0⟩
    · rw [h0] at hx; simp at hx
    rcases Y2 with _ | ⟨v, Y2'⟩
    · simp at hy
    rw [List.concat_eq_append] at h0
    subst h0
    have hIr : s0 < I := by
      have : 0 < (v :: Y2').length := by simp
      have : 0 < (X1' ++ [u]).length := by simp
      omega
    have := b3 hIr
    rw [hp (I - 1) (by omega) (by omega)] at this
    rw [getE_midS (k := I - 1) (P := P ++ X1') (S := X2 ++ (Y1 ++ ((v :: Y2') ++ R))) (x := u) (by rw [eK]; simp) (by simp at lX1 ⊢; omega), getE_midS (k := mid + m - 1 - (I - 1)) (P := P ++ ((X1' ++ [u]) ++ (X2 ++ Y1))) (S := Y2' ++ R) (x := v) (by rw [eK]; simp) (by simp at lX1 lY2 ⊢; omega)] at this
    exact hw.le_trans (hw.le_trans (sX.left.last hw hx) this) (sY.right.head hw hy)
  obtain ⟨z1, z2⟩ := sortN_spec hw (X1 ++ Y1)
  obtain ⟨z3, z4⟩ := sortN_spec hw (X2 ++ Y2)
  obtain ⟨z5, z6⟩ := merge_cut hw sX sY f1 f2 z1 z3 z2 z4
  have z7 := sortN_eq hw z5 z6
  obtain ⟨K2, hK2⟩ : ∃ K2, P ++ ((X1 ++ Y1) ++ ((X2 ++ Y2) ++ R)) = K2 := ⟨_, rfl⟩
  obtain ⟨K3, hK3⟩ : ∃ K3, P ++ (sortN (ltS c) (X1 ++ Y1) ++ ((X2 ++ Y2) ++ R)) = K3 := ⟨_, rfl⟩
  obtain ⟨K4, hK4⟩ : ∃ K4, P ++ (sortN (ltS c) ((X1 ++ X2) ++ (Y1 ++ Y2)) ++ R) = K4 := ⟨_, rfl⟩
  have hK4' : (P ++ sortN (ltS c) (X1 ++ Y1)) ++ (sortN (ltS c) (X2 ++ Y2) ++ R) = K4 := by rw [← hK4, ← z7]; simp
  rw [hK4]
  have r1 : ((I < m ∧ m < e) ∧ ACalls Tryz.prog 213 [.osl 1 ver 0 N, iV I, iV m, iV e, .fn cf caps] (srtS B ver K) (.tup []) (srtS B ver K2)) ∨ (¬ (I < m ∧ m < e) ∧ K = K2) := by
    by_cases c1 : I < m ∧ m < e
    · left
      refine ⟨c1, ?_⟩
      have := A_rotateS (B := B) (ver := ver) (N := N) (cf := cf) (caps := caps) (a := I) (m := m) (b := e) (P := P ++ X1) (U := X2) (V := Y1) (S := Y2 ++ R) (by rw [show (P ++ X1) ++ (X2 ++ (Y1 ++ (Y2 ++ R))) = K by rw [eK]; simp]; exact hN) (by rw [show (P ++ X1) ++ (X2 ++ (Y1 ++ (Y2 ++ R))) = K by rw [eK]; simp]; exact hL) (by simp; omega) (by simp; omega) (by omega) (by omega) (by omega) (by omega)
      rw [show (P ++ X1) ++ (X2 ++ (Y1 ++ (Y2 ++ R))) = K by rw [eK]; simp, show (P ++ X1) ++ (Y1 ++ (X2 ++ (Y2 ++ R))) = K2 by rw [← hK2]; simp] at this
      exact this
    · right
      refine ⟨c1, ?_⟩
      rw [eK, ← hK2]
      by_cases h0 : I < m
      · have : Y1 = [] := List.eq_nil_of_length_eq_zero (by omega)
        subst this; simp
      · have : X2 = [] := List.eq_nil_of_length_eq_zero (by omega)
        subst this; simp
  have hl2 : K2.length = K.length := by rw [← hK2, eK]; simp; omega
  have hl3 : K3.length = K.length := by rw [← hK3, eK]; simp [sortN_len]; omega
  have r2 : ((a < I ∧ I < mid) ∧ ACalls Tryz.prog 180 [.osl 1 ver 0 N, iV a, iV I, iV mid, .fn cf caps] (srtS B ver K2) (.tup []) (srtS B ver K3)) ∨ (¬ (a < I ∧ I < mid) ∧ K2 = K3) := by
    by_cases c2 : a < I ∧ I < mid
    · left
      refine ⟨c2, ?_⟩
      have := ih P X1 Y1 ((X2 ++ Y2) ++ R) (by rw [hK2]; exact hl2) (by omega) (by omega) (by omega) (by omega) sX.left sY.left
      rw [ha, show a + X1.length = I by omega, show I + Y1.length = mid by omega, hK2, hK3] at this
      exact this
    · right
      refine ⟨c2, ?_⟩
      rw [← hK2, ← hK3]
      by_cases h0 : a < I
      · have : Y1 = [] := List.eq_nil_of_length_eq_zero (by omega)
        subst this
        rw [List.append_nil, sortN_self hw sX.left]
      · have : X1 = [] := List.eq_nil_of_length_eq_zero (by omega)
        subst this
        rw [List.nil_append, sortN_self hw sY.left]
  have r3 : ((mid < e ∧ e < b) ∧ ACalls Tryz.prog 180 [.osl 1 ver 0 N, iV mid, iV e, iV b, .fn cf caps] (srtS B ver K3) (.tup []) (srtS B ver K4)) ∨ (¬ (mid < e ∧ e < b) ∧ K3 = K4) := by
    have lP : (P ++ sortN (ltS c) (X1 ++ Y1)).length = mid := by simp [sortN_len]; omega
    by_cases c3 : mid < e ∧ e < b
    · left
      refine ⟨c3, ?_⟩
      have e3 : (P ++ sortN (ltS c) (X1 ++ Y1)) ++ ((X2 ++ Y2) ++ R) = K3 := by rw [← hK3]; simp
      have := ih (P ++ sortN (ltS c) (X1 ++ Y1)) X2 Y2 R (by rw [e3]; exact hl3) (by omega) (by omega) (by omega) (by omega) sX.right sY.right
      rw [lP, show mid + X2.length = e by omega, show e + Y2.length = b by omega, e3, hK4'] at this
      exact this
    · right
      refine ⟨c3, ?_⟩
      rw [← hK3, ← hK4']
      by_cases h0 : mid < e
      · have : Y2 = [] := List.eq_nil_of_length_eq_zero (by omega)
        subst this
        rw [List.append_nil, sortN_self hw sX.right]; simp
      · have : X2 = [] := List.eq_nil_of_length_eq_zero (by omega)
        subst this
        rw [List.nil_append, sortN_self hw sY.right]; simp
  clear ih f1 f2 b3 b4 z1 z2 z3 z4 z5 z6 z7 hK hK2 hK3 hK4 hK4' eK sX sY lX1 lX2 lY1 lY2 hl2 hl3
  have hXl : 2 ≤ m - a := by omega
  have hYl : 2 ≤ b - m := by omega
  refine acalls_of_bodyS Tryz.func180 rfl (Nat.le_of_ble_eq_true rfl) ?_
  (repeat' (first
  | (apply W.qd; (first
    | ((apply q_convU; (iterate 3 exact rfl); assumption; omega))|(apply q_mv; (conv => lhs; whnf))|(apply q_as; (conv => lhs; whnf))|(apply q_gtr; exact rfl; exact rfl)|(apply q_eql; exact rfl; exact rfl)|(apply q_add; exact rfl; exact rfl; omega)|(apply q_sub; exact rfl; exact rfl; omega)|(apply q_convI; (iterate 3 exact rfl); omega)
    | (apply q_shrN; exact rfl; exact rfl; (first | (with_reducible exact rfl) | exact natI_spec rfl | assumption | exact (Int.toNat_of_nonneg (by omega)).symm); (first | (with_reducible exact rfl) | exact natI_spec rfl | assumption | exact (Int.toNat_of_nonneg (by omega)).symm); focus (show _ ≤ 64; omega))))|(apply yA)|(apply yB)|(apply (W.regionS 32); exact rfl; kernel_rfl)|(apply yE)|(apply yH)
  | (refine W.cond _ rfl (fun hb => ?_) (fun hb => ?_) <;> ((try simp only [hb, zA, zB]) <;> (try simp only [zC, zD, zE, zF, zG, zH, zI, zJ] at hb) <;> (try (exfalso; omega))))))
  all_goals
    refine AWP.wkE ⟨[(20, iV s0), (21, iV r0), (18, iV mid), (19, iV (mid + m : Nat)), (0, .osl 1 ver 0 N), (1, iV a), (2, iV m), (3, iV b), (4, .fn cf caps)], srtS B ver K⟩ ⟨rfl, iV_eq (by omega), iV_eq (by omega), iV_eq (by omega), iV_eq (by omega), rfl, rfl, rfl, rfl, rfl, trivial⟩ ?_
    clear hb
    (repeat' (first
  | (apply W.qd; (first
    | (apply q_mv; (conv => lhs; whnf))|(apply q_as; (conv => lhs; whnf))
    | (apply q_sub; exact rfl; exact rfl; omega)))|(apply yA)|(apply yB)|(apply yC; kernel_rfl)|(apply yE)
  | (apply yG)))
    refine AWP.loopE (α := Nat × Nat) (fun q => s0 ≤ q.1 ∧ q.1 ≤ q.2 ∧ q.2 ≤ r0 ∧ bsN Q q.1 q.2 = I) (fun q => ⟨[(20, iV q.1), (21, iV q.2), (22, iV (mid + m - 1 : Nat)), (18, iV mid), (19, iV (mid + m : Nat)), (0, .osl 1 ver 0 N), (1, iV a), (2, iV m), (3, iV b), (4, .fn cf caps)], srtS B ver K⟩) (fun q => q.2 - q.1) (s0, r0) ⟨Nat.le_refl _, hsr, Nat.le_refl _, hI⟩ ⟨rfl, rfl, rfl, iV_eq (by omega), rfl, rfl, rfl, rfl, rfl, rfl, rfl, trivial⟩ fun q hq => ?_
    obtain ⟨i, j⟩ := q
    obtain ⟨h1, h2, h3, h4⟩ := hq
    dsimp only at h1 h2 h3 h4 ⊢
    clear hI
    by_cases hij : i < j
    · have eh := halfS i j
      have eij : (i : Int) + (j : Int) = ((i + j : Nat) : Int) := by omega
      have hh : (i + j) >>> 1 < K.length := by omega
      have hh2 : mid + m - 1 - (i + j) >>> 1 < K.length := by omega
      have epc : ((mid + m - 1 : Nat) : Int) - (((i + j) >>> 1 : Nat) : Int) = ((mid + m - 1 - (i + j) >>> 1 : Nat) : Int) := by omega
      have hcall := hcl (K[mid + m - 1 - (i + j) >>> 1]) (K[(i + j) >>> 1]) ver (K.map seD)
      have hQh : Q ((i + j) / 2) = ltS c (K[mid + m - 1 - (i + j) >>> 1]) (K[(i + j) >>> 1]) := by rw [← eh]; exact hp _ hh hh2
      by_cases hlt : c (K[mid + m - 1 - (i + j) >>> 1]) (K[(i + j) >>> 1]) < 0
      · have hlt' : ltS c (K[mid + m - 1 - (i + j) >>> 1]) (K[(i + j) >>> 1]) = true := decide_eq_true hlt
        rw [hlt'] at hQh
        rw [bs_left hij hQh] at h4
        clear hcl hp r1 r2 r3
        (repeat' (first
  | (apply W.qd; (first
    | ((apply q_convU; (iterate 3 exact rfl); assumption; omega))|(apply q_mv; (conv => lhs; whnf))|(apply q_as; (conv => lhs; whnf))|(apply q_lss; exact rfl; exact rfl)|(apply q_not; exact rfl)|(apply q_add; exact rfl; exact rfl; omega)|(apply q_sub; exact rfl; exact rfl; omega)|(apply q_convI; (iterate 3 exact rfl); omega)|(apply q_shrN; exact rfl; exact rfl; (first | (with_reducible exact rfl) | exact natI_spec rfl | assumption | exact (Int.toNat_of_nonneg (by omega)).symm); (first | (with_reducible exact rfl) | exact natI_spec rfl | assumption | exact (Int.toNat_of_nonneg (by omega)).symm); focus (show _ ≤ 64; omega))|(apply q_ix_osl0; (iterate 4 exact rfl); (first | (with_reducible exact rfl) | exact natI_spec rfl | assumption | exact (Int.toNat_of_nonneg (by omega)).symm); (first | omega | (focus (simp only [List.length_map]; omega)) | (focus (simp; done)) | (focus (simp; omega))))
    | (apply q_ld_rptsm; (iterate 4 exact rfl); (first | omega | (focus (simp only [List.length_map]; omega)) | (focus (simp; done)) | (focus (simp; omega))))))|(apply W.ed; (apply (e_callS (hcall)); exact rfl; exact rfl; (first | assumption | kernel_rfl)))|(apply yA)|(apply yB)|(apply yC; kernel_rfl)|(apply yD; exact rfl; kernel_rfl)|(apply yE)|(apply yF; kernel_rfl)|(apply yG)|(apply yH)|(apply yL)
  | (refine W.cond _ rfl (fun hb => ?_) (fun hb => ?_) <;> ((try simp only [hb, zA, zB]) <;> (try simp only [zC, zD, zE, zF, zG, zH, zI, zJ] at hb) <;> (try (exfalso; omega))))))
        exact ⟨(i, (i + j) / 2), ⟨h1, by dsimp only; omega, by dsimp only; omega, h4⟩, by dsimp only; omega, rfl, rfl, iV_eq (by dsimp only; omega), rfl, rfl, rfl, rfl, rfl, rfl, rfl, rfl, trivial⟩
      · have hlt' : ltS c (K[mid + m - 1 - (i + j) >>> 1]) (K[(i + j) >>> 1]) = false := decide_eq_false hlt
        rw [hlt'] at hQh
        rw [bs_right hij hQh] at h4
        clear hcl hp r1 r2 r3
        (repeat' (first
  | (apply W.qd; (first
    | ((apply q_convU; (iterate 3 exact rfl); assumption; omega))|(apply q_mv; (conv => lhs; whnf))|(apply q_as; (conv => lhs; whnf))|(apply q_lss; exact rfl; exact rfl)|(apply q_not; exact rfl)|(apply q_add; exact rfl; exact rfl; omega)|(apply q_sub; exact rfl; exact rfl; omega)|(apply q_convI; (iterate 3 exact rfl); omega)|(apply q_shrN; exact rfl; exact rfl; (first | (with_reducible exact rfl) | exact natI_spec rfl | assumption | exact (Int.toNat_of_nonneg (by omega)).symm); (first | (with_reducible exact rfl) | exact natI_spec rfl | assumption | exact (Int.toNat_of_nonneg (by omega)).symm); focus (show _ ≤ 64; omega))|(apply q_ix_osl0; (iterate 4 exact rfl); (first | (with_reducible exact rfl) | exact natI_spec rfl | assumption | exact (Int.toNat_of_nonneg (by omega)).symm); (first | omega | (focus (simp only [List.length_map]; omega)) | (focus (simp; done)) | (focus (simp; omega))))
    | (apply q_ld_rptsm; (iterate 4 exact rfl); (first | omega | (focus (simp only [List.length_map]; omega)) | (focus (simp; done)) | (focus (simp; omega))))))|(apply W.ed; (apply (e_callS (hcall)); exact rfl; exact rfl; (first | assumption | kernel_rfl)))|(apply yA)|(apply yB)|(apply yC; kernel_rfl)|(apply yD; exact rfl; kernel_rfl)|(apply yE)|(apply yF; kernel_rfl)|(apply yG)|(apply yH)|(apply yL)
  | (refine W.cond _ rfl (fun hb => ?_) (fun hb => ?_) <;> ((try simp only [hb, zA, zB]) <;> (try simp only [zC, zD, zE, zF, zG, zH, zI, zJ] at hb) <;> (try (exfalso; omega))))))
        exact ⟨((i + j) / 2 + 1, j), ⟨by dsimp only; omega, by dsimp only; omega, h3, h4⟩, by dsimp only; omega, rfl, iV_eq (by dsimp only; omega), rfl, rfl, rfl, rfl, rfl, rfl, rfl, rfl, rfl, trivial⟩
    · rw [bs_done Q hij] at h4
      subst h4
      clear hcl hp
      (repeat' (first
  | (apply W.qd; (first
    | (apply q_mv; (conv => lhs; whnf))|(apply q_as; (conv => lhs; whnf))|(apply q_lss; exact rfl; exact rfl)
    | (apply q_sub; exact rfl; exact rfl; omega)))|(apply yA)|(apply yB)|(apply (W.regionS 39); exact rfl; kernel_rfl)|(apply yE)|(apply yI)|(apply yK)|(apply yM)
  | (refine W.cond _ rfl (fun hb => ?_) (fun hb => ?_) <;> ((try simp only [hb, zA, zB]) <;> (try simp only [zC, zD, zE, zF, zG, zH, zI, zJ] at hb) <;> (try (exfalso; omega))))))
      refine AWP.wkE ⟨[(24, iV e), (20, iV i), (18, iV mid), (0, .osl 1 ver 0 N), (1, iV a), (2, iV m), (3, iV b), (4, .fn cf caps)], srtS B ver K⟩ ⟨rfl, iV_eq (by omega), rfl, rfl, rfl, rfl, rfl, rfl, rfl, trivial⟩ ?_
      rcases r1 with ⟨c1, q1⟩ | ⟨c1, rfl⟩ <;> rcases r2 with ⟨c2, q2⟩ | ⟨c2, rfl⟩ <;> rcases r3 with ⟨c3, q3⟩ | ⟨c3, rfl⟩
      all_goals (
        (repeat' (first
  | (apply yFb; exact rfl; exact rfl)
  | (apply W.qd; (first
    | (apply q_mv; (conv => lhs; whnf))|(apply q_lss; exact rfl; exact rfl)|(apply (yEb (u := .d _)); exact rfl; exact rfl)
    | (apply (yDb (u := .d _)); exact rfl; exact rfl)))
  | (apply W.ed; (first
    | ((exact e_callA q1 rfl rfl rfl))
    | ((exact e_callA q2 rfl rfl rfl))
    | ((exact e_callA q3 rfl rfl rfl))))|(refine W.gOff _ _ rfl rfl (by intro h; cases h) ?_)|(apply yA)|(apply yB)|(apply yC; kernel_rfl)|(apply yE)|(apply yH)|(apply yR; exact rfl)|(refine W.gT _ _ rfl rfl (fun hb => ?_) (fun hb => ?_) <;> ((try simp only [hb, zA, zB]) <;> (try simp only [zC, zD, zE, zF, zG, zH, zI, zJ] at hb) <;> (try (exfalso; omega))))
  | (refine W.cond _ rfl (fun hb => ?_) (fun hb => ?_) <;> ((try simp only [hb, zA, zB]) <;> (try simp only [zC, zD, zE, zF, zG, zH, zI, zJ] at hb) <;> (try (exfalso; omega))))))
        all_goals exact ⟨.inr rfl, [], trivial, AVle.of_eq rfl, rfl⟩)
theorem A_symS (hc : CmpS cf caps B c) (T : Nat) (hT : T ≤ 1000000) (hN : N ≤ T) : ∀ (n : Nat) (P X Y R : List Se), (P ++ ((X ++ Y) ++ R)).length = T → X.length + Y.length ≤ n → 0 < X.length → 0 < Y.length → P.length + X.length + Y.length ≤ N → Srt (ltS c) X → Srt (ltS c) Y → SymS c cf caps B ver N P X Y R
  | 0, P, X, Y, R, hl, hn, h1, h2, hb, sX, sY => by omega
  | n + 1, P, X, Y, R, hl, hn, h1, h2, hb, sX, sY => by
    by_cases hx : X.length = 1
    · match X, hx with
      | [x], _ =>
        unfold SymS
        exact A_mergeLS hc (by omega) (by omega) rfl rfl rfl hb sY
    · by_cases hy : Y.length = 1
      · match Y, hy with
        | [y], _ =>
          unfold SymS
          exact A_mergeRS hc (by omega) (by omega) rfl rfl rfl hb sX (by omega)
      · exact A_symStepS hc (by omega) (by omega) hb (by omega) (by omega) sX sY fun P' X' Y' R' k1 k2 k3 k4 k5 k6 k7 => A_symS hc T hT hN n P' X' Y' R' (k1.trans hl) (by omega) k3 k4 k5 k6 k7
end
end Go.Proofs.YtcljokdiblnhiaaGreatDoor
end
section
namespace Go.Proofs.YtcljokdiblnhiaaGreatDoor
open Go.RowKit
set_option maxHeartbeats 4000000
set_option maxRecDepth 100000
attribute [local irreducible] Quiet Eff OpOk AWPG ACont ABlock ACalls AGoto
section
variable {B : Ent} {cf : FuncId} {caps : List AV} {c : Se → Se → Int} {ver : Nat}
theorem A_stableS {n : Nat} {X R : List Se} (hc : CmpS cf caps B c) (hn : X.length = n) (hL : (X ++ R).length ≤ 1000000) :
    ACalls Tryz.prog 129 [.osl 1 ver 0 n, iV n, .fn cf caps] (srtS B ver (X ++ R)) (.tup []) (srtS B ver (sortN (ltS c) X ++ R)) := by
  have hw := hc.weak
  obtain ⟨T, hT⟩ : ∃ T, (X ++ R).length = T := ⟨_, rfl⟩
  have hT2 : n + R.length = T := by rw [← hT, List.length_append, hn]
  rw [hT] at hL
  refine acalls_of_bodyS Tryz.func129 rfl (Nat.le_of_ble_eq_true rfl) ?_
  (repeat' (first
  | (apply W.qd; (first
    | (apply q_mv; (conv => lhs; whnf))
    | (apply q_as; (conv => lhs; whnf))))|(apply yA)|(apply yB)|(apply yC; kernel_rfl)|(apply yE)
  | (apply yG)))
  refine AWP.loopE (α := List Se × Nat) (fun p => p.2 ≤ n ∧ (∃ k, p.2 = k * 20) ∧ ∃ Q : List Se, Q.length = p.2 ∧ p.1 = Q ++ (X.drop p.2 ++ R) ∧ Stb (ltS c) (X.take p.2) Q ∧ Blk (ltS c) 20 Q) (fun p => ⟨[(7, iV p.2), (8, iV ((p.2 : Int) + 20)), (6, iV 20), (0, .osl 1 ver 0 n), (1, iV n), (2, .fn cf caps)], srtS B ver p.1⟩) (fun p => n + 1 - p.2) (X ++ R, 0) ⟨Nat.zero_le _, ⟨0, rfl⟩, [], rfl, by simp, Stb.refl _, blk_nil _ _⟩ ⟨rfl, by (repeat (first | exact trivial | refine ⟨rfl, ?_⟩))⟩ fun p hp => ?_
  obtain ⟨K, a⟩ := p
  obtain ⟨h1, ⟨k, h2⟩, Q, h3, h4, h5, h6⟩ := hp
  dsimp only at h1 h2 h3 h4 h5 ⊢
  by_cases hab : a + 20 ≤ n
  · have eX : X.drop a = (X.drop a).take 20 ++ X.drop (a + 20) := by rw [← List.drop_drop, List.take_append_drop]
    have el : ((X.drop a).take 20).length = 20 := by rw [List.length_take, List.length_drop]; omega
    have eK : Q ++ ((X.drop a).take 20 ++ (X.drop (a + 20) ++ R)) = K := by rw [h4, ← List.append_assoc ((X.drop a).take 20), ← eX]
    have hKl : K.length = T := by rw [h4]; simp; omega
    have hins := A_insSortS (ver := ver) (N := n) (a := a) (b := a + 20) (P := Q) (S := (X.drop a).take 20) (R := X.drop (a + 20) ++ R) hc (by rw [eK]; omega) (by rw [eK]; omega) h3 (by rw [el]) hab
    rw [eK] at hins
    have e20 : iV ((a + 20 : Nat) : Int) = iV ((a : Int) + 20) := iV_eq (by omega)
    rw [e20] at hins
    obtain ⟨k1, k2⟩ := sortN_spec hw ((X.drop a).take 20)
    have hpre : a + 20 ≤ n ∧ (∃ k, a + 20 = k * 20) ∧ ∃ Q' : List Se, Q'.length = a + 20 ∧ Q ++ (sortN (ltS c) ((X.drop a).take 20) ++ (X.drop (a + 20) ++ R)) = Q' ++ (X.drop (a + 20) ++ R) ∧ Stb (ltS c) (X.take (a + 20)) Q' ∧ Blk (ltS c) 20 Q' := by
      refine ⟨hab, ⟨k + 1, by omega⟩, Q ++ sortN (ltS c) ((X.drop a).take 20), by rw [List.length_append, sortN_len, el, h3], by simp, ?_, blk_app h6 (h3.trans h2) (by rw [sortN_len, el]; omega) k1⟩
      rw [List.take_add]
      exact h5.app k2
    generalize Q ++ (sortN (ltS c) ((X.drop a).take 20) ++ (X.drop (a + 20) ++ R)) = K' at hins hpre
    clear eX el eK h5 h6 h4 k1 k2
    (repeat' (first
  | (apply W.qd; (first
    | (apply q_mv; (conv => lhs; whnf))|(apply q_as; (conv => lhs; whnf))|(apply q_leq; exact rfl; exact rfl)
    | (apply q_add; exact rfl; exact rfl; omega)))|(apply W.ed; ((exact e_callA hins rfl rfl rfl)))|(apply yA)|(apply yB)|(apply yC; kernel_rfl)|(apply yE)|(apply yG)|(apply yH)|(apply yL)
  | (refine W.cond _ rfl (fun hb => ?_) (fun hb => ?_) <;> ((try simp only [hb, zA, zB]) <;> (try simp only [zC, zD, zE, zF, zG, zH, zI, zJ] at hb) <;> (try (exfalso; omega))))))
    exact ⟨(K', a + 20), hpre, by dsimp only; omega, rfl, iV_eq (by dsimp only; omega), iV_eq (by dsimp only; omega), rfl, rfl, rfl, rfl, trivial⟩
  · have hKl : K.length = T := by rw [h4]; simp; omega
    have hins := A_insSortS (ver := ver) (N := n) (a := a) (b := n) (P := Q) (S := X.drop a) (R := R) hc (by rw [← h4]; omega) (by rw [← h4]; omega) h3 (by rw [List.length_drop]; omega) (Nat.le_refl _)
    rw [← h4] at hins
    obtain ⟨k1, k2⟩ := sortN_spec hw (X.drop a)
    have hpre : 20 ≤ 20 ∧ 20 ≤ 4000000 ∧ ∃ Y : List Se, Y.length = n ∧ Q ++ (sortN (ltS c) (X.drop a) ++ R) = Y ++ R ∧ Stb (ltS c) X Y ∧ Blk (ltS c) 20 Y := by
      refine ⟨Nat.le_refl _, by omega, Q ++ sortN (ltS c) (X.drop a), by rw [List.length_append, sortN_len, List.length_drop]; omega, by simp, ?_, blk_app h6 (h3.trans h2) (by rw [sortN_len, List.length_drop]; omega) k1⟩
      have := h5.app k2
      rwa [List.take_append_drop] at this
    generalize Q ++ (sortN (ltS c) (X.drop a) ++ R) = K' at hins hpre
    clear h5 h6 h4 k1 k2
    (repeat' (first
  | (apply W.qd; (first
    | (apply q_mv; (conv => lhs; whnf))
    | (apply q_leq; exact rfl; exact rfl)))|(apply W.ed; ((exact e_callA hins rfl rfl rfl)))|(apply yA)|(apply yB)|(apply yC; kernel_rfl)|(apply yE)|(apply yG)|(apply yI)|(apply yK)|(apply yM)
  | (refine W.cond _ rfl (fun hb => ?_) (fun hb => ?_) <;> ((try simp only [hb, zA, zB]) <;> (try simp only [zC, zD, zE, zF, zG, zH, zI, zJ] at hb) <;> (try (exfalso; omega))))))
    clear hins h3 h2
    refine AWP.loopE (α := List Se × Nat) (fun p => 20 ≤ p.2 ∧ p.2 ≤ 4000000 ∧ ∃ Y : List Se, Y.length = n ∧ p.1 = Y ++ R ∧ Stb (ltS c) X Y ∧ Blk (ltS c) p.2 Y) (fun p => ⟨[(6, iV p.2), (0, .osl 1 ver 0 n), (1, iV n), (2, .fn cf caps)], srtS B ver p.1⟩) (fun p => n - p.2) (K', 20) hpre ⟨rfl, by (repeat (first | exact trivial | refine ⟨rfl, ?_⟩))⟩ fun p hp => ?_
    clear hpre hKl hab h1
    obtain ⟨K1, s⟩ := p
    obtain ⟨g1, g2, Y, g3, g4, g5, g6⟩ := hp
    dsimp only at g1 g2 g3 g4 g5 g6 ⊢
    have hK1 : K1.length = T := by rw [g4, List.length_append]; omega
    by_cases hsn : s < n
    · (repeat' (first
  | (apply W.qd; (first
    | (apply q_mv; (conv => lhs; whnf))|(apply q_as; (conv => lhs; whnf))|(apply q_lss; exact rfl; exact rfl)
    | (apply q_mul; exact rfl; exact rfl; (first | omega | assumption))))|(apply yA)|(apply yB)|(apply yC; kernel_rfl)|(apply yE)|(apply yG)|(apply yH)
  | (refine W.cond _ rfl (fun hb => ?_) (fun hb => ?_) <;> ((try simp only [hb, zA, zB]) <;> (try simp only [zC, zD, zE, zF, zG, zH, zI, zJ] at hb) <;> (try (exfalso; omega))))))
      refine AWP.loopE (α := List Se × Nat) (fun p => p.2 ≤ n ∧ (∃ k, p.2 = k * (2 * s)) ∧ ∃ Q : List Se, Q.length = p.2 ∧ p.1 = Q ++ (Y.drop p.2 ++ R) ∧ Stb (ltS c) (Y.take p.2) Q ∧ Blk (ltS c) (2 * s) Q) (fun p => ⟨[(7, iV p.2), (8, iV ((p.2 : Int) + 2 * (s : Int))), (6, iV s), (0, .osl 1 ver 0 n), (1, iV n), (2, .fn cf caps)], srtS B ver p.1⟩) (fun p => n + 1 - p.2) (K1, 0) ⟨Nat.zero_le _, ⟨0, by simp⟩, [], rfl, by simpa using g4, Stb.refl _, blk_nil _ _⟩ ⟨rfl, rfl, iV_eq (by dsimp only; omega), rfl, rfl, rfl, rfl, trivial⟩ fun p hp => ?_
      obtain ⟨K2, a⟩ := p
      obtain ⟨q1, ⟨k, q2⟩, Q, q3, q4, q5, q6⟩ := hp
      dsimp only at q1 q2 q3 q4 q5 ⊢
      have hK2 : K2.length = T := by rw [q4]; simp; omega
      have e1 : (2 * k) * s = a := by rw [q2, Nat.mul_comm 2 k, Nat.mul_assoc]
      have e2 : (2 * k + 1) * s = a + s := by rw [Nat.add_mul, Nat.one_mul, e1]
      have e3 : (k + 1) * (2 * s) = a + 2 * s := by rw [Nat.succ_mul, q2]
      have b1 := g6 (2 * k)
      have b2 := g6 (2 * k + 1)
      rw [e1] at b1
      rw [e2] at b2
      by_cases hab : a + 2 * s ≤ n
      · have l1 : ((Y.drop a).take s).length = s := by rw [List.length_take, List.length_drop]; omega
        have l2 : ((Y.drop (a + s)).take s).length = s := by rw [List.length_take, List.length_drop]; omega
        have eY2 : (Y.drop a).take s ++ (Y.drop (a + s)).take s = (Y.drop a).take (2 * s) := by
          rw [show 2 * s = s + s by omega, List.take_add, List.drop_drop]
        have eY : Y.drop a = (Y.drop a).take (2 * s) ++ Y.drop (a + 2 * s) := by rw [← List.drop_drop, List.take_append_drop]
        have eK : Q ++ (((Y.drop a).take s ++ (Y.drop (a + s)).take s) ++ (Y.drop (a + 2 * s) ++ R)) = K2 := by rw [eY2, q4, ← List.append_assoc ((Y.drop a).take (2 * s)), ← eY]
        have hsy := A_symS (ver := ver) (N := n) hc T hL (by omega) _ Q _ _ (Y.drop (a + 2 * s) ++ R) (by rw [eK]; exact hK2) (Nat.le_refl _) (by omega) (by omega) (by omega) b1 b2
        unfold SymS at hsy
        rw [eK, q3, l1, l2, eY2] at hsy
        have ea1 : iV ((a + s : Nat) : Int) = iV ((a : Int) + (s : Int)) := iV_eq (by omega)
        have ea2 : iV ((a + s + s : Nat) : Int) = iV ((a : Int) + 2 * (s : Int)) := iV_eq (by omega)
        rw [ea1, ea2] at hsy
        obtain ⟨k1, k2⟩ := sortN_spec hw ((Y.drop a).take (2 * s))
        have l3 : ((Y.drop a).take (2 * s)).length = 2 * s := by rw [List.length_take, List.length_drop]; omega
        have hpre : a + 2 * s ≤ n ∧ (∃ k, a + 2 * s = k * (2 * s)) ∧ ∃ Q' : List Se, Q'.length = a + 2 * s ∧ Q ++ (sortN (ltS c) ((Y.drop a).take (2 * s)) ++ (Y.drop (a + 2 * s) ++ R)) = Q' ++ (Y.drop (a + 2 * s) ++ R) ∧ Stb (ltS c) (Y.take (a + 2 * s)) Q' ∧ Blk (ltS c) (2 * s) Q' := by
          refine ⟨hab, ⟨k + 1, e3.symm⟩, Q ++ sortN (ltS c) ((Y.drop a).take (2 * s)), by rw [List.length_append, sortN_len, l3, q3], by simp, ?_, blk_app q6 (q3.trans q2) (by rw [sortN_len, l3]; omega) k1⟩
          rw [List.take_add]
          exact q5.app k2
        generalize Q ++ (sortN (ltS c) ((Y.drop a).take (2 * s)) ++ (Y.drop (a + 2 * s) ++ R)) = K' at hsy hpre
        clear eY eY2 l1 l2 l3 eK q4 q5 q6 k1 k2 b1 b2 g4 g5 g6 e1 e2 e3
        (repeat' (first
  | (apply W.qd; (first
    | (apply q_mv; (conv => lhs; whnf))|(apply q_as; (conv => lhs; whnf))|(apply q_leq; exact rfl; exact rfl)|(apply q_add; exact rfl; exact rfl; omega)
    | (apply q_mul; exact rfl; exact rfl; (first | omega | assumption))))|(apply W.ed; ((exact e_callA hsy rfl rfl rfl)))|(apply yA)|(apply yB)|(apply yC; kernel_rfl)|(apply yE)|(apply yG)|(apply yH)|(apply yL)
  | (refine W.cond _ rfl (fun hb => ?_) (fun hb => ?_) <;> ((try simp only [hb, zA, zB]) <;> (try simp only [zC, zD, zE, zF, zG, zH, zI, zJ] at hb) <;> (try (exfalso; omega))))))
        exact ⟨(K', a + 2 * s), hpre, by dsimp only; omega, rfl, iV_eq (by dsimp only; omega), iV_eq (by dsimp only; omega), rfl, rfl, rfl, rfl, trivial⟩
      · obtain ⟨k1, k2⟩ := sortN_spec hw (Y.drop a)
        have hpre : 20 ≤ 2 * s ∧ 2 * s ≤ 4000000 ∧ ∃ Y' : List Se, Y'.length = n ∧ Q ++ (sortN (ltS c) (Y.drop a) ++ R) = Y' ++ R ∧ Stb (ltS c) X Y' ∧ Blk (ltS c) (2 * s) Y' := by
          refine ⟨by omega, by omega, Q ++ sortN (ltS c) (Y.drop a), by rw [List.length_append, sortN_len, List.length_drop]; omega, by simp, ?_, blk_app q6 (q3.trans q2) (by rw [sortN_len, List.length_drop]; omega) k1⟩
          have := q5.app k2
          rw [List.take_append_drop] at this
          exact g5.trans this
        by_cases hms : a + s < n
        · have l1 : ((Y.drop a).take s).length = s := by rw [List.length_take, List.length_drop]; omega
          rw [List.take_of_length_le (by rw [List.length_drop]; omega)] at b2
          have eY : (Y.drop a).take s ++ Y.drop (a + s) = Y.drop a := by rw [← List.drop_drop, List.take_append_drop]
          have hsy := A_symS (ver := ver) (N := n) hc T hL (by omega) _ Q _ _ R (by rw [eY, ← q4]; exact hK2) (Nat.le_refl _) (by omega) (by rw [List.length_drop]; omega) (by rw [List.length_drop]; omega) b1 b2
          unfold SymS at hsy
          rw [eY, ← q4, q3, l1, show a + s + (Y.drop (a + s)).length = n by rw [List.length_drop]; omega] at hsy
          have ea1 : iV ((a + s : Nat) : Int) = iV ((a : Int) + (s : Int)) := iV_eq (by omega)
          rw [ea1] at hsy
          generalize Q ++ (sortN (ltS c) (Y.drop a) ++ R) = K' at hsy hpre
          clear eY l1 q4 q5 q6 k1 k2 b1 b2 g4 g5 g6 e1 e2 e3
          (repeat' (first
  | (apply W.qd; (first
    | (apply q_mv; (conv => lhs; whnf))|(apply q_as; (conv => lhs; whnf))|(apply q_lss; exact rfl; exact rfl)|(apply q_leq; exact rfl; exact rfl)|(apply q_add; exact rfl; exact rfl; omega)
    | (apply q_mul; exact rfl; exact rfl; (first | omega | assumption))))|(apply W.ed; ((exact e_callA hsy rfl rfl rfl)))|(apply yA)|(apply yB)|(apply yC; kernel_rfl)|(apply yE)|(apply yI)|(apply yK)|(apply yL)|(apply yM)
  | (refine W.cond _ rfl (fun hb => ?_) (fun hb => ?_) <;> ((try simp only [hb, zA, zB]) <;> (try simp only [zC, zD, zE, zF, zG, zH, zI, zJ] at hb) <;> (try (exfalso; omega))))))
          exact ⟨(K', 2 * s), hpre, by dsimp only; omega, rfl, iV_eq (by dsimp only; omega), rfl, rfl, rfl, trivial⟩
        · rw [List.take_of_length_le (by rw [List.length_drop]; omega)] at b1
          rw [sortN_self hw b1, ← q4] at hpre
          clear q4 q5 q6 k1 k2 b1 b2 g4 g5 g6 e1 e2 e3
          (repeat' (first
  | (apply W.qd; (first
    | (apply q_mv; (conv => lhs; whnf))|(apply q_as; (conv => lhs; whnf))|(apply q_lss; exact rfl; exact rfl)|(apply q_leq; exact rfl; exact rfl)|(apply q_add; exact rfl; exact rfl; omega)
    | (apply q_mul; exact rfl; exact rfl; (first | omega | assumption))))|(apply yA)|(apply yB)|(apply yC; kernel_rfl)|(apply yE)|(apply yH)|(apply yI)|(apply yK)|(apply yL)|(apply yM)
  | (refine W.cond _ rfl (fun hb => ?_) (fun hb => ?_) <;> ((try simp only [hb, zA, zB]) <;> (try simp only [zC, zD, zE, zF, zG, zH, zI, zJ] at hb) <;> (try (exfalso; omega))))))
          exact ⟨(K2, 2 * s), hpre, by dsimp only; omega, rfl, iV_eq (by dsimp only; omega), rfl, rfl, rfl, trivial⟩
    · have e := sortN_eq hw (blk_whole g6 (by omega)) g5
      rw [e] at g4
      rw [← g4]
      clear g4 g5 g6
      (repeat' (first
  | (apply W.qd; (first
    | (apply q_mv; (conv => lhs; whnf))
    | (apply q_lss; exact rfl; exact rfl)))|(apply yA)|(apply yB)|(apply yC; kernel_rfl)|(apply yE)|(apply yI)|(apply yK)|(apply yM)
  | (refine W.cond _ rfl (fun hb => ?_) (fun hb => ?_) <;> ((try simp only [hb, zA, zB]) <;> (try simp only [zC, zD, zE, zF, zG, zH, zI, zJ] at hb) <;> (try (exfalso; omega))))))
      exact ⟨.inr rfl, [], trivial, AVle.of_eq rfl, rfl⟩
theorem A_sortStableS {n : Nat} {X R : List Se} (hc : CmpS cf caps B c) (hn : X.length = n) (hL : (X ++ R).length ≤ 1000000) :
    ACalls Tryz.prog 67 [.osl 1 ver 0 n, .fn cf caps] (srtS B ver (X ++ R)) (.tup []) (srtS B ver (sortN (ltS c) X ++ R)) := by
  have h := A_stableS (ver := ver) hc hn hL
  refine acalls_of_bodyS Tryz.func67 rfl (Nat.le_of_ble_eq_true rfl) ?_
  (repeat' (first
  | (apply W.qd; (first
    | (apply q_mv; (conv => lhs; whnf))
    | (apply q_len_osl; (iterate 3 exact rfl))))|(apply W.ed; ((exact e_callA h rfl rfl rfl)))|(apply yC; kernel_rfl)
  | (apply yE)))
  exact ⟨.inr rfl, [], trivial, AVle.of_eq rfl, rfl⟩
end
end Go.Proofs.YtcljokdiblnhiaaGreatDoor
end
section
namespace Go.Proofs.YtcljokdiblnhiaaGreatDoor
open Go.RowKit
set_option maxHeartbeats 4000000
set_option maxRecDepth 100000
def cmpS (x y : Se) : Int := orI [cmpI x.1 y.1, cmpI x.2.1 y.2.1, cmpI x.2.2.1 y.2.2.1]
theorem ltS_iff (a b : Se) : ltS cmpS a b = true ↔ a.1 < b.1 ∨ (a.1 = b.1 ∧ (a.2.1 < b.2.1 ∨ (a.2.1 = b.2.1 ∧ a.2.2.1 < b.2.2.1))) := by
  unfold ltS cmpS
  rw [decide_eq_true_eq, orI_lt, orI_lt, orI_lt, cmpI_lt, cmpI_lt, cmpI_lt, cmpI_eq, cmpI_eq, cmpI_eq]
  have : ¬ (orI [] < 0) := by show ¬ ((0 : Int) < 0); omega
  simp only [this, and_false, or_false]
theorem weakS : Weak (ltS cmpS) where
  irr a := by
    rw [Bool.eq_false_iff, Ne, ltS_iff]
    omega
  trans a b c h1 h2 := by
    rw [ltS_iff] at *
    omega
  neg a b c h1 := by
    rw [ltS_iff] at *
    rw [ltS_iff]
    omega
def otherB (a g u : Int) (x : Se) : Bool := !atB a g u x
def homeB (L : List Int) (u dk : Int) : Bool := decide (0 ≤ u) && (decide (u < L.length) && decide (L.getD u.toNat 0 = dk))
def doneN (L : List Int) (mv : List Se) (a g u dk : Int) : List Se := sortN (ltS cmpS) (if homeB L u dk = true then mv.filter (otherB a g u) else mv.filter (otherB a g u) ++ [(a, g, u, dk)])
theorem doneN_len (L : List Int) (mv : List Se) (a g u dk : Int) : (doneN L mv a g u dk).length ≤ mv.length + 1 := by
  unfold doneN
  rw [sortN_len]
  have h := List.length_filter_le (otherB a g u) mv
  split
  · omega
  · rw [List.length_append, List.length_singleton]; omega
attribute [local irreducible] Quiet Eff OpOk AWPG ACont ABlock ACalls AGoto
theorem A_cmpS {a g u : Int} : CmpS 68 [] (.box [iV a, iV g, iV u]) cmpS where
  isf := by kernel_rfl
  weak := weakS
  call x y ver rows := by
    refine acalls_of_bodyO Tryz.func68 rfl (Nat.le_of_ble_eq_true rfl) ?_
    have hc := A_cmp
    have ho := A_or [cmpI x.1 y.1, cmpI x.2.1 y.2.1, cmpI x.2.2.1 y.2.2.1] (by simp)
    (repeat' (first
  | (apply W.qd; (apply q_as; (conv => lhs; whnf)))|(apply W.ed; (apply yBb; (iterate 3 exact rfl); kernel_rfl; kernel_rfl))|(apply yA)|(apply yB)|(apply (W.regionS 1); exact rfl; kernel_rfl)
  | (apply yE)))
    refine AWP.hole rfl ?_
    refine AWP.hole rfl ?_
    (repeat' (first
  | (apply W.qd; (first
    | (apply (yW (hc _ _)); exact rfl; exact rfl; (iterate 3 kernel_rfl))|(apply (yW (ho)); exact rfl; exact rfl; (iterate 3 kernel_rfl))|(apply q_as; (conv => lhs; whnf))|(apply yS; (iterate 3 exact rfl))|(apply yT; (iterate 4 exact rfl))|(apply yU; (iterate 4 exact rfl))
    | (apply q_litF; (iterate 5 exact rfl); kernel_rfl; kernel_rfl; exact rfl)))|(apply W.ld; (apply l_alloc; (iterate 3 exact rfl); kernel_rfl; kernel_rfl))|(apply W.ln; (apply l_st_box; (iterate 6 exact rfl); (iterate 3 kernel_rfl)))|(apply yA)|(apply yB)|(apply yD; exact rfl; kernel_rfl)|(apply yE)|(apply yF; kernel_rfl)
  | (apply yJ)))
    exact ⟨.inl rfl, [0, 1], [iV (cmpS x y)], rfl, rfl, ⟨rfl, trivial⟩, AVle.of_eq rfl, rfl⟩
theorem A_doneF (x : Se) {a g u : Int} : ACalls Tryz.prog 65 [seA x, .opt 0 0] (untO a g u) (bV (otherB a g u x)) (untO a g u) := by
  refine acalls_of_bodyO Tryz.func65 rfl (Nat.le_of_ble_eq_true rfl) ?_
  (repeat' (first
  | (apply W.qd; (first
    | ((apply (q_neT fi_unit); (iterate 5 exact rfl); exact (show _ = otherB a g u x by unfold otherB atB; rw [Bool.eq_iff_iff]; simp)))|(apply q_as; (conv => lhs; whnf))|(apply yS; (iterate 3 exact rfl))
    | (apply yU; (iterate 4 exact rfl))))|(apply W.ed; (apply yBb; (iterate 3 exact rfl); kernel_rfl; kernel_rfl))|(apply yA)|(apply yB)|(apply yC; kernel_rfl)|(apply yE)
  | (apply yJ)))
  exact ⟨.inl rfl, [0], [bV (otherB a g u x)], rfl, rfl, ⟨rfl, trivial⟩, AVle.of_eq rfl, rfl⟩
theorem A_filterDn {a g u : Int} {L : List Se} (hl : L.length ≤ 1000000) : ACalls Tryz.prog 64 [ses L, .fn 65 [.opt 0 0]] (untO a g u) (.osl 1 (L.filter (otherB a g u)).length 0 (L.filter (otherB a g u)).length) (untO a g u ++ [.row (L.filter (otherB a g u)).length 4 94 ((L.filter (otherB a g u)).map seD)]) := by
  refine acalls_of_bodyO Tryz.func64 rfl (Nat.le_of_ble_eq_true rfl) ?_
  have hc := fun x => A_doneF (a := a) (g := g) (u := u) x
  have hmL : (L.map seD).length = L.length := List.length_map _
  generalize otherB a g u = q at *
  (repeat' (first
  | (apply W.qd; (apply q_as; (conv => lhs; whnf)))|(apply yA)|(apply yB)|(apply (W.regionS 2); exact rfl; kernel_rfl)
  | (apply yE)))
  refine AWP.nilRow 5 4 94 rfl (by omega) ?_
  (repeat' (first
  | (apply W.qd; (first
    | (apply q_mv; (conv => lhs; whnf))
    | (apply yV; exact rfl; exact rfl)))|(apply yB)|(apply (W.regionS 3); exact rfl; kernel_rfl)|(apply yE)
  | (apply yG)))
  refine AWP.loopW (α := Nat) (fun k => k ≤ L.length) (fun k => ⟨[(10, iV k), (9, iV L.length), (8, ses L), (5, .osl 1 ((L.take k).filter q).length 0 ((L.take k).filter q).length), (1, .fn 65 [.opt 0 0])], untO a g u ++ [.row ((L.take k).filter q).length 4 94 (((L.take k).filter q).map seD)]⟩) (fun k => L.length - k) 0 (Nat.zero_le _) ?wkA fun k hk => ?_
  case wkA => exact ⟨[0, 1], rfl, rfl, rfl, rfl, iV_eq (by rw [hmL]), rfl, rfl, rfl, trivial⟩
  have hfl : ((L.take k).filter q).length ≤ k := Nat.le_trans (List.length_filter_le _ _) (by rw [List.length_take]; omega)
  by_cases hkl : k < L.length
  · have hx := hc L[k]
    have hst : (L.take (k + 1)).filter q = (L.take k).filter q ++ (if q L[k] = true then [L[k]] else []) := by
      rw [List.take_succ_eq_append_getElem hkl, List.filter_append]
      congr 1
      cases hq : q L[k] <;> simp [hq]
    generalize (L.take k).filter q = A at *
    cases hq : q L[k] with
    | false =>
      rw [hq] at hx hst
      rw [if_neg (by simp), List.append_nil] at hst
      (repeat' (first
  | (apply W.qd; (first
    | (apply q_mv; (conv => lhs; whnf))|(apply yU; (iterate 4 exact rfl))|(apply q_lss; exact rfl; exact rfl)|(apply q_add; exact rfl; exact rfl; omega)|(apply yY; (iterate 3 exact rfl); (first | omega | (focus (simp; done))))
    | (apply yGb; (iterate 4 exact rfl); (first | (with_reducible exact rfl) | exact natI_spec rfl | assumption | exact (Int.toNat_of_nonneg (by omega)).symm); (first | omega | (focus (simp only [List.length_map]; omega)) | (focus (simp; done)) | (focus (simp; omega))))))
  | (apply W.ed; (first
    | (apply (e_callJ (js := [0]) (hx)); (iterate 5 exact rfl); kernel_rfl; kernel_rfl)
    | (apply yCb; (iterate 3 exact rfl); kernel_rfl)))|(apply W.ln; (apply l_st_box; (iterate 6 exact rfl); (iterate 3 kernel_rfl)))|(apply yA)|(apply yB)|(apply yC; kernel_rfl)|(apply yE)|(apply yG)|(apply yH)|(apply yL)|(apply yR; exact rfl)
  | (refine W.cond _ rfl (fun hb => ?_) (fun hb => ?_) <;> ((try simp only [hb, zA, zB]) <;> (try simp only [zC, zD, zE, zF, zG, zH, zI, zJ] at hb) <;> (try (exfalso; omega))))))
      all_goals (refine ⟨k + 1, by omega, by omega, ?_⟩; rw [hst]; exact ⟨[0, 1], rfl, rfl, rfl, iV_eq (by omega), rfl, rfl, rfl, rfl, trivial⟩)
    | true =>
      rw [hq] at hx hst
      rw [if_pos rfl] at hst
      have el : (A ++ [L[k]]).length = A.length + 1 := by simp
      (repeat' (first
  | (apply W.qd; (first
    | (apply q_mv; (conv => lhs; whnf))|(apply q_as; (conv => lhs; whnf))|(apply yU; (iterate 4 exact rfl))|(apply q_lss; exact rfl; exact rfl)|(apply q_add; exact rfl; exact rfl; omega)|(apply yY; (iterate 3 exact rfl); (first | omega | (focus (simp; done))))|(apply q_litF; (iterate 5 exact rfl); kernel_rfl; kernel_rfl; exact rfl)
    | (apply yGb; (iterate 4 exact rfl); (first | (with_reducible exact rfl) | exact natI_spec rfl | assumption | exact (Int.toNat_of_nonneg (by omega)).symm); (first | omega | (focus (simp only [List.length_map]; omega)) | (focus (simp; done)) | (focus (simp; omega))))))|(apply W.ld; (apply l_app1; (iterate 8 exact rfl); (first | omega | (focus (simp; omega)) | (focus (simp; done)))))
  | (apply W.ed; (first
    | (apply (e_callJ (js := [0]) (hx)); (iterate 5 exact rfl); kernel_rfl; kernel_rfl)
    | (apply yCb; (iterate 3 exact rfl); kernel_rfl)))|(apply W.ln; (apply l_st_box; (iterate 6 exact rfl); (iterate 3 kernel_rfl)))|(apply yA)|(apply yB)|(apply yC; kernel_rfl)|(apply yE)|(apply yG)|(apply yH)|(apply yL)|(apply yQ; exact rfl)
  | (refine W.cond _ rfl (fun hb => ?_) (fun hb => ?_) <;> ((try simp only [hb, zA, zB]) <;> (try simp only [zC, zD, zE, zF, zG, zH, zI, zJ] at hb) <;> (try (exfalso; omega))))))
      all_goals (refine ⟨k + 1, by omega, by omega, ?_⟩; rw [hst, el]; exact ⟨[0, 1], rfl, rfl, rfl, iV_eq (by omega), rfl, rfl, congrArg (AV.osl 1 (A.length + 1) 0) (by simp), rfl, trivial⟩)
  · obtain rfl : k = L.length := by omega
    rw [List.take_length] at *
    generalize L.filter q = A at *
    (repeat' (first
  | (apply W.qd; (first
    | (apply q_mv; (conv => lhs; whnf))|(apply q_as; (conv => lhs; whnf))
    | (apply q_lss; exact rfl; exact rfl)))|(apply yA)|(apply yB)|(apply yC; kernel_rfl)|(apply yE)|(apply yI)|(apply yJ)|(apply yK)|(apply yM)
  | (refine W.cond _ rfl (fun hb => ?_) (fun hb => ?_) <;> ((try simp only [hb, zA, zB]) <;> (try simp only [zC, zD, zE, zF, zG, zH, zI, zJ] at hb) <;> (try (exfalso; omega))))))
    exact ⟨.inl rfl, [0, 1], [.osl 1 A.length 0 A.length], rfl, rfl, ⟨rfl, trivial⟩, AVle.of_eq rfl, rfl⟩
theorem A_done {d r n s l i wd a g u dk : Int} {mv : List Se} (hm : mv.length ≤ 900000) : ACalls Tryz.prog 29 [cfgA d r n s l i, iV wd, ses mv, .agg [iV a, iV g, iV u], iV dk] [] (ses (doneN (plcI d r n s l i a wd g) mv a g u dk)) [] := by
  have hat := A_lat d r n s l i wd a g u
  have hle := plcI_len d r n s l i a wd g
  generalize plcI d r n s l i a wd g = L at *
  have hf := A_filterDn (a := a) (g := g) (u := u) (L := mv) (by omega)
  have hfl : (mv.filter (otherB a g u)).length ≤ mv.length := List.length_filter_le _ _
  unfold doneN
  generalize mv.filter (otherB a g u) = X at *
  have hs1 := A_sortStableS (ver := X.length) (n := X.length) (X := X) (R := []) (A_cmpS (a := a) (g := g) (u := u)) rfl (by simp; omega)
  have hs2 := A_sortStableS (ver := X.length + 1) (n := (X ++ [((a, g, u, dk) : Se)]).length) (X := X ++ [(a, g, u, dk)]) (R := []) (A_cmpS (a := a) (g := g) (u := u)) rfl (by simp; omega)
  simp only [srtS, List.append_nil] at hs1 hs2
  have e1 := sortN_len (lt := ltS cmpS) X
  have e2 := sortN_len (lt := ltS cmpS) (X ++ [(a, g, u, dk)])
  refine acalls_of_body Tryz.func29 rfl (Nat.le_of_ble_eq_true rfl) ?_
  unfold atA at hat
  by_cases h1 : 0 ≤ u ∧ u < (L.length : Int)
  · rw [if_pos h1] at hat
    by_cases h2 : L.getD u.toNat 0 = dk
    · have hh : homeB L u dk = true := by unfold homeB; rw [decide_eq_true h1.1, decide_eq_true h1.2, decide_eq_true h2]; rfl
      rw [if_pos hh]
      rw [h2] at hat
      clear hs2 e2
      generalize sortN (ltS cmpS) X = S1 at *
      (repeat' (first
  | (apply yFb; exact rfl; exact rfl)
  | (apply W.qd; (first
    | (apply (yW (hat)); exact rfl; exact rfl; (iterate 3 kernel_rfl))|(apply q_mv; (conv => lhs; whnf))|(apply q_as; (conv => lhs; whnf))|(apply yS; (iterate 3 exact rfl))|(apply yT; (iterate 4 exact rfl))|(apply yU; (iterate 4 exact rfl))|(apply q_neq; exact rfl; exact rfl)|(apply yAb; exact rfl; exact rfl)|(apply q_makeFunc)
    | (apply (yDb (u := .d _)); exact rfl; exact rfl)))
  | (apply W.ed; (first
    | (apply (e_callJ (js := [1]) (hf)); (iterate 5 exact rfl); kernel_rfl; kernel_rfl)|(apply (e_callJ (js := [1, 2]) (hs1)); (iterate 5 exact rfl); kernel_rfl; kernel_rfl)|(apply yBb; (iterate 3 exact rfl); kernel_rfl; kernel_rfl)
    | (apply yCb; (iterate 3 exact rfl); kernel_rfl)))|(apply W.ln; (apply l_st_box; (iterate 6 exact rfl); (iterate 3 kernel_rfl)))|(apply yA)|(apply yB)|(apply yC; kernel_rfl)|(apply yE)|(apply yH)|(apply yJ)
  | (refine W.cond _ rfl (fun hb => ?_) (fun hb => ?_) <;> ((try simp only [hb, zA, zB]) <;> (try simp only [zC, zD, zE, zF, zG, zH, zI, zJ] at hb) <;> (try (exfalso; omega))))))
      all_goals first
        | (exfalso; omega)
        | exact ⟨.inl rfl, [], [.osl 2 X.length 0 X.length], rfl, ⟨rfl, trivial⟩, AVle.of_eq (frz_rowJ rfl rfl (by rw [List.length_map]; omega)), rfl⟩
    · have hh : ¬ (homeB L u dk = true) := by unfold homeB; rw [decide_eq_false h2]; simp
      rw [if_neg hh]
      generalize L.getD u.toNat 0 = hd at *
      clear hs1 e1
      generalize sortN (ltS cmpS) (X ++ [(a, g, u, dk)]) = S2 at *
      (repeat' (first
  | (apply yFb; exact rfl; exact rfl)
  | (apply W.qd; (first
    | (apply (yW (hat)); exact rfl; exact rfl; (iterate 3 kernel_rfl))|(apply q_mv; (conv => lhs; whnf))|(apply q_as; (conv => lhs; whnf))|(apply yS; (iterate 3 exact rfl))|(apply yT; (iterate 4 exact rfl))|(apply yU; (iterate 4 exact rfl))|(apply q_neq; exact rfl; exact rfl)|(apply yAb; exact rfl; exact rfl)|(apply yZ; exact rfl; exact rfl; kernel_rfl)|(apply q_makeFunc)|(apply q_litF; (iterate 5 exact rfl); kernel_rfl; kernel_rfl; exact rfl)
    | (apply (yDb (u := .d _)); exact rfl; exact rfl)))
  | (apply W.ed; (first
    | (apply (e_callJ (js := [1]) (hf)); (iterate 5 exact rfl); kernel_rfl; kernel_rfl)|(apply (e_callJ (js := [1, 2]) (hs2)); (iterate 5 exact rfl); kernel_rfl; kernel_rfl)
    | ((apply (e_app1F (f := seD) (a, g, u, dk)); (iterate 8 exact rfl); omega))|(apply yBb; (iterate 3 exact rfl); kernel_rfl; kernel_rfl)
    | (apply yCb; (iterate 3 exact rfl); kernel_rfl)))|(apply W.ln; (apply l_st_box; (iterate 6 exact rfl); (iterate 3 kernel_rfl)))|(apply yA)|(apply yB)|(apply yC; kernel_rfl)|(apply yE)|(apply yJ)
  | (refine W.cond _ rfl (fun hb => ?_) (fun hb => ?_) <;> ((try simp only [hb, zA, zB]) <;> (try simp only [zC, zD, zE, zF, zG, zH, zI, zJ] at hb) <;> (try (exfalso; omega))))))
      all_goals first
        | (exfalso; omega)
        | exact ⟨.inl rfl, [], [.osl 2 (X.length + 1) 0 (X ++ [((a, g, u, dk) : Se)]).length], rfl, ⟨rfl, trivial⟩, AVle.of_eq (frz_rowJ rfl rfl (by rw [List.length_map, e2])), rfl⟩
  · rw [if_neg h1] at hat
    have hh : ¬ (homeB L u dk = true) := by
      unfold homeB
      intro h
      simp only [Bool.and_eq_true, decide_eq_true_eq] at h
      exact h1 ⟨h.1, h.2.1⟩
    rw [if_neg hh]
    clear hs1 e1
    generalize sortN (ltS cmpS) (X ++ [(a, g, u, dk)]) = S2 at *
    (repeat' (first
  | (apply W.qd; (first
    | (apply (yW (hat)); exact rfl; exact rfl; (iterate 3 kernel_rfl))|(apply q_mv; (conv => lhs; whnf))|(apply q_as; (conv => lhs; whnf))|(apply yU; (iterate 4 exact rfl))|(apply q_neq; exact rfl; exact rfl)|(apply yAb; exact rfl; exact rfl)|(apply yZ; exact rfl; exact rfl; kernel_rfl)|(apply q_makeFunc)|(apply q_litF; (iterate 5 exact rfl); kernel_rfl; kernel_rfl; exact rfl)
    | (apply (yEb (u := .d _)); exact rfl; exact rfl)))
  | (apply W.ed; (first
    | (apply (e_callJ (js := [1]) (hf)); (iterate 5 exact rfl); kernel_rfl; kernel_rfl)|(apply (e_callJ (js := [1, 2]) (hs2)); (iterate 5 exact rfl); kernel_rfl; kernel_rfl)
    | ((apply (e_app1F (f := seD) (a, g, u, dk)); (iterate 8 exact rfl); omega))|(apply yBb; (iterate 3 exact rfl); kernel_rfl; kernel_rfl)
    | (apply yCb; (iterate 3 exact rfl); kernel_rfl)))|(apply W.ln; (apply l_st_box; (iterate 6 exact rfl); (iterate 3 kernel_rfl)))|(refine W.gOff _ _ rfl rfl (by intro h; cases h) ?_)|(apply yA)|(apply yB)|(apply yC; kernel_rfl)|(apply yE)|(apply yJ)
  | (apply yQ; exact rfl)))
    all_goals first
      | (exfalso; omega)
      | exact ⟨.inl rfl, [], [.osl 2 (X.length + 1) 0 (X ++ [((a, g, u, dk) : Se)]).length], rfl, ⟨rfl, trivial⟩, AVle.of_eq (frz_rowJ rfl rfl (by rw [List.length_map, e2])), rfl⟩
end Go.Proofs.YtcljokdiblnhiaaGreatDoor
end
