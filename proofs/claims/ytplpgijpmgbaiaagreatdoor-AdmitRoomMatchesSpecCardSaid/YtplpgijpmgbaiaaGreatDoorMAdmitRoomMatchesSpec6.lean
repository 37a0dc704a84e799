import Derived.Test.YtplpgijpmgbaiaaGreatDoorMAdmitRoomMatchesSpec5
import Derived.WalkKit
import Derived.WalkLawsBesides
import Derived.WalkSpells
import Derived.Handy
import Derived.PlainAid
import Derived.Outline
import Derived.Laws.OwnMore
import Derived.Laws.CopyOwn
import Derived.Deep.AppendLies
import Derived.Deep.Draws
import Derived.Deep.QuietTactic
import Derived.Deep.LoopGhost
import Derived.Deep.DeepFit
import Derived.Deep.DeepCutAuto
import Derived.Deep.RegionLaw
import Derived.Deep.RegionHeld3
import Derived.BigQuiet
import Derived.StillTailTactics
import Derived.Lib.Hide
import Derived.Carry
import Derived.Deep.Onto
import Derived.Test.YtplpgijpmgbaiaaGreatDoorChecked
import Derived.Lib.SliceRun
/- Joined texts: DgB DgP DgD DgD3 DgR DgL1 DgL2 Kern52 Kern53 Sp1 Sp2 Sp4 DgL6 Ad1 Ad2 Sp8 Ad3 Ad4 Ad5 Rf30d. -/
set_option linter.unusedVariables false
set_option linter.unusedSimpArgs false
namespace Go.Proofs.YtplpgijpmgbaiaaGreatDoor
open Go.RowKit
set_option maxHeartbeats 4000000
set_option maxRecDepth 100000
section
def Ints (w : World) (v : Value) (l : List Int) : Prop :=
 ∃ (A : Option Addr) (c : Nat), v = .slice A l.length c ∧ l.length ≤ c ∧ c ≤ maxLen ∧ (0 < l.length → ∃ b o, A = some ⟨b, o, none⟩ ∧ b < w.heap.size ∧ ∀ j, j < l.length → w.cell? ⟨b, o + j, none⟩ = some (.int .i64 (l.getD j 0)))
theorem Ints.keep {w w' : World} {v : Value} {l : List Int} (h : Ints w v l) (hb : Below w.heap.size w w') : Ints w' v l := by
 obtain ⟨A, c, rfl, h1, h2, h3⟩ := h
 refine ⟨A, c, rfl, h1, h2, fun hp => ?_⟩
 obtain ⟨b, o, rfl, hlt, hc⟩ := h3 hp
 refine ⟨b, o, rfl, Nat.lt_of_lt_of_le hlt hb.size, fun j hj => ?_⟩
 rw [hb.cell (p := ⟨b, o + j, none⟩) hlt]; exact hc j hj
theorem Ints.of_own {w : World} {base e n : Nat} {v : Value} {l : List Int} (h : w.ownsRow base e 1 v n (l.map (Value.int .i64))) : Ints w v l := by
 have hn : l.length = n := by have := h.1; simpa using this
 rcases h.2 with ⟨rfl, hx⟩ | ⟨g, cap, cur, rfl, hb, hh, hnc, hcm, hcs, htake⟩
 ·subst hx
  have : l = [] := List.eq_nil_of_length_eq_zero hn
  subst this
  exact ⟨none, 0, rfl, by simp, by simp [maxLen], fun hp => by simp at hp⟩
 ·subst hn
  refine ⟨_, cap, rfl, hnc, hcm, fun hp => ⟨g, 0, rfl, ?_, fun j hj => ?_⟩⟩
  ·rcases Nat.lt_or_ge g w.heap.size with hlt | hge
   ·exact hlt
   ·rw [Array.getElem?_eq_none hge] at hh; cases hh
  ·rw [cell_of_row w g (0 + j) cur e (0, 0) hh, Nat.zero_add]
   have h1 : cur.toList[j]? = (l.map (Value.int .i64))[j]? := by
    rw [← htake, List.getElem?_take, if_pos (by simpa using hj)]
   have h2 : cur[j]? = cur.toList[j]? := by simp
   rw [h2, h1]
   simp [List.getElem?_map, List.getElem?_eq_getElem hj]
theorem ret_i {k : IntKind} {a b : Int} (h : a = b) : Ending.returned (.int k a) = .returned (.int k b) := by rw [h]
theorem Below.then {B : Nat} {a w w' : World} (h : Below B a w) (hb : Below w.heap.size w w') (hB : B ≤ w.heap.size) : Below B a w' := h.trans (hb.mono hB)
theorem Below.lt {B : Nat} {w w' : World} (h : Below B w w') {k : Nat} (hk : k < w.heap.size) : k < w'.heap.size := Nat.lt_of_lt_of_le hk h.size
theorem Ints.drew {w : World} {v : Value} {l : List Int} (h : Ints w v l) : Ints w.drew v l := h
theorem Ints.alloc {w : World} {v : Value} {l : List Int} (h : Ints w v l) (o : Obj) : Ints (w.alloc o) v l := h.keep ((Below.refl _ _).alloc (Nat.le_refl _) o)
theorem Ints.nil (w : World) : Ints w (.slice none 0 0) [] := ⟨none, 0, rfl, by simp, by simp [maxLen], fun h => by simp at h⟩
theorem Below.after {w X w1 : World} (h : Below w.heap.size w X) (hb : Below X.heap.size X w1) : Below w.heap.size w w1 := h.trans (hb.mono h.size)
theorem Ints.lit (w : World) (e : TypeId) (l : List Int) (n : Nat) (hn : l.length = n) (hm : n ≤ 1000000000) :
 Ints (w.alloc (.cells (l.map (Value.int .i64)).toArray e)) (.slice (some ⟨w.heap.size, 0, none⟩) n n) l := by
 have h := World.ownsRow_lit (base := 0) (size := 1) (e := e) w (l.map (Value.int .i64)).toArray n (Nat.zero_le _) (by unfold maxLen; omega) (by simp [hn])
 exact Ints.of_own (by simpa using h)
theorem Ints.ext {w w' : World} {v : Value} {l : List Int} (h : Ints w v l) (hb : Below w.heap.size w w') : Ints w' v l := h.keep hb
def Box6 (w : World) (g : Nat) (d r n s l i : Int) : Prop :=
 g < w.heap.size ∧ w.cell? ⟨g, 0, none⟩ = some (.int .i64 d) ∧ w.cell? ⟨g, 1, none⟩ = some (.int .i64 r) ∧ w.cell? ⟨g, 2, none⟩ = some (.int .i64 n) ∧ w.cell? ⟨g, 3, none⟩ = some (.int .i64 s) ∧ w.cell? ⟨g, 4, none⟩ = some (.int .i64 l) ∧ w.cell? ⟨g, 5, none⟩ = some (.int .i64 i)
theorem Box6.keep {w w' : World} {g : Nat} {d r n s l i : Int} (h : Box6 w g d r n s l i) (hb : Below w.heap.size w w') : Box6 w' g d r n s l i := by
 obtain ⟨h0, h1, h2, h3, h4, h5, h6⟩ := h
 have hc := fun o => hb.cell (p := ⟨g, o, none⟩) h0
 exact ⟨Nat.lt_of_lt_of_le h0 hb.size, (hc 0).trans h1, (hc 1).trans h2, (hc 2).trans h3, (hc 3).trans h4, (hc 4).trans h5, (hc 5).trans h6⟩
theorem Box6.new (w : World) (t : TypeId) (d r n s l i : Int) : Box6 (w.alloc (.cells #[.int .i64 d, .int .i64 r, .int .i64 n, .int .i64 s, .int .i64 l, .int .i64 i] t)) w.heap.size d r n s l i := by
 refine ⟨by simp, ?_, ?_, ?_, ?_, ?_, ?_⟩ <;> simp
def Row (w : World) (b o : Nat) (l : List Int) : Prop := b < w.heap.size ∧ ∀ j, j < l.length → w.cell? ⟨b, o + j, none⟩ = some (.int .i64 (l.getD j 0))
theorem Row.keep {w w' : World} {b o : Nat} {l : List Int} (h : Row w b o l) (hb : Below w.heap.size w w') : Row w' b o l :=
 ⟨Nat.lt_of_lt_of_le h.1 hb.size, fun j hj => (hb.cell (p := ⟨b, o + j, none⟩) h.1).trans (h.2 j hj)⟩
theorem Ints.row {w : World} {v : Value} {l : List Int} (h : Ints w v l) (hp : 0 < l.length) : ∃ b o c, v = .slice (some ⟨b, o, none⟩) l.length c ∧ l.length ≤ c ∧ c ≤ 9223372036854775807 ∧ Row w b o l := by
 obtain ⟨A, c, rfl, h1, h2, h3⟩ := h
 obtain ⟨b, o, rfl, hlt, hc⟩ := h3 hp
 exact ⟨b, o, c, rfl, h1, by unfold maxLen at h2; omega, hlt, hc⟩
theorem Row.ints {w : World} {b o c : Nat} {l : List Int} (h : Row w b o l) (h1 : l.length ≤ c) (h2 : c ≤ 9223372036854775807) : Ints w (.slice (some ⟨b, o, none⟩) l.length c) l :=
 ⟨_, c, rfl, h1, by unfold maxLen; omega, fun _ => ⟨b, o, rfl, h.1, h.2⟩⟩
/-! ### A region that draws its order, whose operations read old cells and whose callees make memory but hand back numbers: one walk of the lexical order. -/
structure Ext (W : World) where
 w : World
 h : Below W.heap.size W w
instance (W : World) : Nonempty (Ext W) := ⟨⟨W, Below.refl _ _⟩⟩
theorem Box6.ext {W : World} {g : Nat} {d r n s l i : Int} (h : Box6 W g d r n s l i) :
 (∀ y : Ext W, y.w.cell? ⟨g, 0, none⟩ = some (.int .i64 d)) ∧ (∀ y : Ext W, y.w.cell? ⟨g, 1, none⟩ = some (.int .i64 r)) ∧ (∀ y : Ext W, y.w.cell? ⟨g, 2, none⟩ = some (.int .i64 n)) ∧
 (∀ y : Ext W, y.w.cell? ⟨g, 3, none⟩ = some (.int .i64 s)) ∧ (∀ y : Ext W, y.w.cell? ⟨g, 4, none⟩ = some (.int .i64 l)) ∧ (∀ y : Ext W, y.w.cell? ⟨g, 5, none⟩ = some (.int .i64 i)) := by
 refine ⟨fun y => ?_, fun y => ?_, fun y => ?_, fun y => ?_, fun y => ?_, fun y => ?_⟩ <;> (obtain ⟨_, h1, h2, h3, h4, h5, h6⟩ := h.keep y.h; assumption)
/-! ### A block that is known whole -/
def BlkB (w : World) (g : Nat) (t : TypeId) (cs : Array Value) : Prop := w.heap[g]? = some (.cells cs t (0, 0))
section
variable {w w' : World} {g : Nat} {t : TypeId} {cs : Array Value}
theorem BlkB.lt (h : BlkB w g t cs) : g < w.heap.size := by
 rcases Nat.lt_or_ge g w.heap.size with hlt | hge
 ·exact hlt
 ·unfold BlkB at h; rw [Array.getElem?_eq_none hge] at h; cases h
theorem BlkB.cell (h : BlkB w g t cs) (i : Nat) : w.cell? ⟨g, i, none⟩ = cs[i]? := cell_of_row w g i cs t (0, 0) h
theorem BlkB.frozen (h : BlkB w g t cs) (i : Nat) : w.frozen? ⟨g, i, none⟩ = false := by
 unfold BlkB at h
 simp [World.frozen?, h]
theorem BlkB.new (w : World) (t : TypeId) (cs : Array Value) : BlkB (w.alloc (.cells cs t)) w.heap.size t cs := heap_alloc_new w _
theorem BlkB.alloc (h : BlkB w g t cs) (o : Obj) : BlkB (w.alloc o) g t cs := (Below.heap_alloc w o g h.lt).trans h
theorem BlkB.below {B : Nat} (h : BlkB w g t cs) (hb : Below B w w') (hg : g < B) : BlkB w' g t cs := (hb.block g hg).trans h
theorem BlkB.keep (h : BlkB w g t cs) (hb : Below w.heap.size w w') : BlkB w' g t cs := h.below hb h.lt
end
end
section
/-! ### The multipliers -/
def prog (r k : Nat) : List Nat := (List.range k).map fun i => 1 + i * r
end
section
def RetOwn (w : World) (l : List Int) (e : Ending) (w' : World) : Prop :=
 ∃ v, e = .returned v ∧ w'.ownsRow w.heap.size 3 1 v l.length (l.map (Value.int .i64)) ∧ Below w.heap.size w w'
end
section
def OkC (d r n s l i : Int) : Prop := (1 ≤ d ∧ d ≤ 64) ∧ (1 ≤ r ∧ r ≤ 8) ∧ (1 ≤ n ∧ n ≤ 4096) ∧ (0 ≤ s ∧ s ≤ d - 1) ∧ (1 ≤ l ∧ l ≤ 65536) ∧ (1 ≤ i ∧ i ≤ 65536) ∧ d % r = 0
instance (d r n s l i : Int) : Decidable (OkC d r n s l i) := by unfold OkC; infer_instance
def chk13 (d r n s l i : Int) : Int := if OkC d r n s l i then 0 else 1
theorem chk13_yes {d r n s l i : Int} (h : OkC d r n s l i) : chk13 d r n s l i = 0 := if_pos h
theorem chk13_no {d r n s l i : Int} (h : ¬ OkC d r n s l i) : chk13 d r n s l i = 1 := if_neg h
theorem within_any (a b c : Int) (w : World) :
 Calls Tryz.prog 222 #[.int .i64 a, .int .i64 b, .int .i64 c] w fun e w' => e = .returned (.bool (decide (b ≤ a) && decide (a ≤ c))) ∧ w = w' := by
 by_cases h : b ≤ a
 ·by_cases h2 : a ≤ c
  ·go_enter Tryz.func222, Tryz.ntmps222
   go_wp2
   go_ret
   first | (simp [h, h2]; done) | (simp [h, h2]; omega)
  ·have h2' : c < a := by omega
   go_enter Tryz.func222, Tryz.ntmps222
   go_wp2
   go_ret
   first | (simp [h, h2]; done) | (simp [h, h2]; omega)
 ·have h' : a < b := by omega
  go_enter Tryz.func222, Tryz.ntmps222
  go_wp2
  go_ret
  first | (simp [h]; done) | (simp; intros; omega)
set_option maxHeartbeats 1600000 in
theorem check_any (d r n s l i : Int) (w : World) :
 Calls Tryz.prog 166 #[.agg #[.int .i64 d, .int .i64 r, .int .i64 n, .int .i64 s, .int .i64 l, .int .i64 i]] w fun e w' => e = .returned (.int .i64 (chk13 d r n s l i)) ∧ Below w.heap.size w w' := by
 go_enter Tryz.func166, Tryz.ntmps166
 go_wp2_with (go_at_call 222; refine (within_any _ _ _ _).mono ?_; rintro e w' ⟨rfl, rfl⟩)
 all_goals (go_ret; refine ⟨ret_i ?_, by go_grown⟩)
 all_goals first
  |(rw [chk13_no]; unfold OkC; intro h; obtain ⟨h1, h2, h3, h4, h5, h6, h7⟩ := h; first | (exact absurd h1 ‹_›) | (exact absurd h2 ‹_›) | (exact absurd h3 ‹_›) | (exact absurd h4 ‹_›) | (exact absurd h5 ‹_›) | (exact absurd h6 ‹_›) | (have hx : (d % r != 0) = true := (by assumption); simp [h7] at hx); done)
  |(rw [chk13_yes]; have hx : (d % r != 0) = false := (by assumption); exact ⟨‹_›, ‹_›, ‹_›, ‹_›, ‹_›, ‹_›, by simpa using hx⟩)
  |skip
theorem RetOwn.nil {w w' : World} (hb : Below w.heap.size w w') : RetOwn w [] (.returned (.slice none 0 0)) w' := ⟨_, rfl, World.ownsRow_nil _ _ _ _, hb⟩
theorem RetOwn.later {w w1 : World} {l : List Int} {e : Ending} {w' : World} (h : RetOwn w1 l e w') (hb : Below w.heap.size w w1) : RetOwn w l e w' := by
 obtain ⟨v, rfl, ho, hb'⟩ := h
 exact ⟨v, rfl, ho.mono hb.size, hb.trans (hb'.mono hb.size)⟩
end
section
theorem in13_any (a b c : Int) (w : World) :
 Calls Tryz.prog 178 #[.int .i64 a, .int .i64 b, .int .i64 c] w fun e w' => e = .returned (.bool (decide (b ≤ a) && decide (a ≤ c))) ∧ w = w' := by
 by_cases h : b ≤ a
 ·by_cases h2 : a ≤ c
  ·go_enter Tryz.func178, Tryz.ntmps178
   go_wp2
   go_ret
   first | (simp [h, h2]; done) | (simp [h, h2]; omega)
  ·have h2' : c < a := by omega
   go_enter Tryz.func178, Tryz.ntmps178
   go_wp2
   go_ret
   first | (simp [h, h2]; done) | (simp [h, h2]; omega)
 ·have h' : a < b := by omega
  go_enter Tryz.func178, Tryz.ntmps178
  go_wp2
  go_ret
  first | (simp [h]; done) | (simp; intros; omega)
set_option maxHeartbeats 1600000 in
theorem rcheck_any (d r n s l i : Int) (w : World) :
 Calls Tryz.prog 113 #[.agg #[.int .i64 d, .int .i64 r, .int .i64 n, .int .i64 s, .int .i64 l, .int .i64 i]] w fun e w' => e = .returned (.int .i64 (chk13 d r n s l i)) ∧ Below w.heap.size w w' := by
 go_enter Tryz.func113, Tryz.ntmps113
 go_wp2_with (go_at_call 178; refine (in13_any _ _ _ _).mono ?_; rintro e w' ⟨rfl, rfl⟩)
 all_goals (go_ret; refine ⟨ret_i ?_, by go_grown⟩)
 all_goals first
  |(rw [chk13_no]; unfold OkC; intro h; obtain ⟨h1, h2, h3, h4, h5, h6, h7⟩ := h; first | (exact absurd h1 ‹_›) | (exact absurd h2 ‹_›) | (exact absurd h3 ‹_›) | (exact absurd h4 ‹_›) | (exact absurd h5 ‹_›) | (exact absurd h7 ‹_›) | (have hx : (!decide (1 ≤ i)) = true ∨ (!decide (i ≤ 65536)) = true := (by assumption); simp at hx; omega) | (have hx : (!decide (0 ≤ s)) = true ∨ (!decide (s ≤ d - 1)) = true := (by assumption); simp at hx; omega); done)
  |(rw [chk13_yes]; have hx : (!decide (1 ≤ i)) = false ∧ (!decide (i ≤ 65536)) = false := (by assumption); have hy : (!decide (0 ≤ s)) = false ∧ (!decide (s ≤ d - 1)) = false := (by assumption); exact ⟨‹_›, ‹_›, ‹_›, by simpa using hy, ‹_›, by simpa using hx, ‹_›⟩)
end
section
abbrev cfgA (d r n s l i : Int) : AV := .agg [iV d, iV r, iV n, iV s, iV l, iV i]
theorem A_dchk (d r n s l i : Int) : ACalls Tryz.prog 166 [cfgA d r n s l i] [] (iV (chk13 d r n s l i)) [] := acalls_of_exact rfl fun w => check_any d r n s l i w
theorem A_rdchk (d r n s l i : Int) : ACalls Tryz.prog 113 [cfgA d r n s l i] [] (iV (chk13 d r n s l i)) [] := acalls_of_exact rfl fun w => rcheck_any d r n s l i w
end
section
attribute [local irreducible] Quiet Eff OpOk AWPG ACont ABlock ACalls
def OkL (d r n s l i w : Int) : Prop := OkC d r n s l i ∧ 1 ≤ w ∧ w ≤ 32
instance (d r n s l i w : Int) : Decidable (OkL d r n s l i w) := by unfold OkL; infer_instance
def vldL (d r n s l i w : Int) : Bool := decide (OkL d r n s l i w)
def grpI (d r n s l i w : Int) : Int := if OkL d r n s l i w then (d - s) / w else 0
def crdI (d r n s l i w : Int) : Int := if OkL d r n s l i w then (w + r - 1) / r else 0
theorem A_lvalid (d r n s l i wd : Int) : ACalls Tryz.prog 161 [cfgA d r n s l i, iV wd] [] (bV (vldL d r n s l i wd)) [] := by
 refine acalls_of_body Tryz.func161 rfl (zU rfl) ?_
 (repeat' (first
  |(apply yFb; exact rfl; exact rfl)
  |(apply W.qd; (first
  |(exact zW (A_dchk _ _ _ _ _ _))|(exact zM)|(exact zN)|(exact yU rfl rfl rfl rfl)|(exact q_leq rfl rfl)|(exact q_geq rfl rfl)|(exact q_eql rfl rfl)|(apply (yEb (u := .d _)); exact rfl; exact rfl)
  |(apply (yDb (u := .d _)); exact rfl; exact rfl)))|(apply W.ed; (apply yBb; (iterate 3 exact rfl); kernel_rfl; kernel_rfl))|(refine W.gOff _ _ rfl rfl (by intro h; cases h) ?_)|(apply yA)|(apply yB)|(apply yC; kernel_rfl)|(apply yE)|(apply yJ)
  |(refine W.gT _ _ rfl rfl (fun hb => ?_) (fun hb => ?_) <;> ((try simp only [hb, zK]) <;> (try simp only [zL, zI] at hb) <;> (try (exfalso; omega))))))
 all_goals refine Ends.b rfl ?_
 all_goals (unfold chk13 at *; unfold vldL OkL; simp_all)
 omega
theorem A_rlvalid (d r n s l i wd : Int) : ACalls Tryz.prog 184 [cfgA d r n s l i, iV wd] [] (bV (vldL d r n s l i wd)) [] := by
 refine acalls_of_body Tryz.func184 rfl (zU rfl) ?_
 (repeat' (first
  |(apply yFb; exact rfl; exact rfl)
  |(apply W.qd; (first
  |(exact zW (A_rdchk _ _ _ _ _ _))|(exact zM)|(exact zN)|(exact yU rfl rfl rfl rfl)|(exact q_leq rfl rfl)|(exact q_geq rfl rfl)|(exact q_eql rfl rfl)|(apply (yEb (u := .d _)); exact rfl; exact rfl)
  |(apply (yDb (u := .d _)); exact rfl; exact rfl)))|(apply W.ed; (apply yBb; (iterate 3 exact rfl); kernel_rfl; kernel_rfl))|(refine W.gOff _ _ rfl rfl (by intro h; cases h) ?_)|(apply yA)|(apply yB)|(apply yC; kernel_rfl)|(apply yE)|(apply yJ)
  |(refine W.gT _ _ rfl rfl (fun hb => ?_) (fun hb => ?_) <;> ((try simp only [hb, zK]) <;> (try simp only [zL, zI] at hb) <;> (try (exfalso; omega))))))
 all_goals refine Ends.b rfl ?_
 all_goals (unfold chk13 at *; unfold vldL OkL; simp_all)
 omega
theorem OkL.bd {d r n s l i w : Int} (h : OkL d r n s l i w) : (1 ≤ d ∧ d ≤ 64) ∧ (1 ≤ r ∧ r ≤ 8) ∧ (1 ≤ n ∧ n ≤ 4096) ∧ (0 ≤ s ∧ s ≤ d - 1) ∧ 1 ≤ w ∧ w ≤ 32 := by
 obtain ⟨⟨h1, h2, h3, h4, _⟩, h5⟩ := h; exact ⟨h1, h2, h3, h4, h5⟩
theorem A_lgroups (d r n s l i wd : Int) : ACalls Tryz.prog 105 [cfgA d r n s l i, iV wd] [] (iV (grpI d r n s l i wd)) [] := by
 refine acalls_of_body Tryz.func105 rfl (zU rfl) ?_
 by_cases hok : OkL d r n s l i wd
 ·have hv : vldL d r n s l i wd = true := decide_eq_true hok
  have := A_lvalid d r n s l i wd
  rw [hv] at this
  obtain ⟨h1, h2, h3, h4, h5⟩ := hok.bd
  (repeat' (first
   |(apply W.qd; (first
   |(exact zW (this))|(exact zM)|(exact zN)|(exact yS rfl rfl rfl)|(exact yT rfl rfl rfl rfl)|(exact yU rfl rfl rfl rfl)|(exact q_not rfl)|(exact q_sub rfl rfl (by omega))
   |(apply q_quo; exact rfl; exact rfl; omega; omega; omega)))|(apply W.ed; (apply yBb; (iterate 3 exact rfl); kernel_rfl; kernel_rfl))|(apply yA)|(apply yB)|(apply yC; kernel_rfl)|(apply yE)|(apply yH)|(apply yJ)
   |(apply yR; exact rfl)))
  all_goals exact Ends.i rfl (if_pos hok).symm
 ·have hv : vldL d r n s l i wd = false := decide_eq_false hok
  have := A_lvalid d r n s l i wd
  rw [hv] at this
  (repeat' (first
   |(apply W.qd; (first
   |(exact zW (this))|(exact zM)|(exact zN)|(exact yU rfl rfl rfl rfl)
   |(exact q_not rfl)))|(apply W.ed; (apply yBb; (iterate 3 exact rfl); kernel_rfl; kernel_rfl))|(apply yA)|(apply yB)|(apply yC; kernel_rfl)|(apply yE)|(apply yJ)|(apply yP)
   |(apply yQ; exact rfl)))
  all_goals exact Ends.i rfl (if_neg hok).symm
theorem A_rgroups (d r n s l i wd : Int) : ACalls Tryz.prog 120 [cfgA d r n s l i, iV wd] [] (iV (grpI d r n s l i wd)) [] := by
 refine acalls_of_body Tryz.func120 rfl (zU rfl) ?_
 by_cases hok : OkL d r n s l i wd
 ·have hv : vldL d r n s l i wd = true := decide_eq_true hok
  have := A_rlvalid d r n s l i wd
  rw [hv] at this
  obtain ⟨h1, h2, h3, h4, h5⟩ := hok.bd
  (repeat' (first
   |(apply W.qd; (first
   |(exact zW (this))|(exact zM)|(exact zN)|(exact yS rfl rfl rfl)|(exact yT rfl rfl rfl rfl)|(exact yU rfl rfl rfl rfl)|(exact q_not rfl)|(exact q_sub rfl rfl (by omega))
   |(apply q_quo; exact rfl; exact rfl; omega; omega; omega)))|(apply W.ed; (apply yBb; (iterate 3 exact rfl); kernel_rfl; kernel_rfl))|(apply yA)|(apply yB)|(apply yC; kernel_rfl)|(apply yE)|(apply yH)|(apply yJ)
   |(apply yR; exact rfl)))
  all_goals exact Ends.i rfl (if_pos hok).symm
 ·have hv : vldL d r n s l i wd = false := decide_eq_false hok
  have := A_rlvalid d r n s l i wd
  rw [hv] at this
  (repeat' (first
   |(apply W.qd; (first
   |(exact zW (this))|(exact zM)|(exact zN)|(exact yU rfl rfl rfl rfl)
   |(exact q_not rfl)))|(apply W.ed; (apply yBb; (iterate 3 exact rfl); kernel_rfl; kernel_rfl))|(apply yA)|(apply yB)|(apply yC; kernel_rfl)|(apply yE)|(apply yJ)|(apply yP)
   |(apply yQ; exact rfl)))
  all_goals exact Ends.i rfl (if_neg hok).symm
end
section
section
variable {P : Program} {m : Nat} {env : List (Nat × AV)} {own : List Ent} {dst : Option Tmp} {ty : TypeId} {pos : String} {af : Array Edge} {gd : Option (Nat × Bool)}
theorem e_stS {t : TypeId} {b : Bool} {x y : Operand} {i o : Nat} {l : List AV} {v : AV} {own' : List Ent} (hx : lookO env x = .opt i o) (hl : own[i]? = some (.box l)) (hy : lookO env y = v) (ht : tyInfo P t = some (b, 1)) (ho : own.set i (.box (l.set o v)) = own') (hc : cellsA v = some [v]) (hok : okPart v = true) (h1 : oneA v = true) (hlt : o < l.length) :
 Eff P m ⟨dst, .store t x y, ty, pos, af, gd⟩ env own [i] (.d (.v undef)) own' := by
 have := e_st_box (P := P) (m := m) (dst := dst) (ty := ty) (pos := pos) (af := af) (gd := gd) (cs := [v]) (b := b) ht hx hl (by rw [hy]; exact hc) (by rw [hy]; exact hok) (by simp [h1]) rfl (by omega)
 have e1 : l.take o ++ [v] ++ l.drop (o + [v].length) = l.set o v := by
  rw [List.set_eq_take_append_cons_drop, if_pos hlt]; simp
 rw [e1, ho] at this
 exact this
end
end
section
section
variable {P : Program} {m : Nat} {env : List (Nat × AV)} {own : List Ent} {dst : Option Tmp} {ty : TypeId} {pos : String} {af : Array Edge} {gd : Option (Nat × Bool)}
theorem q_lkup2 {t : TypeId} {x y : Operand} {i : Nat} {l : List (Int × Value)} {a : Int} {z : Value} (hx : lookO env x = .mp i) (hi : own[i]? = some (.mp (mpI l))) (hy : lookO env y = iV a) (ht : mapI P t = some z) :
 Quiet P m ⟨dst, .lookup t x y true, ty, pos, af, gd⟩ env own [i] (.tup [.d (.v (getV l a z)), bV (hasV l a)]) :=
 Quiet.val fun F own' κ ac w hs ho hsame _ => by
  have h1 := hs x (by simp [Op.operands]); rw [hx, AV.sat] at h1
  have h2 := hs y (by simp [Op.operands]); rw [hy] at h2
  have h2 := sat_v.1 h2
  have hl' : own'[i]? = some (.mp (mpI l)) := by rw [hsame i (by simp)]; exact hi
  obtain ⟨g, ks, h3, h4, h5⟩ := h1
  obtain ⟨es, clock, h6, h7⟩ := mp_block ho hl' h4
  obtain ⟨k, e, inf, g1, g2, g3, g4⟩ := mapI_spec ht
  have hf := run_findKey_mp (P := P) g2 h7 a w
  have hck := MapKept.run_checkKey (P := P) (w := w) (k := .int .i64 a) g2 rfl es.isEmpty 9999
  refine ⟨.tuple #[getV l a z, .bool (hasV l a)], exec_v ?_, ?_⟩
  ·rw [h5, h2]
   unfold getV hasV
   cases hq : getIx l a 0 with
   | none =>
     rw [hq] at hf
     simp [Instr.lookup, run_underlying g1, MapKept.run_getObj_map h6, hck, hf, zeroValue, typeInfo, g3, g4, Result.andThen]
   | some p =>
     rw [hq] at hf
     simp [Instr.lookup, run_underlying g1, MapKept.run_getObj_map h6, hck, hf, Result.andThen]
  ·rw [AV.sat]
   exact ⟨_, rfl, sat_v.2 rfl, sat_v.2 rfl, trivial⟩
theorem q_lkup2V {t : TypeId} {x y : Operand} {i : Nat} {l : List (Int × Value)} {a : Int} {z v : Value} {b : Bool} (hx : lookO env x = .mp i) (hi : own[i]? = some (.mp (mpI l))) (hy : lookO env y = iV a) (ht : mapI P t = some z) (hg : getV l a z = v) (hb : hasV l a = b) :
 Quiet P m ⟨dst, .lookup t x y true, ty, pos, af, gd⟩ env own [i] (.tup [.d (.v v), bV b]) := by
 subst hg hb; exact q_lkup2 hx hi hy ht
theorem q_ix_ar {t e : TypeId} {n k j : Nat} {x y : Operand} {i o : Nat} {b : Bool} {ik : IntKind} {v : Int} (hx : lookO env x = .opt i o) (hy : lookO env y = .d (.v (.int ik v))) (ht : arInfo P t = some (n, e)) (he : tyInfo P e = some (b, k)) (hv : v = (j : Int)) (hj : j < n) :
 Quiet P m ⟨dst, .indexAddr t x y, ty, pos, af, gd⟩ env own [] (.opt i (o + j * k)) :=
 Quiet.val fun F own' κ a w hs _ _ _ => by
  have h1 := hs x (by simp [Op.operands]); rw [hx, AV.sat] at h1
  have h2 := hs y (by simp [Op.operands]); rw [hy, sat_v] at h2
  obtain ⟨g, l, g1, g2, g3⟩ := h1
  obtain ⟨_, inf, h7, h8⟩ := tyInfo_spec he
  subst hv
  refine ⟨.pointer (some ⟨g, o + j * k, none⟩), exec_v ?_, ?_⟩
  ·rw [g3, h2]
   simp [Instr.indexAt, asIntOf, run_underlying (arInfo_spec ht), Instr.sureAddr, sizeOf, typeInfo, h7, h8, hj, add_none]
  ·rw [AV.sat]
   exact ⟨g, l, g1, g2, rfl⟩
theorem q_ix_ag {t e : TypeId} {n j : Nat} {x y : Operand} {l : List AV} {r : AV} {ik : IntKind} {i : Int} (hx : lookO env x = .agg l) (hy : lookO env y = .d (.v (.int ik i))) (ht : arInfo P t = some (n, e)) (he : tyInfo P e = some (false, 1)) (hi : i = (j : Int)) (hr : l[j]? = some r) (hj : j < n) :
 Quiet P m ⟨dst, .index t x y, ty, pos, af, gd⟩ env own [] r :=
 Quiet.val fun F own' κ a w hs _ _ _ => by
  have h1 := hs x (by simp [Op.operands]); rw [hx, AV.sat] at h1
  have h2 := hs y (by simp [Op.operands]); rw [hy, sat_v] at h2
  obtain ⟨vs, h3, h4⟩ := h1
  obtain ⟨h6, i', h7, h8⟩ := tyInfo_spec he
  subst hi
  obtain ⟨u, hu, hus⟩ := satL_get h4 j r hr
  have hu' : vs[j]? = some u := by simpa using hu
  refine ⟨u, exec_v ?_, hus⟩
  rw [h3, h2]
  simp [Instr.index, asIntOf, run_underlying (arInfo_spec ht), hj, part, h6 w, sizeOf, typeInfo, h7, h8, hu']
end
end
section
abbrev Us := Int × Int × Int
abbrev SRw := Int × Int × List Us
def usD (u : Us) : List Dat := [.v (.int .i64 u.1), .v (.int .i64 u.2.1), .v (.int .i64 u.2.2)]
def rwD (r : SRw) : List Dat := [.v (.int .i64 r.1), .v (.int .i64 r.2.1), .sl 3 (r.2.2.map usD)]
abbrev rws (l : List SRw) : AV := .d (.sl 3 (l.map rwD))
abbrev rwA (r : SRw) : AV := .agg ((rwD r).map .d)
def rw0 : SRw := (0, 0, [])
theorem getDr {rows : List SRw} {i : Nat} (h : i < rows.length) : rows.getD i rw0 = rows[i] := by rw [List.getD_eq_getElem?_getD, List.getElem?_eq_getElem h]; rfl
end
section
attribute [local irreducible] Quiet Eff OpOk AWPG ACont ABlock ACalls AGoto
theorem A_of0 {rows : List SRw} {c : Int} : ACalls Tryz.prog 129 [rws rows, iV c] [] (.fn 195 [.opt 0 0, .opt 1 0]) [.box [rws rows], .box [iV c]] := by
 refine acalls_of_bodyO Tryz.func129 rfl (zU rfl) ?_
 (repeat' (first
  |(apply W.qd; (first
  |(exact zN)
  |(apply q_makeFunc)))|(apply W.ed; (apply yBb; (iterate 3 exact rfl); kernel_rfl; kernel_rfl))|(apply yA)|(apply yB)|(apply yC; kernel_rfl)|(apply yE)
  |(apply yJ)))
 exact ⟨.inl rfl, [0, 1], [.fn 195 [.opt 0 0, .opt 1 0]], rfl, rfl, ⟨rfl, trivial⟩, AVle.of_eq rfl, rfl⟩
end
section
def grps (us : List Us) : List Int := us.map (·.1)
def rgtR (g : Int) (w : SRw) : Bool := if w.1 = -1 then decide (w.2.1 = 0) && decide (w.2.2.length = 0) else decide (0 ≤ w.1 ∧ w.1 < 8 ∧ 1 ≤ w.2.1 ∧ w.2.1 ≤ 32 ∧ w.2.2.length ≠ 0) && incB g (-1) (grps w.2.2)
def conR (rows : List SRw) (a b : Nat) : Bool := !(decide ((rows.getD b rw0).1 = (rows.getD a rw0).1) && !decide ((rows.getD b rw0).2.1 = (rows.getD a rw0).2.1))
def okR (d r n s l i : Int) (rows : List SRw) (a : Nat) : Bool := rgtR (grpI d r n s l i (rows.getD a rw0).2.1) (rows.getD a rw0) && (List.range a).all (conR rows a)
def validR (d r n s l i : Int) (rows : List SRw) : Bool := decide (chk13 d r n s l i = 0 ∧ (rows.length : Int) = n) && (List.range rows.length).all (okR d r n s l i rows)
attribute [local irreducible] Quiet Eff OpOk AWPG ACont ABlock ACalls AGoto
theorem A_rright24 {d r n s l i : Int} {w : SRw} (hw : w.2.2.length ≤ 9223372036854775807) : ACalls Tryz.prog 124 [cfgA d r n s l i, rwA w] [] (bV (rgtR (grpI d r n s l i w.2.1) w)) [] := by
 obtain ⟨c, wd, us⟩ := w
 dsimp only at hw ⊢
 have hg := A_rgroups d r n s l i wd
 generalize grpI d r n s l i wd = g at *
 have hmu : (us.map usD).length = us.length := List.length_map _
 refine acalls_of_body Tryz.func124 rfl (zU rfl) ?_
 unfold rgtR
 dsimp only
 by_cases h1 : c = -1
 ·rw [if_pos h1]
  (repeat' (first
   |(apply yFb; exact rfl; exact rfl)
   |(apply W.qd; (first
   |(exact zM)|(exact zN)|(exact yS rfl rfl rfl)|(exact yT rfl rfl rfl rfl)|(exact q_eql rfl rfl)|(exact yV rfl rfl)|(apply (yEb (u := .d _)); exact rfl; exact rfl)
   |(apply (yDb (u := .d _)); exact rfl; exact rfl)))|(apply W.ed; (apply yBb; (iterate 3 exact rfl); kernel_rfl; kernel_rfl))|(refine W.gOff _ _ rfl rfl (by intro h; cases h) ?_)|(apply yA)|(apply yB)|(apply yC; kernel_rfl)|(apply yE)|(apply yJ)|(apply yP)|(refine W.gT _ _ rfl rfl (fun hb => ?_) (fun hb => ?_) <;> ((try simp only [hb, zK]) <;> (try simp only [zL, zI] at hb) <;> (try (exfalso; omega))))
   |(refine W.cond _ rfl (fun hb => ?_) (fun hb => ?_) <;> ((try simp only [hb, zK]) <;> (try simp only [zL, zI] at hb) <;> (try (exfalso; omega))))))
  all_goals first | (exfalso; omega) | (refine Ends.b rfl ?_; rw [Bool.eq_iff_iff]; simp <;> omega)
 rw [if_neg h1]
 by_cases h2 : 0 ≤ c ∧ c < 8 ∧ 1 ≤ wd ∧ wd ≤ 32 ∧ us.length ≠ 0
 case neg =>
  rw [decide_eq_false h2, Bool.false_and]
  (repeat' (first
   |(apply yFb; exact rfl; exact rfl)
   |(apply W.qd; (first
   |(exact zM)|(exact zN)|(exact yS rfl rfl rfl)|(exact yT rfl rfl rfl rfl)|(exact q_lss rfl rfl)|(exact q_gtr rfl rfl)|(exact q_geq rfl rfl)|(exact q_eql rfl rfl)|(exact yV rfl rfl)|(apply (yEb (u := .d _)); exact rfl; exact rfl)
   |(apply (yDb (u := .d _)); exact rfl; exact rfl)))|(apply W.ed; (apply yBb; (iterate 3 exact rfl); kernel_rfl; kernel_rfl))|(refine W.gOff _ _ rfl rfl (by intro h; cases h) ?_)|(apply yA)|(apply yB)|(apply (W.regionS 5); exact rfl; kernel_rfl)|(apply yE)|(apply yH)|(apply yJ)|(apply yP)|(apply yQ; exact rfl)|(refine W.gF _ _ rfl rfl (fun hb => ?_) (fun hb => ?_) <;> ((try simp only [hb, zK]) <;> (try simp only [zL, zI] at hb) <;> (try (exfalso; omega))))
   |(refine W.cond _ rfl (fun hb => ?_) (fun hb => ?_) <;> ((try simp only [hb, zK]) <;> (try simp only [zL, zI] at hb) <;> (try (exfalso; omega))))))
  all_goals first | (exfalso; omega) | exact Ends.b rfl rfl
 rw [decide_eq_true h2, Bool.true_and]
 (repeat' (first
  |(apply yFb; exact rfl; exact rfl)
  |(apply W.qd; (first
  |(exact zW (hg))|(exact zM)|(exact zN)|(exact yS rfl rfl rfl)|(exact yT rfl rfl rfl rfl)|(exact yU rfl rfl rfl rfl)|(exact q_lss rfl rfl)|(exact q_gtr rfl rfl)|(exact q_geq rfl rfl)|(exact q_eql rfl rfl)|(exact yV rfl rfl)
  |(apply (yDb (u := .d _)); exact rfl; exact rfl)))|(apply W.ed; (apply yBb; (iterate 3 exact rfl); kernel_rfl; kernel_rfl))|(apply yA)|(apply yB)|(apply (W.regionS 7); exact rfl; kernel_rfl)|(apply yE)|(apply yG)|(apply yH)|(refine W.gF _ _ rfl rfl (fun hb => ?_) (fun hb => ?_) <;> ((try simp only [hb, zK]) <;> (try simp only [zL, zI] at hb) <;> (try (exfalso; omega))))
  |(refine W.cond _ rfl (fun hb => ?_) (fun hb => ?_) <;> ((try simp only [hb, zK]) <;> (try simp only [zL, zI] at hb) <;> (try (exfalso; omega))))))
 all_goals try (exfalso; omega)
 have hml : (grps us).length = us.length := List.length_map _
 have hge : ∀ k (h : k < us.length), (grps us)[k]'(by rw [hml]; exact h) = us[k].1 := fun k h => List.getElem_map _
 have hcnd := incB_drop g (grps us) (-1)
 have hcnd : incB g (-1) (grps us) = true ↔ ∀ k, (h : k < us.length) → lastI (grps us) k < us[k].1 ∧ us[k].1 < g := by
  rw [hcnd]
  constructor
  ·intro h3 k h4
   have := h3 k (by rw [hml]; exact h4)
   rw [hge k h4] at this; exact this
  ·intro h3 k h4
   rw [hge k (by rw [← hml]; exact h4)]; exact h3 k (by rw [← hml]; exact h4)
 have hl0 : lastI (grps us) 0 = -1 := rfl
 have hls : ∀ k (h : k < us.length), lastI (grps us) (k + 1) = us[k].1 := fun k h => by
  unfold lastI
  rw [if_neg (by omega), Nat.add_sub_cancel, List.getD_eq_getElem?_getD, List.getElem?_eq_getElem (by rw [hml]; exact h), Option.getD_some, hge k h]
 generalize lastI (grps us) = la at *
 generalize incB g (-1) (grps us) = R at *
 clear hml hge h1
 refine AWP.loopW (α := Nat) (fun k => k ≤ us.length ∧ ∀ j, (h : j < us.length) → j < k → (la j < us[j].1 ∧ us[j].1 < g) ∧ 0 ≤ us[j].1) (fun k => ⟨[(6, iV k), (5, iV g), (3, .opt 1 0)], [.box [iV d, iV r, iV n, iV s, iV l, iV i], .box [iV c, iV wd, .d (.sl 3 (us.map usD))]]⟩) (fun k => us.length - k) 0 ⟨Nat.zero_le _, fun j h hj => by omega⟩ ⟨[0, 1], rfl, rfl, rfl, by (repeat (first | exact trivial | refine ⟨rfl, ?_⟩))⟩ fun k hk => ?_
 by_cases hkl : k < us.length
 ·have hnx : (la k < us[k].1 ∧ us[k].1 < g) ∧ 0 ≤ us[k].1 → ∀ j, (h : j < us.length) → j < k + 1 → (la j < us[j].1 ∧ us[j].1 < g) ∧ 0 ≤ us[j].1 := fun hg j h hj => by
   by_cases e : j = k
   ·subst e; exact hg
   ·exact hk.2 j h (by omega)
  have hbd : ¬ (la k < us[k].1 ∧ us[k].1 < g) → R = false := fun hg => by
   cases hq : R with
   | false => rfl
   | true => exact absurd (hcnd.1 hq k hkl) hg
  by_cases hk0 : k = 0
  ·subst hk0
   rw [hl0] at hnx hbd
   clear hcnd hls hl0 hk
   (repeat' (first
    |(apply yFb; exact rfl; exact rfl)
    |(apply W.qd; (first
    |(exact zM)|(exact zN)|(exact yS rfl rfl rfl)|(exact yT rfl rfl rfl rfl)|(exact q_lss rfl rfl)|(exact q_gtr rfl rfl)|(exact q_geq rfl rfl)|(exact q_add rfl rfl (by omega))|(exact yV rfl rfl)|(apply yX; (iterate 3 exact rfl); (first | omega | (focus (simp; done))))|(apply q_fld_fptF; (iterate 3 exact rfl))|(apply yGb; (iterate 4 exact rfl); (first | (with_reducible exact rfl) | exact natI_spec rfl | assumption | exact (Int.toNat_of_nonneg (by omega)).symm); (first | omega | (focus (simp only [List.length_map]; omega)) | (focus (simp; done)) | (focus (simp; omega))))|(apply (yEb (u := .d _)); exact rfl; exact rfl)
    |(apply (yDb (u := .d _)); exact rfl; exact rfl)))|(refine W.gOff _ _ rfl rfl (by intro h; cases h) ?_)|(apply yA)|(apply yB)|(apply yC; kernel_rfl)|(apply yD; exact rfl; kernel_rfl)|(apply yE)|(apply yF; kernel_rfl)|(apply yG)|(apply yH)|(apply yJ)|(apply yP)|(apply yL)|(apply yN)|(apply yQ; exact rfl)|(apply yR; exact rfl)|(refine W.gF _ _ rfl rfl (fun hb => ?_) (fun hb => ?_) <;> ((try simp only [hb, zK]) <;> (try simp only [zL, zI] at hb) <;> (try (exfalso; omega))))
    |(refine W.cond _ rfl (fun hb => ?_) (fun hb => ?_) <;> ((try simp only [hb, zK]) <;> (try simp only [zL, zI] at hb) <;> (try (exfalso; omega))))))
   all_goals first
    |exact Ends.b rfl (hbd (by omega)).symm
    |exact ⟨0 + 1, ⟨by omega, hnx (by omega)⟩, by omega, [0, 1], rfl, rfl, rfl, iV_eq (by omega), rfl, rfl, trivial⟩
    |(exfalso; omega)
  ·obtain ⟨q, rfl⟩ : ∃ q, k = q + 1 := ⟨k - 1, by omega⟩
   have hq := hk.2 q (by omega) (by omega)
   rw [hls q (by omega)] at hnx hbd
   have hqs : (((q + 1 : Nat) : Int) - 1) = ((q : Nat) : Int) := by omega
   clear hcnd hls hl0 hk
   (repeat' (first
    |(apply yFb; exact rfl; exact rfl)
    |(apply W.qd; (first
    |(exact zM)|(exact zN)|(exact yS rfl rfl rfl)|(exact yT rfl rfl rfl rfl)|(exact q_lss rfl rfl)|(exact q_leq rfl rfl)|(exact q_gtr rfl rfl)|(exact q_geq rfl rfl)|(exact q_add rfl rfl (by omega))|(exact q_sub rfl rfl (by omega))|(exact yV rfl rfl)|(apply yX; (iterate 3 exact rfl); (first | omega | (focus (simp; done))))|(apply q_fld_fptF; (iterate 3 exact rfl))|(apply yGb; (iterate 4 exact rfl); (first | (with_reducible exact rfl) | exact natI_spec rfl | assumption | exact (Int.toNat_of_nonneg (by omega)).symm); (first | omega | (focus (simp only [List.length_map]; omega)) | (focus (simp; done)) | (focus (simp; omega))))|(apply (yEb (u := .d _)); exact rfl; exact rfl)
    |(apply (yDb (u := .d _)); exact rfl; exact rfl)))|(refine W.gOff _ _ rfl rfl (by intro h; cases h) ?_)|(apply yA)|(apply yB)|(apply yC; kernel_rfl)|(apply yD; exact rfl; kernel_rfl)|(apply yE)|(apply yF; kernel_rfl)|(apply yG)|(apply yH)|(apply yJ)|(apply yP)|(apply yL)|(apply yN)|(apply yQ; exact rfl)|(refine W.gT _ _ rfl rfl (fun hb => ?_) (fun hb => ?_) <;> ((try simp only [hb, zK]) <;> (try simp only [zL, zI] at hb) <;> (try (exfalso; omega))))|(refine W.gF _ _ rfl rfl (fun hb => ?_) (fun hb => ?_) <;> ((try simp only [hb, zK]) <;> (try simp only [zL, zI] at hb) <;> (try (exfalso; omega))))
    |(refine W.cond _ rfl (fun hb => ?_) (fun hb => ?_) <;> ((try simp only [hb, zK]) <;> (try simp only [zL, zI] at hb) <;> (try (exfalso; omega))))))
   all_goals first
    |exact Ends.b rfl (hbd (by omega)).symm
    |exact ⟨q + 1 + 1, ⟨by omega, hnx (by omega)⟩, by omega, [0, 1], rfl, rfl, rfl, iV_eq (by omega), rfl, rfl, trivial⟩
    |(exfalso; omega)
 ·have ht : R = true := hcnd.2 fun j h => (hk.2 j h (by omega)).1
  rw [ht]
  clear hcnd hls hl0 hk
  (repeat' (first
   |(apply W.qd; (first
   |(exact zM)|(exact zN)|(exact yS rfl rfl rfl)|(exact yT rfl rfl rfl rfl)|(exact q_lss rfl rfl)
   |(exact yV rfl rfl)))|(apply yA)|(apply yB)|(apply yC; kernel_rfl)|(apply yE)|(apply yI)|(apply yJ)|(apply yK)|(apply yM)
   |(refine W.cond _ rfl (fun hb => ?_) (fun hb => ?_) <;> ((try simp only [hb, zK]) <;> (try simp only [zL, zI] at hb) <;> (try (exfalso; omega))))))
  all_goals exact Ends.b rfl rfl
theorem A_rvalid24 {d r n s l i : Int} {rows : List SRw} (hl : rows.length ≤ 1000000) (hu : ∀ a (h : a < rows.length), rows[a].2.2.length ≤ 9223372036854775807) : ACalls Tryz.prog 70 [cfgA d r n s l i, rws rows] [] (bV (validR d r n s l i rows)) [] := by
 have hck := A_rdchk d r n s l i
 have hm : (rows.map rwD).length = rows.length := List.length_map _
 refine acalls_of_body Tryz.func70 rfl (zU rfl) ?_
 unfold validR
 by_cases h1 : chk13 d r n s l i = 0 ∧ (rows.length : Int) = n
 case neg =>
  rw [decide_eq_false h1, Bool.false_and]
  generalize chk13 d r n s l i = e at *
  (repeat' (first
   |(apply yFb; exact rfl; exact rfl)
   |(apply W.qd; (first
   |(exact zW (hck))|(exact zM)|(exact zN)|(exact yS rfl rfl rfl)|(exact yT rfl rfl rfl rfl)|(exact yU rfl rfl rfl rfl)|(exact q_neq rfl rfl)|(exact yV rfl rfl)|(apply (yEb (u := .d _)); exact rfl; exact rfl)
   |(apply (yDb (u := .d _)); exact rfl; exact rfl)))|(apply W.ed; (apply yBb; (iterate 3 exact rfl); kernel_rfl; kernel_rfl))|(refine W.gOff _ _ rfl rfl (by intro h; cases h) ?_)|(apply yA)|(apply yB)|(apply (W.regionS 4); exact rfl; kernel_rfl)|(apply yE)|(apply yJ)|(apply yP)|(apply yQ; exact rfl)|(refine W.gF _ _ rfl rfl (fun hb => ?_) (fun hb => ?_) <;> ((try simp only [hb, zK]) <;> (try simp only [zL, zI] at hb) <;> (try (exfalso; omega))))
   |(refine W.cond _ rfl (fun hb => ?_) (fun hb => ?_) <;> ((try simp only [hb, zK]) <;> (try simp only [zL, zI] at hb) <;> (try (exfalso; omega))))))
  all_goals first | (exfalso; omega) | exact Ends.b rfl rfl
 rw [decide_eq_true h1, Bool.true_and]
 rw [h1.1] at hck
 have hn := h1.2
 clear h1
 have hR := fun a (h : a < rows.length) => A_rright24 (d := d) (r := r) (n := n) (s := s) (l := l) (i := i) (w := rows[a]) (hu a h)
 have hok : ∀ a (h : a < rows.length), okR d r n s l i rows a = (rgtR (grpI d r n s l i rows[a].2.1) rows[a] && (List.range a).all (conR rows a)) := fun a h => by
  unfold okR; rw [getDr h]
 have hcon : ∀ a (h : a < rows.length) b (h2 : b < rows.length), conR rows a b = !(decide (rows[b].1 = rows[a].1) && !decide (rows[b].2.1 = rows[a].2.1)) := fun a h b h2 => by
  unfold conR; rw [getDr h, getDr h2]
 generalize okR d r n s l i rows = Q at *
 (repeat' (first
  |(apply yFb; exact rfl; exact rfl)
  |(apply W.qd; (first
  |(exact zW (hck))|(exact zM)|(exact zN)|(exact yS rfl rfl rfl)|(exact yT rfl rfl rfl rfl)|(exact yU rfl rfl rfl rfl)|(exact q_neq rfl rfl)|(exact yV rfl rfl)
  |(apply (yDb (u := .d _)); exact rfl; exact rfl)))|(apply W.ed; (apply yBb; (iterate 3 exact rfl); kernel_rfl; kernel_rfl))|(apply yA)|(apply yB)|(apply (W.regionS 5); exact rfl; kernel_rfl)|(apply yE)|(apply yG)|(apply yH)
  |(refine W.cond _ rfl (fun hb => ?_) (fun hb => ?_) <;> ((try simp only [hb, zK]) <;> (try simp only [zL, zI] at hb) <;> (try (exfalso; omega))))))
 all_goals try (exfalso; omega)
 refine AWP.loopW (α := Nat) (fun a => a ≤ rows.length ∧ ∀ j, j < a → Q j = true) (fun a => ⟨[(6, iV a), (1, rws rows), (2, .opt 0 0)], [.box [iV d, iV r, iV n, iV s, iV l, iV i]]⟩) (fun a => rows.length - a) 0 ⟨Nat.zero_le _, fun j hj => by omega⟩ ⟨[0], rfl, rfl, rfl, by (repeat (first | exact trivial | refine ⟨rfl, ?_⟩))⟩ fun a ha => ?_
 by_cases hal : a < rows.length
 ·have hbad : Q a = false → (List.range rows.length).all Q = false := fun h => by
   rw [List.all_eq_false]
   exact ⟨a, List.mem_range.2 hal, by rw [h]; decide⟩
  have hnx : Q a = true → ∀ j, j < a + 1 → Q j = true := fun h j hj => by
   by_cases e : j = a
   ·subst e; exact h
   ·exact ha.2 j (by omega)
  have hra := hR a hal
  have hqa := hok a hal
  have hca := fun b (h2 : b < rows.length) => hcon a hal b h2
  clear ha hok hcon hR hu
  generalize (List.range rows.length).all Q = R at *
  generalize rgtR (grpI d r n s l i rows[a].2.1) rows[a] = ra at *
  cases ra with
  | false =>
    rw [Bool.false_and] at hqa
    rw [hbad hqa]
    (repeat' (first
     |(apply W.qd; (first
     |(exact zW (hra))|(exact zM)|(exact zN)|(exact yU rfl rfl rfl rfl)|(exact q_lss rfl rfl)|(exact q_not rfl)|(exact yV rfl rfl)|(apply yY; (iterate 3 exact rfl); (first | omega | (focus (simp; done))))
     |(apply yGb; (iterate 4 exact rfl); (first | (with_reducible exact rfl) | exact natI_spec rfl | assumption | exact (Int.toNat_of_nonneg (by omega)).symm); (first | omega | (focus (simp only [List.length_map]; omega)) | (focus (simp; done)) | (focus (simp; omega))))))|(apply yA)|(apply yB)|(apply (W.regionS 11); exact rfl; kernel_rfl)|(apply (W.regionDS 11); exact rfl; exact rfl; kernel_rfl)|(apply yE)|(apply yF; kernel_rfl)|(apply yG)|(apply yH)|(apply yJ)|(apply yP)|(apply yN)|(apply yQ; exact rfl)
     |(refine W.cond _ rfl (fun hb => ?_) (fun hb => ?_) <;> ((try simp only [hb, zK]) <;> (try simp only [zL, zI] at hb) <;> (try (exfalso; omega))))))
    all_goals first | (exfalso; omega) | exact Ends.b rfl rfl
  | true =>
    rw [Bool.true_and] at hqa
    (repeat' (first
     |(apply W.qd; (first
     |(exact zW (hra))|(exact zM)|(exact zN)|(exact yU rfl rfl rfl rfl)|(exact q_lss rfl rfl)|(exact q_not rfl)|(exact yV rfl rfl)|(apply yY; (iterate 3 exact rfl); (first | omega | (focus (simp; done))))
     |(apply yGb; (iterate 4 exact rfl); (first | (with_reducible exact rfl) | exact natI_spec rfl | assumption | exact (Int.toNat_of_nonneg (by omega)).symm); (first | omega | (focus (simp only [List.length_map]; omega)) | (focus (simp; done)) | (focus (simp; omega))))))|(apply yA)|(apply yB)|(apply (W.regionS 11); exact rfl; kernel_rfl)|(apply (W.regionDS 11); exact rfl; exact rfl; kernel_rfl)|(apply yE)|(apply yF; kernel_rfl)|(apply yG)|(apply yH)|(apply yR; exact rfl)
     |(refine W.cond _ rfl (fun hb => ?_) (fun hb => ?_) <;> ((try simp only [hb, zK]) <;> (try simp only [zL, zI] at hb) <;> (try (exfalso; omega))))))
    all_goals try (exfalso; omega)
    refine AWP.loopW (α := Nat) (fun b => b ≤ a ∧ ∀ j, j < b → conR rows a j = true) (fun b => ⟨[(8, iV b), (6, iV a), (1, rws rows), (2, .opt 0 0)], [.box [iV d, iV r, iV n, iV s, iV l, iV i]]⟩) (fun b => a - b) 0 ⟨Nat.zero_le _, fun j hj => by omega⟩ ⟨[0], rfl, rfl, rfl, by (repeat (first | exact trivial | refine ⟨rfl, ?_⟩))⟩ fun b hb9 => ?_
    by_cases hbl : b < a
    ·have hcb := hca b (by omega)
     have hbd : conR rows a b = false → R = false := fun h => hbad (by rw [hqa, List.all_eq_false]; exact ⟨b, List.mem_range.2 hbl, by rw [h]; decide⟩)
     have hn2 : conR rows a b = true → ∀ j, j < b + 1 → conR rows a j = true := fun h j hj => by
      by_cases e : j = b
      ·subst e; exact h
      ·exact hb9.2 j (by omega)
     have hb1 := hb9.1
     clear hb9 hca hqa hnx hbad
     have hbr : b < rows.length := by omega
     by_cases e1 : rows[b].1 = rows[a].1
     ·by_cases e2 : rows[b].2.1 = rows[a].2.1
      ·rw [decide_eq_true e1, decide_eq_true e2] at hcb
       (repeat' (first
        |(apply yFb; exact rfl; exact rfl)
        |(apply W.qd; (first
        |(exact zM)|(exact zN)|(exact q_lss rfl rfl)|(exact q_eql rfl rfl)|(exact q_neq rfl rfl)|(exact q_add rfl rfl (by omega))|(apply yX; (iterate 3 exact rfl); (first | omega | (focus (simp; done))))|(apply q_fld_fptF; (iterate 3 exact rfl))|(apply yGb; (iterate 4 exact rfl); (first | (with_reducible exact rfl) | exact natI_spec rfl | assumption | exact (Int.toNat_of_nonneg (by omega)).symm); (first | omega | (focus (simp only [List.length_map]; omega)) | (focus (simp; done)) | (focus (simp; omega))))
        |(apply (yEb (u := .d _)); exact rfl; exact rfl)))|(apply yA)|(apply yB)|(apply yC; kernel_rfl)|(apply yD; exact rfl; kernel_rfl)|(apply yE)|(apply yF; kernel_rfl)|(apply yG)|(apply yH)|(apply yL)|(refine W.gT _ _ rfl rfl (fun hb => ?_) (fun hb => ?_) <;> ((try simp only [hb, zK]) <;> (try simp only [zL, zI] at hb) <;> (try (exfalso; omega))))
        |(refine W.cond _ rfl (fun hb => ?_) (fun hb => ?_) <;> ((try simp only [hb, zK]) <;> (try simp only [zL, zI] at hb) <;> (try (exfalso; omega))))))
       all_goals first
        |(exfalso; omega)
        |exact ⟨b + 1, ⟨by omega, hn2 hcb⟩, by omega, [0], rfl, rfl, rfl, iV_eq (by omega), rfl, rfl, rfl, trivial⟩
      ·rw [decide_eq_true e1, decide_eq_false e2] at hcb
       rw [hbd hcb]
       (repeat' (first
        |(apply yFb; exact rfl; exact rfl)
        |(apply W.qd; (first
        |(exact zM)|(exact zN)|(exact q_lss rfl rfl)|(exact q_eql rfl rfl)|(exact q_neq rfl rfl)|(apply yX; (iterate 3 exact rfl); (first | omega | (focus (simp; done))))|(apply q_fld_fptF; (iterate 3 exact rfl))|(apply yGb; (iterate 4 exact rfl); (first | (with_reducible exact rfl) | exact natI_spec rfl | assumption | exact (Int.toNat_of_nonneg (by omega)).symm); (first | omega | (focus (simp only [List.length_map]; omega)) | (focus (simp; done)) | (focus (simp; omega))))
        |(apply (yEb (u := .d _)); exact rfl; exact rfl)))|(apply yA)|(apply yB)|(apply yC; kernel_rfl)|(apply yD; exact rfl; kernel_rfl)|(apply yE)|(apply yF; kernel_rfl)|(apply yG)|(apply yH)|(apply yJ)|(apply yP)|(apply yN)|(refine W.gT _ _ rfl rfl (fun hb => ?_) (fun hb => ?_) <;> ((try simp only [hb, zK]) <;> (try simp only [zL, zI] at hb) <;> (try (exfalso; omega))))
        |(refine W.cond _ rfl (fun hb => ?_) (fun hb => ?_) <;> ((try simp only [hb, zK]) <;> (try simp only [zL, zI] at hb) <;> (try (exfalso; omega))))))
       all_goals first | (exfalso; omega) | exact Ends.b rfl rfl
     ·rw [decide_eq_false e1, Bool.false_and] at hcb
      (repeat' (first
       |(apply W.qd; (first
       |(exact zM)|(exact zN)|(exact q_lss rfl rfl)|(exact q_eql rfl rfl)|(exact q_add rfl rfl (by omega))|(apply yX; (iterate 3 exact rfl); (first | omega | (focus (simp; done))))|(apply q_fld_fptF; (iterate 3 exact rfl))|(apply yGb; (iterate 4 exact rfl); (first | (with_reducible exact rfl) | exact natI_spec rfl | assumption | exact (Int.toNat_of_nonneg (by omega)).symm); (first | omega | (focus (simp only [List.length_map]; omega)) | (focus (simp; done)) | (focus (simp; omega))))
       |(apply (yDb (u := .d _)); exact rfl; exact rfl)))|(refine W.gOff _ _ rfl rfl (by intro h; cases h) ?_)|(apply yA)|(apply yB)|(apply yC; kernel_rfl)|(apply yD; exact rfl; kernel_rfl)|(apply yE)|(apply yF; kernel_rfl)|(apply yG)|(apply yH)|(apply yL)|(apply yR; exact rfl)|(refine W.gT _ _ rfl rfl (fun hb => ?_) (fun hb => ?_) <;> ((try simp only [hb, zK]) <;> (try simp only [zL, zI] at hb) <;> (try (exfalso; omega))))
       |(refine W.cond _ rfl (fun hb => ?_) (fun hb => ?_) <;> ((try simp only [hb, zK]) <;> (try simp only [zL, zI] at hb) <;> (try (exfalso; omega))))))
      all_goals first
       |(exfalso; omega)
       |exact ⟨b + 1, ⟨by omega, hn2 hcb⟩, by omega, [0], rfl, rfl, rfl, iV_eq (by omega), rfl, rfl, rfl, trivial⟩
    ·obtain rfl : b = a := by omega
     have hq1 : Q b = true := by
      rw [hqa, List.all_eq_true]
      intro j hj
      exact hb9.2 j (List.mem_range.1 hj)
     have hn3 := hnx hq1
     clear hb9 hca hqa hnx hbad hn
     (repeat' (first
      |(apply W.qd; (first
      |(exact zM)|(exact zN)|(exact q_lss rfl rfl)
      |(exact q_add rfl rfl (by omega))))|(apply yA)|(apply yB)|(apply yC; kernel_rfl)|(apply yE)|(apply yI)|(apply yK)|(apply yL)|(apply yM)
      |(refine W.cond _ rfl (fun hb => ?_) (fun hb => ?_) <;> ((try simp only [hb, zK]) <;> (try simp only [zL, zI] at hb) <;> (try (exfalso; omega))))))
     all_goals first
      |(exfalso; omega)
      |exact ⟨b + 1, ⟨by omega, hn3⟩, by omega, [0], rfl, rfl, rfl, iV_eq (by omega), rfl, rfl, trivial⟩
 ·have hall : (List.range rows.length).all Q = true := by
   rw [List.all_eq_true]
   intro j hj
   exact ha.2 j (by have := List.mem_range.1 hj; omega)
  rw [hall]
  clear ha hok hcon hR hu
  (repeat' (first
   |(apply W.qd; (first
   |(exact zM)|(exact zN)|(exact q_lss rfl rfl)
   |(exact yV rfl rfl)))|(apply yA)|(apply yB)|(apply yC; kernel_rfl)|(apply yE)|(apply yI)|(apply yJ)|(apply yK)|(apply yM)
   |(refine W.cond _ rfl (fun hb => ?_) (fun hb => ?_) <;> ((try simp only [hb, zK]) <;> (try simp only [zL, zI] at hb) <;> (try (exfalso; omega))))))
  all_goals exact Ends.b rfl rfl
end
section
attribute [local irreducible] Quiet Eff OpOk AWPG ACont ABlock ACalls
theorem A_lcrowd (d r n s l i wd : Int) : ACalls Tryz.prog 103 [cfgA d r n s l i, iV wd] [] (iV (crdI d r n s l i wd)) [] := by
 refine acalls_of_body Tryz.func103 rfl (zU rfl) ?_
 by_cases hok : OkL d r n s l i wd
 ·have hv : vldL d r n s l i wd = true := decide_eq_true hok
  have := A_lvalid d r n s l i wd
  rw [hv] at this
  obtain ⟨h1, h2, h3, h4, h5⟩ := hok.bd
  (repeat' (first
   |(apply W.qd; (first
   |(exact zW (this))|(exact zM)|(exact zN)|(exact yS rfl rfl rfl)|(exact yT rfl rfl rfl rfl)|(exact yU rfl rfl rfl rfl)|(exact q_not rfl)|(exact q_add rfl rfl (by omega))|(exact q_sub rfl rfl (by omega))
   |(apply q_quo; exact rfl; exact rfl; omega; omega; omega)))|(apply W.ed; (apply yBb; (iterate 3 exact rfl); kernel_rfl; kernel_rfl))|(apply yA)|(apply yB)|(apply yC; kernel_rfl)|(apply yE)|(apply yH)|(apply yJ)
   |(apply yR; exact rfl)))
  all_goals exact Ends.i rfl (if_pos hok).symm
 ·have hv : vldL d r n s l i wd = false := decide_eq_false hok
  have := A_lvalid d r n s l i wd
  rw [hv] at this
  (repeat' (first
   |(apply W.qd; (first
   |(exact zW (this))|(exact zM)|(exact zN)|(exact yU rfl rfl rfl rfl)
   |(exact q_not rfl)))|(apply W.ed; (apply yBb; (iterate 3 exact rfl); kernel_rfl; kernel_rfl))|(apply yA)|(apply yB)|(apply yC; kernel_rfl)|(apply yE)|(apply yJ)|(apply yP)
   |(apply yQ; exact rfl)))
  all_goals exact Ends.i rfl (if_neg hok).symm
theorem A_rcrowd (d r n s l i wd : Int) : ACalls Tryz.prog 233 [cfgA d r n s l i, iV wd] [] (iV (crdI d r n s l i wd)) [] := by
 refine acalls_of_body Tryz.func233 rfl (zU rfl) ?_
 by_cases hok : OkL d r n s l i wd
 ·have hv : vldL d r n s l i wd = true := decide_eq_true hok
  have := A_rlvalid d r n s l i wd
  rw [hv] at this
  obtain ⟨h1, h2, h3, h4, h5⟩ := hok.bd
  (repeat' (first
   |(apply W.qd; (first
   |(exact zW (this))|(exact zM)|(exact zN)|(exact yU rfl rfl rfl rfl)
   |(exact q_not rfl)))|(apply W.ed; (apply yBb; (iterate 3 exact rfl); kernel_rfl; kernel_rfl))|(apply yA)|(apply yB)|(apply yC; kernel_rfl)|(apply yE)|(apply yG)|(apply yH)
   |(apply yR; exact rfl)))
  refine AWP.loopW (α := Nat) (fun k => k ≤ 32 ∧ (k = 0 ∨ ((k : Int) - 1) * r < wd)) (fun k => ⟨[(6, iV k), (1, iV wd), (2, .opt 0 0)], [.box [iV d, iV r, iV n, iV s, iV l, iV i]]⟩) (fun k => (32 - k)) 0 ⟨by omega, .inl rfl⟩ ⟨[0], rfl, rfl, rfl, by (repeat (first | exact trivial | refine ⟨rfl, ?_⟩))⟩ fun k hk => ?_
  have hmul : (k : Int) * r ≤ 256 ∧ 0 ≤ (k : Int) * r := by
   have h0 : 0 ≤ (k : Int) * r := Int.mul_nonneg (by omega) (by omega)
   have h6 : (k : Int) * r ≤ 32 * 8 := Int.mul_le_mul (by omega) (by omega) (by omega) (by omega)
   omega
  have hmul2 : -9223372036854775808 ≤ (k : Int) * r ∧ (k : Int) * r < 9223372036854775808 := by omega
  (repeat' (first
   |(apply W.qd; (first
   |(exact zM)|(exact zN)|(exact yS rfl rfl rfl)|(exact yT rfl rfl rfl rfl)|(exact q_lss rfl rfl)|(exact q_add rfl rfl (by omega))
   |(apply q_mul; exact rfl; exact rfl; (first | omega | assumption))))|(apply yA)|(apply yB)|(apply yC; kernel_rfl)|(apply yE)|(apply yG)|(apply yH)|(apply yI)|(apply yJ)|(apply yK)|(apply yL)|(apply yM)
   |(refine W.cond _ rfl (fun hb => ?_) (fun hb => ?_) <;> ((try simp only [hb, zK]) <;> (try simp only [zL, zI] at hb) <;> (try (exfalso; omega))))))
  ·have hk1 : k < 32 := by
    rcases Nat.lt_or_ge k 32 with h | h
    ·exact h
    ·have : (k : Int) * r ≥ 32 * 1 := Int.mul_le_mul (by omega) (by omega) (by omega) (by omega)
     omega
   exact ⟨k + 1, ⟨by omega, .inr (by simpa using hb)⟩, by omega, ⟨[0], rfl, rfl, rfl, by (repeat (first | exact trivial | refine ⟨rfl, ?_⟩))⟩⟩
  ·refine Ends.i rfl ?_
   unfold crdI
   rw [if_pos hok]
   obtain ⟨h6, h7⟩ := h2
   have h8 := hk.2
   have : r = 1 ∨ r = 2 ∨ r = 3 ∨ r = 4 ∨ r = 5 ∨ r = 6 ∨ r = 7 ∨ r = 8 := by omega
   rcases this with rfl | rfl | rfl | rfl | rfl | rfl | rfl | rfl <;> omega
 ·have hv : vldL d r n s l i wd = false := decide_eq_false hok
  have := A_rlvalid d r n s l i wd
  rw [hv] at this
  (repeat' (first
   |(apply W.qd; (first
   |(exact zW (this))|(exact zM)|(exact zN)|(exact yU rfl rfl rfl rfl)
   |(exact q_not rfl)))|(apply W.ed; (apply yBb; (iterate 3 exact rfl); kernel_rfl; kernel_rfl))|(apply yA)|(apply yB)|(apply yC; kernel_rfl)|(apply yE)|(apply yJ)|(apply yP)
   |(apply yQ; exact rfl)))
  all_goals exact Ends.i rfl (if_neg hok).symm
end
section
abbrev Tn := List Nat × Int × Int × Int × Int × Int
abbrev Ue := Int × Int
def tnD (t : Tn) : List Dat := [.v (.string (bytesOf t.1)), .v (.int .i64 t.2.1), .v (.int .i64 t.2.2.1), .v (.int .i64 t.2.2.2.1), .v (.int .i64 t.2.2.2.2.1), .v (.int .i64 t.2.2.2.2.2)]
def ueD (u : Ue) : List Dat := [.v (.int .i64 u.1), .v (.int .i64 u.2)]
abbrev tns (l : List Tn) : AV := .d (.sl 6 (l.map tnD))
abbrev ues (l : List Ue) : AV := .d (.sl 2 (l.map ueD))
def tn0 : Tn := ([], 0, 0, 0, 0, 0)
def ue0 : Ue := (0, 0)
def inT (x : Int) : Bool := decide (0 ≤ x ∧ x ≤ 2147483647)
def tnOk (nv : Nat) (t : Tn) (u : Ue) : Bool := decide (0 ≤ t.2.2.2.2.2 ∧ t.2.2.2.2.2 < (nv : Int)) && ((inT t.2.1 && inT t.2.2.1) && (inT u.1 && inT u.2))
def tenB (nv : Nat) (ts : List Tn) (us : List Ue) : Bool := decide (ts.length ≤ 16 ∧ ts.length ≤ us.length) && (List.range ts.length).all fun i => tnOk nv (ts.getD i tn0) (us.getD i ue0)
def mxI (a b : Int) : Int := if b > a then b else a
def blkOf (t : Tn) (u : Ue) : Int := mxI t.2.1 u.1 + mxI t.2.2.1 u.2
def blkT (ts : List Tn) (us : List Ue) (k : Int) : Nat → Int
 | 0 => 0
 | n + 1 => blkT ts us k n + if (ts.getD n tn0).2.2.2.2.2 = k then blkOf (ts.getD n tn0) (us.getD n ue0) else 0
def blkN (ts : List Tn) (us : List Ue) (k : Int) : Int := blkT ts us k (min ts.length us.length)
def upI (a b : Int) : Int := (a + b - 1) / b
def limN (D n : Int) : Int := if n < 1 ∨ 1099511627776 < n ∨ D < 1 then 0 else 2 + upI n D * 2
abbrev refI : Int := 18
def codN (d r n s l i : Int) (c : Cd) (x : Int) : Int × Int :=
 if ¬ OkC d r n s l i ∨ chkD c = false ∨ x < 0 ∨ 1099511627776 < x then (0, 1)
 else if x = 0 then (0, 0)
 else if grpI d r n s l i (c.2.2.1 + (c.2.2.2.1.length : Int)) = 0 ∨ c.2.2.2.2 < crdI d r n s l i (c.2.2.1 + (c.2.2.2.1.length : Int)) then (0, refI)
 else (upI (limN c.2.2.1 x) (grpI d r n s l i (c.2.2.1 + (c.2.2.2.1.length : Int))), 0)
def codesV (v : Sv) : List Int := if v.2.1 = -1 then [] else if v.2.2.1 = -1 then [v.2.1] else [v.2.1, v.2.2.1]
def jobsN (vs : List Sv) (b : Nat → Int) : Nat → List (Int × Int)
 | 0 => []
 | k + 1 => jobsN vs b k ++ (codesV (vs.getD k sv0)).map fun c => (c, b k)
section
variable (F : Cd → Int → Int × Int) (cs : List Cd)
def stepJ (a : List Int × Int) (j : Int × Int) : List Int × Int := if a.2 ≠ 0 then a else (a.1.set j.1.toNat (F (cs.getD j.1.toNat cd0) j.2).1, (F (cs.getD j.1.toNat cd0) j.2).2)
def runJ (l : List (Int × Int)) : List Int × Int := l.foldl (stepJ F cs) (List.replicate 8 0, 0)
def sumH (need : List Int) (held : Nat → Int) : Nat → Int
 | 0 => 0
 | c + 1 => sumH need held c + mxI (need.getD c 0) (held c)
def totN (vs : List Sv) (held : Nat → Int) (b : Nat → Int) : Int × Int :=
 if (runJ F cs (jobsN vs b vs.length)).2 ≠ 0 then (0, (runJ F cs (jobsN vs b vs.length)).2) else (sumH (runJ F cs (jobsN vs b vs.length)).1 held 8, 0)
end
def heldT (rows : List SRw) (c : Int) : Nat → Nat
 | 0 => 0
 | i + 1 => heldT rows c i + if (rows.getD i rw0).1 = c then 1 else 0
def heldN (rows : List SRw) (c : Int) : Nat := heldT rows c rows.length
theorem heldT_le (rows : List SRw) (c : Int) : ∀ i, heldT rows c i ≤ i
 | 0 => Nat.le_refl _
 | i + 1 => by
   have := heldT_le rows c i
   unfold heldT
   split <;> omega
theorem runJ_app {F : Cd → Int → Int × Int} {cs : List Cd} (l : List (Int × Int)) (j : Int × Int) : runJ F cs (l ++ [j]) = stepJ F cs (runJ F cs l) j := by
 unfold runJ; rw [List.foldl_append]; rfl
theorem runJ_len {F : Cd → Int → Int × Int} {cs : List Cd} : ∀ (l : List (Int × Int)) (a : List Int × Int), (l.foldl (stepJ F cs) a).1.length = a.1.length
 | [], _ => rfl
 | j :: l, a => by
   rw [List.foldl_cons, runJ_len l]
   unfold stepJ
   split <;> simp
theorem runJ_stop {F : Cd → Int → Int × Int} {cs : List Cd} : ∀ (l : List (Int × Int)) (a : List Int × Int), a.2 ≠ 0 → l.foldl (stepJ F cs) a = a
 | [], _, _ => rfl
 | j :: l, a, h => by
   rw [List.foldl_cons]
   have e : stepJ F cs a j = a := by unfold stepJ; rw [if_pos h]
   rw [e, runJ_stop l a h]
theorem runJ_err {F : Cd → Int → Int × Int} {cs : List Cd} {l t : List (Int × Int)} (h : (runJ F cs l).2 ≠ 0) : runJ F cs (l ++ t) = runJ F cs l := by
 unfold runJ; rw [List.foldl_append]; exact runJ_stop t _ h
def MonoF (F : Cd → Int → Int × Int) : Prop := ∀ c x y, 0 ≤ x → x ≤ y → (F c y).2 = 0 → (F c x).2 = 0 ∧ (F c x).1 ≤ (F c y).1
def LeL (a b : List Int) : Prop := a.length = b.length ∧ ∀ c, a.getD c 0 ≤ b.getD c 0
theorem LeL.refl (a : List Int) : LeL a a := ⟨rfl, fun _ => Int.le_refl _⟩
theorem getD_setI (l : List Int) (u j : Nat) (x : Int) : (l.set u x).getD j 0 = if j = u ∧ u < l.length then x else l.getD j 0 := by
 rw [List.getD_eq_getElem?_getD, List.getD_eq_getElem?_getD, List.getElem?_set]
 by_cases h : u = j
 ·subst h
  by_cases h2 : u < l.length
  ·simp [h2]
  ·rw [if_pos rfl, if_neg h2, if_neg (by simp [h2]), List.getElem?_eq_none (by omega)]
 ·rw [if_neg h, if_neg (by omega)]
theorem LeL.set {a b : List Int} (h : LeL a b) (u : Nat) {x y : Int} (hxy : x ≤ y) : LeL (a.set u x) (b.set u y) := by
 refine ⟨by rw [List.length_set, List.length_set]; exact h.1, fun c => ?_⟩
 rw [getD_setI, getD_setI, h.1]
 split
 ·exact hxy
 ·exact h.2 c
def LeJ : List (Int × Int) → List (Int × Int) → Prop
 | [], [] => True
 | a :: l, b :: t => (a.1 = b.1 ∧ 0 ≤ a.2 ∧ a.2 ≤ b.2) ∧ LeJ l t
 | _, _ => False
theorem LeJ.app : ∀ {l t l2 t2 : List (Int × Int)}, LeJ l t → LeJ l2 t2 → LeJ (l ++ l2) (t ++ t2)
 | [], [], _, _, _, h2 => h2
 | a :: l, b :: t, _, _, h, h2 => ⟨h.1, LeJ.app h.2 h2⟩
 | [], _ :: _, _, _, h, _ => h.elim
 | _ :: _, [], _, _, h, _ => h.elim
theorem LeJ.map {c : List Int} {x y : Int} (h0 : 0 ≤ x) (h : x ≤ y) : LeJ (c.map fun c => (c, x)) (c.map fun c => (c, y)) := by
 induction c with
 | nil => trivial
 | cons a c ih => exact ⟨⟨rfl, h0, h⟩, ih⟩
theorem jobs_le {vs : List Sv} {b b' : Nat → Int} (h0 : ∀ k, 0 ≤ b k) (h : ∀ k, b k ≤ b' k) : ∀ n, LeJ (jobsN vs b n) (jobsN vs b' n)
 | 0 => trivial
 | n + 1 => LeJ.app (jobs_le h0 h n) (LeJ.map (h0 n) (h n))
theorem run_mono {F : Cd → Int → Int × Int} {cs : List Cd} (hF : MonoF F) : ∀ (l t : List (Int × Int)) (a b : List Int × Int), LeJ l t → LeL a.1 b.1 → a.2 = 0 → (t.foldl (stepJ F cs) b).2 = 0 → (l.foldl (stepJ F cs) a).2 = 0 ∧ LeL (l.foldl (stepJ F cs) a).1 (t.foldl (stepJ F cs) b).1
 | [], [], a, b, _, h, ha, _ => ⟨ha, h⟩
 | x :: l, y :: t, a, b, hj, h, ha, hb => by
   rw [List.foldl_cons] at hb
   have hb0 : b.2 = 0 := Classical.byContradiction fun hn => by
    have e : stepJ F cs b y = b := by unfold stepJ; rw [if_pos hn]
    rw [e, runJ_stop t b hn] at hb
    exact hn hb
   have eb : stepJ F cs b y = (b.1.set y.1.toNat (F (cs.getD y.1.toNat cd0) y.2).1, (F (cs.getD y.1.toNat cd0) y.2).2) := by unfold stepJ; rw [if_neg (by simp [hb0])]
   have ea : stepJ F cs a x = (a.1.set x.1.toNat (F (cs.getD x.1.toNat cd0) x.2).1, (F (cs.getD x.1.toNat cd0) x.2).2) := by unfold stepJ; rw [if_neg (by simp [ha])]
   have hy : (F (cs.getD y.1.toNat cd0) y.2).2 = 0 := Classical.byContradiction fun hn => by
    rw [eb, runJ_stop t _ hn] at hb
    exact hn hb
   obtain ⟨⟨h1, h2, h3⟩, h4⟩ := hj
   obtain ⟨h5, h6⟩ := hF _ _ _ h2 h3 hy
   rw [List.foldl_cons, List.foldl_cons, ea, eb]
   rw [eb] at hb
   rw [h1]
   exact run_mono hF l t _ _ h4 (h.set _ h6) h5 hb
 | [], _ :: _, _, _, h, _, _, _ => h.elim
 | _ :: _, [], _, _, h, _, _, _ => h.elim
theorem sumH_mono {a b : List Int} {h h' : Nat → Int} (hl : LeL a b) (hh : ∀ c, h c ≤ h' c) : ∀ n, sumH a h n ≤ sumH b h' n
 | 0 => Int.le_refl _
 | n + 1 => by
   have h1 := sumH_mono hl hh n
   have h2 := hl.2 n
   have h3 := hh n
   unfold sumH mxI
   split <;> split <;> omega
theorem tot_mono {F : Cd → Int → Int × Int} {cs : List Cd} {vs : List Sv} {h h' b b' : Nat → Int} (hF : MonoF F) (h0 : ∀ k, 0 ≤ b k) (hb : ∀ k, b k ≤ b' k) (hh : ∀ c, h c ≤ h' c) (he : (totN F cs vs h' b').2 = 0) : (totN F cs vs h b).2 = 0 ∧ (totN F cs vs h b).1 ≤ (totN F cs vs h' b').1 := by
 have he2 : (runJ F cs (jobsN vs b' vs.length)).2 = 0 := Classical.byContradiction fun hn => by
  unfold totN at he
  rw [if_pos hn] at he
  exact hn he
 obtain ⟨h1, h2⟩ := run_mono (cs := cs) hF _ _ (List.replicate 8 0, 0) (List.replicate 8 0, 0) (jobs_le (vs := vs) h0 hb vs.length) (LeL.refl _) rfl he2
 have h1 : (runJ F cs (jobsN vs b vs.length)).2 = 0 := h1
 have h2 : LeL (runJ F cs (jobsN vs b vs.length)).1 (runJ F cs (jobsN vs b' vs.length)).1 := h2
 unfold totN
 rw [if_neg (by simp [h1]), if_neg (by simp [he2])]
 exact ⟨rfl, sumH_mono h2 hh 8⟩
theorem upI_mono {a b c : Int} (hc : 0 < c) (h : a ≤ b) : upI a c ≤ upI b c := Int.ediv_le_ediv hc (by omega)
theorem upI_nn {a c : Int} (hc : 0 < c) (h : 0 ≤ a) : 0 ≤ upI a c := Int.ediv_nonneg (by omega) (by omega)
theorem limN_nn (D n : Int) : 0 ≤ limN D n := by
 unfold limN
 split
 ·exact Int.le_refl _
 ·rename_i h
  have := upI_nn (a := n) (c := D) (by omega) (by omega)
  omega
theorem limN_mono {D x y : Int} (h0 : 0 ≤ x) (h : x ≤ y) (hy : y ≤ 1099511627776) : limN D x ≤ limN D y := by
 by_cases hx : x < 1 ∨ 1099511627776 < x ∨ D < 1
 ·have e : limN D x = 0 := if_pos hx
  rw [e]; exact limN_nn D y
 ·have hm := upI_mono (c := D) (by omega) h
  unfold limN
  rw [if_neg hx, if_neg (by omega)]; omega
theorem grpI_nn {d r n s l i w : Int} : 0 ≤ grpI d r n s l i w := by
 unfold grpI
 split
 ·rename_i h
  have := h.bd
  exact Int.ediv_nonneg (by omega) (by omega)
 ·exact Int.le_refl _
theorem codN_mono (d r n s l i : Int) : MonoF (codN d r n s l i) := fun c x y h0 h he => by
 unfold codN at he
 by_cases h1 : ¬ OkC d r n s l i ∨ chkD c = false ∨ y < 0 ∨ 1099511627776 < y
 ·rw [if_pos h1] at he; exact absurd he (by decide)
 rw [if_neg h1] at he
 have h1x : ¬ (¬ OkC d r n s l i ∨ chkD c = false ∨ x < 0 ∨ 1099511627776 < x) := fun hn => h1 (by
  rcases hn with hn | hn | hn | hn
  ·exact .inl hn
  ·exact .inr (.inl hn)
  ·omega
  ·exact .inr (.inr (.inr (by omega))))
 have hy : y ≤ 1099511627776 := Classical.byContradiction fun hn => h1 (.inr (.inr (.inr (by omega))))
 have hg := grpI_nn (d := d) (r := r) (n := n) (s := s) (l := l) (i := i) (w := c.2.2.1 + (c.2.2.2.1.length : Int))
 unfold codN
 rw [if_neg h1, if_neg h1x]
 by_cases hx0 : x = 0
 ·rw [if_pos hx0]
  refine ⟨rfl, ?_⟩
  split
  ·exact Int.le_refl _
  ·split
   ·exact Int.le_refl _
   ·rename_i h3
    exact upI_nn (by omega) (limN_nn _ _)
 ·rw [if_neg hx0]
  rw [if_neg (show ¬ y = 0 by omega)] at he ⊢
  by_cases h2 : grpI d r n s l i (c.2.2.1 + (c.2.2.2.1.length : Int)) = 0 ∨ c.2.2.2.2 < crdI d r n s l i (c.2.2.1 + (c.2.2.2.1.length : Int))
  ·rw [if_pos h2] at he; exact absurd he (by decide)
  ·rw [if_neg h2, if_neg h2]
   exact ⟨rfl, upI_mono (by omega) (limN_mono h0 h hy)⟩
end
section
def moreB (b : Nat → Int) (k : Nat) (m : Int) : Nat → Int := fun j => b j + if j = k then m else 0
section
variable (F : Cd → Int → Int × Int) (cs : List Cd) (vs : List Sv) (held : Nat → Int) (n : Int)
def fitT (b : Nat → Int) : Bool := decide ((totN F cs vs held b).2 = 0 ∧ (totN F cs vs held b).1 < n)
def roomT (b : Nat → Int) (k : Nat) : Nat := ((List.range 1048576).find? fun m : Nat => !fitT F cs vs held n (moreB b k ((m : Int) + 1))).getD 1048576
end
theorem moreB_zero (b : Nat → Int) (k : Nat) : moreB b k 0 = b := by
 funext j; unfold moreB; split <;> omega
theorem fit_mono {F : Cd → Int → Int × Int} {cs : List Cd} {vs : List Sv} {h h' b b' : Nat → Int} {n : Int} (hF : MonoF F) (h0 : ∀ k, 0 ≤ b k) (hb : ∀ k, b k ≤ b' k) (hh : ∀ c, h c ≤ h' c) (he : fitT F cs vs h' n b' = true) : fitT F cs vs h n b = true := by
 unfold fitT at he ⊢
 simp only [decide_eq_true_eq] at he ⊢
 have := tot_mono hF h0 hb hh he.1
 exact ⟨this.1, by omega⟩
theorem fit_more {F : Cd → Int → Int × Int} {cs : List Cd} {vs : List Sv} {h b : Nat → Int} {n x y : Int} {k : Nat} (hF : MonoF F) (h0 : ∀ k, 0 ≤ b k) (hx : 0 ≤ x) (hxy : x ≤ y) (he : fitT F cs vs h n (moreB b k y) = true) : fitT F cs vs h n (moreB b k x) = true :=
 fit_mono hF (fun j => by have := h0 j; unfold moreB; split <;> omega) (fun j => by unfold moreB; split <;> omega) (fun _ => Int.le_refl _) he
theorem find_first {p : Nat → Bool} {n : Nat} : (((List.range n).find? p).getD n ≤ n) ∧ (∀ m, m < ((List.range n).find? p).getD n → p m = false) ∧ (((List.range n).find? p).getD n < n → p (((List.range n).find? p).getD n) = true) := by
 cases h : (List.range n).find? p with
 | none =>
   refine ⟨Nat.le_refl _, fun m hm => ?_, fun hn => absurd hn (Nat.lt_irrefl n)⟩
   have := List.find?_eq_none.1 h m (List.mem_range.2 hm)
   simpa using this
 | some x =>
   have h1 := List.find?_some h
   have h2 := List.mem_range.1 (List.mem_of_find?_eq_some h)
   refine ⟨by simp; omega, fun m hm => ?_, fun _ => h1⟩
   obtain ⟨_, pa, bs, h3, h4⟩ := List.find?_eq_some_iff_append.1 h
   have h5 : pa.length = x := by
    have e1 := congrArg (fun l => l[pa.length]?) h3
    simp only [List.getElem?_append_right (Nat.le_refl _), Nat.sub_self, List.getElem?_cons_zero] at e1
    rw [List.getElem?_eq_some_iff] at e1
    obtain ⟨_, e2⟩ := e1
    rw [List.getElem_range] at e2
    exact e2
   have e3 : pa[m]? = some m := by
    have hm : m < pa.length := by rw [h5]; exact hm
    have e1 := congrArg (fun l => l[m]?) h3
    simp only [List.getElem?_append_left hm] at e1
    rw [← e1, List.getElem?_range (by omega)]
   have := h4 m (List.mem_of_getElem? e3)
   simpa using this
theorem room_spec {F : Cd → Int → Int × Int} {cs : List Cd} {vs : List Sv} {h b : Nat → Int} {n : Int} {k : Nat} (h1 : fitT F cs vs h n b = true) : roomT F cs vs h n b k ≤ 1048576 ∧ fitT F cs vs h n (moreB b k (roomT F cs vs h n b k : Nat)) = true ∧ (roomT F cs vs h n b k < 1048576 → fitT F cs vs h n (moreB b k ((roomT F cs vs h n b k : Nat) + 1)) = false) := by
 unfold roomT
 obtain ⟨g1, g2, g3⟩ := find_first (p := fun m : Nat => !fitT F cs vs h n (moreB b k ((m : Int) + 1))) (n := 1048576)
 generalize ((List.range 1048576).find? fun m : Nat => !fitT F cs vs h n (moreB b k ((m : Int) + 1))).getD 1048576 = R at *
 refine ⟨g1, ?_, fun hR => by simpa using g3 hR⟩
 match R with
 | 0 => rw [show ((0 : Nat) : Int) = 0 from rfl, moreB_zero]; exact h1
 | R + 1 =>
   have := g2 R (by omega)
   simpa using this
theorem room_unique {F : Cd → Int → Int × Int} {cs : List Cd} {vs : List Sv} {h b : Nat → Int} {n : Int} {k m : Nat} (hF : MonoF F) (h0 : ∀ k, 0 ≤ b k) (hm : m ≤ 1048576) (h1 : fitT F cs vs h n (moreB b k m) = true) (h2 : m < 1048576 → fitT F cs vs h n (moreB b k ((m : Int) + 1)) = false) : roomT F cs vs h n b k = m := by
 have hb : fitT F cs vs h n b = true := by
  have := fit_more (x := 0) hF h0 (Int.le_refl _) (by omega) h1
  rwa [moreB_zero] at this
 obtain ⟨g1, g2, g3⟩ := room_spec (k := k) hb
 generalize roomT F cs vs h n b k = R at *
 rcases Nat.lt_trichotomy R m with hlt | he | hgt
 ·have := fit_more (x := (R : Int) + 1) hF h0 (by omega) (by omega) h1
  rw [g3 (by omega)] at this; cases this
 ·exact he
 ·have := fit_more (x := (m : Int) + 1) hF h0 (by omega) (by omega) g2
  rw [h2 (by omega)] at this; cases this
theorem blkT_nn {ts : List Tn} {us : List Ue} {k : Int} {nv : Nat} (h : tenB nv ts us = true) : ∀ n, n ≤ ts.length → 0 ≤ blkT ts us k n ∧ blkT ts us k n ≤ (n : Int) * 4294967294
 | 0, _ => by unfold blkT; omega
 | n + 1, hn => by
   have h1 := blkT_nn (k := k) h n (by omega)
   have h2 : tnOk nv (ts.getD n tn0) (us.getD n ue0) = true := by
    unfold tenB at h
    simp only [Bool.and_eq_true, List.all_eq_true] at h
    exact h.2 n (List.mem_range.2 (by omega))
   unfold tnOk inT at h2
   simp only [Bool.and_eq_true, decide_eq_true_eq] at h2
   unfold blkT blkOf mxI
   split <;> (try split) <;> (try split) <;> omega
theorem ten_len {nv : Nat} {ts : List Tn} {us : List Ue} (h : tenB nv ts us = true) : ts.length ≤ 16 ∧ ts.length ≤ us.length := by
 unfold tenB at h
 simp only [Bool.and_eq_true, decide_eq_true_eq] at h
 exact h.1
theorem blkN_bd {ts : List Tn} {us : List Ue} {k : Int} {nv : Nat} (h : tenB nv ts us = true) : 0 ≤ blkN ts us k ∧ blkN ts us k ≤ 68719476704 := by
 have h2 := ten_len h
 have h1 := blkT_nn (k := k) h (min ts.length us.length) (by omega)
 unfold blkN
 omega
def blkL (nv : Nat) (ts : List Tn) (us : List Ue) : List Int := (List.range nv).map fun k : Nat => blkN ts us (k : Int)
def blkF (ts : List Tn) (us : List Ue) (k : Nat) : Int := blkN ts us k
theorem blkL_get {nv k : Nat} {ts : List Tn} {us : List Ue} (h : k < nv) : (blkL nv ts us).getD k 0 = blkF ts us k := by
 unfold blkL blkF
 rw [List.getD_eq_getElem?_getD, List.getElem?_map, List.getElem?_range h]; rfl
theorem jobs_congr {vs : List Sv} {b b' : Nat → Int} : ∀ n, (∀ k, k < n → b k = b' k) → jobsN vs b n = jobsN vs b' n
 | 0, _ => rfl
 | n + 1, h => by
   unfold jobsN
   rw [jobs_congr n fun k hk => h k (by omega), h n (by omega)]
theorem tot_congr {F : Cd → Int → Int × Int} {cs : List Cd} {vs : List Sv} {held b b' : Nat → Int} (h : ∀ k, k < vs.length → b k = b' k) : totN F cs vs held b = totN F cs vs held b' := by
 unfold totN
 rw [jobs_congr vs.length h]
theorem blkL_more {nv k : Nat} {ts : List Tn} {us : List Ue} (h : k < nv) (m : Int) : ∀ j, j < nv → ((blkL nv ts us).set k (blkN ts us k + m)).getD j 0 = moreB (blkF ts us) k m j := fun j hj => by
 have hl : (blkL nv ts us).length = nv := by unfold blkL; simp
 rw [getD_setI, hl]
 unfold moreB
 by_cases e : j = k
 ·subst e; rw [if_pos ⟨rfl, h⟩, if_pos rfl]; rfl
 ·rw [if_neg (fun h => e h.1), if_neg e, blkL_get hj]; omega
end
section
def wdM (rows : List SRw) : Nat → List (Int × Value)
 | 0 => []
 | i + 1 => setI (wdM rows i) (rows.getD i rw0).1 (.int .i64 (rows.getD i rw0).2.1)
theorem hasV_setI (l : List (Int × Value)) (a : Int) (u : Value) (c : Int) : hasV (setI l a u) c = (decide (c = a) || hasV l c) := by
 have key : ∀ (l : List (Int × Value)) (c : Int), hasV l c = true ↔ ∃ v, (c, v) ∈ l := fun l c => by
  unfold hasV
  induction l with
  | nil => simp [getIx]
  | cons p l ih =>
    obtain ⟨b, w⟩ := p
    rw [getIx]
    by_cases e : c = b
    ·subst e; simp
    ·rw [if_neg e, getIx_off]
     cases hq : getIx l c 0 with
     | none =>
       rw [hq] at ih
       simp only [Option.map_none, Option.isSome_none, Bool.false_eq_true, false_iff] at ih ⊢
       rintro ⟨v, hv⟩
       rcases List.mem_cons.1 hv with h | h
       ·injection h with h1 h2; exact e h1
       ·exact ih ⟨v, h⟩
     | some q =>
       rw [hq] at ih
       obtain ⟨v, hv⟩ := ih.1 rfl
       simp only [Option.map_some, Option.isSome_some, true_iff]
       exact ⟨v, List.mem_cons_of_mem _ hv⟩
 rw [Bool.eq_iff_iff, Bool.or_eq_true, decide_eq_true_eq, key, key]
 unfold setI
 cases hq : getIx l a 0 with
 | none =>
   dsimp only
   constructor
   ·rintro ⟨v, hv⟩
    rcases List.mem_append.1 hv with h | h
    ·exact .inr ⟨v, h⟩
    ·simp at h; exact .inl h.1
   ·rintro (h | ⟨v, h⟩)
    ·exact ⟨u, by simp [h]⟩
    ·exact ⟨v, List.mem_append_left _ h⟩
 | some p =>
   obtain ⟨i, w⟩ := p
   dsimp only
   have hl := getIx_spec hq
   obtain ⟨hi, hl2⟩ := List.getElem?_eq_some_iff.1 hl
   constructor
   ·rintro ⟨v, hv⟩
    rcases List.mem_or_eq_of_mem_set hv with h | h
    ·exact .inr ⟨v, h⟩
    ·injection h with h1 _; exact .inl h1
   ·rintro (h | ⟨v, h⟩)
    ·subst h; exact ⟨u, List.mem_set hi _⟩
    ·by_cases e : c = a
     ·subst e; exact ⟨u, List.mem_set hi _⟩
     ·obtain ⟨j, hj, hjv⟩ := List.getElem_of_mem h
      refine ⟨v, ?_⟩
      have hne : i ≠ j := fun e2 => by
       subst e2
       rw [hl2] at hjv
       injection hjv with h1 _; exact e h1.symm
      rw [← hjv, ← List.getElem_set_ne hne (a := (a, u)) (by rw [List.length_set]; exact hj)]
      exact List.getElem_mem _
theorem wdM_spec {rows : List SRw} : ∀ i, i ≤ rows.length → (∀ a, a < i → (List.range a).all (conR rows a) = true) → ∀ c, (hasV (wdM rows i) c = true ↔ ∃ b, b < i ∧ (rows.getD b rw0).1 = c) ∧ ∀ b, b < i → (rows.getD b rw0).1 = c → getV (wdM rows i) c (.int .i64 0) = .int .i64 (rows.getD b rw0).2.1
 | 0, _, _, c => ⟨⟨fun h => by simp [wdM, hasV, getIx] at h, fun ⟨b, hb, _⟩ => by omega⟩, fun b hb => by omega⟩
 | i + 1, hi, hok, c => by
   obtain ⟨h1, h2⟩ := wdM_spec i (by omega) (fun a ha => hok a (by omega)) c
   unfold wdM
   rw [hasV_setI, getV_setI, Bool.or_eq_true, decide_eq_true_eq, h1]
   refine ⟨⟨?_, ?_⟩, fun b hb hbc => ?_⟩
   ·rintro (h | ⟨b, hb, hc⟩)
    ·exact ⟨i, by omega, h.symm⟩
    ·exact ⟨b, by omega, hc⟩
   ·rintro ⟨b, hb, hc⟩
    by_cases e : b = i
    ·subst e; exact .inl hc.symm
    ·exact .inr ⟨b, by omega, hc⟩
   ·split
    ·rename_i e
     by_cases e2 : b = i
     ·subst e2; rfl
     ·have h3 := hok i (by omega)
      rw [List.all_eq_true] at h3
      have h4 := h3 b (List.mem_range.2 (by omega))
      unfold conR at h4
      rw [decide_eq_true (by rw [hbc, e]), Bool.true_and, Bool.not_not, decide_eq_true_eq] at h4
      rw [h4]
    ·rename_i e
     by_cases e2 : b = i
     ·subst e2; exact absurd hbc.symm e
     ·exact h2 b (by omega) hbc
theorem wdM_test {rows : List SRw} {i : Nat} (hi : i < rows.length) (hok : ∀ a, a < i → (List.range a).all (conR rows a) = true) :
 ∃ x : Int, getV (wdM rows i) rows[i].1 (.int .i64 0) = .int .i64 x ∧ (hasV (wdM rows i) rows[i].1 && !decide (x = rows[i].2.1)) = !((List.range i).all (conR rows i)) := by
 have h0 := wdM_spec i (by omega) hok rows[i].1
 cases hh : hasV (wdM rows i) rows[i].1 with
 | false =>
   have hg : getV (wdM rows i) rows[i].1 (.int .i64 0) = .int .i64 0 := by
    unfold getV hasV at *
    cases hq : getIx (wdM rows i) rows[i].1 0 with
    | none => rfl
    | some p => rw [hq] at hh; simp at hh
   refine ⟨0, hg, ?_⟩
   have h1 : (List.range i).all (conR rows i) = true := by
    rw [List.all_eq_true]
    intro b hb
    unfold conR
    rw [getDr hi, decide_eq_false (fun e => by
     have := h0.1.2 ⟨b, List.mem_range.1 hb, e⟩
     rw [hh] at this; cases this)]
    rfl
   rw [h1]; rfl
 | true =>
   obtain ⟨b, hb, hc⟩ := h0.1.1 hh
   refine ⟨_, h0.2 b hb hc, ?_⟩
   rw [Bool.true_and]
   congr 1
   rw [Bool.eq_iff_iff, decide_eq_true_eq, List.all_eq_true]
   constructor
   ·intro h q hq
    unfold conR
    rw [getDr hi]
    by_cases e : (rows.getD q rw0).1 = rows[i].1
    ·have h3 := h0.2 q (List.mem_range.1 hq) e
     rw [h0.2 b hb hc] at h3
     injection h3 with _ h4
     rw [decide_eq_true e, decide_eq_true (by rw [← h4, h])]; rfl
    ·rw [decide_eq_false e]; rfl
   ·intro h
    have h3 := h b (List.mem_range.2 hb)
    unfold conR at h3
    rw [getDr hi, decide_eq_true hc, Bool.true_and, Bool.not_not, decide_eq_true_eq] at h3
    exact h3
attribute [local irreducible] Quiet Eff OpOk AWPG ACont ABlock ACalls AGoto
theorem A_ofIter1 {rows : List SRw} {c : Int} {L : Ent} {e0 : Nat → Ent} (hl : rows.length ≤ 1000000)
 (hcl : ∀ (i : Nat) (Y : List Ent), selOwn (e0 i :: .box [rws rows] :: .box [iV c] :: L :: Y) [0, 1, 2, 3] = [e0 i, .box [rws rows], .box [iV c], L])
 (hs : ∀ i (hi : i < rows.length), rows[i].1 ≠ c → e0 (i + 1) = e0 i)
 (hY : ∀ i (hi : i < rows.length), rows[i].1 = c → YAt Tryz.prog 3 [e0 i, .box [rws rows], .box [iV c], L, .box ((rwD rows[i]).map .d)] [iV i, rwA rows[i]] true [e0 (i + 1), .box [rws rows], .box [iV c], L, .box ((rwD rows[i]).map .d)]) :
 ACalls Tryz.prog 195 [.yl 3, .opt 1 0, .opt 2 0] [e0 0, .box [rws rows], .box [iV c], L] (.tup []) [e0 rows.length, .box [rws rows], .box [iV c], L] := by
 refine acalls_of_bodyS Tryz.func195 rfl (zU rfl) ?_
 have hm : (rows.map rwD).length = rows.length := List.length_map _
 (repeat' (first
  |(apply W.qd; (first
  |(exact zM)|(exact yT rfl rfl rfl rfl)
  |(exact yV rfl rfl)))|(apply yA)|(apply yB)|(apply (W.regionS 1); exact rfl; kernel_rfl)|(apply yE)
  |(apply yG)))
 refine AWP.loopW (α := Nat) (fun i => i ≤ rows.length) (fun i => ⟨[(8, iV i), (7, iV rows.length), (6, rws rows), (0, .yl 3), (1, .opt 1 0), (2, .opt 2 0)], [e0 i, .box [rws rows], .box [iV c], L]⟩) (fun i => rows.length - i) 0 (Nat.zero_le _) ?wkA fun i hi => ?_
 case wkA =>
  refine ⟨[0, 1, 2, 3], rfl, rfl, ?_, rfl, iV_eq (by rw [hm]), rfl, rfl, rfl, rfl, trivial⟩
  exact (hcl 0 []).symm
 by_cases hil : i < rows.length
 ·by_cases hc : rows[i].1 = c
  ·have hy := hY i hil hc
   (repeat' (first
    |(apply yFb; exact rfl; exact rfl)
    |(apply W.qd; (first
    |(exact zM)|(exact zN)|(exact yS rfl rfl rfl)|(exact yT rfl rfl rfl rfl)|(exact yU rfl rfl rfl rfl)|(exact q_lss rfl rfl)|(exact q_eql rfl rfl)|(exact q_not rfl)|(exact q_add rfl rfl (by omega))|(apply yY; (iterate 3 exact rfl); (first | omega | (focus (simp; done))))|(apply yGb; (iterate 4 exact rfl); (first | (with_reducible exact rfl) | exact natI_spec rfl | assumption | exact (Int.toNat_of_nonneg (by omega)).symm); (first | omega | (focus (simp only [List.length_map]; omega)) | (focus (simp; done)) | (focus (simp; omega))))
    |(apply (yEb (u := .d _)); exact rfl; exact rfl)))
    |(apply W.ed; (first
    |((exact e_yield hy rfl rfl))
    |(apply yCb; (iterate 3 exact rfl); kernel_rfl)))|(apply W.ln; (apply l_st_box; (iterate 6 exact rfl); (iterate 3 kernel_rfl)))|(apply yA)|(apply yB)|(apply yC; kernel_rfl)|(apply yE)|(apply yG)|(apply yH)|(apply yL)|(apply yR; exact rfl)|(refine W.gT _ _ rfl rfl (fun hb => ?_) (fun hb => ?_) <;> ((try simp only [hb, zK]) <;> (try simp only [zL, zI] at hb) <;> (try (exfalso; omega))))
    |(refine W.cond _ rfl (fun hb => ?_) (fun hb => ?_) <;> ((try simp only [hb, zK]) <;> (try simp only [zL, zI] at hb) <;> (try (exfalso; omega))))))
   all_goals first
    |(exfalso; omega)|(refine ⟨i + 1, by omega, by omega, [0, 1, 2, 3], rfl, rfl, ?_, iV_eq (by omega), rfl, rfl, rfl, rfl, rfl, trivial⟩; exact (hcl (i + 1) [_]).symm)
  ·have hs1 := hs i hil hc
   (repeat' (first
    |(apply W.qd; (first
    |(exact zM)|(exact zN)|(exact yS rfl rfl rfl)|(exact yT rfl rfl rfl rfl)|(exact q_lss rfl rfl)|(exact q_eql rfl rfl)|(exact q_add rfl rfl (by omega))|(apply yY; (iterate 3 exact rfl); (first | omega | (focus (simp; done))))|(apply yGb; (iterate 4 exact rfl); (first | (with_reducible exact rfl) | exact natI_spec rfl | assumption | exact (Int.toNat_of_nonneg (by omega)).symm); (first | omega | (focus (simp only [List.length_map]; omega)) | (focus (simp; done)) | (focus (simp; omega))))
    |(apply (yDb (u := .d _)); exact rfl; exact rfl)))|(apply W.ed; (apply yCb; (iterate 3 exact rfl); kernel_rfl))|(apply W.ln; (apply l_st_box; (iterate 6 exact rfl); (iterate 3 kernel_rfl)))|(refine W.gOff _ _ rfl rfl (by intro h; cases h) ?_)|(apply yA)|(apply yB)|(apply yC; kernel_rfl)|(apply yE)|(apply yG)|(apply yH)|(apply yL)|(apply yR; exact rfl)|(refine W.gT _ _ rfl rfl (fun hb => ?_) (fun hb => ?_) <;> ((try simp only [hb, zK]) <;> (try simp only [zL, zI] at hb) <;> (try (exfalso; omega))))
    |(refine W.cond _ rfl (fun hb => ?_) (fun hb => ?_) <;> ((try simp only [hb, zK]) <;> (try simp only [zL, zI] at hb) <;> (try (exfalso; omega))))))
   all_goals first
    |(exfalso; omega)|(refine ⟨i + 1, by omega, by omega, [0, 1, 2, 3], rfl, rfl, ?_, iV_eq (by omega), rfl, rfl, rfl, rfl, rfl, trivial⟩; dsimp only; rw [hs1]; exact (hcl i [_]).symm)
 ·obtain rfl : i = rows.length := by omega
  (repeat' (first
   |(apply W.qd; (exact q_lss rfl rfl))|(apply yA)|(apply yB)|(apply yC; kernel_rfl)|(apply yE)|(apply yI)|(apply yK)|(apply yM)
   |(refine W.cond _ rfl (fun hb => ?_) (fun hb => ?_) <;> ((try simp only [hb, zK]) <;> (try simp only [zL, zI] at hb) <;> (try (exfalso; omega))))))
  exact ⟨.inr rfl, [], trivial, AVle.of_eq rfl, rfl⟩
theorem A_held {rows : List SRw} {c : Int} (hl : rows.length ≤ 1000000) : ACalls Tryz.prog 111 [rws rows, iV c] [] (iV (heldN rows c : Nat)) [] := by
 refine acalls_of_body Tryz.func111 rfl (zU rfl) ?_
 have hof := A_of0 (rows := rows) (c := c)
 have hle := heldT_le rows c
 (repeat' (first
  |(apply W.qd; (first
  |(exact zM)
  |(exact zN)))
  |(apply W.ed; (first
  |(apply (e_callJ (js := []) (hof)); (iterate 5 exact rfl); kernel_rfl; kernel_rfl)
  |(apply yCb; (iterate 3 exact rfl); kernel_rfl)))|(apply W.ln; (apply l_st_box; (iterate 6 exact rfl); (iterate 3 kernel_rfl)))|(apply yA)|(apply yB)|(apply yC; kernel_rfl)|(apply yE)
  |(apply yG)))
 refine AWP.wk ⟨[(8, .fn 195 [.opt 1 0, .opt 2 0]), (5, .opt 0 0)], [.box [iV (heldT rows c 0 : Nat)], .box [rws rows], .box [iV c]]⟩ ⟨[0, 1, 2], rfl, rfl, rfl, by (repeat (first | exact trivial | refine ⟨rfl, ?_⟩))⟩ ?_
 refine AWP.range (s2 := ⟨[(5, .opt 0 0)], [.box [iV (heldT rows c rows.length : Nat)]]⟩) rfl (by kernel_rfl) (A_ofIter1 (e0 := fun i => .box [iV (heldT rows c i : Nat)]) hl (fun p Y => rfl) (fun i hi hc => ?_) (fun i hi hc => ?_)) rfl (by decide) ⟨[0], rfl, rfl, rfl, by (repeat (first | exact trivial | refine ⟨rfl, ?_⟩))⟩ ?_
 ·try dsimp only
  rw [show heldT rows c (i + 1) = heldT rows c i by rw [heldT, getDr hi, if_neg hc, Nat.add_zero]]
 ·try dsimp only
  have hs : ((heldT rows c (i + 1) : Nat) : Int) = (heldT rows c i : Int) + 1 := by rw [heldT, getDr hi, if_pos hc]; rfl
  have hle2 := hle i
  rw [hs]
  generalize heldT rows c i = h at *
  refine YAt.ok (own1 := [.box [iV ((h : Int) + 1)], .box [rws rows], .box [iV c], .lp .busy none #[9, 10] _ _ _, .box ((rwD rows[i]).map .d)]) (s2 := ⟨[(5, .opt 0 0)], _⟩) rfl rfl rfl rfl (fun g => ?_) rfl (fun g => ?_) rfl rfl
  ·refine AWP.toW ?_
   (repeat' (first
    |(apply yH)))
   exact ⟨rfl, ⟨[0, 1, 2, 3, 4], rfl, rfl, rfl, by (repeat (first | exact trivial | refine ⟨rfl, ?_⟩))⟩⟩
  ·refine AWP.toO ?_
   (repeat' (first
    |(apply W.qd; (first
    |(exact yT rfl rfl rfl rfl)
    |(exact q_add rfl rfl (by omega))))|(apply W.ln; (apply l_st_box; (iterate 6 exact rfl); (iterate 3 kernel_rfl)))|(apply yC; kernel_rfl)|(apply yE)|(apply yG)
    |(apply yL)))
   exact ⟨rfl, ⟨[0, 1, 2, 3, 4], rfl, rfl, rfl, by (repeat (first | exact trivial | refine ⟨rfl, ?_⟩))⟩⟩
 dsimp only
 (repeat' (first
  |(apply W.qd; (first
  |(exact zN)
  |(exact yT rfl rfl rfl rfl)))|(apply yA)|(apply yB)|(apply yC; kernel_rfl)|(apply yE)|(apply yJ)
  |(apply yL)))
 exact Ends.i rfl rfl
theorem A_rheld {rows : List SRw} {c : Int} (hl : rows.length ≤ 1000000) : ACalls Tryz.prog 177 [rws rows, iV c] [] (iV (heldN rows c : Nat)) [] := by
 refine acalls_of_body Tryz.func177 rfl (zU rfl) ?_
 have hm : (rows.map rwD).length = rows.length := List.length_map _
 have hle := heldT_le rows c
 (repeat' (first
  |(apply W.qd; (exact zN))|(apply yA)|(apply yB)|(apply (W.regionS 3); exact rfl; kernel_rfl)|(apply yE)
  |(apply yG)))
 refine AWP.loopW (α := Nat) (fun i => i ≤ rows.length) (fun i => ⟨[(6, iV i), (5, iV (heldT rows c i : Nat)), (0, rws rows), (1, iV c)], []⟩) (fun i => rows.length - i) 0 (Nat.zero_le _) ⟨[], rfl, rfl, rfl, by (repeat (first | exact trivial | refine ⟨rfl, ?_⟩))⟩ fun i hi => ?_
 by_cases hil : i < rows.length
 ·have hle2 := hle i
  have hs : heldT rows c (i + 1) = heldT rows c i + if rows[i].1 = c then 1 else 0 := by rw [heldT, getDr hil]
  by_cases hc : rows[i].1 = c
  ·rw [if_pos hc] at hs
   clear hle
   generalize heldT rows c i = h at *
   (repeat' (first
    |(apply W.qd; (first
    |(exact zM)|(exact zN)|(exact q_lss rfl rfl)|(exact q_eql rfl rfl)|(exact q_add rfl rfl (by omega))|(exact yV rfl rfl)|(apply yX; (iterate 3 exact rfl); (first | omega | (focus (simp; done))))|(apply q_fld_fptF; (iterate 3 exact rfl))
    |(apply yGb; (iterate 4 exact rfl); (first | (with_reducible exact rfl) | exact natI_spec rfl | assumption | exact (Int.toNat_of_nonneg (by omega)).symm); (first | omega | (focus (simp only [List.length_map]; omega)) | (focus (simp; done)) | (focus (simp; omega))))))|(apply yA)|(apply yB)|(apply yC; kernel_rfl)|(apply yE)|(apply yG)|(apply yH)|(apply yL)
    |(refine W.cond _ rfl (fun hb => ?_) (fun hb => ?_) <;> ((try simp only [hb, zK]) <;> (try simp only [zL, zI] at hb) <;> (try (exfalso; omega))))))
   all_goals first
    |(exfalso; omega)|(refine ⟨i + 1, by omega, by omega, ?_⟩; (try dsimp only); rw [hs]; exact ⟨[], rfl, rfl, rfl, iV_eq (by omega), iV_eq (by omega), rfl, rfl, trivial⟩)
  ·rw [if_neg hc] at hs
   clear hle
   generalize heldT rows c i = h at *
   (repeat' (first
    |(apply W.qd; (first
    |(exact zM)|(exact zN)|(exact q_lss rfl rfl)|(exact q_eql rfl rfl)|(exact q_add rfl rfl (by omega))|(exact yV rfl rfl)|(apply yX; (iterate 3 exact rfl); (first | omega | (focus (simp; done))))|(apply q_fld_fptF; (iterate 3 exact rfl))
    |(apply yGb; (iterate 4 exact rfl); (first | (with_reducible exact rfl) | exact natI_spec rfl | assumption | exact (Int.toNat_of_nonneg (by omega)).symm); (first | omega | (focus (simp only [List.length_map]; omega)) | (focus (simp; done)) | (focus (simp; omega))))))|(apply yA)|(apply yB)|(apply yC; kernel_rfl)|(apply yE)|(apply yG)|(apply yH)|(apply yL)
    |(refine W.cond _ rfl (fun hb => ?_) (fun hb => ?_) <;> ((try simp only [hb, zK]) <;> (try simp only [zL, zI] at hb) <;> (try (exfalso; omega))))))
   all_goals first
    |(exfalso; omega)|(refine ⟨i + 1, by omega, by omega, ?_⟩; (try dsimp only); rw [hs]; exact ⟨[], rfl, rfl, rfl, iV_eq (by omega), rfl, rfl, rfl, trivial⟩)
 ·obtain rfl : i = rows.length := by omega
  (repeat' (first
   |(apply W.qd; (first
   |(exact zM)|(exact zN)|(exact q_lss rfl rfl)
   |(exact yV rfl rfl)))|(apply yA)|(apply yB)|(apply yC; kernel_rfl)|(apply yE)|(apply yI)|(apply yJ)|(apply yK)|(apply yM)
   |(refine W.cond _ rfl (fun hb => ?_) (fun hb => ?_) <;> ((try simp only [hb, zK]) <;> (try simp only [zL, zI] at hb) <;> (try (exfalso; omega))))))
  all_goals exact Ends.i rfl rfl
theorem A_validRow {d r n s l i : Int} {w : SRw} (hw : w.2.2.length ≤ 9223372036854775807) : ACalls Tryz.prog 167 [cfgA d r n s l i, rwA w] [] (bV (rgtR (grpI d r n s l i w.2.1) w)) [] := by
 obtain ⟨c, wd, us⟩ := w
 dsimp only at hw ⊢
 have hg := A_lgroups d r n s l i wd
 generalize grpI d r n s l i wd = g at *
 have hmu : (us.map usD).length = us.length := List.length_map _
 refine acalls_of_body Tryz.func167 rfl (zU rfl) ?_
 unfold rgtR
 dsimp only
 by_cases h1 : c = -1
 ·rw [if_pos h1]
  (repeat' (first
   |(apply yFb; exact rfl; exact rfl)
   |(apply W.qd; (first
   |(exact zM)|(exact zN)|(exact yS rfl rfl rfl)|(exact yT rfl rfl rfl rfl)|(exact q_eql rfl rfl)|(exact yV rfl rfl)|(apply (yEb (u := .d _)); exact rfl; exact rfl)
   |(apply (yDb (u := .d _)); exact rfl; exact rfl)))|(apply W.ed; (apply yBb; (iterate 3 exact rfl); kernel_rfl; kernel_rfl))|(refine W.gOff _ _ rfl rfl (by intro h; cases h) ?_)|(apply yA)|(apply yB)|(apply yC; kernel_rfl)|(apply yE)|(apply yJ)|(apply yP)|(refine W.gT _ _ rfl rfl (fun hb => ?_) (fun hb => ?_) <;> ((try simp only [hb, zK]) <;> (try simp only [zL, zI] at hb) <;> (try (exfalso; omega))))
   |(refine W.cond _ rfl (fun hb => ?_) (fun hb => ?_) <;> ((try simp only [hb, zK]) <;> (try simp only [zL, zI] at hb) <;> (try (exfalso; omega))))))
  all_goals first | (exfalso; omega) | (refine Ends.b rfl ?_; rw [Bool.eq_iff_iff]; simp <;> omega)
 rw [if_neg h1]
 by_cases h2 : 0 ≤ c ∧ c < 8 ∧ 1 ≤ wd ∧ wd ≤ 32 ∧ us.length ≠ 0
 case neg =>
  rw [decide_eq_false h2, Bool.false_and]
  (repeat' (first
   |(apply yFb; exact rfl; exact rfl)
   |(apply W.qd; (first
   |(exact zM)|(exact zN)|(exact yS rfl rfl rfl)|(exact yT rfl rfl rfl rfl)|(exact q_lss rfl rfl)|(exact q_gtr rfl rfl)|(exact q_geq rfl rfl)|(exact q_eql rfl rfl)|(exact yV rfl rfl)|(apply (yEb (u := .d _)); exact rfl; exact rfl)
   |(apply (yDb (u := .d _)); exact rfl; exact rfl)))|(apply W.ed; (apply yBb; (iterate 3 exact rfl); kernel_rfl; kernel_rfl))|(refine W.gOff _ _ rfl rfl (by intro h; cases h) ?_)|(apply yA)|(apply yB)|(apply (W.regionS 5); exact rfl; kernel_rfl)|(apply yE)|(apply yH)|(apply yJ)|(apply yP)|(apply yQ; exact rfl)|(refine W.gF _ _ rfl rfl (fun hb => ?_) (fun hb => ?_) <;> ((try simp only [hb, zK]) <;> (try simp only [zL, zI] at hb) <;> (try (exfalso; omega))))
   |(refine W.cond _ rfl (fun hb => ?_) (fun hb => ?_) <;> ((try simp only [hb, zK]) <;> (try simp only [zL, zI] at hb) <;> (try (exfalso; omega))))))
  all_goals first | (exfalso; omega) | exact Ends.b rfl rfl
 rw [decide_eq_true h2, Bool.true_and]
 (repeat' (first
  |(apply yFb; exact rfl; exact rfl)
  |(apply W.qd; (first
  |(exact zW (hg))|(exact zM)|(exact zN)|(exact yS rfl rfl rfl)|(exact yT rfl rfl rfl rfl)|(exact yU rfl rfl rfl rfl)|(exact q_lss rfl rfl)|(exact q_gtr rfl rfl)|(exact q_geq rfl rfl)|(exact q_eql rfl rfl)|(exact yV rfl rfl)
  |(apply (yDb (u := .d _)); exact rfl; exact rfl)))|(apply W.ed; (apply yBb; (iterate 3 exact rfl); kernel_rfl; kernel_rfl))|(apply yA)|(apply yB)|(apply (W.regionS 7); exact rfl; kernel_rfl)|(apply yE)|(apply yG)|(apply yH)|(refine W.gF _ _ rfl rfl (fun hb => ?_) (fun hb => ?_) <;> ((try simp only [hb, zK]) <;> (try simp only [zL, zI] at hb) <;> (try (exfalso; omega))))
  |(refine W.cond _ rfl (fun hb => ?_) (fun hb => ?_) <;> ((try simp only [hb, zK]) <;> (try simp only [zL, zI] at hb) <;> (try (exfalso; omega))))))
 all_goals try (exfalso; omega)
 have hml : (grps us).length = us.length := List.length_map _
 have hge : ∀ k (h : k < us.length), (grps us)[k]'(by rw [hml]; exact h) = us[k].1 := fun k h => List.getElem_map _
 have hcnd := incB_drop g (grps us) (-1)
 have hcnd : incB g (-1) (grps us) = true ↔ ∀ k, (h : k < us.length) → lastI (grps us) k < us[k].1 ∧ us[k].1 < g := by
  rw [hcnd]
  constructor
  ·intro h3 k h4
   have := h3 k (by rw [hml]; exact h4)
   rw [hge k h4] at this; exact this
  ·intro h3 k h4
   rw [hge k (by rw [← hml]; exact h4)]; exact h3 k (by rw [← hml]; exact h4)
 have hl0 : lastI (grps us) 0 = -1 := rfl
 have hls : ∀ k (h : k < us.length), lastI (grps us) (k + 1) = us[k].1 := fun k h => by
  unfold lastI
  rw [if_neg (by omega), Nat.add_sub_cancel, List.getD_eq_getElem?_getD, List.getElem?_eq_getElem (by rw [hml]; exact h), Option.getD_some, hge k h]
 generalize lastI (grps us) = la at *
 generalize incB g (-1) (grps us) = R at *
 clear hml hge h1
 refine AWP.loopW (α := Nat) (fun k => k ≤ us.length ∧ ∀ j, (h : j < us.length) → j < k → la j < us[j].1 ∧ us[j].1 < g) (fun k => ⟨[(52, iV k), (51, iV us.length), (50, .d (.sl 3 (us.map usD))), (5, iV (la k)), (6, iV g)], []⟩) (fun k => us.length - k) 0 ⟨Nat.zero_le _, fun j h hj => by omega⟩ ?wkA fun k hk => ?_
 case wkA =>
  dsimp only
  rw [hl0]
  exact ⟨[], rfl, rfl, rfl, rfl, iV_eq (by rw [hmu]), rfl, rfl, rfl, trivial⟩
 by_cases hkl : k < us.length
 ·have hnx : (la k < us[k].1 ∧ us[k].1 < g) → ∀ j, (h : j < us.length) → j < k + 1 → la j < us[j].1 ∧ us[j].1 < g := fun hg j h hj => by
   by_cases e : j = k
   ·subst e; exact hg
   ·exact hk.2 j h (by omega)
  have hbd : ¬ (la k < us[k].1 ∧ us[k].1 < g) → R = false := fun hg => by
   cases hq : R with
   | false => rfl
   | true => exact absurd (hcnd.1 hq k hkl) hg
  have hlk := hls k hkl
  clear hcnd hls hl0 hk
  (repeat' (first
   |(apply yFb; exact rfl; exact rfl)
   |(apply W.qd; (first
   |(exact zM)|(exact zN)|(exact yS rfl rfl rfl)|(exact yT rfl rfl rfl rfl)|(exact q_lss rfl rfl)|(exact q_leq rfl rfl)|(exact q_geq rfl rfl)|(exact q_add rfl rfl (by omega))|(apply yY; (iterate 3 exact rfl); (first | omega | (focus (simp; done))))|(apply yGb; (iterate 4 exact rfl); (first | (with_reducible exact rfl) | exact natI_spec rfl | assumption | exact (Int.toNat_of_nonneg (by omega)).symm); (first | omega | (focus (simp only [List.length_map]; omega)) | (focus (simp; done)) | (focus (simp; omega))))|(apply (yEb (u := .d _)); exact rfl; exact rfl)
   |(apply (yDb (u := .d _)); exact rfl; exact rfl)))|(apply W.ed; (apply yCb; (iterate 3 exact rfl); kernel_rfl))|(apply W.ln; (apply l_st_box; (iterate 6 exact rfl); (iterate 3 kernel_rfl)))|(refine W.gOff _ _ rfl rfl (by intro h; cases h) ?_)|(apply yA)|(apply yB)|(apply yC; kernel_rfl)|(apply yE)|(apply yG)|(apply yH)|(apply yJ)|(apply yP)|(apply yL)|(apply yN)|(apply yQ; exact rfl)|(refine W.gF _ _ rfl rfl (fun hb => ?_) (fun hb => ?_) <;> ((try simp only [hb, zK]) <;> (try simp only [zL, zI] at hb) <;> (try (exfalso; omega))))
   |(refine W.cond _ rfl (fun hb => ?_) (fun hb => ?_) <;> ((try simp only [hb, zK]) <;> (try simp only [zL, zI] at hb) <;> (try (exfalso; omega))))))
  all_goals first
   |exact Ends.b rfl (hbd (by omega)).symm|(refine ⟨k + 1, ⟨by omega, hnx (by omega)⟩, by omega, ?_⟩; (try dsimp only); rw [hlk]; exact ⟨[], rfl, rfl, rfl, iV_eq (by omega), rfl, rfl, rfl, rfl, trivial⟩)
   |(exfalso; omega)
 ·have ht : R = true := hcnd.2 fun j h => hk.2 j h (by omega)
  rw [ht]
  clear hcnd hls hl0 hk
  (repeat' (first
   |(apply W.qd; (first
   |(exact zN)
   |(exact q_lss rfl rfl)))|(apply yA)|(apply yB)|(apply yC; kernel_rfl)|(apply yE)|(apply yI)|(apply yJ)|(apply yK)|(apply yM)
   |(refine W.cond _ rfl (fun hb => ?_) (fun hb => ?_) <;> ((try simp only [hb, zK]) <;> (try simp only [zL, zI] at hb) <;> (try (exfalso; omega))))))
  all_goals exact Ends.b rfl rfl
theorem A_valid24 {d r n s l i : Int} {rows : List SRw} (hl : rows.length ≤ 1000000) (hu : ∀ a (h : a < rows.length), rows[a].2.2.length ≤ 9223372036854775807) : ACalls Tryz.prog 107 [cfgA d r n s l i, rws rows] [] (bV (validR d r n s l i rows)) [] := by
 have hck := A_dchk d r n s l i
 have hm : (rows.map rwD).length = rows.length := List.length_map _
 refine acalls_of_body Tryz.func107 rfl (zU rfl) ?_
 unfold validR
 by_cases h1 : chk13 d r n s l i = 0 ∧ (rows.length : Int) = n
 case neg =>
  rw [decide_eq_false h1, Bool.false_and]
  generalize chk13 d r n s l i = e at *
  (repeat' (first
   |(apply yFb; exact rfl; exact rfl)
   |(apply W.qd; (first
   |(exact zW (hck))|(exact zM)|(exact zN)|(exact yS rfl rfl rfl)|(exact yT rfl rfl rfl rfl)|(exact yU rfl rfl rfl rfl)|(exact q_neq rfl rfl)|(exact yV rfl rfl)|(apply (yEb (u := .d _)); exact rfl; exact rfl)
   |(apply (yDb (u := .d _)); exact rfl; exact rfl)))|(apply W.ed; (apply yBb; (iterate 3 exact rfl); kernel_rfl; kernel_rfl))|(refine W.gOff _ _ rfl rfl (by intro h; cases h) ?_)|(apply yA)|(apply yB)|(apply (W.regionS 3); exact rfl; kernel_rfl)|(apply yE)|(apply yJ)|(apply yP)|(apply yQ; exact rfl)|(refine W.gF _ _ rfl rfl (fun hb => ?_) (fun hb => ?_) <;> ((try simp only [hb, zK]) <;> (try simp only [zL, zI] at hb) <;> (try (exfalso; omega))))
   |(refine W.cond _ rfl (fun hb => ?_) (fun hb => ?_) <;> ((try simp only [hb, zK]) <;> (try simp only [zL, zI] at hb) <;> (try (exfalso; omega))))))
  all_goals first | (exfalso; omega) | exact Ends.b rfl rfl
 rw [decide_eq_true h1, Bool.true_and]
 rw [h1.1] at hck
 have hn := h1.2
 clear h1
 have hR := fun a (h : a < rows.length) => A_validRow (d := d) (r := r) (n := n) (s := s) (l := l) (i := i) (w := rows[a]) (hu a h)
 have hok : ∀ a (h : a < rows.length), okR d r n s l i rows a = (rgtR (grpI d r n s l i rows[a].2.1) rows[a] && (List.range a).all (conR rows a)) := fun a h => by
  unfold okR; rw [getDr h]
 (repeat' (first
  |(apply yFb; exact rfl; exact rfl)
  |(apply W.qd; (first
  |(exact zW (hck))|(exact zM)|(exact zN)|(exact yS rfl rfl rfl)|(exact yT rfl rfl rfl rfl)|(exact yU rfl rfl rfl rfl)|(exact q_neq rfl rfl)|(exact yV rfl rfl)
  |(apply (yDb (u := .d _)); exact rfl; exact rfl)))
  |(apply W.ed; (first
  |(apply e_mkmap; exact rfl; exact rfl)
  |(apply yBb; (iterate 3 exact rfl); kernel_rfl; kernel_rfl)))|(apply yA)|(apply yB)|(apply (W.regionS 5); exact rfl; kernel_rfl)|(apply yE)|(apply yG)|(apply yH)
  |(refine W.cond _ rfl (fun hb => ?_) (fun hb => ?_) <;> ((try simp only [hb, zK]) <;> (try simp only [zL, zI] at hb) <;> (try (exfalso; omega))))))
 all_goals try (exfalso; omega)
 refine AWP.loopW (α := Nat) (fun a => a ≤ rows.length ∧ ∀ j, j < a → okR d r n s l i rows j = true) (fun a => ⟨[(23, iV a), (22, iV rows.length), (21, rws rows), (5, .mp 1), (2, .opt 0 0)], [.box [iV d, iV r, iV n, iV s, iV l, iV i], .mp (mpI (wdM rows a))]⟩) (fun a => rows.length - a) 0 ⟨Nat.zero_le _, fun j hj => by omega⟩ ?wkV fun a ha => ?_
 case wkV => exact ⟨[0, 1], rfl, rfl, rfl, rfl, iV_eq (by rw [hm]), rfl, rfl, rfl, trivial⟩
 by_cases hal : a < rows.length
 ·have hbad : okR d r n s l i rows a = false → (List.range rows.length).all (okR d r n s l i rows) = false := fun h => by
   rw [List.all_eq_false]
   exact ⟨a, List.mem_range.2 hal, by rw [h]; decide⟩
  have hnx : okR d r n s l i rows a = true → ∀ j, j < a + 1 → okR d r n s l i rows j = true := fun h j hj => by
   by_cases e : j = a
   ·subst e; exact h
   ·exact ha.2 j (by omega)
  have hra := hR a hal
  have hqa := hok a hal
  obtain ⟨x, hx, ht⟩ := wdM_test hal (fun b hb => by
   have := ha.2 b hb
   rw [hok b (by omega), Bool.and_eq_true] at this
   exact this.2)
  have hws : wdM rows (a + 1) = setI (wdM rows a) rows[a].1 (.int .i64 rows[a].2.1) := by rw [wdM, getDr hal]
  generalize okR d r n s l i rows = Q at *
  generalize (List.range rows.length).all Q = R at *
  generalize rgtR (grpI d r n s l i rows[a].2.1) rows[a] = ra at *
  generalize (List.range a).all (conR rows a) = ca at *
  generalize wdM rows a = M at *
  obtain ⟨hv, hhv⟩ : ∃ hv, hasV M rows[a].1 = hv := ⟨_, rfl⟩
  rw [hhv] at ht
  clear ha hok hR hu
  cases ra with
  | false =>
    rw [hbad (by rw [hqa]; rfl)]
    (repeat' (first
     |(apply W.qd; (first
     |(exact zW (hra))
     |((apply q_lkup2V; (iterate 4 exact rfl); exact hx; exact hhv))|(exact zM)|(exact zN)|(exact yS rfl rfl rfl)|(exact yT rfl rfl rfl rfl)|(exact yU rfl rfl rfl rfl)|(exact q_lss rfl rfl)|(exact q_not rfl)|(exact yAb rfl rfl)|(apply yY; (iterate 3 exact rfl); (first | omega | (focus (simp; done))))|(apply yGb; (iterate 4 exact rfl); (first | (with_reducible exact rfl) | exact natI_spec rfl | assumption | exact (Int.toNat_of_nonneg (by omega)).symm); (first | omega | (focus (simp only [List.length_map]; omega)) | (focus (simp; done)) | (focus (simp; omega))))
     |(apply (yEb (u := .d _)); exact rfl; exact rfl)))|(apply W.ed; (apply yCb; (iterate 3 exact rfl); kernel_rfl))|(apply W.ln; (apply l_st_box; (iterate 6 exact rfl); (iterate 3 kernel_rfl)))|(refine W.gOff _ _ rfl rfl (by intro h; cases h) ?_)|(apply yA)|(apply yB)|(apply yC; kernel_rfl)|(apply yE)|(apply yG)|(apply yH)|(apply yJ)|(apply yP)|(apply yN)|(apply yQ; exact rfl)
     |(refine W.cond _ rfl (fun hb => ?_) (fun hb => ?_) <;> ((try simp only [hb, zK]) <;> (try simp only [zL, zI] at hb) <;> (try (exfalso; omega))))))
    all_goals first | (exfalso; omega) | exact Ends.b rfl rfl
  | true =>
    rw [Bool.true_and] at hqa
    cases hv with
    | false =>
      obtain rfl : ca = true := by cases ca <;> simp_all
      have hn2 := hnx hqa
      clear hnx hbad ht hqa
      (repeat' (first
       |(apply yFb; exact rfl; exact rfl)
       |(apply W.qd; (first
       |(exact zW (hra))
       |((apply q_lkup2V; (iterate 4 exact rfl); exact hx; exact hhv))|(exact zM)|(exact zN)|(exact yS rfl rfl rfl)|(exact yT rfl rfl rfl rfl)|(exact yU rfl rfl rfl rfl)|(exact q_lss rfl rfl)|(exact q_not rfl)|(exact q_add rfl rfl (by omega))|(exact yAb rfl rfl)|(apply yY; (iterate 3 exact rfl); (first | omega | (focus (simp; done))))|(apply yGb; (iterate 4 exact rfl); (first | (with_reducible exact rfl) | exact natI_spec rfl | assumption | exact (Int.toNat_of_nonneg (by omega)).symm); (first | omega | (focus (simp only [List.length_map]; omega)) | (focus (simp; done)) | (focus (simp; omega))))
       |(apply (yDb (u := .d _)); exact rfl; exact rfl)))|(apply W.ed; (apply yCb; (iterate 3 exact rfl); kernel_rfl))|(apply W.ln; (apply l_st_box; (iterate 6 exact rfl); (iterate 3 kernel_rfl)))|(apply W.en; (apply e_mapset; (iterate 6 exact rfl)))|(refine W.gOff _ _ rfl rfl (by intro h; cases h) ?_)|(apply yA)|(apply yB)|(apply yC; kernel_rfl)|(apply yE)|(apply yG)|(apply yH)|(apply yL)|(apply yR; exact rfl)
       |(refine W.cond _ rfl (fun hb => ?_) (fun hb => ?_) <;> ((try simp only [hb, zK]) <;> (try simp only [zL, zI] at hb) <;> (try (exfalso; omega))))))
      all_goals first
       |(exfalso; omega)|(refine ⟨a + 1, ⟨by omega, hn2⟩, by omega, ?_⟩; (try dsimp only); rw [hws]; exact ⟨[0, 1], rfl, rfl, rfl, iV_eq (by omega), rfl, rfl, rfl, rfl, trivial⟩)
    | true =>
      by_cases e : x = rows[a].2.1
      ·obtain rfl : ca = true := by cases ca <;> simp_all
       have hn2 := hnx hqa
       clear hnx hbad ht hqa
       (repeat' (first
        |(apply yFb; exact rfl; exact rfl)
        |(apply W.qd; (first
        |(exact zW (hra))
        |((apply q_lkup2V; (iterate 4 exact rfl); exact hx; exact hhv))|(exact zM)|(exact zN)|(exact yS rfl rfl rfl)|(exact yT rfl rfl rfl rfl)|(exact yU rfl rfl rfl rfl)|(exact q_lss rfl rfl)|(exact q_neq rfl rfl)|(exact q_not rfl)|(exact q_add rfl rfl (by omega))|(exact yAb rfl rfl)|(apply yY; (iterate 3 exact rfl); (first | omega | (focus (simp; done))))|(apply yGb; (iterate 4 exact rfl); (first | (with_reducible exact rfl) | exact natI_spec rfl | assumption | exact (Int.toNat_of_nonneg (by omega)).symm); (first | omega | (focus (simp only [List.length_map]; omega)) | (focus (simp; done)) | (focus (simp; omega))))|(apply (yEb (u := .d _)); exact rfl; exact rfl)
        |(apply (yDb (u := .d _)); exact rfl; exact rfl)))|(apply W.ed; (apply yCb; (iterate 3 exact rfl); kernel_rfl))|(apply W.ln; (apply l_st_box; (iterate 6 exact rfl); (iterate 3 kernel_rfl)))|(apply W.en; (apply e_mapset; (iterate 6 exact rfl)))|(apply yA)|(apply yB)|(apply yC; kernel_rfl)|(apply yE)|(apply yG)|(apply yH)|(apply yL)
        |(refine W.cond _ rfl (fun hb => ?_) (fun hb => ?_) <;> ((try simp only [hb, zK]) <;> (try simp only [zL, zI] at hb) <;> (try (exfalso; omega))))))
       all_goals first
        |(exfalso; omega)|(refine ⟨a + 1, ⟨by omega, hn2⟩, by omega, ?_⟩; (try dsimp only); rw [hws]; exact ⟨[0, 1], rfl, rfl, rfl, iV_eq (by omega), rfl, rfl, rfl, rfl, trivial⟩)
      ·obtain rfl : ca = false := by cases ca <;> simp_all
       rw [hbad hqa]
       clear hnx hbad ht hqa
       (repeat' (first
        |(apply yFb; exact rfl; exact rfl)
        |(apply W.qd; (first
        |(exact zW (hra))
        |((apply q_lkup2V; (iterate 4 exact rfl); exact hx; exact hhv))|(exact zM)|(exact zN)|(exact yS rfl rfl rfl)|(exact yT rfl rfl rfl rfl)|(exact yU rfl rfl rfl rfl)|(exact q_lss rfl rfl)|(exact q_neq rfl rfl)|(exact q_not rfl)|(exact yAb rfl rfl)|(apply yY; (iterate 3 exact rfl); (first | omega | (focus (simp; done))))|(apply yGb; (iterate 4 exact rfl); (first | (with_reducible exact rfl) | exact natI_spec rfl | assumption | exact (Int.toNat_of_nonneg (by omega)).symm); (first | omega | (focus (simp only [List.length_map]; omega)) | (focus (simp; done)) | (focus (simp; omega))))|(apply (yEb (u := .d _)); exact rfl; exact rfl)
        |(apply (yDb (u := .d _)); exact rfl; exact rfl)))|(apply W.ed; (apply yCb; (iterate 3 exact rfl); kernel_rfl))|(apply W.ln; (apply l_st_box; (iterate 6 exact rfl); (iterate 3 kernel_rfl)))|(apply yA)|(apply yB)|(apply yC; kernel_rfl)|(apply yE)|(apply yG)|(apply yH)|(apply yJ)|(apply yP)|(apply yN)
        |(refine W.cond _ rfl (fun hb => ?_) (fun hb => ?_) <;> ((try simp only [hb, zK]) <;> (try simp only [zL, zI] at hb) <;> (try (exfalso; omega))))))
       all_goals first | (exfalso; omega) | exact Ends.b rfl rfl
 ·have hall : (List.range rows.length).all (okR d r n s l i rows) = true := by
   rw [List.all_eq_true]
   intro j hj
   exact ha.2 j (by have := List.mem_range.1 hj; omega)
  rw [hall]
  clear ha hok hR hu
  (repeat' (first
   |(apply W.qd; (first
   |(exact zN)
   |(exact q_lss rfl rfl)))|(apply yA)|(apply yB)|(apply yC; kernel_rfl)|(apply yE)|(apply yI)|(apply yJ)|(apply yK)|(apply yM)
   |(refine W.cond _ rfl (fun hb => ?_) (fun hb => ?_) <;> ((try simp only [hb, zK]) <;> (try simp only [zL, zI] at hb) <;> (try (exfalso; omega))))))
  all_goals exact Ends.b rfl rfl
end
section
theorem up_eq {a b : Int} (ha : 0 ≤ a) (hb : 0 < b) : a / b + (if 1 < a % b then 1 else a % b) = upI a b := by
 unfold upI
 have h1 := Int.emod_add_mul_ediv a b
 have h2 := Int.emod_nonneg a (show b ≠ 0 by omega)
 have h3 := Int.emod_lt_of_pos a hb
 have e : a + b - 1 = (a % b + b - 1) + b * (a / b) := by omega
 rw [e, Int.add_mul_ediv_left _ _ (by omega)]
 by_cases h : a % b = 0
 ·have e3 : (0 + b - 1) / b = 0 := Int.ediv_eq_zero_of_lt (by omega) (by omega)
  rw [h, if_neg (by decide), e3]; omega
 ·have e2 : a % b + b - 1 = (a % b - 1) + b * 1 := by omega
  have e3 : (a % b - 1) / b = 0 := Int.ediv_eq_zero_of_lt (by omega) (by omega)
  rw [e2, Int.add_mul_ediv_left _ _ (by omega), e3]
  split <;> omega
theorem upI_le {a b : Int} (ha : 0 ≤ a) (hb : 0 < b) : upI a b ≤ a := by
 unfold upI
 by_cases h : a = 0
 ·subst h
  have e3 : (0 + b - 1) / b = 0 := Int.ediv_eq_zero_of_lt (by omega) (by omega)
  rw [e3]; omega
 ·have h1 : a + b - 1 < (a + 1) * b := by
   rw [Int.add_mul, Int.one_mul]
   have h2 : a * 1 ≤ a * b := Int.mul_le_mul_of_nonneg_left (by omega) ha
   omega
  have := Int.ediv_lt_of_lt_mul hb h1
  omega
theorem limN_le {D n : Int} (h : 0 ≤ n) (hn : n ≤ 1099511627776) : limN D n ≤ 2199023255554 := by
 unfold limN
 split
 ·omega
 ·rename_i h1
  have := upI_le (a := n) (b := D) (by omega) (by omega)
  omega
theorem crd_one (d r n s l i : Int) : crdI d r n s l i 1 = if OkC d r n s l i then 1 else 0 := by
 unfold crdI
 by_cases h : OkC d r n s l i
 ·have h2 : OkL d r n s l i 1 := ⟨h, by omega, by omega⟩
  have h3 := h2.bd
  rw [if_pos h, if_pos h2, show (1 : Int) + r - 1 = r by omega, Int.ediv_self (by omega)]
 ·rw [if_neg h, if_neg fun h2 => h h2.1]
attribute [local irreducible] Quiet Eff OpOk AWPG ACont ABlock ACalls AGoto
theorem A_up {a b : Int} (ha : 0 ≤ a) (hb : 0 < b) (h : a < 4611686018427387904) : ACalls Tryz.prog 106 [iV a, iV b] [] (iV (upI a b)) [] := by
 refine acalls_of_body Tryz.func106 rfl (zU rfl) ?_
 have h1 := Int.ediv_le_self b ha
 have h2 := Int.ediv_nonneg ha (show 0 ≤ b by omega)
 have h3 := Int.emod_nonneg a (show b ≠ 0 by omega)
 have he := up_eq ha hb
 generalize upI a b = u at *
 (repeat' (first
  |(apply W.qd; (first
  |((apply q_quo; exact rfl; exact rfl; omega; omega; omega))
  |((apply q_rem; exact rfl; exact rfl; omega; omega))|(exact zM)|(exact zN)|(exact q_add rfl rfl (by omega))
  |(exact q_min rfl rfl)))|(apply yA)|(apply yB)|(apply yC; kernel_rfl)|(apply yD; exact rfl; kernel_rfl)|(apply yE)|(apply yF; kernel_rfl)
  |(apply yJ)))
 all_goals exact Ends.i rfl he
theorem A_rup {a b : Int} (ha : 0 ≤ a) (hb : 0 < b) (h : a < 4611686018427387904) : ACalls Tryz.prog 67 [iV a, iV b] [] (iV (upI a b)) [] := by
 refine acalls_of_body Tryz.func67 rfl (zU rfl) ?_
 have h1 := Int.ediv_le_self b ha
 have h2 := Int.ediv_nonneg ha (show 0 ≤ b by omega)
 have h3 := Int.emod_nonneg a (show b ≠ 0 by omega)
 have he := up_eq ha hb
 generalize upI a b = u at *
 (repeat' (first
  |(apply W.qd; (first
  |(exact zM)|(exact zN)|(exact q_eql rfl rfl)|(exact q_add rfl rfl (by omega))|(apply q_quo; exact rfl; exact rfl; omega; omega; omega)
  |(apply q_rem; exact rfl; exact rfl; omega; omega)))|(apply yA)|(apply yB)|(apply yC; kernel_rfl)|(apply yE)|(apply yH)|(apply yJ)|(apply yP)
  |(refine W.cond _ rfl (fun hb => ?_) (fun hb => ?_) <;> ((try simp only [hb, zK]) <;> (try simp only [zL, zI] at hb) <;> (try (exfalso; omega))))))
 all_goals (refine Ends.i rfl ?_; rw [← he]; split <;> omega)
theorem A_limit {c : Cd} {x : Int} : ACalls Tryz.prog 56 [cdA1 c, iV x] [] (iV (limN c.2.2.1 x)) [] := by
 obtain ⟨nm, M, D, par, dom⟩ := c
 dsimp only
 refine acalls_of_body Tryz.func56 rfl (zU rfl) ?_
 by_cases hx : x < 1 ∨ 1099511627776 < x ∨ D < 1
 ·have e : limN D x = 0 := if_pos hx
  rw [e]
  (repeat' (first
   |(apply yFb; exact rfl; exact rfl)
   |(apply W.qd; (first
   |(exact zM)|(exact zN)|(exact yS rfl rfl rfl)|(exact yT rfl rfl rfl rfl)|(exact q_lss rfl rfl)|(exact q_gtr rfl rfl)|(apply (yEb (u := .d _)); exact rfl; exact rfl)
   |(apply (yDb (u := .d _)); exact rfl; exact rfl)))|(apply W.ed; (apply yBb; (iterate 3 exact rfl); kernel_rfl; kernel_rfl))|(refine W.gOff _ _ rfl rfl (by intro h; cases h) ?_)|(apply yA)|(apply yB)|(apply (W.regionS 3); exact rfl; kernel_rfl)|(apply yE)|(apply yJ)|(apply yP)|(apply yQ; exact rfl)|(refine W.gF _ _ rfl rfl (fun hb => ?_) (fun hb => ?_) <;> ((try simp only [hb, zK]) <;> (try simp only [zL, zI] at hb) <;> (try (exfalso; omega))))
   |(refine W.cond _ rfl (fun hb => ?_) (fun hb => ?_) <;> ((try simp only [hb, zK]) <;> (try simp only [zL, zI] at hb) <;> (try (exfalso; omega))))))
  all_goals first | (exfalso; omega) | exact Ends.i rfl rfl
 ·have e : limN D x = 2 + upI x D * 2 := if_neg hx
  rw [e]
  have hu := A_up (a := x) (b := D) (by omega) (by omega) (by omega)
  have h1 := upI_le (a := x) (b := D) (by omega) (by omega)
  have h2 := upI_nn (a := x) (c := D) (by omega) (by omega)
  generalize upI x D = u at *
  (repeat' (first
   |(apply yFb; exact rfl; exact rfl)
   |(apply W.qd; (first
   |(exact zW (hu))|(exact zM)|(exact zN)|(exact yS rfl rfl rfl)|(exact yT rfl rfl rfl rfl)|(exact q_lss rfl rfl)|(exact q_gtr rfl rfl)|(exact q_add rfl rfl (by omega))|(apply q_mul; exact rfl; exact rfl; (first | omega | assumption))
   |(apply (yDb (u := .d _)); exact rfl; exact rfl)))|(apply W.ed; (apply yBb; (iterate 3 exact rfl); kernel_rfl; kernel_rfl))|(apply yA)|(apply yB)|(apply yC; kernel_rfl)|(apply yE)|(apply yH)|(apply yJ)|(refine W.gF _ _ rfl rfl (fun hb => ?_) (fun hb => ?_) <;> ((try simp only [hb, zK]) <;> (try simp only [zL, zI] at hb) <;> (try (exfalso; omega))))
   |(refine W.cond _ rfl (fun hb => ?_) (fun hb => ?_) <;> ((try simp only [hb, zK]) <;> (try simp only [zL, zI] at hb) <;> (try (exfalso; omega))))))
  all_goals first | (exfalso; omega) | exact Ends.i rfl rfl
theorem A_rlimit {c : Cd} {x : Int} : ACalls Tryz.prog 26 [cdA1 c, iV x] [] (iV (limN c.2.2.1 x)) [] := by
 obtain ⟨nm, M, D, par, dom⟩ := c
 dsimp only
 refine acalls_of_body Tryz.func26 rfl (zU rfl) ?_
 by_cases hx : x < 1 ∨ 1099511627776 < x ∨ D < 1
 ·have e : limN D x = 0 := if_pos hx
  rw [e]
  (repeat' (first
   |(apply yFb; exact rfl; exact rfl)
   |(apply W.qd; (first
   |(exact zM)|(exact zN)|(exact yS rfl rfl rfl)|(exact yT rfl rfl rfl rfl)|(exact q_lss rfl rfl)|(exact q_gtr rfl rfl)|(apply (yEb (u := .d _)); exact rfl; exact rfl)
   |(apply (yDb (u := .d _)); exact rfl; exact rfl)))|(apply W.ed; (apply yBb; (iterate 3 exact rfl); kernel_rfl; kernel_rfl))|(refine W.gOff _ _ rfl rfl (by intro h; cases h) ?_)|(apply yA)|(apply yB)|(apply (W.regionS 3); exact rfl; kernel_rfl)|(apply yE)|(apply yJ)|(apply yP)|(apply yQ; exact rfl)|(refine W.gF _ _ rfl rfl (fun hb => ?_) (fun hb => ?_) <;> ((try simp only [hb, zK]) <;> (try simp only [zL, zI] at hb) <;> (try (exfalso; omega))))
   |(refine W.cond _ rfl (fun hb => ?_) (fun hb => ?_) <;> ((try simp only [hb, zK]) <;> (try simp only [zL, zI] at hb) <;> (try (exfalso; omega))))))
  all_goals first | (exfalso; omega) | exact Ends.i rfl rfl
 ·have e : limN D x = 2 + upI x D * 2 := if_neg hx
  rw [e]
  have hu := A_rup (a := x) (b := D) (by omega) (by omega) (by omega)
  have h1 := upI_le (a := x) (b := D) (by omega) (by omega)
  have h2 := upI_nn (a := x) (c := D) (by omega) (by omega)
  generalize upI x D = u at *
  (repeat' (first
   |(apply yFb; exact rfl; exact rfl)
   |(apply W.qd; (first
   |(exact zW (hu))|(exact zM)|(exact zN)|(exact yS rfl rfl rfl)|(exact yT rfl rfl rfl rfl)|(exact q_lss rfl rfl)|(exact q_gtr rfl rfl)|(exact q_add rfl rfl (by omega))|(apply q_mul; exact rfl; exact rfl; (first | omega | assumption))
   |(apply (yDb (u := .d _)); exact rfl; exact rfl)))|(apply W.ed; (apply yBb; (iterate 3 exact rfl); kernel_rfl; kernel_rfl))|(apply yA)|(apply yB)|(apply yC; kernel_rfl)|(apply yE)|(apply yH)|(apply yJ)|(refine W.gF _ _ rfl rfl (fun hb => ?_) (fun hb => ?_) <;> ((try simp only [hb, zK]) <;> (try simp only [zL, zI] at hb) <;> (try (exfalso; omega))))
   |(refine W.cond _ rfl (fun hb => ?_) (fun hb => ?_) <;> ((try simp only [hb, zK]) <;> (try simp only [zL, zI] at hb) <;> (try (exfalso; omega))))))
  all_goals first | (exfalso; omega) | exact Ends.i rfl (by omega)
theorem A_acode {d r n s l i : Int} {c : Cd} {x : Int} (hn : NameIn c.1) (hp : c.2.2.2.1.length ≤ 9223372036854775807) : ACalls Tryz.prog 54 [cfgA d r n s l i, cdA1 c, iV x] [] (.tup [iV (codN d r n s l i c x).1, iV (codN d r n s l i c x).2]) [] := by
 have hcr := A_lcrowd d r n s l i 1
 rw [crd_one] at hcr
 obtain ⟨e, hce0, he0⟩ := A_lcheckG (nm := c.1) (M := c.2.1) (D := c.2.2.1) (par := c.2.2.2.1) (dom := c.2.2.2.2) hn.b hn.l hp
 have he : e = 0 ↔ chkD c = true := he0
 have hce : ACalls Tryz.prog 104 [cdA1 c] [] (iV e) [] := hce0
 clear hce0 he0
 have hli := A_limit (c := c) (x := x)
 have hgr := A_lgroups d r n s l i (c.2.2.1 + (c.2.2.2.1.length : Int))
 have hcw := A_lcrowd d r n s l i (c.2.2.1 + (c.2.2.2.1.length : Int))
 have hgn := grpI_nn (d := d) (r := r) (n := n) (s := s) (l := l) (i := i) (w := c.2.2.1 + (c.2.2.2.1.length : Int))
 have hmp : (c.2.2.2.1.map rD).length = c.2.2.2.1.length := List.length_map _
 have hck : chkD c = true → (1 ≤ c.2.2.1 ∧ c.2.2.1 ≤ 31) ∧ c.2.2.2.1.length ≤ 31 := fun h => ⟨by
  unfold chkD chkC at h
  simp only [Bool.and_eq_true, decide_eq_true_eq] at h
  exact ⟨h.1.1.2.1.1.1.2, h.1.1.2.1.1.2⟩, (chk_rows h).1⟩
 have hcod : codN d r n s l i c x = if ¬ OkC d r n s l i ∨ chkD c = false ∨ x < 0 ∨ 1099511627776 < x then (0, 1) else if x = 0 then (0, 0) else if grpI d r n s l i (c.2.2.1 + (c.2.2.2.1.length : Int)) = 0 ∨ c.2.2.2.2 < crdI d r n s l i (c.2.2.1 + (c.2.2.2.1.length : Int)) then (0, refI) else (upI (limN c.2.2.1 x) (grpI d r n s l i (c.2.2.1 + (c.2.2.2.1.length : Int))), 0) := rfl
 have hlm := limN_le (D := c.2.2.1) (n := x)
 have hln := limN_nn c.2.2.1 x
 generalize codN d r n s l i c x = R at *
 generalize chkD c = ck at *
 generalize hw : c.2.2.1 + (c.2.2.2.1.length : Int) = w at *
 obtain ⟨nm, M, D, par, dom⟩ := c
 dsimp only at *
 generalize grpI d r n s l i w = g at *
 generalize crdI d r n s l i w = cw at *
 generalize limN D x = lm at *
 have hli : ACalls Tryz.prog 56 [cdF nm M D par dom, iV x] [] (iV lm) [] := hli
 show ACalls Tryz.prog 54 [cfgA d r n s l i, cdF nm M D par dom, iV x] [] (.tup [iV R.1, iV R.2]) []
 refine acalls_of_body Tryz.func54 rfl (zU rfl) ?_
 by_cases h1 : OkC d r n s l i
 case neg =>
  rw [if_pos (.inl h1)] at hcod
  rw [if_neg h1] at hcr
  rw [hcod]
  (repeat' (first
   |(apply W.qd; (first
   |(exact zW (hcr))|(exact zM)|(exact zN)|(exact yU rfl rfl rfl rfl)|(exact q_eql rfl rfl)
   |(apply (yEb (u := .d _)); exact rfl; exact rfl)))|(apply W.ed; (apply yBb; (iterate 3 exact rfl); kernel_rfl; kernel_rfl))|(refine W.gOff _ _ rfl rfl (by intro h; cases h) ?_)|(apply yA)|(apply yB)|(apply yC; kernel_rfl)|(apply yE)|(apply yJ)|(apply yP)
   |(apply yQ; exact rfl)))
  all_goals first | (exfalso; omega) | exact Ends.two rfl rfl rfl
 rw [if_pos h1] at hcr
 cases hk : ck with
 | false =>
   have he0 : e ≠ 0 := fun h => by have := he.1 h; rw [hk] at this; cases this
   rw [if_pos (.inr (.inl hk))] at hcod
   rw [hcod]
   clear he hck
   (repeat' (first
    |(apply yFb; exact rfl; exact rfl)
    |(apply W.qd; (first
    |(exact zW (hcr))|(exact zW (hce))|(exact zM)|(exact zN)|(exact yU rfl rfl rfl rfl)|(exact q_eql rfl rfl)|(exact q_neq rfl rfl)|(apply (yEb (u := .d _)); exact rfl; exact rfl)
    |(apply (yDb (u := .d _)); exact rfl; exact rfl)))|(apply W.ed; (apply yBb; (iterate 3 exact rfl); kernel_rfl; kernel_rfl))|(refine W.gOff _ _ rfl rfl (by intro h; cases h) ?_)|(apply yA)|(apply yB)|(apply yC; kernel_rfl)|(apply yE)|(apply yJ)|(apply yP)|(apply yQ; exact rfl)
    |(refine W.gF _ _ rfl rfl (fun hb => ?_) (fun hb => ?_) <;> ((try simp only [hb, zK]) <;> (try simp only [zL, zI] at hb) <;> (try (exfalso; omega))))))
   all_goals first | (exfalso; omega) | exact Ends.two rfl rfl rfl
 | true =>
   obtain rfl : e = 0 := he.2 hk
   obtain ⟨⟨h2, h3⟩, h4⟩ := hck hk
   clear he hck
   by_cases h5 : x < 0 ∨ 1099511627776 < x
   ·rw [if_pos (.inr (.inr h5))] at hcod
    rw [hcod]
    (repeat' (first
     |(apply yFb; exact rfl; exact rfl)
     |(apply W.qd; (first
     |(exact zW (hcr))|(exact zW (hce))|(exact zM)|(exact zN)|(exact yU rfl rfl rfl rfl)|(exact q_lss rfl rfl)|(exact q_gtr rfl rfl)|(exact q_eql rfl rfl)|(exact q_neq rfl rfl)|(apply (yEb (u := .d _)); exact rfl; exact rfl)
     |(apply (yDb (u := .d _)); exact rfl; exact rfl)))|(apply W.ed; (apply yBb; (iterate 3 exact rfl); kernel_rfl; kernel_rfl))|(refine W.gOff _ _ rfl rfl (by intro h; cases h) ?_)|(apply yA)|(apply yB)|(apply yC; kernel_rfl)|(apply yE)|(apply yJ)|(apply yP)|(apply yQ; exact rfl)|(refine W.gF _ _ rfl rfl (fun hb => ?_) (fun hb => ?_) <;> ((try simp only [hb, zK]) <;> (try simp only [zL, zI] at hb) <;> (try (exfalso; omega))))
     |(refine W.cond _ rfl (fun hb => ?_) (fun hb => ?_) <;> ((try simp only [hb, zK]) <;> (try simp only [zL, zI] at hb) <;> (try (exfalso; omega))))))
    all_goals first | (exfalso; omega) | exact Ends.two rfl rfl rfl
   rw [if_neg (fun h => by
    rcases h with h | h | h
    ·exact h h1
    ·rw [hk] at h; cases h
    ·exact h5 h)] at hcod
   by_cases h6 : x = 0
   ·rw [if_pos h6] at hcod
    rw [hcod]
    (repeat' (first
     |(apply yFb; exact rfl; exact rfl)
     |(apply W.qd; (first
     |(exact zW (hcr))|(exact zW (hce))|(exact zM)|(exact zN)|(exact yU rfl rfl rfl rfl)|(exact q_lss rfl rfl)|(exact q_gtr rfl rfl)|(exact q_eql rfl rfl)|(exact q_neq rfl rfl)
     |(apply (yDb (u := .d _)); exact rfl; exact rfl)))|(apply W.ed; (apply yBb; (iterate 3 exact rfl); kernel_rfl; kernel_rfl))|(apply yA)|(apply yB)|(apply yC; kernel_rfl)|(apply yE)|(apply yH)|(apply yJ)|(apply yP)|(refine W.gF _ _ rfl rfl (fun hb => ?_) (fun hb => ?_) <;> ((try simp only [hb, zK]) <;> (try simp only [zL, zI] at hb) <;> (try (exfalso; omega))))
     |(refine W.cond _ rfl (fun hb => ?_) (fun hb => ?_) <;> ((try simp only [hb, zK]) <;> (try simp only [zL, zI] at hb) <;> (try (exfalso; omega))))))
    all_goals first | (exfalso; omega) | exact Ends.two rfl rfl rfl
   rw [if_neg h6] at hcod
   have hw2 : D + ((par.map rD).length : Int) = w := by rw [hmp]; exact hw
   rw [← hw2] at hgr hcw
   by_cases h7 : g = 0 ∨ dom < cw
   ·rw [if_pos h7] at hcod
    rw [hcod]
    (repeat' (first
     |(apply yFb; exact rfl; exact rfl)
     |(apply W.qd; (first
     |(exact zW (hcr))|(exact zW (hce))|(exact zW (hgr))|(exact zW (hcw))|(exact zM)|(exact zN)|(exact yS rfl rfl rfl)|(exact yT rfl rfl rfl rfl)|(exact yU rfl rfl rfl rfl)|(exact q_lss rfl rfl)|(exact q_gtr rfl rfl)|(exact q_eql rfl rfl)|(exact q_neq rfl rfl)|(exact q_add rfl rfl (by omega))|(exact yV rfl rfl)|(apply (yEb (u := .d _)); exact rfl; exact rfl)
     |(apply (yDb (u := .d _)); exact rfl; exact rfl)))|(apply W.ed; (apply yBb; (iterate 3 exact rfl); kernel_rfl; kernel_rfl))|(refine W.gOff _ _ rfl rfl (by intro h; cases h) ?_)|(apply yA)|(apply yB)|(apply yC; kernel_rfl)|(apply yD; exact rfl; kernel_rfl)|(apply yE)|(apply yF; kernel_rfl)|(apply yH)|(apply yJ)|(apply yP)|(apply yQ; exact rfl)|(refine W.gF _ _ rfl rfl (fun hb => ?_) (fun hb => ?_) <;> ((try simp only [hb, zK]) <;> (try simp only [zL, zI] at hb) <;> (try (exfalso; omega))))
     |(refine W.cond _ rfl (fun hb => ?_) (fun hb => ?_) <;> ((try simp only [hb, zK]) <;> (try simp only [zL, zI] at hb) <;> (try (exfalso; omega))))))
    all_goals first | (exfalso; omega) | exact Ends.two rfl rfl rfl
   rw [if_neg h7] at hcod
   rw [hcod]
   have hlm := hlm (by omega) (by omega)
   have hu := A_up (a := lm) (b := g) (by omega) (by omega) (by omega)
   (repeat' (first
    |(apply yFb; exact rfl; exact rfl)
    |(apply W.qd; (first
    |(exact zW (hcr))|(exact zW (hce))|(exact zW (hgr))|(exact zW (hcw))|(exact zW (hli))|(exact zW (hu))|(exact zM)|(exact zN)|(exact yS rfl rfl rfl)|(exact yT rfl rfl rfl rfl)|(exact yU rfl rfl rfl rfl)|(exact q_lss rfl rfl)|(exact q_gtr rfl rfl)|(exact q_eql rfl rfl)|(exact q_neq rfl rfl)|(exact q_add rfl rfl (by omega))|(exact yV rfl rfl)
    |(apply (yDb (u := .d _)); exact rfl; exact rfl)))|(apply W.ed; (apply yBb; (iterate 3 exact rfl); kernel_rfl; kernel_rfl))|(apply yA)|(apply yB)|(apply yC; kernel_rfl)|(apply yD; exact rfl; kernel_rfl)|(apply yE)|(apply yF; kernel_rfl)|(apply yH)|(apply yJ)|(refine W.gF _ _ rfl rfl (fun hb => ?_) (fun hb => ?_) <;> ((try simp only [hb, zK]) <;> (try simp only [zL, zI] at hb) <;> (try (exfalso; omega))))
    |(refine W.cond _ rfl (fun hb => ?_) (fun hb => ?_) <;> ((try simp only [hb, zK]) <;> (try simp only [zL, zI] at hb) <;> (try (exfalso; omega))))))
   all_goals first | (exfalso; omega) | exact Ends.two rfl rfl rfl
theorem A_rcode {d r n s l i : Int} {c : Cd} {x : Int} (hn : NameIn c.1) (hp : c.2.2.2.1.length ≤ 9223372036854775807) : ACalls Tryz.prog 176 [cfgA d r n s l i, cdA1 c, iV x] [] (.tup [iV (codN d r n s l i c x).1, iV (codN d r n s l i c x).2]) [] := by
 have hcr := A_rdchk d r n s l i
 obtain ⟨e, hce0, he0⟩ := A_check7G (nm := c.1) (M := c.2.1) (D := c.2.2.1) (par := c.2.2.2.1) (dom := c.2.2.2.2) hn.b hn.l hp
 have he : e = 0 ↔ chkD c = true := he0
 have hce : ACalls Tryz.prog 114 [cdA1 c] [] (iV e) [] := hce0
 clear hce0 he0
 have hli := A_rlimit (c := c) (x := x)
 have hgr := A_rgroups d r n s l i (c.2.2.1 + (c.2.2.2.1.length : Int))
 have hcw := A_rcrowd d r n s l i (c.2.2.1 + (c.2.2.2.1.length : Int))
 have hgn := grpI_nn (d := d) (r := r) (n := n) (s := s) (l := l) (i := i) (w := c.2.2.1 + (c.2.2.2.1.length : Int))
 have hmp : (c.2.2.2.1.map rD).length = c.2.2.2.1.length := List.length_map _
 have hck : chkD c = true → (1 ≤ c.2.2.1 ∧ c.2.2.1 ≤ 31) ∧ c.2.2.2.1.length ≤ 31 := fun h => ⟨by
  unfold chkD chkC at h
  simp only [Bool.and_eq_true, decide_eq_true_eq] at h
  exact ⟨h.1.1.2.1.1.1.2, h.1.1.2.1.1.2⟩, (chk_rows h).1⟩
 have hcod : codN d r n s l i c x = if ¬ OkC d r n s l i ∨ chkD c = false ∨ x < 0 ∨ 1099511627776 < x then (0, 1) else if x = 0 then (0, 0) else if grpI d r n s l i (c.2.2.1 + (c.2.2.2.1.length : Int)) = 0 ∨ c.2.2.2.2 < crdI d r n s l i (c.2.2.1 + (c.2.2.2.1.length : Int)) then (0, refI) else (upI (limN c.2.2.1 x) (grpI d r n s l i (c.2.2.1 + (c.2.2.2.1.length : Int))), 0) := rfl
 have hlm := limN_le (D := c.2.2.1) (n := x)
 have hln := limN_nn c.2.2.1 x
 generalize codN d r n s l i c x = R at *
 generalize chkD c = ck at *
 generalize hw : c.2.2.1 + (c.2.2.2.1.length : Int) = w at *
 obtain ⟨nm, M, D, par, dom⟩ := c
 dsimp only at *
 generalize grpI d r n s l i w = g at *
 generalize crdI d r n s l i w = cw at *
 generalize limN D x = lm at *
 have hli : ACalls Tryz.prog 26 [cdF nm M D par dom, iV x] [] (iV lm) [] := hli
 show ACalls Tryz.prog 176 [cfgA d r n s l i, cdF nm M D par dom, iV x] [] (.tup [iV R.1, iV R.2]) []
 refine acalls_of_body Tryz.func176 rfl (zU rfl) ?_
 by_cases h1 : OkC d r n s l i
 case neg =>
  rw [if_pos (.inl h1)] at hcod
  rw [chk13_no h1] at hcr
  rw [hcod]
  (repeat' (first
   |(apply W.qd; (first
   |(exact zW (hcr))|(exact zM)|(exact zN)|(exact yU rfl rfl rfl rfl)|(exact q_neq rfl rfl)
   |(apply (yEb (u := .d _)); exact rfl; exact rfl)))|(apply W.ed; (apply yBb; (iterate 3 exact rfl); kernel_rfl; kernel_rfl))|(refine W.gOff _ _ rfl rfl (by intro h; cases h) ?_)|(apply yA)|(apply yB)|(apply yC; kernel_rfl)|(apply yE)|(apply yJ)|(apply yP)
   |(apply yQ; exact rfl)))
  all_goals first | (exfalso; omega) | exact Ends.two rfl rfl rfl
 rw [chk13_yes h1] at hcr
 cases hk : ck with
 | false =>
   have he0 : e ≠ 0 := fun h => by have := he.1 h; rw [hk] at this; cases this
   rw [if_pos (.inr (.inl hk))] at hcod
   rw [hcod]
   clear he hck
   (repeat' (first
    |(apply yFb; exact rfl; exact rfl)
    |(apply W.qd; (first
    |(exact zW (hcr))|(exact zW (hce))|(exact zM)|(exact zN)|(exact yU rfl rfl rfl rfl)|(exact q_neq rfl rfl)|(apply (yEb (u := .d _)); exact rfl; exact rfl)
    |(apply (yDb (u := .d _)); exact rfl; exact rfl)))|(apply W.ed; (apply yBb; (iterate 3 exact rfl); kernel_rfl; kernel_rfl))|(refine W.gOff _ _ rfl rfl (by intro h; cases h) ?_)|(apply yA)|(apply yB)|(apply yC; kernel_rfl)|(apply yE)|(apply yJ)|(apply yP)|(apply yQ; exact rfl)
    |(refine W.gF _ _ rfl rfl (fun hb => ?_) (fun hb => ?_) <;> ((try simp only [hb, zK]) <;> (try simp only [zL, zI] at hb) <;> (try (exfalso; omega))))))
   all_goals first | (exfalso; omega) | exact Ends.two rfl rfl rfl
 | true =>
   obtain rfl : e = 0 := he.2 hk
   obtain ⟨⟨h2, h3⟩, h4⟩ := hck hk
   clear he hck
   by_cases h5 : x < 0 ∨ 1099511627776 < x
   ·rw [if_pos (.inr (.inr h5))] at hcod
    rw [hcod]
    (repeat' (first
     |(apply yFb; exact rfl; exact rfl)
     |(apply W.qd; (first
     |(exact zW (hcr))|(exact zW (hce))|(exact zM)|(exact zN)|(exact yU rfl rfl rfl rfl)|(exact q_lss rfl rfl)|(exact q_gtr rfl rfl)|(exact q_neq rfl rfl)|(apply (yEb (u := .d _)); exact rfl; exact rfl)
     |(apply (yDb (u := .d _)); exact rfl; exact rfl)))|(apply W.ed; (apply yBb; (iterate 3 exact rfl); kernel_rfl; kernel_rfl))|(refine W.gOff _ _ rfl rfl (by intro h; cases h) ?_)|(apply yA)|(apply yB)|(apply yC; kernel_rfl)|(apply yE)|(apply yJ)|(apply yP)|(apply yQ; exact rfl)|(refine W.gF _ _ rfl rfl (fun hb => ?_) (fun hb => ?_) <;> ((try simp only [hb, zK]) <;> (try simp only [zL, zI] at hb) <;> (try (exfalso; omega))))
     |(refine W.cond _ rfl (fun hb => ?_) (fun hb => ?_) <;> ((try simp only [hb, zK]) <;> (try simp only [zL, zI] at hb) <;> (try (exfalso; omega))))))
    all_goals first | (exfalso; omega) | exact Ends.two rfl rfl rfl
   rw [if_neg (fun h => by
    rcases h with h | h | h
    ·exact h h1
    ·rw [hk] at h; cases h
    ·exact h5 h)] at hcod
   by_cases h6 : x = 0
   ·rw [if_pos h6] at hcod
    rw [hcod]
    (repeat' (first
     |(apply yFb; exact rfl; exact rfl)
     |(apply W.qd; (first
     |(exact zW (hcr))|(exact zW (hce))|(exact zM)|(exact zN)|(exact yU rfl rfl rfl rfl)|(exact q_lss rfl rfl)|(exact q_gtr rfl rfl)|(exact q_eql rfl rfl)|(exact q_neq rfl rfl)
     |(apply (yDb (u := .d _)); exact rfl; exact rfl)))|(apply W.ed; (apply yBb; (iterate 3 exact rfl); kernel_rfl; kernel_rfl))|(apply yA)|(apply yB)|(apply yC; kernel_rfl)|(apply yE)|(apply yH)|(apply yJ)|(apply yP)|(refine W.gF _ _ rfl rfl (fun hb => ?_) (fun hb => ?_) <;> ((try simp only [hb, zK]) <;> (try simp only [zL, zI] at hb) <;> (try (exfalso; omega))))
     |(refine W.cond _ rfl (fun hb => ?_) (fun hb => ?_) <;> ((try simp only [hb, zK]) <;> (try simp only [zL, zI] at hb) <;> (try (exfalso; omega))))))
    all_goals first | (exfalso; omega) | exact Ends.two rfl rfl rfl
   rw [if_neg h6] at hcod
   have hw2 : D + ((par.map rD).length : Int) = w := by rw [hmp]; exact hw
   rw [← hw2] at hgr hcw
   by_cases h7 : g = 0 ∨ dom < cw
   ·rw [if_pos h7] at hcod
    rw [hcod]
    (repeat' (first
     |(apply yFb; exact rfl; exact rfl)
     |(apply W.qd; (first
     |(exact zW (hcr))|(exact zW (hce))|(exact zW (hgr))|(exact zW (hcw))|(exact zM)|(exact zN)|(exact yS rfl rfl rfl)|(exact yT rfl rfl rfl rfl)|(exact yU rfl rfl rfl rfl)|(exact q_lss rfl rfl)|(exact q_gtr rfl rfl)|(exact q_eql rfl rfl)|(exact q_neq rfl rfl)|(exact q_add rfl rfl (by omega))|(exact yV rfl rfl)|(apply (yEb (u := .d _)); exact rfl; exact rfl)
     |(apply (yDb (u := .d _)); exact rfl; exact rfl)))|(apply W.ed; (apply yBb; (iterate 3 exact rfl); kernel_rfl; kernel_rfl))|(refine W.gOff _ _ rfl rfl (by intro h; cases h) ?_)|(apply yA)|(apply yB)|(apply yC; kernel_rfl)|(apply yD; exact rfl; kernel_rfl)|(apply yE)|(apply yF; kernel_rfl)|(apply yH)|(apply yJ)|(apply yP)|(apply yQ; exact rfl)|(refine W.gF _ _ rfl rfl (fun hb => ?_) (fun hb => ?_) <;> ((try simp only [hb, zK]) <;> (try simp only [zL, zI] at hb) <;> (try (exfalso; omega))))
     |(refine W.cond _ rfl (fun hb => ?_) (fun hb => ?_) <;> ((try simp only [hb, zK]) <;> (try simp only [zL, zI] at hb) <;> (try (exfalso; omega))))))
    all_goals first | (exfalso; omega) | exact Ends.two rfl rfl rfl
   rw [if_neg h7] at hcod
   rw [hcod]
   have hlm := hlm (by omega) (by omega)
   have hu := A_rup (a := lm) (b := g) (by omega) (by omega) (by omega)
   (repeat' (first
    |(apply yFb; exact rfl; exact rfl)
    |(apply W.qd; (first
    |(exact zW (hcr))|(exact zW (hce))|(exact zW (hgr))|(exact zW (hcw))|(exact zW (hli))|(exact zW (hu))|(exact zM)|(exact zN)|(exact yS rfl rfl rfl)|(exact yT rfl rfl rfl rfl)|(exact yU rfl rfl rfl rfl)|(exact q_lss rfl rfl)|(exact q_gtr rfl rfl)|(exact q_eql rfl rfl)|(exact q_neq rfl rfl)|(exact q_add rfl rfl (by omega))|(exact yV rfl rfl)
    |(apply (yDb (u := .d _)); exact rfl; exact rfl)))|(apply W.ed; (apply yBb; (iterate 3 exact rfl); kernel_rfl; kernel_rfl))|(apply yA)|(apply yB)|(apply yC; kernel_rfl)|(apply yD; exact rfl; kernel_rfl)|(apply yE)|(apply yF; kernel_rfl)|(apply yH)|(apply yJ)|(refine W.gF _ _ rfl rfl (fun hb => ?_) (fun hb => ?_) <;> ((try simp only [hb, zK]) <;> (try simp only [zL, zI] at hb) <;> (try (exfalso; omega))))
    |(refine W.cond _ rfl (fun hb => ?_) (fun hb => ?_) <;> ((try simp only [hb, zK]) <;> (try simp only [zL, zI] at hb) <;> (try (exfalso; omega))))))
   all_goals first | (exfalso; omega) | exact Ends.two rfl rfl rfl
end
section
section
variable {P : Program} {m : Nat} {env : List (Nat × AV)} {own : List Ent} {dst : Option Tmp} {ty : TypeId} {pos : String} {af : Array Edge} {gd : Option (Nat × Bool)}
theorem q_maxM {x y : Operand} {ts : Array TypeId} {a b : Int} (hx : lookO env x = iV a) (hy : lookO env y = iV b) :
 Quiet P m ⟨dst, .call ⟨.builtin .max, #[x, y], ts⟩, ty, pos, af, gd⟩ env own [] (iV (mxI a b)) := q_max hx hy
theorem q_minV {x y : Operand} {ts : Array TypeId} {a b v : Int} (hx : lookO env x = iV a) (hy : lookO env y = iV b) (h : (if b < a then b else a) = v) :
 Quiet P m ⟨dst, .call ⟨.builtin .min, #[x, y], ts⟩, ty, pos, af, gd⟩ env own [] (iV v) := by
 subst h; exact q_min hx hy
end
theorem getDt {ts : List Tn} {i : Nat} (h : i < ts.length) : ts.getD i tn0 = ts[i] := by rw [List.getD_eq_getElem?_getD, List.getElem?_eq_getElem h]; rfl
theorem getDu {us : List Ue} {i : Nat} (h : i < us.length) : us.getD i ue0 = us[i] := by rw [List.getD_eq_getElem?_getD, List.getElem?_eq_getElem h]; rfl
theorem mxI_bd {a b : Int} (ha : inT a = true) (hb : inT b = true) : 0 ≤ mxI a b ∧ mxI a b ≤ 2147483647 := by
 unfold inT at ha hb
 simp only [decide_eq_true_eq] at ha hb
 unfold mxI
 split <;> omega
theorem ten_at {nv : Nat} {ts : List Tn} {us : List Ue} (h : tenB nv ts us = true) {i : Nat} (hi : i < ts.length) (hu : i < us.length) : (inT ts[i].2.1 = true ∧ inT ts[i].2.2.1 = true) ∧ (inT us[i].1 = true ∧ inT us[i].2 = true) := by
 unfold tenB at h
 simp only [Bool.and_eq_true, List.all_eq_true] at h
 have := h.2 i (List.mem_range.2 hi)
 rw [getDt hi, getDu hu] at this
 unfold tnOk at this
 simp only [Bool.and_eq_true] at this
 exact this.2
def blkK (nv : Nat) (ts : List Tn) (us : List Ue) (k : Nat) : List Int := (List.range nv).map fun j : Nat => if j < k then blkN ts us (j : Int) else 0
theorem blkK_len (nv : Nat) (ts : List Tn) (us : List Ue) (k : Nat) : (blkK nv ts us k).length = nv := by unfold blkK; simp
theorem blkK_zero (nv : Nat) (ts : List Tn) (us : List Ue) : blkK nv ts us 0 = List.replicate nv 0 := by
 apply List.ext_getElem (by rw [blkK_len]; simp)
 intro i h1 h2
 unfold blkK
 simp
theorem blkK_all (nv : Nat) (ts : List Tn) (us : List Ue) : blkK nv ts us nv = blkL nv ts us := by
 unfold blkK blkL
 apply List.map_congr_left
 intro j hj
 rw [if_pos (List.mem_range.1 hj)]
theorem blkK_get (nv : Nat) (ts : List Tn) (us : List Ue) (k i : Nat) (h : i < (blkK nv ts us k).length) : (blkK nv ts us k)[i] = if i < k then blkN ts us (i : Int) else 0 := by
 simp [blkK]
theorem blkK_step {nv k : Nat} {ts : List Tn} {us : List Ue} (h : k < nv) : (blkK nv ts us k).set k (blkN ts us k) = blkK nv ts us (k + 1) := by
 apply List.ext_getElem (by rw [List.length_set, blkK_len, blkK_len])
 intro i h1 h2
 rw [List.getElem_set, blkK_get]
 by_cases e : k = i
 ·subst e; rw [if_pos rfl, blkK_get, if_pos (by omega)]
 ·rw [if_neg e, blkK_get]
  by_cases h3 : i < k
  ·rw [if_pos h3, if_pos (by omega)]
  ·rw [if_neg h3, if_neg (by omega)]
attribute [local irreducible] Quiet Eff OpOk AWPG ACont ABlock ACalls AGoto
theorem A_wrong (x : Int) : ACalls Tryz.prog 173 [iV x] [] (bV (!inT x)) [] := by
 refine acalls_of_body Tryz.func173 rfl (zU rfl) ?_
 unfold inT
 (repeat' (first
  |(apply yFb; exact rfl; exact rfl)
  |(apply W.qd; (first
  |(exact zM)|(exact zN)|(exact q_lss rfl rfl)|(exact q_gtr rfl rfl)|(apply (yEb (u := .d _)); exact rfl; exact rfl)
  |(apply (yDb (u := .d _)); exact rfl; exact rfl)))|(refine W.gOff _ _ rfl rfl (by intro h; cases h) ?_)|(apply yA)|(apply yB)|(apply yC; kernel_rfl)|(apply yE)|(apply yJ)
  |(refine W.gF _ _ rfl rfl (fun hb => ?_) (fun hb => ?_) <;> ((try simp only [hb, zK]) <;> (try simp only [zL, zI] at hb) <;> (try (exfalso; omega))))))
 all_goals refine Ends.b rfl ?_
 all_goals first | (rw [Bool.eq_iff_iff]; simp <;> omega) | (simp; omega)
theorem A_in31 (x : Int) : ACalls Tryz.prog 232 [iV x] [] (bV (inT x)) [] := by
 refine acalls_of_body Tryz.func232 rfl (zU rfl) ?_
 unfold inT
 (repeat' (first
  |(apply yFb; exact rfl; exact rfl)
  |(apply W.qd; (first
  |(exact zM)|(exact zN)|(exact q_leq rfl rfl)|(exact q_geq rfl rfl)|(apply (yEb (u := .d _)); exact rfl; exact rfl)
  |(apply (yDb (u := .d _)); exact rfl; exact rfl)))|(refine W.gOff _ _ rfl rfl (by intro h; cases h) ?_)|(apply yA)|(apply yB)|(apply yC; kernel_rfl)|(apply yE)|(apply yJ)
  |(refine W.gT _ _ rfl rfl (fun hb => ?_) (fun hb => ?_) <;> ((try simp only [hb, zK]) <;> (try simp only [zL, zI] at hb) <;> (try (exfalso; omega))))))
 all_goals refine Ends.b rfl ?_
 all_goals first | (rw [Bool.eq_iff_iff]; simp <;> omega) | (simp; omega)
theorem A_avalid {cs : List Cd} {vs : List Sv} {ts : List Tn} {us : List Ue} (hvl : vs.length ≤ 9223372036854775807) (htl : ts.length ≤ 9223372036854775807) (hul : us.length ≤ 9223372036854775807) : ACalls Tryz.prog 109 [lib cs vs, tns ts, ues us] [] (bV (tenB vs.length ts us)) [] := by
 refine acalls_of_body Tryz.func109 rfl (zU rfl) ?_
 have hmt : (ts.map tnD).length = ts.length := List.length_map _
 have hmu : (us.map ueD).length = us.length := List.length_map _
 have hmv : (vs.map svD).length = vs.length := List.length_map _
 unfold tenB
 by_cases h1 : ts.length ≤ 16 ∧ ts.length ≤ us.length
 case neg =>
  rw [decide_eq_false h1, Bool.false_and]
  (repeat' (first
   |(apply yFb; exact rfl; exact rfl)
   |(apply W.qd; (first
   |(exact zM)|(exact zN)|(exact q_lss rfl rfl)|(exact q_gtr rfl rfl)|(exact yV rfl rfl)|(apply (yEb (u := .d _)); exact rfl; exact rfl)
   |(apply (yDb (u := .d _)); exact rfl; exact rfl)))|(apply W.ed; (apply yBb; (iterate 3 exact rfl); kernel_rfl; kernel_rfl))|(refine W.gOff _ _ rfl rfl (by intro h; cases h) ?_)|(apply yA)|(apply yB)|(apply (W.regionS 5); exact rfl; kernel_rfl)|(apply yE)|(apply yJ)|(apply yP)|(apply yQ; exact rfl)|(refine W.gF _ _ rfl rfl (fun hb => ?_) (fun hb => ?_) <;> ((try simp only [hb, zK]) <;> (try simp only [zL, zI] at hb) <;> (try (exfalso; omega))))
   |(refine W.cond _ rfl (fun hb => ?_) (fun hb => ?_) <;> ((try simp only [hb, zK]) <;> (try simp only [zL, zI] at hb) <;> (try (exfalso; omega))))))
  all_goals first | (exfalso; omega) | exact Ends.b rfl rfl
 rw [decide_eq_true h1, Bool.true_and]
 obtain ⟨h1, h2⟩ := h1
 have hq : ∀ i (hi : i < ts.length), (fun i => tnOk vs.length (ts.getD i tn0) (us.getD i ue0)) i = tnOk vs.length ts[i] (us[i]'(by omega)) := fun i hi => by
  show tnOk _ _ _ = _
  rw [getDt hi, getDu (by omega)]
 generalize (fun i => tnOk vs.length (ts.getD i tn0) (us.getD i ue0)) = Q at *
 (repeat' (first
  |(apply yFb; exact rfl; exact rfl)
  |(apply W.qd; (first
  |(exact zM)|(exact zN)|(exact q_lss rfl rfl)|(exact q_gtr rfl rfl)|(exact yV rfl rfl)
  |(apply (yDb (u := .d _)); exact rfl; exact rfl)))|(apply W.ed; (apply yBb; (iterate 3 exact rfl); kernel_rfl; kernel_rfl))|(apply yA)|(apply yB)|(apply (W.regionS 5); exact rfl; kernel_rfl)|(apply yE)|(apply yG)|(apply yH)|(refine W.gF _ _ rfl rfl (fun hb => ?_) (fun hb => ?_) <;> ((try simp only [hb, zK]) <;> (try simp only [zL, zI] at hb) <;> (try (exfalso; omega))))
  |(refine W.cond _ rfl (fun hb => ?_) (fun hb => ?_) <;> ((try simp only [hb, zK]) <;> (try simp only [zL, zI] at hb) <;> (try (exfalso; omega))))))
 all_goals try (exfalso; omega)
 refine AWP.loopW (α := Nat) (fun i => i ≤ ts.length ∧ ∀ j, j < i → Q j = true) (fun i => ⟨[(23, iV i), (22, iV ts.length), (21, tns ts), (2, ues us), (7, .fn 173 []), (3, .opt 0 0)], [.box [cds cs, svs vs]]⟩) (fun i => ts.length - i) 0 ⟨Nat.zero_le _, fun j hj => by omega⟩ ?wkA fun i hi => ?_
 case wkA => exact ⟨[0], rfl, rfl, rfl, rfl, iV_eq (by rw [hmt]), rfl, rfl, rfl, rfl, trivial⟩
 by_cases hil : i < ts.length
 ·have hui : i < us.length := by omega
  have hqi := hq i hil
  have hbad : Q i = false → (List.range ts.length).all Q = false := fun h => by
   rw [List.all_eq_false]
   exact ⟨i, List.mem_range.2 hil, by rw [h]; decide⟩
  have hnx : Q i = true → ∀ j, j < i + 1 → Q j = true := fun h j hj => by
   by_cases e : j = i
   ·subst e; exact h
   ·exact hi.2 j (by omega)
  have hct := A_contains_int (O := []) (g := 173) (caps := []) (fun x => !inT x) [ts[i].2.1, ts[i].2.2.1, us[i].1, us[i].2] (by simp) (by kernel_rfl) (fun x _ => A_wrong x)
  have hany : [ts[i].2.1, ts[i].2.2.1, us[i].1, us[i].2].any (fun x => !inT x) = !((inT ts[i].2.1 && inT ts[i].2.2.1) && (inT us[i].1 && inT us[i].2)) := by
   simp only [List.any_cons, List.any_nil]
   cases inT ts[i].2.1 <;> cases inT ts[i].2.2.1 <;> cases inT us[i].1 <;> cases inT us[i].2 <;> rfl
  rw [hany] at hct
  unfold tnOk at hqi
  generalize ((inT ts[i].2.1 && inT ts[i].2.2.1) && (inT us[i].1 && inT us[i].2)) = B at *
  clear hi hq hany
  generalize (List.range ts.length).all Q = R at *
  by_cases hc : 0 ≤ ts[i].2.2.2.2.2 ∧ ts[i].2.2.2.2.2 < (vs.length : Int)
  ·rw [decide_eq_true hc, Bool.true_and] at hqi
   cases B with
   | true =>
     have hn2 := hnx hqi
     clear hnx hbad
     (repeat' (first
      |(apply yFb; exact rfl; exact rfl)
      |(apply W.qd; (first
      |(exact zW (hct))|(exact zM)|(exact zN)|(exact yS rfl rfl rfl)|(exact yT rfl rfl rfl rfl)|(exact q_lss rfl rfl)|(exact q_geq rfl rfl)|(exact q_add rfl rfl (by omega))|(exact yV rfl rfl)|(apply yX; (iterate 3 exact rfl); (first | omega | (focus (simp; done))))|(apply yY; (iterate 3 exact rfl); (first | omega | (focus (simp; done))))|(apply q_fld_fptF; (iterate 3 exact rfl))|(apply q_litF; (iterate 5 exact rfl); kernel_rfl; kernel_rfl; exact rfl)|(apply yGb; (iterate 4 exact rfl); (first | (with_reducible exact rfl) | exact natI_spec rfl | assumption | exact (Int.toNat_of_nonneg (by omega)).symm); (first | omega | (focus (simp only [List.length_map]; omega)) | (focus (simp; done)) | (focus (simp; omega))))
      |(apply (yDb (u := .d _)); exact rfl; exact rfl)))|(apply W.ed; (apply yCb; (iterate 3 exact rfl); kernel_rfl))|(apply W.ln; (apply l_st_box; (iterate 6 exact rfl); (iterate 3 kernel_rfl)))|(apply yA)|(apply yB)|(apply yC; kernel_rfl)|(apply yD; exact rfl; kernel_rfl)|(apply yE)|(apply yF; kernel_rfl)|(apply yG)|(apply yH)|(apply yL)|(apply yR; exact rfl)|(refine W.gF _ _ rfl rfl (fun hb => ?_) (fun hb => ?_) <;> ((try simp only [hb, zK]) <;> (try simp only [zL, zI] at hb) <;> (try (exfalso; omega))))
      |(refine W.cond _ rfl (fun hb => ?_) (fun hb => ?_) <;> ((try simp only [hb, zK]) <;> (try simp only [zL, zI] at hb) <;> (try (exfalso; omega))))))
     all_goals first
      |(exfalso; omega)
      |exact ⟨i + 1, ⟨by omega, hn2⟩, by omega, [0], rfl, rfl, rfl, iV_eq (by omega), rfl, rfl, rfl, rfl, rfl, trivial⟩
   | false =>
     rw [hbad hqi]
     clear hnx hbad
     (repeat' (first
      |(apply yFb; exact rfl; exact rfl)
      |(apply W.qd; (first
      |(exact zW (hct))|(exact zM)|(exact zN)|(exact yS rfl rfl rfl)|(exact yT rfl rfl rfl rfl)|(exact q_lss rfl rfl)|(exact q_geq rfl rfl)|(exact yV rfl rfl)|(apply yX; (iterate 3 exact rfl); (first | omega | (focus (simp; done))))|(apply yY; (iterate 3 exact rfl); (first | omega | (focus (simp; done))))|(apply q_fld_fptF; (iterate 3 exact rfl))|(apply q_litF; (iterate 5 exact rfl); kernel_rfl; kernel_rfl; exact rfl)|(apply yGb; (iterate 4 exact rfl); (first | (with_reducible exact rfl) | exact natI_spec rfl | assumption | exact (Int.toNat_of_nonneg (by omega)).symm); (first | omega | (focus (simp only [List.length_map]; omega)) | (focus (simp; done)) | (focus (simp; omega))))
      |(apply (yDb (u := .d _)); exact rfl; exact rfl)))|(apply W.ed; (apply yCb; (iterate 3 exact rfl); kernel_rfl))|(apply W.ln; (apply l_st_box; (iterate 6 exact rfl); (iterate 3 kernel_rfl)))|(apply yA)|(apply yB)|(apply yC; kernel_rfl)|(apply yD; exact rfl; kernel_rfl)|(apply yE)|(apply yF; kernel_rfl)|(apply yG)|(apply yH)|(apply yJ)|(apply yP)|(apply yN)|(apply yQ; exact rfl)|(refine W.gF _ _ rfl rfl (fun hb => ?_) (fun hb => ?_) <;> ((try simp only [hb, zK]) <;> (try simp only [zL, zI] at hb) <;> (try (exfalso; omega))))
      |(refine W.cond _ rfl (fun hb => ?_) (fun hb => ?_) <;> ((try simp only [hb, zK]) <;> (try simp only [zL, zI] at hb) <;> (try (exfalso; omega))))))
     all_goals first | (exfalso; omega) | exact Ends.b rfl rfl
  ·rw [decide_eq_false hc, Bool.false_and] at hqi
   rw [hbad hqi]
   clear hnx hbad
   (repeat' (first
    |(apply yFb; exact rfl; exact rfl)
    |(apply W.qd; (first
    |(exact zM)|(exact zN)|(exact yS rfl rfl rfl)|(exact yT rfl rfl rfl rfl)|(exact q_lss rfl rfl)|(exact q_geq rfl rfl)|(exact yV rfl rfl)|(apply yX; (iterate 3 exact rfl); (first | omega | (focus (simp; done))))|(apply yY; (iterate 3 exact rfl); (first | omega | (focus (simp; done))))|(apply q_fld_fptF; (iterate 3 exact rfl))|(apply q_litF; (iterate 5 exact rfl); kernel_rfl; kernel_rfl; exact rfl)|(apply yGb; (iterate 4 exact rfl); (first | (with_reducible exact rfl) | exact natI_spec rfl | assumption | exact (Int.toNat_of_nonneg (by omega)).symm); (first | omega | (focus (simp only [List.length_map]; omega)) | (focus (simp; done)) | (focus (simp; omega))))|(apply (yEb (u := .d _)); exact rfl; exact rfl)
    |(apply (yDb (u := .d _)); exact rfl; exact rfl)))|(apply W.ed; (apply yCb; (iterate 3 exact rfl); kernel_rfl))|(apply W.ln; (apply l_st_box; (iterate 6 exact rfl); (iterate 3 kernel_rfl)))|(refine W.gOff _ _ rfl rfl (by intro h; cases h) ?_)|(apply yA)|(apply yB)|(apply yC; kernel_rfl)|(apply yD; exact rfl; kernel_rfl)|(apply yE)|(apply yF; kernel_rfl)|(apply yG)|(apply yH)|(apply yJ)|(apply yP)|(apply yN)|(apply yQ; exact rfl)|(refine W.gF _ _ rfl rfl (fun hb => ?_) (fun hb => ?_) <;> ((try simp only [hb, zK]) <;> (try simp only [zL, zI] at hb) <;> (try (exfalso; omega))))
    |(refine W.cond _ rfl (fun hb => ?_) (fun hb => ?_) <;> ((try simp only [hb, zK]) <;> (try simp only [zL, zI] at hb) <;> (try (exfalso; omega))))))
   all_goals first | (exfalso; omega) | exact Ends.b rfl rfl
 ·have hall : (List.range ts.length).all Q = true := by
   rw [List.all_eq_true]
   intro j hj
   exact hi.2 j (by have := List.mem_range.1 hj; omega)
  rw [hall]
  clear hi hq
  (repeat' (first
   |(apply W.qd; (first
   |(exact zN)
   |(exact q_lss rfl rfl)))|(apply yA)|(apply yB)|(apply yC; kernel_rfl)|(apply yE)|(apply yI)|(apply yJ)|(apply yK)|(apply yM)
   |(refine W.cond _ rfl (fun hb => ?_) (fun hb => ?_) <;> ((try simp only [hb, zK]) <;> (try simp only [zL, zI] at hb) <;> (try (exfalso; omega))))))
  all_goals exact Ends.b rfl rfl
theorem A_rvalid31 {cs : List Cd} {vs : List Sv} {ts : List Tn} {us : List Ue} (hvl : vs.length ≤ 9223372036854775807) (htl : ts.length ≤ 9223372036854775807) (hul : us.length ≤ 9223372036854775807) : ACalls Tryz.prog 175 [lib cs vs, tns ts, ues us] [] (bV (tenB vs.length ts us)) [] := by
 refine acalls_of_body Tryz.func175 rfl (zU rfl) ?_
 have hmt : (ts.map tnD).length = ts.length := List.length_map _
 have hmu : (us.map ueD).length = us.length := List.length_map _
 have hmv : (vs.map svD).length = vs.length := List.length_map _
 unfold tenB
 by_cases h1 : ts.length ≤ 16 ∧ ts.length ≤ us.length
 case neg =>
  rw [decide_eq_false h1, Bool.false_and]
  (repeat' (first
   |(apply yFb; exact rfl; exact rfl)
   |(apply W.qd; (first
   |(exact zM)|(exact zN)|(exact q_lss rfl rfl)|(exact q_gtr rfl rfl)|(exact yV rfl rfl)|(apply (yEb (u := .d _)); exact rfl; exact rfl)
   |(apply (yDb (u := .d _)); exact rfl; exact rfl)))|(apply W.ed; (apply yBb; (iterate 3 exact rfl); kernel_rfl; kernel_rfl))|(refine W.gOff _ _ rfl rfl (by intro h; cases h) ?_)|(apply yA)|(apply yB)|(apply (W.regionS 4); exact rfl; kernel_rfl)|(apply yE)|(apply yJ)|(apply yP)|(apply yQ; exact rfl)|(refine W.gF _ _ rfl rfl (fun hb => ?_) (fun hb => ?_) <;> ((try simp only [hb, zK]) <;> (try simp only [zL, zI] at hb) <;> (try (exfalso; omega))))
   |(refine W.cond _ rfl (fun hb => ?_) (fun hb => ?_) <;> ((try simp only [hb, zK]) <;> (try simp only [zL, zI] at hb) <;> (try (exfalso; omega))))))
  all_goals first | (exfalso; omega) | exact Ends.b rfl rfl
 rw [decide_eq_true h1, Bool.true_and]
 obtain ⟨h1, h2⟩ := h1
 have hq : ∀ i (hi : i < ts.length), (fun i => tnOk vs.length (ts.getD i tn0) (us.getD i ue0)) i = tnOk vs.length ts[i] (us[i]'(by omega)) := fun i hi => by
  show tnOk _ _ _ = _
  rw [getDt hi, getDu (by omega)]
 generalize (fun i => tnOk vs.length (ts.getD i tn0) (us.getD i ue0)) = Q at *
 (repeat' (first
  |(apply yFb; exact rfl; exact rfl)
  |(apply W.qd; (first
  |(exact zM)|(exact zN)|(exact q_lss rfl rfl)|(exact q_gtr rfl rfl)|(exact yV rfl rfl)
  |(apply (yDb (u := .d _)); exact rfl; exact rfl)))|(apply W.ed; (apply yBb; (iterate 3 exact rfl); kernel_rfl; kernel_rfl))|(apply yA)|(apply yB)|(apply (W.regionS 4); exact rfl; kernel_rfl)|(apply yE)|(apply yG)|(apply yH)|(refine W.gF _ _ rfl rfl (fun hb => ?_) (fun hb => ?_) <;> ((try simp only [hb, zK]) <;> (try simp only [zL, zI] at hb) <;> (try (exfalso; omega))))
  |(refine W.cond _ rfl (fun hb => ?_) (fun hb => ?_) <;> ((try simp only [hb, zK]) <;> (try simp only [zL, zI] at hb) <;> (try (exfalso; omega))))))
 all_goals try (exfalso; omega)
 refine AWP.loopW (α := Nat) (fun i => i ≤ ts.length ∧ ∀ j, j < i → Q j = true) (fun i => ⟨[(7, iV i), (1, tns ts), (2, ues us), (3, .opt 0 0)], [.box [cds cs, svs vs]]⟩) (fun i => ts.length - i) 0 ⟨Nat.zero_le _, fun j hj => by omega⟩ ⟨[0], rfl, rfl, rfl, by (repeat (first | exact trivial | refine ⟨rfl, ?_⟩))⟩ fun i hi => ?_
 by_cases hil : i < ts.length
 ·have hui : i < us.length := by omega
  have hqi := hq i hil
  have hbad : Q i = false → (List.range ts.length).all Q = false := fun h => by
   rw [List.all_eq_false]
   exact ⟨i, List.mem_range.2 hil, by rw [h]; decide⟩
  have hnx : Q i = true → ∀ j, j < i + 1 → Q j = true := fun h j hj => by
   by_cases e : j = i
   ·subst e; exact h
   ·exact hi.2 j (by omega)
  have k1 := A_in31 ts[i].2.1
  have k2 := A_in31 ts[i].2.2.1
  have k3 := A_in31 us[i].1
  have k4 := A_in31 us[i].2
  unfold tnOk at hqi
  generalize inT ts[i].2.1 = b1 at *
  generalize inT ts[i].2.2.1 = b2 at *
  generalize inT us[i].1 = b3 at *
  generalize inT us[i].2 = b4 at *
  clear hi hq
  generalize (List.range ts.length).all Q = R at *
  by_cases hc : 0 ≤ ts[i].2.2.2.2.2 ∧ ts[i].2.2.2.2.2 < (vs.length : Int)
  ·rw [decide_eq_true hc, Bool.true_and] at hqi
   by_cases hB : ((b1 && b2) && (b3 && b4)) = true
   ·have hn2 := hnx (hqi.trans hB)
    simp only [Bool.and_eq_true] at hB
    obtain ⟨⟨rfl, rfl⟩, rfl, rfl⟩ := hB
    clear hnx hbad
    (repeat' (first
     |(apply yFb; exact rfl; exact rfl)
     |(apply W.qd; (first
     |(exact zW (k1))|(exact zW (k2))|(exact zW (k3))|(exact zW (k4))|(exact zM)|(exact zN)|(exact yS rfl rfl rfl)|(exact yT rfl rfl rfl rfl)|(exact q_lss rfl rfl)|(exact q_geq rfl rfl)|(exact q_not rfl)|(exact q_add rfl rfl (by omega))|(exact yV rfl rfl)|(apply yY; (iterate 3 exact rfl); (first | omega | (focus (simp; done))))|(apply yGb; (iterate 4 exact rfl); (first | (with_reducible exact rfl) | exact natI_spec rfl | assumption | exact (Int.toNat_of_nonneg (by omega)).symm); (first | omega | (focus (simp only [List.length_map]; omega)) | (focus (simp; done)) | (focus (simp; omega))))
     |(apply (yDb (u := .d _)); exact rfl; exact rfl)))|(apply W.ed; (apply yCb; (iterate 3 exact rfl); kernel_rfl))|(apply W.ln; (apply l_st_box; (iterate 6 exact rfl); (iterate 3 kernel_rfl)))|(apply yA)|(apply yB)|(apply yC; kernel_rfl)|(apply yE)|(apply yG)|(apply yH)|(apply yL)|(apply yR; exact rfl)|(refine W.gF _ _ rfl rfl (fun hb => ?_) (fun hb => ?_) <;> ((try simp only [hb, zK]) <;> (try simp only [zL, zI] at hb) <;> (try (exfalso; omega))))
     |(refine W.cond _ rfl (fun hb => ?_) (fun hb => ?_) <;> ((try simp only [hb, zK]) <;> (try simp only [zL, zI] at hb) <;> (try (exfalso; omega))))))
    all_goals first
     |(exfalso; omega)
     |exact ⟨i + 1, ⟨by omega, hn2⟩, by omega, [0], rfl, rfl, rfl, iV_eq (by omega), rfl, rfl, rfl, trivial⟩
   ·rw [hbad (hqi.trans (Bool.eq_false_iff.2 hB))]
    clear hnx hbad hqi
    cases b1 <;> cases b2 <;> cases b3 <;> cases b4
    all_goals try (exfalso; exact hB rfl)
    all_goals
     (repeat' (first
      |(apply yFb; exact rfl; exact rfl)
      |(apply W.qd; (first
      |(exact zW (k1))|(exact zW (k2))|(exact zW (k3))|(exact zW (k4))|(exact zM)|(exact zN)|(exact yS rfl rfl rfl)|(exact yT rfl rfl rfl rfl)|(exact q_lss rfl rfl)|(exact q_geq rfl rfl)|(exact q_not rfl)|(exact yV rfl rfl)|(apply yY; (iterate 3 exact rfl); (first | omega | (focus (simp; done))))|(apply yGb; (iterate 4 exact rfl); (first | (with_reducible exact rfl) | exact natI_spec rfl | assumption | exact (Int.toNat_of_nonneg (by omega)).symm); (first | omega | (focus (simp only [List.length_map]; omega)) | (focus (simp; done)) | (focus (simp; omega))))|(apply (yEb (u := .d _)); exact rfl; exact rfl)
      |(apply (yDb (u := .d _)); exact rfl; exact rfl)))|(apply W.ed; (apply yCb; (iterate 3 exact rfl); kernel_rfl))|(apply W.ln; (apply l_st_box; (iterate 6 exact rfl); (iterate 3 kernel_rfl)))|(refine W.gOff _ _ rfl rfl (by intro h; cases h) ?_)|(apply yA)|(apply yB)|(apply yC; kernel_rfl)|(apply yE)|(apply yG)|(apply yH)|(apply yJ)|(apply yP)|(apply yN)|(apply yQ; exact rfl)|(refine W.gF _ _ rfl rfl (fun hb => ?_) (fun hb => ?_) <;> ((try simp only [hb, zK]) <;> (try simp only [zL, zI] at hb) <;> (try (exfalso; omega))))
      |(refine W.cond _ rfl (fun hb => ?_) (fun hb => ?_) <;> ((try simp only [hb, zK]) <;> (try simp only [zL, zI] at hb) <;> (try (exfalso; omega))))))
     all_goals first | (exfalso; omega) | exact Ends.b rfl rfl
  ·rw [decide_eq_false hc, Bool.false_and] at hqi
   rw [hbad hqi]
   clear hnx hbad
   (repeat' (first
    |(apply yFb; exact rfl; exact rfl)
    |(apply W.qd; (first
    |(exact zM)|(exact zN)|(exact yS rfl rfl rfl)|(exact yT rfl rfl rfl rfl)|(exact q_lss rfl rfl)|(exact q_geq rfl rfl)|(exact yV rfl rfl)|(apply yY; (iterate 3 exact rfl); (first | omega | (focus (simp; done))))|(apply yGb; (iterate 4 exact rfl); (first | (with_reducible exact rfl) | exact natI_spec rfl | assumption | exact (Int.toNat_of_nonneg (by omega)).symm); (first | omega | (focus (simp only [List.length_map]; omega)) | (focus (simp; done)) | (focus (simp; omega))))|(apply (yEb (u := .d _)); exact rfl; exact rfl)
    |(apply (yDb (u := .d _)); exact rfl; exact rfl)))|(apply W.ed; (apply yCb; (iterate 3 exact rfl); kernel_rfl))|(apply W.ln; (apply l_st_box; (iterate 6 exact rfl); (iterate 3 kernel_rfl)))|(refine W.gOff _ _ rfl rfl (by intro h; cases h) ?_)|(apply yA)|(apply yB)|(apply yC; kernel_rfl)|(apply yE)|(apply yG)|(apply yH)|(apply yJ)|(apply yP)|(apply yN)|(apply yQ; exact rfl)|(refine W.gF _ _ rfl rfl (fun hb => ?_) (fun hb => ?_) <;> ((try simp only [hb, zK]) <;> (try simp only [zL, zI] at hb) <;> (try (exfalso; omega))))
    |(refine W.cond _ rfl (fun hb => ?_) (fun hb => ?_) <;> ((try simp only [hb, zK]) <;> (try simp only [zL, zI] at hb) <;> (try (exfalso; omega))))))
   all_goals first | (exfalso; omega) | exact Ends.b rfl rfl
 ·have hall : (List.range ts.length).all Q = true := by
   rw [List.all_eq_true]
   intro j hj
   exact hi.2 j (by have := List.mem_range.1 hj; omega)
  rw [hall]
  clear hi hq
  (repeat' (first
   |(apply W.qd; (first
   |(exact zM)|(exact zN)|(exact q_lss rfl rfl)
   |(exact yV rfl rfl)))|(apply yA)|(apply yB)|(apply yC; kernel_rfl)|(apply yE)|(apply yI)|(apply yJ)|(apply yK)|(apply yM)
   |(refine W.cond _ rfl (fun hb => ?_) (fun hb => ?_) <;> ((try simp only [hb, zK]) <;> (try simp only [zL, zI] at hb) <;> (try (exfalso; omega))))))
  all_goals exact Ends.b rfl rfl
theorem A_blocks {nv : Nat} {ts : List Tn} {us : List Ue} {k : Int} (h : tenB nv ts us = true) (hul : us.length ≤ 9223372036854775807) : ACalls Tryz.prog 55 [tns ts, ues us, iV k] [] (iV (blkN ts us k)) [] := by
 refine acalls_of_body Tryz.func55 rfl (zU rfl) ?_
 have hmt : (ts.map tnD).length = ts.length := List.length_map _
 have hmu : (us.map ueD).length = us.length := List.length_map _
 obtain ⟨h1, h2⟩ := ten_len h
 have hbd := blkT_nn (k := k) h
 have hmin : (if ((us.map ueD).length : Int) < ((ts.map tnD).length : Int) then ((us.map ueD).length : Int) else ((ts.map tnD).length : Int)) = ((ts.length : Nat) : Int) := by rw [hmt, hmu, if_neg (by omega)]
 have hN : blkN ts us k = blkT ts us k ts.length := by unfold blkN; rw [show min ts.length us.length = ts.length by omega]
 have hst : ∀ i (hi : i < ts.length), blkT ts us k (i + 1) = blkT ts us k i + if ts[i].2.2.2.2.2 = k then mxI ts[i].2.1 (us[i]'(by omega)).1 + mxI ts[i].2.2.1 (us[i]'(by omega)).2 else 0 := fun i hi => by rw [blkT, getDt hi, getDu (by omega)]; rfl
 rw [hN]
 generalize blkT ts us k = T at *
 (repeat' (first
  |(apply W.qd; (first
  |((apply q_minV; exact rfl; exact rfl; exact hmin))|(exact zM)|(exact zN)|(exact yV rfl rfl)
  |(apply q_slc_map; exact rfl; exact rfl; (first | exact ⟨_, _, rfl, rfl⟩ | exact ⟨_, _, rfl, natI_spec rfl⟩ | exact ⟨_, _, rfl, (Int.toNat_of_nonneg (by omega)).symm⟩ | exact rfl); (first | exact ⟨_, _, rfl, rfl⟩ | exact ⟨_, _, rfl, natI_spec rfl⟩ | exact ⟨_, _, rfl, (Int.toNat_of_nonneg (by omega)).symm⟩ | exact rfl); (first | omega | (focus (simp only [List.length_map]; omega)) | (focus (simp; done)) | (focus (simp; omega))); (first | omega | (focus (simp only [List.length_map]; omega)) | (focus (simp; done)) | (focus (simp; omega))); exact Or.inl rfl)))|(apply yA)|(apply yB)|(apply (W.regionS 3); exact rfl; kernel_rfl)|(apply yE)
  |(apply yG)))
 refine AWP.loopW (α := Nat) (fun i => i ≤ ts.length) (fun i => ⟨[(18, iV i), (17, iV ts.length), (16, tns ts), (1, ues us), (2, iV k), (7, iV (T i))], []⟩) (fun i => ts.length - i) 0 (Nat.zero_le _) ?wkA fun i hi => ?_
 case wkA =>
  have hT0 : T 0 = 0 := by have := hbd 0 (Nat.zero_le _); omega
  refine ⟨[], rfl, rfl, rfl, rfl, iV_eq (by simp), ?_, rfl, rfl, iV_eq hT0, trivial⟩
  show _ = AV.d (.sl 6 (((ts.drop 0).take (ts.length - 0)).map tnD))
  rw [List.drop_zero, Nat.sub_zero, List.take_length]
 by_cases hil : i < ts.length
 ·have hui : i < us.length := by omega
  obtain ⟨⟨i1, i2⟩, i3, i4⟩ := ten_at h hil hui
  have m1 := mxI_bd i1 i3
  have m2 := mxI_bd i2 i4
  have hb1 := hbd i hi
  have hs := hst i hil
  clear hst hbd
  by_cases hc : ts[i].2.2.2.2.2 = k
  ·rw [if_pos hc] at hs
   (repeat' (first
    |(apply W.qd; (first
    |((apply q_maxM; exact rfl; exact rfl))|(exact zM)|(exact zN)|(exact yS rfl rfl rfl)|(exact yT rfl rfl rfl rfl)|(exact q_lss rfl rfl)|(exact q_eql rfl rfl)|(exact q_add rfl rfl (by omega))|(apply yX; (iterate 3 exact rfl); (first | omega | (focus (simp; done))))|(apply yY; (iterate 3 exact rfl); (first | omega | (focus (simp; done))))|(apply q_fld_fptF; (iterate 3 exact rfl))
    |(apply yGb; (iterate 4 exact rfl); (first | (with_reducible exact rfl) | exact natI_spec rfl | assumption | exact (Int.toNat_of_nonneg (by omega)).symm); (first | omega | (focus (simp only [List.length_map]; omega)) | (focus (simp; done)) | (focus (simp; omega))))))|(apply W.ed; (apply yCb; (iterate 3 exact rfl); kernel_rfl))|(apply W.ln; (apply l_st_box; (iterate 6 exact rfl); (iterate 3 kernel_rfl)))|(apply yA)|(apply yB)|(apply yC; kernel_rfl)|(apply yD; exact rfl; kernel_rfl)|(apply yE)|(apply yF; kernel_rfl)|(apply yG)|(apply yH)|(apply yL)
    |(refine W.cond _ rfl (fun hb => ?_) (fun hb => ?_) <;> ((try simp only [hb, zK]) <;> (try simp only [zL, zI] at hb) <;> (try (exfalso; omega))))))
   all_goals first
    |(exfalso; omega)|(refine ⟨i + 1, by omega, by omega, ?_⟩; (try dsimp only); rw [hs]; exact ⟨[], rfl, rfl, rfl, iV_eq (by omega), rfl, rfl, rfl, rfl, rfl, trivial⟩)
  ·rw [if_neg hc, Int.add_zero] at hs
   (repeat' (first
    |(apply W.qd; (first
    |(exact zM)|(exact zN)|(exact yS rfl rfl rfl)|(exact yT rfl rfl rfl rfl)|(exact q_lss rfl rfl)|(exact q_eql rfl rfl)|(exact q_add rfl rfl (by omega))|(apply yY; (iterate 3 exact rfl); (first | omega | (focus (simp; done))))
    |(apply yGb; (iterate 4 exact rfl); (first | (with_reducible exact rfl) | exact natI_spec rfl | assumption | exact (Int.toNat_of_nonneg (by omega)).symm); (first | omega | (focus (simp only [List.length_map]; omega)) | (focus (simp; done)) | (focus (simp; omega))))))|(apply W.ed; (apply yCb; (iterate 3 exact rfl); kernel_rfl))|(apply W.ln; (apply l_st_box; (iterate 6 exact rfl); (iterate 3 kernel_rfl)))|(apply yA)|(apply yB)|(apply yC; kernel_rfl)|(apply yE)|(apply yG)|(apply yH)|(apply yL)
    |(refine W.cond _ rfl (fun hb => ?_) (fun hb => ?_) <;> ((try simp only [hb, zK]) <;> (try simp only [zL, zI] at hb) <;> (try (exfalso; omega))))))
   all_goals first
    |(exfalso; omega)|(refine ⟨i + 1, by omega, by omega, ?_⟩; (try dsimp only); rw [hs]; exact ⟨[], rfl, rfl, rfl, iV_eq (by omega), rfl, rfl, rfl, rfl, rfl, trivial⟩)
 ·obtain rfl : i = ts.length := by omega
  (repeat' (first
   |(apply W.qd; (first
   |(exact zM)|(exact zN)
   |(exact q_lss rfl rfl)))|(apply yA)|(apply yB)|(apply yC; kernel_rfl)|(apply yE)|(apply yI)|(apply yJ)|(apply yK)|(apply yM)
   |(refine W.cond _ rfl (fun hb => ?_) (fun hb => ?_) <;> ((try simp only [hb, zK]) <;> (try simp only [zL, zI] at hb) <;> (try (exfalso; omega))))))
  all_goals exact Ends.i rfl rfl
theorem A_rblocks {nv : Nat} {ts : List Tn} {us : List Ue} {k : Int} (h : tenB nv ts us = true) (hul : us.length ≤ 9223372036854775807) : ACalls Tryz.prog 23 [tns ts, ues us, iV k] [] (iV (blkN ts us k)) [] := by
 refine acalls_of_body Tryz.func23 rfl (zU rfl) ?_
 have hmt : (ts.map tnD).length = ts.length := List.length_map _
 have hmu : (us.map ueD).length = us.length := List.length_map _
 obtain ⟨h1, h2⟩ := ten_len h
 have hbd := blkT_nn (k := k) h
 have hN : blkN ts us k = blkT ts us k ts.length := by unfold blkN; rw [show min ts.length us.length = ts.length by omega]
 have hst : ∀ i (hi : i < ts.length), blkT ts us k (i + 1) = blkT ts us k i + if ts[i].2.2.2.2.2 = k then mxI ts[i].2.1 (us[i]'(by omega)).1 + mxI ts[i].2.2.1 (us[i]'(by omega)).2 else 0 := fun i hi => by rw [blkT, getDt hi, getDu (by omega)]; rfl
 rw [hN]
 generalize blkT ts us k = T at *
 (repeat' (first
  |(apply W.qd; (exact zN))|(apply yA)|(apply yB)|(apply (W.regionS 3); exact rfl; kernel_rfl)|(apply yE)
  |(apply yG)))
 refine AWP.loopW (α := Nat) (fun i => i ≤ ts.length) (fun i => ⟨[(8, iV i), (7, iV (T i)), (0, tns ts), (1, ues us), (2, iV k)], []⟩) (fun i => ts.length - i) 0 (Nat.zero_le _) ?wkA fun i hi => ?_
 case wkA =>
  have hT0 : T 0 = 0 := by have := hbd 0 (Nat.zero_le _); omega
  exact ⟨[], rfl, rfl, rfl, rfl, iV_eq hT0, rfl, rfl, rfl, trivial⟩
 by_cases hil : i < ts.length
 ·have hui : i < us.length := by omega
  obtain ⟨⟨i1, i2⟩, i3, i4⟩ := ten_at h hil hui
  have m1 := mxI_bd i1 i3
  have m2 := mxI_bd i2 i4
  have hb1 := hbd i hi
  have hs := hst i hil
  clear hst hbd
  by_cases hc : ts[i].2.2.2.2.2 = k
  ·rw [if_pos hc] at hs
   (repeat' (first
    |(apply yFb; exact rfl; exact rfl)
    |(apply W.qd; (first
    |((apply q_maxM; exact rfl; exact rfl))|(exact zM)|(exact zN)|(exact q_lss rfl rfl)|(exact q_eql rfl rfl)|(exact q_add rfl rfl (by omega))|(exact yV rfl rfl)|(apply yX; (iterate 3 exact rfl); (first | omega | (focus (simp; done))))|(apply q_fld_fptF; (iterate 3 exact rfl))|(apply yGb; (iterate 4 exact rfl); (first | (with_reducible exact rfl) | exact natI_spec rfl | assumption | exact (Int.toNat_of_nonneg (by omega)).symm); (first | omega | (focus (simp only [List.length_map]; omega)) | (focus (simp; done)) | (focus (simp; omega))))
    |(apply (yEb (u := .d _)); exact rfl; exact rfl)))|(apply yA)|(apply yB)|(apply yC; kernel_rfl)|(apply yD; exact rfl; kernel_rfl)|(apply yE)|(apply yF; kernel_rfl)|(apply yG)|(apply yH)|(apply yL)|(refine W.gT _ _ rfl rfl (fun hb => ?_) (fun hb => ?_) <;> ((try simp only [hb, zK]) <;> (try simp only [zL, zI] at hb) <;> (try (exfalso; omega))))
    |(refine W.cond _ rfl (fun hb => ?_) (fun hb => ?_) <;> ((try simp only [hb, zK]) <;> (try simp only [zL, zI] at hb) <;> (try (exfalso; omega))))))
   all_goals first
    |(exfalso; omega)|(refine ⟨i + 1, by omega, by omega, ?_⟩; (try dsimp only); rw [hs]; exact ⟨[], rfl, rfl, rfl, iV_eq (by omega), iV_eq (by omega), rfl, rfl, rfl, trivial⟩)
  ·rw [if_neg hc, Int.add_zero] at hs
   (repeat' (first
    |(apply yFb; exact rfl; exact rfl)
    |(apply W.qd; (first
    |(exact zM)|(exact zN)|(exact q_lss rfl rfl)|(exact q_eql rfl rfl)|(exact q_add rfl rfl (by omega))|(exact yV rfl rfl)|(apply yX; (iterate 3 exact rfl); (first | omega | (focus (simp; done))))|(apply q_fld_fptF; (iterate 3 exact rfl))|(apply yGb; (iterate 4 exact rfl); (first | (with_reducible exact rfl) | exact natI_spec rfl | assumption | exact (Int.toNat_of_nonneg (by omega)).symm); (first | omega | (focus (simp only [List.length_map]; omega)) | (focus (simp; done)) | (focus (simp; omega))))
    |(apply (yEb (u := .d _)); exact rfl; exact rfl)))|(apply yA)|(apply yB)|(apply yC; kernel_rfl)|(apply yE)|(apply yG)|(apply yH)|(apply yL)|(refine W.gT _ _ rfl rfl (fun hb => ?_) (fun hb => ?_) <;> ((try simp only [hb, zK]) <;> (try simp only [zL, zI] at hb) <;> (try (exfalso; omega))))
    |(refine W.cond _ rfl (fun hb => ?_) (fun hb => ?_) <;> ((try simp only [hb, zK]) <;> (try simp only [zL, zI] at hb) <;> (try (exfalso; omega))))))
   all_goals first
    |(exfalso; omega)|(refine ⟨i + 1, by omega, by omega, ?_⟩; (try dsimp only); rw [hs]; exact ⟨[], rfl, rfl, rfl, iV_eq (by omega), rfl, rfl, rfl, rfl, trivial⟩)
 ·obtain rfl : i = ts.length := by omega
  (repeat' (first
   |(apply W.qd; (first
   |(exact zM)|(exact zN)|(exact q_lss rfl rfl)|(exact yV rfl rfl)
   |(apply (yDb (u := .d _)); exact rfl; exact rfl)))|(refine W.gOff _ _ rfl rfl (by intro h; cases h) ?_)|(apply yA)|(apply yB)|(apply yC; kernel_rfl)|(apply yE)|(apply yI)|(apply yJ)|(apply yK)|(apply yM)|(apply yR; exact rfl)
   |(refine W.gT _ _ rfl rfl (fun hb => ?_) (fun hb => ?_) <;> ((try simp only [hb, zK]) <;> (try simp only [zL, zI] at hb) <;> (try (exfalso; omega))))))
  all_goals first | (exfalso; omega) | exact Ends.i rfl rfl
def val31 (d r n s l i : Int) (cs : List Cd) (vs : List Sv) (ts : List Tn) (us : List Ue) (rows : List SRw) : Bool := (validR d r n s l i rows && validB cs vs) && tenB vs.length ts us
structure In31 (cs : List Cd) (vs : List Sv) (ts : List Tn) (us : List Ue) (rows : List SRw) : Prop where
 L : LibIn cs vs
 t : ts.length ≤ 9223372036854775807
 u : us.length ≤ 9223372036854775807
 rl : rows.length ≤ 64
 ru : ∀ a (h : a < rows.length), rows[a].2.2.length ≤ 9223372036854775807
theorem valid_vl {cs : List Cd} {vs : List Sv} (h : validB cs vs = true) : cs.length ≤ 8 ∧ vs.length ≤ 8 := by
 unfold validB at h
 simp only [Bool.and_eq_true, decide_eq_true_eq] at h
 exact h.1
theorem A_claimed {d r n s l i : Int} {cs : List Cd} {vs : List Sv} {ts : List Tn} {us : List Ue} {rows : List SRw} (hI : In31 cs vs ts us rows) (hv : val31 d r n s l i cs vs ts us rows = true) : ACalls Tryz.prog 57 [cfgA d r n s l i, lib cs vs, tns ts, ues us, rws rows] [] (.tup [.osl 0 0 0 vs.length, iV 0]) [.row 0 1 3 ((blkL vs.length ts us).map iD)] := by
 refine acalls_of_bodyO Tryz.func57 rfl (zU rfl) ?_
 have f1 := A_valid24 (d := d) (r := r) (n := n) (s := s) (l := l) (i := i) (rows := rows) (by have := hI.rl; omega) hI.ru
 have f2 := A_valid30 hI.L
 have f3 := A_avalid (cs := cs) hI.L.vl hI.t hI.u
 unfold val31 at hv
 simp only [Bool.and_eq_true] at hv
 obtain ⟨⟨hv1, hv2⟩, hv3⟩ := hv
 have hvl := (valid_vl hv2).2
 have hmv : (vs.map svD).length = vs.length := List.length_map _
 rw [hv1] at f1
 rw [hv2] at f2
 rw [hv3] at f3
 have fb := fun k : Nat => A_blocks (k := (k : Int)) hv3 hI.u
 (repeat' (first
  |(apply yFb; exact rfl; exact rfl)
  |(apply W.qd; (first
  |(exact zW (f1))|(exact zW (f2))|(exact zW (f3))|(exact zM)|(exact zN)|(exact yS rfl rfl rfl)|(exact yT rfl rfl rfl rfl)|(exact yU rfl rfl rfl rfl)|(exact q_not rfl)|(exact yV rfl rfl)|(exact q_len_osl rfl rfl rfl)
  |(apply (yDb (u := .d _)); exact rfl; exact rfl)))
  |(apply W.ed; (first
  |((apply (e_makeG (f := iD) 0); (iterate 10 exact rfl); omega))
  |(apply yBb; (iterate 3 exact rfl); kernel_rfl; kernel_rfl)))|(apply yA)|(apply yB)|(apply (W.regionS 5); exact rfl; kernel_rfl)|(apply yE)|(apply yG)|(apply yH)
  |(apply yR; exact rfl)))
 refine AWP.loopW (α := Nat) (fun k => k ≤ vs.length) (fun k => ⟨[(36, iV k), (35, iV vs.length), (12, .osl 0 0 0 vs.length), (2, tns ts), (3, ues us)], [.row 0 1 3 ((blkK vs.length ts us k).map iD)]⟩) (fun k => vs.length - k) 0 (Nat.zero_le _) ?wkA fun k hk => ?_
 case wkA =>
  rw [blkK_zero, ← hmv]
  exact ⟨[2], rfl, rfl, rfl, rfl, rfl, rfl, rfl, rfl, trivial⟩
 have hkl0 := blkK_len vs.length ts us k
 by_cases hkl : k < vs.length
 ·have hs := Lib.hid (blkK_step (ts := ts) (us := us) hkl)
  have fk := fb k
  generalize blkK vs.length ts us k = A at *
  generalize blkN ts us (k : Int) = b at *
  (repeat' (first
   |(apply W.qd; (first
   |(exact zW (fk))|(exact zM)|(exact zN)|(exact q_lss rfl rfl)|(exact q_add rfl rfl (by omega))
   |(apply q_ix_osl0; (iterate 4 exact rfl); (first | (with_reducible exact rfl) | exact natI_spec rfl | assumption | exact (Int.toNat_of_nonneg (by omega)).symm); (first | omega | (focus (simp only [List.length_map]; omega)) | (focus (simp; done)) | (focus (simp; omega))))))|(apply W.ln; (apply l_st_rpt; (iterate 7 exact rfl); exact fun _ => rfl; (first | omega | (focus (simp only [List.length_map]; omega)) | (focus (simp; omega)))))|(apply yA)|(apply yB)|(apply yC; kernel_rfl)|(apply yE)|(apply yG)|(apply yH)|(apply yL)
   |(refine W.cond _ rfl (fun hb => ?_) (fun hb => ?_) <;> ((try simp only [hb, zK]) <;> (try simp only [zL, zI] at hb) <;> (try (exfalso; omega))))))
  all_goals first
   |(exfalso; omega)|(refine ⟨k + 1, by omega, by omega, ?_⟩; rw [← hs.out]; exact ⟨[0], rfl, rfl, rfl, iV_eq (by omega), rfl, rfl, rfl, rfl, trivial⟩)
 ·have e : k = vs.length := by omega
  subst e
  rw [blkK_all] at *
  (repeat' (first
   |(apply W.qd; (first
   |(exact zM)|(exact zN)
   |(exact q_lss rfl rfl)))|(apply yA)|(apply yB)|(apply yC; kernel_rfl)|(apply yE)|(apply yI)|(apply yJ)|(apply yK)|(apply yM)
   |(refine W.cond _ rfl (fun hb => ?_) (fun hb => ?_) <;> ((try simp only [hb, zK]) <;> (try simp only [zL, zI] at hb) <;> (try (exfalso; omega))))))
  exact ⟨.inl rfl, [0], [.osl 0 0 0 vs.length, iV 0], rfl, rfl, ⟨rfl, rfl, trivial⟩, AVle.of_eq rfl, rfl⟩
theorem A_claimedB {d r n s l i : Int} {cs : List Cd} {vs : List Sv} {ts : List Tn} {us : List Ue} {rows : List SRw} (hI : In31 cs vs ts us rows) (hv : val31 d r n s l i cs vs ts us rows = false) : ACalls Tryz.prog 57 [cfgA d r n s l i, lib cs vs, tns ts, ues us, rws rows] [] (.tup [.d (.v (.slice none 0 0)), iV 1]) [] := by
 refine acalls_of_body Tryz.func57 rfl (zU rfl) ?_
 have f1 := A_valid24 (d := d) (r := r) (n := n) (s := s) (l := l) (i := i) (rows := rows) (by have := hI.rl; omega) hI.ru
 have f2 := A_valid30 hI.L
 have f3 := A_avalid (cs := cs) hI.L.vl hI.t hI.u
 unfold val31 at hv
 generalize validR d r n s l i rows = b1 at *
 generalize validB cs vs = b2 at *
 generalize tenB vs.length ts us = b3 at *
 cases b1 with
 | false =>
   (repeat' (first
    |(apply W.qd; (first
    |(exact zW (f1))|(exact zM)|(exact zN)|(exact yU rfl rfl rfl rfl)|(exact q_not rfl)
    |(apply (yEb (u := .d _)); exact rfl; exact rfl)))|(apply W.ed; (apply yBb; (iterate 3 exact rfl); kernel_rfl; kernel_rfl))|(refine W.gOff _ _ rfl rfl (by intro h; cases h) ?_)|(apply yA)|(apply yB)|(apply yC; kernel_rfl)|(apply yE)|(apply yJ)|(apply yP)
    |(apply yQ; exact rfl)))
   all_goals exact Ends.two rfl rfl rfl
 | true =>
   cases b2 with
   | false =>
     (repeat' (first
      |(apply yFb; exact rfl; exact rfl)
      |(apply W.qd; (first
      |(exact zW (f1))|(exact zW (f2))|(exact zM)|(exact zN)|(exact yU rfl rfl rfl rfl)|(exact q_not rfl)|(apply (yEb (u := .d _)); exact rfl; exact rfl)
      |(apply (yDb (u := .d _)); exact rfl; exact rfl)))|(apply W.ed; (apply yBb; (iterate 3 exact rfl); kernel_rfl; kernel_rfl))|(refine W.gOff _ _ rfl rfl (by intro h; cases h) ?_)|(apply yA)|(apply yB)|(apply yC; kernel_rfl)|(apply yE)|(apply yJ)|(apply yP)
      |(apply yQ; exact rfl)))
     all_goals exact Ends.two rfl rfl rfl
   | true =>
     obtain rfl : b3 = false := by simpa using hv
     (repeat' (first
      |(apply yFb; exact rfl; exact rfl)
      |(apply W.qd; (first
      |(exact zW (f1))|(exact zW (f2))|(exact zW (f3))|(exact zM)|(exact zN)|(exact yU rfl rfl rfl rfl)|(exact q_not rfl)
      |(apply (yDb (u := .d _)); exact rfl; exact rfl)))|(apply W.ed; (apply yBb; (iterate 3 exact rfl); kernel_rfl; kernel_rfl))|(apply yA)|(apply yB)|(apply yC; kernel_rfl)|(apply yE)|(apply yJ)|(apply yP)
      |(apply yQ; exact rfl)))
     all_goals exact Ends.two rfl rfl rfl
end
section
theorem list8I {α : Type} {l : List α} (h : l.length = 8) : ∃ a0 a1 a2 a3 a4 a5 a6 a7, l = [a0, a1, a2, a3, a4, a5, a6, a7] := by
 match l, h with
 | [a0, a1, a2, a3, a4, a5, a6, a7], _ => exact ⟨_, _, _, _, _, _, _, _, rfl⟩
theorem jobs_pre {vs : List Sv} {b : Nat → Int} {k : Nat} : ∀ {n : Nat}, k ≤ n → ∃ t, jobsN vs b n = jobsN vs b k ++ t
 | 0, h => ⟨[], by rw [show k = 0 by omega]; simp⟩
 | n + 1, h => by
   by_cases e : k = n + 1
   ·subst e; exact ⟨[], by simp⟩
   ·obtain ⟨t, ht⟩ := jobs_pre (vs := vs) (b := b) (k := k) (n := n) (by omega)
    exact ⟨t ++ (codesV (vs.getD n sv0)).map fun c => (c, b n), by rw [jobsN, ht, List.append_assoc]⟩
def BdF (F : Cd → Int → Int × Int) : Prop := ∀ c x, 0 ≤ (F c x).1 ∧ (F c x).1 ≤ 2199023255554
theorem codN_bd (d r n s l i : Int) : BdF (codN d r n s l i) := fun c x => by
 have hg := grpI_nn (d := d) (r := r) (n := n) (s := s) (l := l) (i := i) (w := c.2.2.1 + (c.2.2.2.1.length : Int))
 unfold codN
 split
 ·decide
 ·split
  ·decide
  ·split
   ·decide
   ·rename_i h1 h2 h3
    have h4 : 0 ≤ x ∧ x ≤ 1099511627776 := by
     refine ⟨Classical.byContradiction fun h => h1 (.inr (.inr (.inl (by omega)))), Classical.byContradiction fun h => h1 (.inr (.inr (.inr (by omega))))⟩
    have h5 := limN_le (D := c.2.2.1) h4.1 h4.2
    have h6 := limN_nn c.2.2.1 x
    have h7 := upI_nn (a := limN c.2.2.1 x) (c := grpI d r n s l i (c.2.2.1 + (c.2.2.2.1.length : Int))) (by omega) h6
    have h8 := upI_le (a := limN c.2.2.1 x) (b := grpI d r n s l i (c.2.2.1 + (c.2.2.2.1.length : Int))) h6 (by omega)
    dsimp only
    omega
theorem run_bd {F : Cd → Int → Int × Int} {cs : List Cd} (hF : BdF F) : ∀ (l : List (Int × Int)) (a : List Int × Int), (∀ c, 0 ≤ a.1.getD c 0 ∧ a.1.getD c 0 ≤ 2199023255554) → ∀ c, 0 ≤ (l.foldl (stepJ F cs) a).1.getD c 0 ∧ (l.foldl (stepJ F cs) a).1.getD c 0 ≤ 2199023255554
 | [], a, h => h
 | j :: l, a, h => by
   rw [List.foldl_cons]
   refine run_bd hF l _ fun c => ?_
   unfold stepJ
   split
   ·exact h c
   ·dsimp only
    rw [getD_setI]
    split
    ·exact hF _ _
    ·exact h c
theorem runJ_bd {F : Cd → Int → Int × Int} {cs : List Cd} (hF : BdF F) (l : List (Int × Int)) (c : Nat) : 0 ≤ (runJ F cs l).1.getD c 0 ∧ (runJ F cs l).1.getD c 0 ≤ 2199023255554 := run_bd hF l _ (fun c => by
 rw [List.getD_eq_getElem?_getD, List.getElem?_replicate]
 split <;> simp) c
theorem runJ_l8 {F : Cd → Int → Int × Int} {cs : List Cd} (l : List (Int × Int)) : (runJ F cs l).1.length = 8 := runJ_len l _
theorem sumH_bd {L : List Int} {held : Nat → Int} (hL : ∀ c, 0 ≤ L.getD c 0 ∧ L.getD c 0 ≤ 2199023255554) (hh : ∀ c, 0 ≤ held c ∧ held c ≤ 1000000) : ∀ n, 0 ≤ sumH L held n ∧ sumH L held n ≤ (n : Int) * 2199023255554
 | 0 => by unfold sumH; omega
 | n + 1 => by
   have h1 := sumH_bd hL hh n
   have h2 := hL n
   have h3 := hh n
   unfold sumH mxI
   split <;> omega
theorem cls_codes {cs : List Cd} {vs : List Sv} (hV : validB cs vs = true) {k : Nat} (hk : k < vs.length) : (∃ m : Nat, vs[k].2.1 = (m : Int) ∧ m < cs.length) ∧ (vs[k].2.2.1 = -1 ∨ ∃ m : Nat, vs[k].2.2.1 = (m : Int) ∧ m < cs.length) := by
 have h := (valid_iff.1 hV).v k hk
 refine ⟨?_, ?_⟩
 ·have := keeps_has h.kp
  exact ⟨vs[k].2.1.toNat, by omega, by omega⟩
 ·rcases h.kn with h1 | h1
  ·exact .inl h1
  ·have := keeps_has h1
   exact .inr ⟨vs[k].2.2.1.toNat, by omega, by omega⟩
theorem runJ_step {F : Cd → Int → Int × Int} {cs : List Cd} {l : List (Int × Int)} {m : Nat} {x : Int} (h : (runJ F cs l).2 = 0) (hm : m < cs.length) : runJ F cs (l ++ [((m : Int), x)]) = ((runJ F cs l).1.set m (F cs[m] x).1, (F cs[m] x).2) := by
 rw [runJ_app]
 unfold stepJ
 rw [if_neg (by simp [h])]
 dsimp only
 rw [Int.toNat_natCast, getDc hm]
abbrev iL (l : List Int) : List AV := [iV (l.getD 0 0), iV (l.getD 1 0), iV (l.getD 2 0), iV (l.getD 3 0), iV (l.getD 4 0), iV (l.getD 5 0), iV (l.getD 6 0), iV (l.getD 7 0)]
theorem iL_set {l : List Int} {m : Nat} {x : Int} (h : l.length = 8) (hm : m < 8) : (iL l).set (0 + m * 1) (iV x) = iL (l.set m x) := by
 obtain ⟨a0, a1, a2, a3, a4, a5, a6, a7, rfl⟩ := list8I h
 match m, hm with
 | 0, _ => rfl
 | 1, _ => rfl
 | 2, _ => rfl
 | 3, _ => rfl
 | 4, _ => rfl
 | 5, _ => rfl
 | 6, _ => rfl
 | 7, _ => rfl
theorem iL_get {l : List Int} {j : Nat} (hj : j < 8) : (iL l)[j]? = some (iV (l.getD j 0)) := by
 match j, hj with
 | 0, _ => rfl
 | 1, _ => rfl
 | 2, _ => rfl
 | 3, _ => rfl
 | 4, _ => rfl
 | 5, _ => rfl
 | 6, _ => rfl
 | 7, _ => rfl
def selN {α : Type} (j : Nat) (a b c : α) : α := match j with | 0 => a | 1 => b | _ => c
attribute [local irreducible] Quiet Eff OpOk AWPG ACont ABlock ACalls AGoto
theorem A_needs {d r n s l i : Int} {cs : List Cd} {vs : List Sv} {bl : List Int} (hL : LibIn cs vs) (hV : validB cs vs = true) (hb : bl.length = vs.length) :
 ACalls Tryz.prog 110 [cfgA d r n s l i, lib cs vs, ints bl] [] (.tup [.agg (iL (runJ (codN d r n s l i) cs (jobsN vs (fun k => bl.getD k 0) vs.length)).1), iV (runJ (codN d r n s l i) cs (jobsN vs (fun k => bl.getD k 0) vs.length)).2]) [] := by
 have hcode := fun (m : Nat) (hm : m < cs.length) (x : Int) => A_acode (d := d) (r := r) (n := n) (s := s) (l := l) (i := i) (x := x) (hL.cn _ (List.getElem_mem hm)) (hL.cp _ (List.getElem_mem hm))
 generalize codN d r n s l i = F at *
 have hbk : ∀ k (hk : k < vs.length), bl.getD k 0 = bl[k]'(by omega) := fun k hk => by rw [List.getD_eq_getElem?_getD, List.getElem?_eq_getElem (by omega)]; rfl
 have hcc := fun k (hk : k < vs.length) => cls_codes hV hk
 obtain ⟨hc8, hv8⟩ := valid_vl hV
 have hmv : (vs.map svD).length = vs.length := List.length_map _
 have hmc : (cs.map cdD).length = cs.length := List.length_map _
 have hmb : (bl.map iD).length = bl.length := List.length_map _
 have hjs : ∀ k (hk : k < vs.length), jobsN vs (fun k => bl.getD k 0) (k + 1) = jobsN vs (fun k => bl.getD k 0) k ++ (codesV vs[k]).map fun c => (c, bl[k]'(by omega)) := fun k hk => by
  rw [jobsN, getDv hk, hbk k hk]
 have hpre := fun k (hk : k ≤ vs.length) => jobs_pre (vs := vs) (b := fun k => bl.getD k 0) (k := k) hk
 generalize hJ : jobsN vs (fun k => bl.getD k 0) = J at *
 have hJ0 : J 0 = [] := by rw [← hJ]; rfl
 clear hJ hbk
 refine acalls_of_body Tryz.func110 rfl (zU rfl) ?_
 (repeat' (first
  |(apply W.qd; (first
  |(exact zM)|(exact zN)|(exact yS rfl rfl rfl)|(exact yT rfl rfl rfl rfl)
  |(exact yV rfl rfl)))
  |(apply W.ed; (first
  |(apply yBb; (iterate 3 exact rfl); kernel_rfl; kernel_rfl)
  |(apply yCb; (iterate 3 exact rfl); kernel_rfl)))|(apply yA)|(apply yB)|(apply (W.regionS 2); exact rfl; kernel_rfl)|(apply yE)|(apply yG)|(apply AWP.label)
  |(apply AWP.scope)))
 refine AWP.loopW (α := Nat) (fun k => k ≤ vs.length ∧ (runJ F cs (J k)).2 = 0) (fun k => ⟨[(15, iV k), (14, iV vs.length), (13, svs vs), (6, .opt 2 0), (2, ints bl), (3, .opt 0 0), (4, .opt 1 0), (7, iV 0)], [.box [iV d, iV r, iV n, iV s, iV l, iV i], .box [cds cs, svs vs], .box (iL (runJ F cs (J k)).1)]⟩) (fun k => vs.length - k) 0 ⟨Nat.zero_le _, by rw [hJ0]; rfl⟩ ?wkA fun k hk => ?_
 case wkA =>
  rw [hJ0]
  exact ⟨[0, 1, 2], rfl, rfl, rfl, rfl, iV_eq (by rw [hmv]), rfl, rfl, rfl, rfl, rfl, rfl, trivial⟩
 obtain ⟨hk1, hk2⟩ := hk
 by_cases hkl : k < vs.length
 ·obtain ⟨⟨m0, hm0, hm0l⟩, hn⟩ := hcc k hkl
  have hjk := hjs k hkl
  have hp1 := hpre (k + 1) hkl
  clear hcc hjs
  obtain ⟨X, hX⟩ : ∃ X, bl[k]'(by omega) = X := ⟨_, rfl⟩
  have hc0 := hcode m0 hm0l X
  have hrun := runJ_step (x := X) hk2 hm0l
  have h8 := runJ_l8 (F := F) (cs := cs) (J k)
  have hbx : ∀ y, (bl[k]'(by omega) = y) → X = y := fun y h => hX.symm.trans h
  rw [hX] at hjk
  rcases hn with hn | ⟨m1, hm1, hm1l⟩
  ·-- the class has one code
   have hcv : codesV vs[k] = [(m0 : Int)] := by unfold codesV; rw [hm0, if_neg (by omega), if_pos hn]
   rw [hcv] at hjk
   have hjk : J (k + 1) = J k ++ [((m0 : Int), X)] := hjk
   rw [← hjk] at hrun
   generalize (runJ F cs (J k)).1 = L at *
   have hset := iL_set (x := (F cs[m0] X).1) h8 (show m0 < 8 by omega)
   clear hcode
   (repeat' (first
    |(apply W.qd; (first
    |(exact zM)|(exact zN)|(exact yS rfl rfl rfl)|(exact yT rfl rfl rfl rfl)|(exact q_lss rfl rfl)|(exact yV rfl rfl)|(apply yY; (iterate 3 exact rfl); (first | omega | (focus (simp; done))))|(apply q_litF; (iterate 5 exact rfl); kernel_rfl; kernel_rfl; exact rfl)
    |(apply yGb; (iterate 4 exact rfl); (first | (with_reducible exact rfl) | exact natI_spec rfl | assumption | exact (Int.toNat_of_nonneg (by omega)).symm); (first | omega | (focus (simp only [List.length_map]; omega)) | (focus (simp; done)) | (focus (simp; omega))))))|(apply W.ed; (apply yCb; (iterate 3 exact rfl); kernel_rfl))|(apply W.ln; (apply l_st_box; (iterate 6 exact rfl); (iterate 3 kernel_rfl)))|(apply yA)|(apply yB)|(apply (W.regionS 5); exact rfl; kernel_rfl)|(apply yE)|(apply yG)|(apply yH)
    |(refine W.cond _ rfl (fun hb => ?_) (fun hb => ?_) <;> ((try simp only [hb, zK]) <;> (try simp only [zL, zI] at hb) <;> (try (exfalso; omega))))))
   refine AWP.loopW (α := Nat) (fun j => j ≤ 1 ∧ (j = 1 → (F cs[m0] X).2 = 0)) (fun j => ⟨[(26, iV j), (25, iV 2), (24, .d (.sl 1 [[.v (.int .i64 (m0 : Int))], [.v (.int .i64 (-1))]])), (8, iV k), (15, iV k), (14, iV vs.length), (13, svs vs), (6, .opt 2 0), (2, ints bl), (3, .opt 0 0), (4, .opt 1 0), (7, iV 0)], [.box [iV d, iV r, iV n, iV s, iV l, iV i], .box [cds cs, svs vs], .box (iL (selN j L (L.set m0 (F cs[m0] X).1) [])), .box ((svD vs[k]).map .d)]⟩) (fun j => 2 - j) 0 ⟨by omega, fun h => by omega⟩ ?wkB fun j hj => ?_
   case wkB =>
    rw [← hm0, ← hn]
    exact ⟨[0, 1, 2, 3], rfl, rfl, rfl, by (repeat (first | exact trivial | refine ⟨rfl, ?_⟩))⟩
   by_cases hj0 : j = 0
   ·subst hj0
    show AWPG _ _ _ _ _ _ ⟨_, [_, _, .box (iL L), _]⟩
    by_cases he : (F cs[m0] X).2 = 0
    ·generalize F cs[m0] X = fx at *
     obtain ⟨x, y⟩ := fx
     obtain rfl : y = 0 := he
     rw [← hX] at hc0
     (repeat' (first
      |(apply W.qd; (first
      |(exact zW (hc0))
      |((apply (q_ix_ar (k := 1)); (iterate 5 exact rfl); omega))|(exact zM)|(exact zN)|(exact yS rfl rfl rfl)|(exact yT rfl rfl rfl rfl)|(exact yU rfl rfl rfl rfl)|(exact q_lss rfl rfl)|(exact q_eql rfl rfl)|(exact q_neq rfl rfl)|(exact q_add rfl rfl (by omega))|(exact yAb rfl rfl)|(apply yX; (iterate 3 exact rfl); (first | omega | (focus (simp; done))))|(apply yY; (iterate 3 exact rfl); (first | omega | (focus (simp; done))))|(apply q_ld_fpt; exact rfl; exact rfl; (first | assumption | exact rfl); exact rfl)
      |(apply yGb; (iterate 4 exact rfl); (first | (with_reducible exact rfl) | exact natI_spec rfl | assumption | exact (Int.toNat_of_nonneg (by omega)).symm); (first | omega | (focus (simp only [List.length_map]; omega)) | (focus (simp; done)) | (focus (simp; omega))))))|(apply W.en; ((apply e_stS; (iterate 4 exact rfl); exact congrArg (fun l => [_, _, Ent.box l, _]) hset; (iterate 3 exact rfl); (show _ < 8; omega))))|(apply yA)|(apply yB)|(apply yC; kernel_rfl)|(apply yD; exact rfl; kernel_rfl)|(apply yE)|(apply yF; kernel_rfl)|(apply yG)|(apply yH)|(apply yL)|(apply yQ; exact rfl)
      |(apply yR; exact rfl)))
     all_goals first
      |(exfalso; omega)
      |exact ⟨1, ⟨by omega, fun _ => rfl⟩, by omega, ⟨[0, 1, 2, 3], rfl, rfl, rfl, by (repeat (first | exact trivial | refine ⟨rfl, ?_⟩))⟩⟩
    ·obtain ⟨t, ht⟩ := hp1
     have hR : runJ F cs (J vs.length) = (L.set m0 (F cs[m0] X).1, (F cs[m0] X).2) := by
      rw [ht, runJ_err (by rw [hrun]; exact he), hrun]
     rw [hR]
     generalize F cs[m0] X = fx at *
     obtain ⟨x, y⟩ := fx
     have he : y ≠ 0 := he
     rw [← hX] at hc0
     (repeat' (first
      |(apply W.qd; (first
      |(exact zW (hc0))
      |((apply (q_ix_ar (k := 1)); (iterate 5 exact rfl); omega))|(exact zM)|(exact zN)|(exact yS rfl rfl rfl)|(exact yT rfl rfl rfl rfl)|(exact yU rfl rfl rfl rfl)|(exact q_lss rfl rfl)|(exact q_eql rfl rfl)|(exact q_neq rfl rfl)|(exact yAb rfl rfl)|(apply yX; (iterate 3 exact rfl); (first | omega | (focus (simp; done))))|(apply yY; (iterate 3 exact rfl); (first | omega | (focus (simp; done))))|(apply q_ld_fpt; exact rfl; exact rfl; (first | assumption | exact rfl); exact rfl)
      |(apply yGb; (iterate 4 exact rfl); (first | (with_reducible exact rfl) | exact natI_spec rfl | assumption | exact (Int.toNat_of_nonneg (by omega)).symm); (first | omega | (focus (simp only [List.length_map]; omega)) | (focus (simp; done)) | (focus (simp; omega))))))|(apply W.ln; (apply l_st_box; (iterate 6 exact rfl); (iterate 3 kernel_rfl)))|(apply W.en; ((apply e_stS; (iterate 4 exact rfl); exact congrArg (fun l => [_, _, Ent.box l, _]) hset; (iterate 3 exact rfl); (show _ < 8; omega))))|(apply yA)|(apply yB)|(apply yC; kernel_rfl)|(apply yD; exact rfl; kernel_rfl)|(apply yE)|(apply yF; kernel_rfl)|(apply yG)|(apply yH)|(apply yJ)|(apply AGoto_ret)|(apply yP)|(apply yN)|(apply yQ; exact rfl)|(apply yR; exact rfl)
      |(refine W.cond _ rfl (fun hb => ?_) (fun hb => ?_) <;> ((try simp only [hb, zK]) <;> (try simp only [zL, zI] at hb) <;> (try (exfalso; omega))))))
     all_goals first
      |(exfalso; omega)
      |exact Ends.cell2 rfl rfl rfl rfl rfl
   ·obtain rfl : j = 1 := by omega
    show AWPG _ _ _ _ _ _ ⟨_, [_, _, .box (iL (L.set m0 (F cs[m0] X).1)), _]⟩
    have hy := hj.2 rfl
    have hnx : (runJ F cs (J (k + 1))).2 = 0 := by rw [hrun]; exact hy
    have hL8 : (runJ F cs (J (k + 1))).1 = L.set m0 (F cs[m0] X).1 := by rw [hrun]
    generalize L.set m0 (F cs[m0] X).1 = L1 at *
    (repeat' (first
     |(apply W.qd; (first
     |(exact zM)|(exact zN)|(exact q_lss rfl rfl)|(exact q_eql rfl rfl)|(exact q_add rfl rfl (by omega))|(apply q_ld_fpt; exact rfl; exact rfl; (first | assumption | exact rfl); exact rfl)
     |(apply yGb; (iterate 4 exact rfl); (first | (with_reducible exact rfl) | exact natI_spec rfl | assumption | exact (Int.toNat_of_nonneg (by omega)).symm); (first | omega | (focus (simp only [List.length_map]; omega)) | (focus (simp; done)) | (focus (simp; omega))))))|(apply yA)|(apply yB)|(apply yC; kernel_rfl)|(apply yE)|(apply yG)|(apply yH)|(apply yI)|(apply yK)|(apply yM)|(apply yO; exact rfl)
     |(apply yQ; exact rfl)))
    all_goals first
     |(exfalso; omega)|(refine ⟨k + 1, ⟨by omega, hnx⟩, by omega, ?_⟩; (try dsimp only); rw [hL8]; exact ⟨[0, 1, 2], rfl, rfl, rfl, iV_eq (by omega), rfl, rfl, rfl, rfl, rfl, rfl, rfl, trivial⟩)
  ·-- the class has two codes
   have hcv : codesV vs[k] = [(m0 : Int), (m1 : Int)] := by unfold codesV; rw [hm0, if_neg (by omega), if_neg (by omega), hm1]
   rw [hcv] at hjk
   have hjk : J (k + 1) = (J k ++ [((m0 : Int), X)]) ++ [((m1 : Int), X)] := by rw [hjk, List.append_assoc]; rfl
   have hc1 := hcode m1 hm1l X
   by_cases he : (F cs[m0] X).2 = 0
   case neg =>
    obtain ⟨t, ht⟩ := hp1
    have hR : runJ F cs (J vs.length) = ((runJ F cs (J k)).1.set m0 (F cs[m0] X).1, (F cs[m0] X).2) := by
     rw [ht, hjk, List.append_assoc, runJ_err (by rw [hrun]; exact he), hrun]
    rw [hR]
    generalize (runJ F cs (J k)).1 = L at *
    have hset := iL_set (x := (F cs[m0] X).1) h8 (show m0 < 8 by omega)
    clear hcode hjk hrun ht
    (repeat' (first
     |(apply W.qd; (first
     |(exact zM)|(exact zN)|(exact yS rfl rfl rfl)|(exact yT rfl rfl rfl rfl)|(exact q_lss rfl rfl)|(exact yV rfl rfl)|(apply yY; (iterate 3 exact rfl); (first | omega | (focus (simp; done))))|(apply q_litF; (iterate 5 exact rfl); kernel_rfl; kernel_rfl; exact rfl)
     |(apply yGb; (iterate 4 exact rfl); (first | (with_reducible exact rfl) | exact natI_spec rfl | assumption | exact (Int.toNat_of_nonneg (by omega)).symm); (first | omega | (focus (simp only [List.length_map]; omega)) | (focus (simp; done)) | (focus (simp; omega))))))|(apply W.ed; (apply yCb; (iterate 3 exact rfl); kernel_rfl))|(apply W.ln; (apply l_st_box; (iterate 6 exact rfl); (iterate 3 kernel_rfl)))|(apply yA)|(apply yB)|(apply (W.regionS 5); exact rfl; kernel_rfl)|(apply yE)|(apply yG)|(apply yH)
     |(refine W.cond _ rfl (fun hb => ?_) (fun hb => ?_) <;> ((try simp only [hb, zK]) <;> (try simp only [zL, zI] at hb) <;> (try (exfalso; omega))))))
    refine AWP.loopW (α := Nat) (fun j => j ≤ 0) (fun j => ⟨[(26, iV j), (25, iV 2), (24, .d (.sl 1 [[.v (.int .i64 (m0 : Int))], [.v (.int .i64 (m1 : Int))]])), (8, iV k), (15, iV k), (14, iV vs.length), (13, svs vs), (6, .opt 2 0), (2, ints bl), (3, .opt 0 0), (4, .opt 1 0), (7, iV 0)], [.box [iV d, iV r, iV n, iV s, iV l, iV i], .box [cds cs, svs vs], .box (iL L), .box ((svD vs[k]).map .d)]⟩) (fun j => 2 - j) 0 (Nat.le_refl _) ?wkC fun j hj => ?_
    case wkC =>
     rw [← hm0, ← hm1]
     exact ⟨[0, 1, 2, 3], rfl, rfl, rfl, by (repeat (first | exact trivial | refine ⟨rfl, ?_⟩))⟩
    obtain rfl : j = 0 := by omega
    generalize F cs[m0] X = fx at *
    obtain ⟨x, y⟩ := fx
    have he : y ≠ 0 := he
    rw [← hX] at hc0
    (repeat' (first
     |(apply W.qd; (first
     |(exact zW (hc0))
     |((apply (q_ix_ar (k := 1)); (iterate 5 exact rfl); omega))|(exact zM)|(exact zN)|(exact yS rfl rfl rfl)|(exact yT rfl rfl rfl rfl)|(exact yU rfl rfl rfl rfl)|(exact q_lss rfl rfl)|(exact q_eql rfl rfl)|(exact q_neq rfl rfl)|(exact yAb rfl rfl)|(apply yX; (iterate 3 exact rfl); (first | omega | (focus (simp; done))))|(apply yY; (iterate 3 exact rfl); (first | omega | (focus (simp; done))))|(apply q_ld_fpt; exact rfl; exact rfl; (first | assumption | exact rfl); exact rfl)
     |(apply yGb; (iterate 4 exact rfl); (first | (with_reducible exact rfl) | exact natI_spec rfl | assumption | exact (Int.toNat_of_nonneg (by omega)).symm); (first | omega | (focus (simp only [List.length_map]; omega)) | (focus (simp; done)) | (focus (simp; omega))))))|(apply W.ln; (apply l_st_box; (iterate 6 exact rfl); (iterate 3 kernel_rfl)))|(apply W.en; ((apply e_stS; (iterate 4 exact rfl); exact congrArg (fun l => [_, _, Ent.box l, _]) hset; (iterate 3 exact rfl); (show _ < 8; omega))))|(apply yA)|(apply yB)|(apply yC; kernel_rfl)|(apply yD; exact rfl; kernel_rfl)|(apply yE)|(apply yF; kernel_rfl)|(apply yG)|(apply yH)|(apply yJ)|(apply AGoto_ret)|(apply yP)|(apply yN)|(apply yQ; exact rfl)|(apply yR; exact rfl)
     |(refine W.cond _ rfl (fun hb => ?_) (fun hb => ?_) <;> ((try simp only [hb, zK]) <;> (try simp only [zL, zI] at hb) <;> (try (exfalso; omega))))))
    all_goals first
     |(exfalso; omega)
     |exact Ends.cell2 rfl rfl rfl rfl rfl
   have hrun1 := runJ_step (l := J k ++ [((m0 : Int), X)]) (x := X) (by rw [hrun]; exact he) hm1l
   rw [← hjk, hrun] at hrun1
   generalize (runJ F cs (J k)).1 = L at *
   have hset := iL_set (x := (F cs[m0] X).1) h8 (show m0 < 8 by omega)
   have hset1 := iL_set (x := (F cs[m1] X).1) (l := L.set m0 (F cs[m0] X).1) (by rw [List.length_set]; exact h8) (show m1 < 8 by omega)
   clear hcode hjk
   (repeat' (first
    |(apply W.qd; (first
    |(exact zM)|(exact zN)|(exact yS rfl rfl rfl)|(exact yT rfl rfl rfl rfl)|(exact q_lss rfl rfl)|(exact yV rfl rfl)|(apply yY; (iterate 3 exact rfl); (first | omega | (focus (simp; done))))|(apply q_litF; (iterate 5 exact rfl); kernel_rfl; kernel_rfl; exact rfl)
    |(apply yGb; (iterate 4 exact rfl); (first | (with_reducible exact rfl) | exact natI_spec rfl | assumption | exact (Int.toNat_of_nonneg (by omega)).symm); (first | omega | (focus (simp only [List.length_map]; omega)) | (focus (simp; done)) | (focus (simp; omega))))))|(apply W.ed; (apply yCb; (iterate 3 exact rfl); kernel_rfl))|(apply W.ln; (apply l_st_box; (iterate 6 exact rfl); (iterate 3 kernel_rfl)))|(apply yA)|(apply yB)|(apply (W.regionS 5); exact rfl; kernel_rfl)|(apply yE)|(apply yG)|(apply yH)
    |(refine W.cond _ rfl (fun hb => ?_) (fun hb => ?_) <;> ((try simp only [hb, zK]) <;> (try simp only [zL, zI] at hb) <;> (try (exfalso; omega))))))
   refine AWP.loopW (α := Nat) (fun j => j ≤ 2 ∧ (j = 2 → (F cs[m1] X).2 = 0)) (fun j => ⟨[(26, iV j), (25, iV 2), (24, .d (.sl 1 [[.v (.int .i64 (m0 : Int))], [.v (.int .i64 (m1 : Int))]])), (8, iV k), (15, iV k), (14, iV vs.length), (13, svs vs), (6, .opt 2 0), (2, ints bl), (3, .opt 0 0), (4, .opt 1 0), (7, iV 0)], [.box [iV d, iV r, iV n, iV s, iV l, iV i], .box [cds cs, svs vs], .box (iL (selN j L (L.set m0 (F cs[m0] X).1) ((L.set m0 (F cs[m0] X).1).set m1 (F cs[m1] X).1))), .box ((svD vs[k]).map .d)]⟩) (fun j => 2 - j) 0 ⟨by omega, fun h => by omega⟩ ?wkB fun j hj => ?_
   case wkB =>
    rw [← hm0, ← hm1]
    exact ⟨[0, 1, 2, 3], rfl, rfl, rfl, by (repeat (first | exact trivial | refine ⟨rfl, ?_⟩))⟩
   by_cases hj0 : j = 0
   ·subst hj0
    show AWPG _ _ _ _ _ _ ⟨_, [_, _, .box (iL L), _]⟩
    generalize F cs[m0] X = fx at *
    obtain ⟨x, y⟩ := fx
    obtain rfl : y = 0 := he
    rw [← hX] at hc0
    (repeat' (first
     |(apply W.qd; (first
     |(exact zW (hc0))
     |((apply (q_ix_ar (k := 1)); (iterate 5 exact rfl); omega))|(exact zM)|(exact zN)|(exact yS rfl rfl rfl)|(exact yT rfl rfl rfl rfl)|(exact yU rfl rfl rfl rfl)|(exact q_lss rfl rfl)|(exact q_eql rfl rfl)|(exact q_neq rfl rfl)|(exact q_add rfl rfl (by omega))|(exact yAb rfl rfl)|(apply yX; (iterate 3 exact rfl); (first | omega | (focus (simp; done))))|(apply yY; (iterate 3 exact rfl); (first | omega | (focus (simp; done))))|(apply q_ld_fpt; exact rfl; exact rfl; (first | assumption | exact rfl); exact rfl)
     |(apply yGb; (iterate 4 exact rfl); (first | (with_reducible exact rfl) | exact natI_spec rfl | assumption | exact (Int.toNat_of_nonneg (by omega)).symm); (first | omega | (focus (simp only [List.length_map]; omega)) | (focus (simp; done)) | (focus (simp; omega))))))|(apply W.en; ((apply e_stS; (iterate 4 exact rfl); exact congrArg (fun l => [_, _, Ent.box l, _]) hset; (iterate 3 exact rfl); (show _ < 8; omega))))|(apply yA)|(apply yB)|(apply yC; kernel_rfl)|(apply yD; exact rfl; kernel_rfl)|(apply yE)|(apply yF; kernel_rfl)|(apply yG)|(apply yH)|(apply yL)|(apply yQ; exact rfl)
     |(apply yR; exact rfl)))
    all_goals first
     |(exfalso; omega)
     |exact ⟨1, ⟨by omega, fun h => by omega⟩, by omega, ⟨[0, 1, 2, 3], rfl, rfl, rfl, by (repeat (first | exact trivial | refine ⟨rfl, ?_⟩))⟩⟩
   ·by_cases hj1 : j = 1
    ·subst hj1
     show AWPG _ _ _ _ _ _ ⟨_, [_, _, .box (iL (L.set m0 (F cs[m0] X).1)), _]⟩
     by_cases he1 : (F cs[m1] X).2 = 0
     ·generalize L.set m0 (F cs[m0] X).1 = L1 at *
      generalize F cs[m1] X = fx at *
      obtain ⟨x, y⟩ := fx
      obtain rfl : y = 0 := he1
      rw [← hX] at hc1
      (repeat' (first
       |(apply W.qd; (first
       |(exact zW (hc1))
       |((apply (q_ix_ar (k := 1)); (iterate 5 exact rfl); omega))|(exact zM)|(exact zN)|(exact yS rfl rfl rfl)|(exact yT rfl rfl rfl rfl)|(exact yU rfl rfl rfl rfl)|(exact q_lss rfl rfl)|(exact q_eql rfl rfl)|(exact q_neq rfl rfl)|(exact q_add rfl rfl (by omega))|(exact yAb rfl rfl)|(apply yX; (iterate 3 exact rfl); (first | omega | (focus (simp; done))))|(apply yY; (iterate 3 exact rfl); (first | omega | (focus (simp; done))))|(apply q_ld_fpt; exact rfl; exact rfl; (first | assumption | exact rfl); exact rfl)
       |(apply yGb; (iterate 4 exact rfl); (first | (with_reducible exact rfl) | exact natI_spec rfl | assumption | exact (Int.toNat_of_nonneg (by omega)).symm); (first | omega | (focus (simp only [List.length_map]; omega)) | (focus (simp; done)) | (focus (simp; omega))))))|(apply W.en; ((apply e_stS; (iterate 4 exact rfl); exact congrArg (fun l => [_, _, Ent.box l, _]) hset1; (iterate 3 exact rfl); (show _ < 8; omega))))|(apply yA)|(apply yB)|(apply yC; kernel_rfl)|(apply yD; exact rfl; kernel_rfl)|(apply yE)|(apply yF; kernel_rfl)|(apply yG)|(apply yH)|(apply yL)|(apply yQ; exact rfl)
       |(apply yR; exact rfl)))
      all_goals first
       |(exfalso; omega)
       |exact ⟨2, ⟨by omega, fun _ => rfl⟩, by omega, ⟨[0, 1, 2, 3], rfl, rfl, rfl, by (repeat (first | exact trivial | refine ⟨rfl, ?_⟩))⟩⟩
     ·obtain ⟨t, ht⟩ := hp1
      have hR : runJ F cs (J vs.length) = ((L.set m0 (F cs[m0] X).1).set m1 (F cs[m1] X).1, (F cs[m1] X).2) := by
       rw [ht, runJ_err (by rw [hrun1]; exact he1), hrun1]
      rw [hR]
      generalize L.set m0 (F cs[m0] X).1 = L1 at *
      generalize F cs[m1] X = fx at *
      obtain ⟨x, y⟩ := fx
      have he1 : y ≠ 0 := he1
      rw [← hX] at hc1
      (repeat' (first
       |(apply W.qd; (first
       |(exact zW (hc1))
       |((apply (q_ix_ar (k := 1)); (iterate 5 exact rfl); omega))|(exact zM)|(exact zN)|(exact yS rfl rfl rfl)|(exact yT rfl rfl rfl rfl)|(exact yU rfl rfl rfl rfl)|(exact q_lss rfl rfl)|(exact q_eql rfl rfl)|(exact q_neq rfl rfl)|(exact yAb rfl rfl)|(apply yX; (iterate 3 exact rfl); (first | omega | (focus (simp; done))))|(apply yY; (iterate 3 exact rfl); (first | omega | (focus (simp; done))))|(apply q_ld_fpt; exact rfl; exact rfl; (first | assumption | exact rfl); exact rfl)
       |(apply yGb; (iterate 4 exact rfl); (first | (with_reducible exact rfl) | exact natI_spec rfl | assumption | exact (Int.toNat_of_nonneg (by omega)).symm); (first | omega | (focus (simp only [List.length_map]; omega)) | (focus (simp; done)) | (focus (simp; omega))))))|(apply W.ln; (apply l_st_box; (iterate 6 exact rfl); (iterate 3 kernel_rfl)))|(apply W.en; ((apply e_stS; (iterate 4 exact rfl); exact congrArg (fun l => [_, _, Ent.box l, _]) hset1; (iterate 3 exact rfl); (show _ < 8; omega))))|(apply yA)|(apply yB)|(apply yC; kernel_rfl)|(apply yD; exact rfl; kernel_rfl)|(apply yE)|(apply yF; kernel_rfl)|(apply yG)|(apply yH)|(apply yJ)|(apply AGoto_ret)|(apply yP)|(apply yN)|(apply yQ; exact rfl)|(apply yR; exact rfl)
       |(refine W.cond _ rfl (fun hb => ?_) (fun hb => ?_) <;> ((try simp only [hb, zK]) <;> (try simp only [zL, zI] at hb) <;> (try (exfalso; omega))))))
      all_goals first
       |(exfalso; omega)
       |exact Ends.cell2 rfl rfl rfl rfl rfl
    ·obtain rfl : j = 2 := by omega
     show AWPG _ _ _ _ _ _ ⟨_, [_, _, .box (iL ((L.set m0 (F cs[m0] X).1).set m1 (F cs[m1] X).1)), _]⟩
     have hy := hj.2 rfl
     have hnx : (runJ F cs (J (k + 1))).2 = 0 := by rw [hrun1]; exact hy
     have hL8 : (runJ F cs (J (k + 1))).1 = (L.set m0 (F cs[m0] X).1).set m1 (F cs[m1] X).1 := by rw [hrun1]
     generalize (L.set m0 (F cs[m0] X).1).set m1 (F cs[m1] X).1 = L2 at *
     (repeat' (first
      |(apply W.qd; (first
      |(exact zM)|(exact q_lss rfl rfl)
      |(exact q_add rfl rfl (by omega))))|(apply yA)|(apply yB)|(apply yC; kernel_rfl)|(apply yE)|(apply yI)|(apply yK)|(apply yL)|(apply yM)
      |(apply yR; exact rfl)))
     all_goals first
      |(exfalso; omega)|(refine ⟨k + 1, ⟨by omega, hnx⟩, by omega, ?_⟩; (try dsimp only); rw [hL8]; exact ⟨[0, 1, 2], rfl, rfl, rfl, iV_eq (by omega), rfl, rfl, rfl, rfl, rfl, rfl, rfl, trivial⟩)
 ·obtain rfl : k = vs.length := by omega
  rw [hk2]
  generalize (runJ F cs (J vs.length)).1 = L at *
  (repeat' (first
   |(apply W.qd; (first
   |(exact zN)|(exact yU rfl rfl rfl rfl)
   |(exact q_lss rfl rfl)))|(apply W.ln; (apply l_st_box; (iterate 6 exact rfl); (iterate 3 kernel_rfl)))|(apply yA)|(apply yB)|(apply yC; kernel_rfl)|(apply yE)|(apply yI)|(apply yJ)|(apply yK)|(apply AGoto_ret)|(apply yM)
   |(refine W.cond _ rfl (fun hb => ?_) (fun hb => ?_) <;> ((try simp only [hb, zK]) <;> (try simp only [zL, zI] at hb) <;> (try (exfalso; omega))))))
  all_goals first | (exfalso; omega) | exact Ends.cell2 rfl rfl rfl rfl rfl
def heldF (rows : List SRw) (c : Nat) : Int := (heldN rows (c : Int) : Nat)
theorem heldF_bd {rows : List SRw} (hl : rows.length ≤ 64) (c : Nat) : 0 ≤ heldF rows c ∧ heldF rows c ≤ 1000000 := by
 have := heldT_le rows (c : Int) rows.length
 unfold heldF heldN
 omega
theorem A_total {d r n s l i : Int} {cs : List Cd} {vs : List Sv} {bl : List Int} {rows : List SRw} (hL : LibIn cs vs) (hV : validB cs vs = true) (hb : bl.length = vs.length) (hr : rows.length ≤ 64) :
 ACalls Tryz.prog 60 [cfgA d r n s l i, lib cs vs, ints bl, rws rows] [] (.tup [iV (totN (codN d r n s l i) cs vs (heldF rows) (fun k => bl.getD k 0)).1, iV (totN (codN d r n s l i) cs vs (heldF rows) (fun k => bl.getD k 0)).2]) [] := by
 have hnd := A_needs (d := d) (r := r) (n := n) (s := s) (l := l) (i := i) hL hV hb
 have hbd := runJ_bd (cs := cs) (codN_bd d r n s l i) (jobsN vs (fun k => bl.getD k 0) vs.length)
 have h8 := runJ_l8 (F := codN d r n s l i) (cs := cs) (jobsN vs (fun k => bl.getD k 0) vs.length)
 have hhe := fun c : Int => A_held (rows := rows) (c := c) (by omega)
 have hhb := heldF_bd hr
 unfold totN
 generalize runJ (codN d r n s l i) cs (jobsN vs (fun k => bl.getD k 0) vs.length) = R at *
 obtain ⟨L, e⟩ := R
 dsimp only at *
 refine acalls_of_body Tryz.func60 rfl (zU rfl) ?_
 by_cases he : e = 0
 case neg =>
  rw [if_pos he]
  (repeat' (first
   |(apply W.qd; (first
   |(exact zW (hnd))|(exact zM)|(exact zN)|(exact yU rfl rfl rfl rfl)|(exact q_neq rfl rfl)
   |(exact yAb rfl rfl)))
   |(apply W.ed; (first
   |(apply yBb; (iterate 3 exact rfl); kernel_rfl; kernel_rfl)
   |(apply yCb; (iterate 3 exact rfl); kernel_rfl)))|(apply W.ln; (apply l_st_box; (iterate 6 exact rfl); (iterate 3 kernel_rfl)))|(apply yA)|(apply yB)|(apply yC; kernel_rfl)|(apply yE)|(apply yJ)|(apply yP)
   |(refine W.cond _ rfl (fun hb => ?_) (fun hb => ?_) <;> ((try simp only [hb, zK]) <;> (try simp only [zL, zI] at hb) <;> (try (exfalso; omega))))))
  all_goals first | (exfalso; omega) | exact Ends.two rfl rfl rfl
 rw [if_neg (by simp [he])]
 subst he
 have hsb := sumH_bd hbd hhb
 have hst : ∀ j, sumH L (heldF rows) (j + 1) = sumH L (heldF rows) j + mxI (L.getD j 0) (heldF rows j) := fun j => rfl
 have hget : ∀ j, j < 8 → (iL L)[j]? = some (iV (L.getD j 0)) := fun j hj => iL_get hj
 have hmb : ∀ j, 0 ≤ mxI (L.getD j 0) (heldF rows j) ∧ mxI (L.getD j 0) (heldF rows j) ≤ 2199023255554 := fun j => by
  have h1 := hbd j
  have h2 := hhb j
  unfold mxI
  split <;> omega
 generalize hS : sumH L (heldF rows) = S at *
 have hS0 : S 0 = 0 := by rw [← hS]; rfl
 clear h8 hS
 (repeat' (first
  |(apply W.qd; (first
  |(exact zW (hnd))|(exact zM)|(exact zN)|(exact yU rfl rfl rfl rfl)|(exact q_neq rfl rfl)
  |(exact yAb rfl rfl)))
  |(apply W.ed; (first
  |(apply yBb; (iterate 3 exact rfl); kernel_rfl; kernel_rfl)
  |(apply yCb; (iterate 3 exact rfl); kernel_rfl)))|(apply W.ln; (apply l_st_box; (iterate 6 exact rfl); (iterate 3 kernel_rfl)))|(apply yA)|(apply yB)|(apply (W.regionS 6); exact rfl; kernel_rfl)|(apply yE)|(apply yG)|(apply yH)
  |(apply yR; exact rfl)))
 all_goals try (exfalso; omega)
 refine AWP.loopW (α := Nat) (fun j => j ≤ 8) (fun j => ⟨[(26, iV j), (25, .agg (iL L)), (12, iV (S j)), (3, rws rows)], []⟩) (fun j => 8 - j) 0 (Nat.zero_le _) ?wkA fun j hj => ?_
 case wkA =>
  rw [hS0]
  exact ⟨[], rfl, rfl, rfl, by (repeat (first | exact trivial | refine ⟨rfl, ?_⟩))⟩
 by_cases hjl : j < 8
 ·have hg := hget j hjl
  have hs := hst j
  have hm := hmb j
  have hsj := hsb j
  have hh := hhe (j : Int)
  have hh : ACalls Tryz.prog 111 [rws rows, iV (j : Int)] [] (iV (heldF rows j)) [] := hh
  generalize L.getD j 0 = x at *
  generalize heldF rows j = y at *
  clear hget hst hmb hsb hhe hhb hbd
  (repeat' (first
   |(apply W.qd; (first
   |(exact zW (hh))
   |((apply q_maxM; exact rfl; exact rfl))
   |((apply q_ix_ag; (iterate 5 exact rfl); exact hg; omega))|(exact zM)|(exact zN)|(exact q_lss rfl rfl)
   |(exact q_add rfl rfl (by omega))))|(apply yA)|(apply yB)|(apply yC; kernel_rfl)|(apply yE)|(apply yG)|(apply yH)|(apply yL)
   |(refine W.cond _ rfl (fun hb => ?_) (fun hb => ?_) <;> ((try simp only [hb, zK]) <;> (try simp only [zL, zI] at hb) <;> (try (exfalso; omega))))))
  all_goals first
   |(exfalso; omega)|(refine ⟨j + 1, by omega, by omega, ?_⟩; (try dsimp only); rw [hs]; exact ⟨[], rfl, rfl, rfl, iV_eq (by omega), rfl, rfl, rfl, trivial⟩)
 ·obtain rfl : j = 8 := by omega
  (repeat' (first
   |(apply W.qd; (first
   |(exact zM)|(exact zN)
   |(exact q_lss rfl rfl)))|(apply yA)|(apply yB)|(apply yC; kernel_rfl)|(apply yE)|(apply yI)|(apply yJ)|(apply yK)|(apply yM)
   |(apply yR; exact rfl)))
  all_goals first | (exfalso; omega) | exact Ends.two rfl rfl rfl
def rowN31 (d r n s l i : Int) (cs : List Cd) (vs : List Sv) (ts : List Tn) (us : List Ue) (rows : List SRw) : Int × Int := if val31 d r n s l i cs vs ts us rows = true then totN (codN d r n s l i) cs vs (heldF rows) (blkF ts us) else (0, 1)
def admN (d r n s l i : Int) (cs : List Cd) (vs : List Sv) (ts : List Tn) (us : List Ue) (rows : List SRw) : Int := if (rowN31 d r n s l i cs vs ts us rows).2 = 0 ∧ n ≤ (rowN31 d r n s l i cs vs ts us rows).1 then refI else (rowN31 d r n s l i cs vs ts us rows).2
theorem A_rows {d r n s l i : Int} {cs : List Cd} {vs : List Sv} {ts : List Tn} {us : List Ue} {rows : List SRw} (hI : In31 cs vs ts us rows) : ACalls Tryz.prog 20 [cfgA d r n s l i, lib cs vs, tns ts, ues us, rws rows] [] (.tup [iV (rowN31 d r n s l i cs vs ts us rows).1, iV (rowN31 d r n s l i cs vs ts us rows).2]) [] := by
 refine acalls_of_body Tryz.func20 rfl (zU rfl) ?_
 unfold rowN31
 cases hv : val31 d r n s l i cs vs ts us rows with
 | false =>
   have hc := A_claimedB hI hv
   rw [if_neg (by simp)]
   (repeat' (first
    |(apply W.qd; (first
    |(exact zW (hc))|(exact zM)|(exact zN)|(exact yU rfl rfl rfl rfl)|(exact q_neq rfl rfl)
    |(exact yAb rfl rfl)))|(apply W.ed; (apply yBb; (iterate 3 exact rfl); kernel_rfl; kernel_rfl))|(apply yA)|(apply yB)|(apply yC; kernel_rfl)|(apply yE)|(apply yJ)|(apply yP)
    |(apply yQ; exact rfl)))
   all_goals first | (exfalso; omega) | exact Ends.two rfl rfl rfl
 | true =>
   have hc := A_claimed hI hv
   have hV : validB cs vs = true := by unfold val31 at hv; simp only [Bool.and_eq_true] at hv; exact hv.1.2
   have hbl : (blkL vs.length ts us).length = vs.length := by unfold blkL; simp
   have ht := A_total (d := d) (r := r) (n := n) (s := s) (l := l) (i := i) (rows := rows) hI.L hV hbl hI.rl
   rw [tot_congr (b' := blkF ts us) (fun k hk => blkL_get hk)] at ht
   rw [if_pos rfl]
   generalize totN (codN d r n s l i) cs vs (heldF rows) (blkF ts us) = T at *
   obtain ⟨t1, t2⟩ := T
   generalize blkL vs.length ts us = B at *
   have hBl : vs.length = (B.map iD).length := by rw [List.length_map]; exact hbl.symm
   have hfz : ∀ own own' : List Ent, own[2]? = some (.row 0 1 3 (B.map iD)) → same [2] own own' → AV.frzL own' [] [cfgA d r n s l i, lib cs vs, .osl 2 0 0 vs.length, rws rows] = [cfgA d r n s l i, lib cs vs, ints B, rws rows] := fun own own' h1 h2 =>
    congrArg (fun z => [cfgA d r n s l i, lib cs vs, z, rws rows]) (frz_rowJ ((h2 2 (by simp)).trans h1) rfl hBl)
   (repeat' (first
    |(apply W.qd; (first
    |((apply (q_callF (js := [2]) ht); exact rfl; exact fun own' hh => hfz _ own' rfl hh; exact rfl; kernel_rfl))|(exact zM)|(exact zN)|(exact yU rfl rfl rfl rfl)|(exact q_neq rfl rfl)
    |(exact yAb rfl rfl)))
    |(apply W.ed; (first
    |(apply (e_callJ (js := []) (hc)); (iterate 5 exact rfl); kernel_rfl; kernel_rfl)
    |(apply yBb; (iterate 3 exact rfl); kernel_rfl; kernel_rfl)))|(apply yA)|(apply yB)|(apply yC; kernel_rfl)|(apply yE)|(apply yH)|(apply yJ)
    |(apply yR; exact rfl)))
   all_goals first | (exfalso; omega) | exact Ends.two rfl rfl rfl
theorem A_admit {d r n s l i : Int} {cs : List Cd} {vs : List Sv} {ts : List Tn} {us : List Ue} {rows : List SRw} (hI : In31 cs vs ts us rows) : ACalls Tryz.prog 19 [cfgA d r n s l i, lib cs vs, tns ts, ues us, rws rows] [] (iV (admN d r n s l i cs vs ts us rows)) [] := by
 refine acalls_of_body Tryz.func19 rfl (zU rfl) ?_
 have hr := A_rows (d := d) (r := r) (n := n) (s := s) (l := l) (i := i) hI
 unfold admN
 generalize rowN31 d r n s l i cs vs ts us rows = T at *
 obtain ⟨t1, t2⟩ := T
 dsimp only at *
 (repeat' (first
  |(apply yFb; exact rfl; exact rfl)
  |(apply W.qd; (first
  |(exact zW (hr))|(exact zM)|(exact zN)|(exact yS rfl rfl rfl)|(exact yT rfl rfl rfl rfl)|(exact yU rfl rfl rfl rfl)|(exact q_geq rfl rfl)|(exact q_eql rfl rfl)|(exact yAb rfl rfl)|(apply (yEb (u := .d _)); exact rfl; exact rfl)
  |(apply (yDb (u := .d _)); exact rfl; exact rfl)))|(apply W.ed; (apply yBb; (iterate 3 exact rfl); kernel_rfl; kernel_rfl))|(refine W.gOff _ _ rfl rfl (by intro h; cases h) ?_)|(apply yA)|(apply yB)|(apply yC; kernel_rfl)|(apply yE)|(apply yH)|(apply yJ)|(apply yP)|(apply yR; exact rfl)|(refine W.gT _ _ rfl rfl (fun hb => ?_) (fun hb => ?_) <;> ((try simp only [hb, zK]) <;> (try simp only [zL, zI] at hb) <;> (try (exfalso; omega))))
  |(refine W.cond _ rfl (fun hb => ?_) (fun hb => ?_) <;> ((try simp only [hb, zK]) <;> (try simp only [zL, zI] at hb) <;> (try (exfalso; omega))))))
 all_goals first
  |(exfalso; omega)|(refine Ends.i rfl ?_; first | (rw [if_pos (by omega)]; done) | (rw [if_neg (by omega)]; done))
end
section
attribute [local irreducible] Quiet Eff OpOk AWPG ACont ABlock ACalls AGoto
theorem A_rvalid30G {cs : List Cd} {vs : List Sv} (h : LibIn cs vs) : ACalls Tryz.prog 64 [lib cs vs] [] (bV (validB cs vs)) [] := by
 refine acalls_of_body Tryz.func64 rfl (zU rfl) ?_
 have hmc : (cs.map cdD).length = cs.length := List.length_map _
 have hmv : (vs.map svD).length = vs.length := List.length_map _
 have hcl := h.cl
 have hvl := h.vl
 by_cases hg : cs.length ≤ 8 ∧ vs.length ≤ 8
 case neg =>
  have e : validB cs vs = false := by
   unfold validB
   rw [Bool.and_eq_false_iff]
   left
   rw [Bool.and_eq_false_iff, decide_eq_false_iff_not, decide_eq_false_iff_not]
   omega
  rw [e]
  (repeat' (first
   |(apply yFb; exact rfl; exact rfl)
   |(apply W.qd; (first
   |(exact zM)|(exact zN)|(exact yS rfl rfl rfl)|(exact yT rfl rfl rfl rfl)|(exact q_gtr rfl rfl)|(exact yV rfl rfl)|(apply (yEb (u := .d _)); exact rfl; exact rfl)
   |(apply (yDb (u := .d _)); exact rfl; exact rfl)))|(apply W.ed; (apply yBb; (iterate 3 exact rfl); kernel_rfl; kernel_rfl))|(refine W.gOff _ _ rfl rfl (by intro h; cases h) ?_)|(apply yA)|(apply yB)|(apply (W.regionS 3); exact rfl; kernel_rfl)|(apply yE)|(apply yJ)|(apply yP)|(apply yQ; exact rfl)|(refine W.gF _ _ rfl rfl (fun hb => ?_) (fun hb => ?_) <;> ((try simp only [hb, zK]) <;> (try simp only [zL, zI] at hb) <;> (try (exfalso; omega))))
   |(refine W.cond _ rfl (fun hb => ?_) (fun hb => ?_) <;> ((try simp only [hb, zK]) <;> (try simp only [zL, zI] at hb) <;> (try (exfalso; omega))))))
  all_goals first | exact Ends.b rfl rfl | (exfalso; omega)
 obtain ⟨hg1, hg2⟩ := hg
 have hV : validB cs vs = ((List.range cs.length).all (okC cs) && (List.range vs.length).all (okV cs vs)) := by
  unfold validB
  rw [decide_eq_true hg1, decide_eq_true hg2]; rfl
 have hbC : ∀ i, i < cs.length → okC cs i = false → validB cs vs = false := fun i hi h1 => by rw [hV, range_bad hi h1]; rfl
 have hbV : ∀ i, i < vs.length → okV cs vs i = false → validB cs vs = false := fun i hi h1 => by rw [hV, range_bad hi h1, Bool.and_false]
 have hgV : (∀ i, i < cs.length → okC cs i = true) → (∀ i, i < vs.length → okV cs vs i = true) → validB cs vs = true := fun h1 h2 => by rw [hV, all_range.2 h1, all_range.2 h2]; rfl
 clear hV
 generalize validB cs vs = V at *
 (repeat' (first
  |(apply yFb; exact rfl; exact rfl)
  |(apply W.qd; (first
  |(exact zM)|(exact zN)|(exact yS rfl rfl rfl)|(exact yT rfl rfl rfl rfl)|(exact q_gtr rfl rfl)|(exact yV rfl rfl)
  |(apply (yDb (u := .d _)); exact rfl; exact rfl)))|(apply W.ed; (apply yBb; (iterate 3 exact rfl); kernel_rfl; kernel_rfl))|(apply yA)|(apply yB)|(apply (W.regionS 4); exact rfl; kernel_rfl)|(apply yE)|(apply yG)|(apply yH)|(refine W.gF _ _ rfl rfl (fun hb => ?_) (fun hb => ?_) <;> ((try simp only [hb, zK]) <;> (try simp only [zL, zI] at hb) <;> (try (exfalso; omega))))
  |(refine W.cond _ rfl (fun hb => ?_) (fun hb => ?_) <;> ((try simp only [hb, zK]) <;> (try simp only [zL, zI] at hb) <;> (try (exfalso; omega))))))
 all_goals try (exfalso; omega)
 refine AWP.loopW (α := Nat) (fun k => k ≤ cs.length ∧ ∀ j, j < k → okC cs j = true) (fun k => ⟨[(3, iV k), (1, .opt 0 0)], [.box [cds cs, svs vs]]⟩) (fun k => cs.length - k) 0 ⟨Nat.zero_le _, fun j hj => by omega⟩ ⟨[0], rfl, rfl, rfl, by (repeat (first | exact trivial | refine ⟨rfl, ?_⟩))⟩ fun k hk => ?_
 by_cases hkl : k < cs.length
 ·have hmem := List.getElem_mem hkl
  have hn := h.cn _ hmem
  have hf := A_rfindC (cs := cs) (vs := vs) (nm := cs[k].1) hcl (fun c hc => (h.cn c hc).b) hn.b
  have hnn : 0 ≤ fcI cs cs[k].1 := idxA_nn hmem (decide_eq_true rfl)
  rw [find_nn hnn] at hf
  obtain ⟨e, hc, he⟩ := A_check7G (M := cs[k].2.1) (D := cs[k].2.2.1) (par := cs[k].2.2.2.1) (dom := cs[k].2.2.2.2) hn.b hn.l (h.cp _ hmem)
  have hok : okC cs k = (decide (fcI cs cs[k].1 = (k : Int)) && chkD cs[k]) := by unfold okC; rw [getDc hkl]
  have he2 : e = 0 ↔ chkD cs[k] = true := he
  replace hok := Lib.hid hok
  have hbk := hbC k hkl
  have hnx : okC cs k = true → ∀ j, j < k + 1 → okC cs j = true := fun h1 j hj => by
   by_cases e : j = k
   ·subst e; exact h1
   ·exact hk.2 j (by omega)
  clear hk hbC hbV hgV he
  generalize fcI cs cs[k].1 = fi at *
  generalize chkD cs[k] = ck at *
  (repeat' (first
   |(apply yFb; exact rfl; exact rfl)
   |(apply W.qd; (first
   |(exact zW (hf))|(exact zW (hc))|(exact zM)|(exact zN)|(exact yS rfl rfl rfl)|(exact yT rfl rfl rfl rfl)|(exact yU rfl rfl rfl rfl)|(exact q_lss rfl rfl)|(exact q_neq rfl rfl)|(exact q_add rfl rfl (by omega))|(exact yAb rfl rfl)|(exact yV rfl rfl)|(apply yX; (iterate 3 exact rfl); (first | omega | (focus (simp; done))))|(apply yY; (iterate 3 exact rfl); (first | omega | (focus (simp; done))))|(apply q_fld_fptF; (iterate 3 exact rfl))|(apply yGb; (iterate 4 exact rfl); (first | (with_reducible exact rfl) | exact natI_spec rfl | assumption | exact (Int.toNat_of_nonneg (by omega)).symm); (first | omega | (focus (simp only [List.length_map]; omega)) | (focus (simp; done)) | (focus (simp; omega))))|(apply (yEb (u := .d _)); exact rfl; exact rfl)
   |(apply (yDb (u := .d _)); exact rfl; exact rfl)))|(refine W.gOff _ _ rfl rfl (by intro h; cases h) ?_)|(apply yA)|(apply yB)|(apply yC; kernel_rfl)|(apply yD; exact rfl; kernel_rfl)|(apply yE)|(apply yF; kernel_rfl)|(apply yG)|(apply yH)|(apply yJ)|(apply yP)|(apply yL)|(apply yN)|(apply yQ; exact rfl)|(refine W.gF _ _ rfl rfl (fun hb => ?_) (fun hb => ?_) <;> ((try simp only [hb, zK]) <;> (try simp only [zL, zI] at hb) <;> (try (exfalso; omega))))
   |(refine W.cond _ rfl (fun hb => ?_) (fun hb => ?_) <;> ((try simp only [hb, zK]) <;> (try simp only [zL, zI] at hb) <;> (try (exfalso; omega))))))
  all_goals first
   |(refine Ends.b rfl (hbk ?_).symm; rw [hok.out, Bool.and_eq_false_iff, decide_eq_false_iff_not]; first | (left; omega) | (right; rw [Bool.eq_false_iff]; intro h9; have := he2.2 h9; omega))|(refine ⟨k + 1, ⟨by omega, hnx ?_⟩, by omega, [0], rfl, rfl, rfl, iV_eq (by omega), rfl, trivial⟩; rw [hok.out, Bool.and_eq_true, decide_eq_true_eq]; exact ⟨by omega, he2.1 (by omega)⟩)
 ·have hC : ∀ i, i < cs.length → okC cs i = true := fun i hi => hk.2 i (by omega)
  have hF : ∀ c ∈ cs, FInD c := fun c hc => by
   obtain ⟨q, hq, rfl⟩ := List.getElem_of_mem hc
   have h9 := hC q hq
   unfold okC at h9
   rw [getDc hq, Bool.and_eq_true] at h9
   exact fin_chk h9.2 (h.cn _ hc)
  have hgV := hgV hC
  clear hk hbC hC
  (repeat' (first
   |(apply W.qd; (first
   |(exact zM)|(exact zN)|(exact yS rfl rfl rfl)|(exact yT rfl rfl rfl rfl)|(exact q_lss rfl rfl)
   |(exact yV rfl rfl)))|(apply yA)|(apply yB)|(apply (W.regionS 11); exact rfl; kernel_rfl)|(apply yE)|(apply yG)|(apply yI)|(apply yK)|(apply yM)
   |(refine W.cond _ rfl (fun hb => ?_) (fun hb => ?_) <;> ((try simp only [hb, zK]) <;> (try simp only [zL, zI] at hb) <;> (try (exfalso; omega))))))
  all_goals try (exfalso; omega)
  refine AWP.loopW (α := Nat) (fun k => k ≤ vs.length ∧ ∀ j, j < k → okV cs vs j = true) (fun k => ⟨[(7, iV k), (1, .opt 0 0)], [.box [cds cs, svs vs]]⟩) (fun k => vs.length - k) 0 ⟨Nat.zero_le _, fun j hj => by omega⟩ ⟨[0], rfl, rfl, rfl, by (repeat (first | exact trivial | refine ⟨rfl, ?_⟩))⟩ fun k hk => ?_
  by_cases hkv : k < vs.length
  ·have hmem := List.getElem_mem hkv
   have hn := h.vn _ hmem
   have hf := A_rfindV (cs := cs) (vs := vs) (nm := vs[k].1) hvl (fun c hc => (h.vn c hc).b) hn.b
   have hnn : 0 ≤ fvI vs vs[k].1 := idxA_nn hmem (decide_eq_true rfl)
   rw [find_nn hnn] at hf
   have hr := A_rright (cs := cs) (vs := vs) hF hn
   have hu1 := A_ruser (cs := cs) (vs := vs) (q := vs[k].2.1) hvl
   have hu2 := A_ruser (cs := cs) (vs := vs) (q := vs[k].2.2.1) hvl
   have hok := okV_right (cs := cs) hkv
   replace hok := Lib.hid hok
   have hbk := hbV k hkv
   have hnx : okV cs vs k = true → ∀ j, j < k + 1 → okV cs vs j = true := fun h1 j hj => by
    by_cases e : j = k
    ·subst e; exact h1
    ·exact hk.2 j (by omega)
   clear hk hbV hgV
   generalize fvI vs vs[k].1 = fi at *
   generalize userI vs vs[k].2.1 = u1 at *
   generalize userI vs vs[k].2.2.1 = u2 at *
   generalize rightB cs vs[k] = b1 at *
   (repeat' (first
    |(apply yFb; exact rfl; exact rfl)
    |(apply W.qd; (first
    |(exact zW (hf))|(exact zW (hr))|(exact zW (hu1))|(exact zW (hu2))|(exact zM)|(exact zN)|(exact yS rfl rfl rfl)|(exact yT rfl rfl rfl rfl)|(exact yU rfl rfl rfl rfl)|(exact q_lss rfl rfl)|(exact q_neq rfl rfl)|(exact q_not rfl)|(exact q_add rfl rfl (by omega))|(exact yAb rfl rfl)|(exact yV rfl rfl)|(apply yX; (iterate 3 exact rfl); (first | omega | (focus (simp; done))))|(apply yY; (iterate 3 exact rfl); (first | omega | (focus (simp; done))))|(apply q_fld_fptF; (iterate 3 exact rfl))|(apply yGb; (iterate 4 exact rfl); (first | (with_reducible exact rfl) | exact natI_spec rfl | assumption | exact (Int.toNat_of_nonneg (by omega)).symm); (first | omega | (focus (simp only [List.length_map]; omega)) | (focus (simp; done)) | (focus (simp; omega))))|(apply (yEb (u := .d _)); exact rfl; exact rfl)
    |(apply (yDb (u := .d _)); exact rfl; exact rfl)))|(refine W.gOff _ _ rfl rfl (by intro h; cases h) ?_)|(apply yA)|(apply yB)|(apply yC; kernel_rfl)|(apply yD; exact rfl; kernel_rfl)|(apply yE)|(apply yF; kernel_rfl)|(apply yG)|(apply yH)|(apply yJ)|(apply yP)|(apply yL)|(apply yN)|(apply yQ; exact rfl)|(apply yR; exact rfl)|(refine W.gT _ _ rfl rfl (fun hb => ?_) (fun hb => ?_) <;> ((try simp only [hb, zK]) <;> (try simp only [zL, zI] at hb) <;> (try (exfalso; omega))))|(refine W.gF _ _ rfl rfl (fun hb => ?_) (fun hb => ?_) <;> ((try simp only [hb, zK]) <;> (try simp only [zL, zI] at hb) <;> (try (exfalso; omega))))
    |(refine W.cond _ rfl (fun hb => ?_) (fun hb => ?_) <;> ((try simp only [hb, zK]) <;> (try simp only [zL, zI] at hb) <;> (try (exfalso; omega))))))
   all_goals first
    |(refine Ends.b rfl (hbk ?_).symm; rw [hok.out]; simp [*] <;> omega)|(refine ⟨k + 1, ⟨by omega, hnx ?_⟩, by omega, [0], rfl, rfl, rfl, iV_eq (by omega), rfl, trivial⟩; rw [hok.out]; simp [*] <;> omega)
  ·have e : V = true := hgV fun i hi => hk.2 i (by omega)
   subst e
   clear hk hbV hgV
   (repeat' (first
    |(apply W.qd; (first
    |(exact zM)|(exact zN)|(exact yS rfl rfl rfl)|(exact yT rfl rfl rfl rfl)|(exact q_lss rfl rfl)
    |(exact yV rfl rfl)))|(apply yA)|(apply yB)|(apply yC; kernel_rfl)|(apply yE)|(apply yI)|(apply yJ)|(apply yK)|(apply yM)
    |(refine W.cond _ rfl (fun hb => ?_) (fun hb => ?_) <;> ((try simp only [hb, zK]) <;> (try simp only [zL, zI] at hb) <;> (try (exfalso; omega))))))
   all_goals exact Ends.b rfl rfl
end
end Go.Proofs.YtplpgijpmgbaiaaGreatDoor
