import Derived.Test.YtjaipchlnnjaeaaDoorA6
import Derived.Test.YtjaipchlnnjaeaaDoorA5
/- Joined texts: Er1 Er2 Er3 Er4 Er5 Er6. -/
section
/- Package erasure over the machine of abstract values: every. Printed by gen_er1.py. -/
namespace Go.Proofs.YtjaipchlnnjaeaaDoor
open Go.RowKit
set_option linter.unusedVariables false
set_option linter.unusedSimpArgs false
set_option maxHeartbeats 4000000
set_option maxRecDepth 100000
attribute [local irreducible] Quiet Eff OpOk AWPG ACont ABlock ACalls AGoto

theorem A_every1_nz0 (q : Int → Bool) (x : Int) (hg : ACalls Tryd.prog 50 [iV x] [] (bV (q x)) []) : ACalls Tryd.prog 73 [iV x, .opt 0 0] [.box [.fn 50 []]] (bV (!q x)) [.box [.fn 50 []]] := by
  refine acalls_of_bodyO Tryd.func73 rfl (Nat.le_of_ble_eq_true rfl) ?_
  (repeat' (first
  | (apply W.qd; (first
    | (apply q_mv; (first
    | exact Eq.refl (AV.d _)
    | exact Eq.refl (AV.osl _ _ _ _)
    | exact Eq.refl (AV.opt _ _)
    | exact Eq.refl (AV.agg _)
    | exact Eq.refl (AV.fpt _ _ _ _)
    | exact Eq.refl (AV.rpt _ _ _ _)
    | exact Eq.refl (AV.fn _ _)
    | exact Eq.refl (AV.tup _)
    | exact Eq.refl AV.top))
    | (apply q_as; (first
    | exact Eq.refl (AV.d _)
    | exact Eq.refl (AV.osl _ _ _ _)
    | exact Eq.refl (AV.opt _ _)
    | exact Eq.refl (AV.agg _)
    | exact Eq.refl (AV.fpt _ _ _ _)
    | exact Eq.refl (AV.rpt _ _ _ _)
    | exact Eq.refl (AV.fn _ _)
    | exact Eq.refl (AV.tup _)
    | exact Eq.refl AV.top))
    | (apply q_ld_box; exact rfl; exact rfl; exact rfl; exact rfl)
    | (apply q_not; exact rfl)))
  | (apply W.ed; (apply (e_callJ (js := []) (hg)); exact rfl; exact rfl; exact rfl; exact rfl; exact rfl; kernel_rfl; kernel_rfl))
  | (apply AWP.seq)
  | (apply ACont_normal)
  | (apply W.region; kernel_rfl)
  | (apply Walk.nil)
  | (apply AWP.ret)))
  exact ⟨.inl rfl, [0], [bV (!q x)], rfl, rfl, ⟨rfl, trivial⟩, AVle.of_eq rfl, rfl⟩
theorem A_every_nz0 (q : Int → Bool) (l : List Int) (hl : l.length ≤ 1000000000) (hg : ∀ x ∈ l, ACalls Tryd.prog 50 [iV x] [] (bV (q x)) []) : ACalls Tryd.prog 48 [ints l, .fn 50 []] [] (bV (l.all q)) [] := by
  refine acalls_of_bodyO Tryd.func48 rfl (Nat.le_of_ble_eq_true rfl) ?_
  have hc := A_contains_int (O := [.box [.fn 50 []]]) (g := 73) (caps := [.opt 0 0]) (fun x => !q x) l hl (by kernel_rfl) (fun x hx => A_every1_nz0 q x (hg x hx))
  (repeat' (first
  | (apply W.qd; (first
    | (apply q_mv; (first
    | exact Eq.refl (AV.d _)
    | exact Eq.refl (AV.osl _ _ _ _)
    | exact Eq.refl (AV.opt _ _)
    | exact Eq.refl (AV.agg _)
    | exact Eq.refl (AV.fpt _ _ _ _)
    | exact Eq.refl (AV.rpt _ _ _ _)
    | exact Eq.refl (AV.fn _ _)
    | exact Eq.refl (AV.tup _)
    | exact Eq.refl AV.top))
    | (apply q_as; (first
    | exact Eq.refl (AV.d _)
    | exact Eq.refl (AV.osl _ _ _ _)
    | exact Eq.refl (AV.opt _ _)
    | exact Eq.refl (AV.agg _)
    | exact Eq.refl (AV.fpt _ _ _ _)
    | exact Eq.refl (AV.rpt _ _ _ _)
    | exact Eq.refl (AV.fn _ _)
    | exact Eq.refl (AV.tup _)
    | exact Eq.refl AV.top))
    | (apply q_not; exact rfl)
    | (apply q_makeFunc)))
  | (apply W.ed; (first
    | (apply (e_callJ (js := [0]) (hc)); exact rfl; exact rfl; exact rfl; exact rfl; exact rfl; kernel_rfl; kernel_rfl)
    | (apply e_boxF; exact rfl; exact rfl; exact rfl; kernel_rfl; kernel_rfl)))
  | (apply AWP.seq)
  | (apply ACont_normal)
  | (apply W.region; kernel_rfl)
  | (apply Walk.nil)
  | (apply AWP.ret)))
  exact ⟨.inl rfl, [], [bV (!l.any fun x => !q x)], rfl, rfl, ⟨rfl, trivial⟩, AVle.of_eq (by rw [List.all_eq_not_any_not]; rfl), rfl⟩

theorem A_every1_tz0 (q : Int → Bool) (x : Int) (hg : ACalls Tryd.prog 78 [iV x] [] (bV (q x)) []) : ACalls Tryd.prog 73 [iV x, .opt 0 0] [.box [.fn 78 []]] (bV (!q x)) [.box [.fn 78 []]] := by
  refine acalls_of_bodyO Tryd.func73 rfl (Nat.le_of_ble_eq_true rfl) ?_
  (repeat' (first
  | (apply W.qd; (first
    | (apply q_mv; (first
    | exact Eq.refl (AV.d _)
    | exact Eq.refl (AV.osl _ _ _ _)
    | exact Eq.refl (AV.opt _ _)
    | exact Eq.refl (AV.agg _)
    | exact Eq.refl (AV.fpt _ _ _ _)
    | exact Eq.refl (AV.rpt _ _ _ _)
    | exact Eq.refl (AV.fn _ _)
    | exact Eq.refl (AV.tup _)
    | exact Eq.refl AV.top))
    | (apply q_as; (first
    | exact Eq.refl (AV.d _)
    | exact Eq.refl (AV.osl _ _ _ _)
    | exact Eq.refl (AV.opt _ _)
    | exact Eq.refl (AV.agg _)
    | exact Eq.refl (AV.fpt _ _ _ _)
    | exact Eq.refl (AV.rpt _ _ _ _)
    | exact Eq.refl (AV.fn _ _)
    | exact Eq.refl (AV.tup _)
    | exact Eq.refl AV.top))
    | (apply q_ld_box; exact rfl; exact rfl; exact rfl; exact rfl)
    | (apply q_not; exact rfl)))
  | (apply W.ed; (apply (e_callJ (js := []) (hg)); exact rfl; exact rfl; exact rfl; exact rfl; exact rfl; kernel_rfl; kernel_rfl))
  | (apply AWP.seq)
  | (apply ACont_normal)
  | (apply W.region; kernel_rfl)
  | (apply Walk.nil)
  | (apply AWP.ret)))
  exact ⟨.inl rfl, [0], [bV (!q x)], rfl, rfl, ⟨rfl, trivial⟩, AVle.of_eq rfl, rfl⟩
theorem A_every_tz0 (q : Int → Bool) (l : List Int) (hl : l.length ≤ 1000000000) (hg : ∀ x ∈ l, ACalls Tryd.prog 78 [iV x] [] (bV (q x)) []) : ACalls Tryd.prog 48 [ints l, .fn 78 []] [] (bV (l.all q)) [] := by
  refine acalls_of_bodyO Tryd.func48 rfl (Nat.le_of_ble_eq_true rfl) ?_
  have hc := A_contains_int (O := [.box [.fn 78 []]]) (g := 73) (caps := [.opt 0 0]) (fun x => !q x) l hl (by kernel_rfl) (fun x hx => A_every1_tz0 q x (hg x hx))
  (repeat' (first
  | (apply W.qd; (first
    | (apply q_mv; (first
    | exact Eq.refl (AV.d _)
    | exact Eq.refl (AV.osl _ _ _ _)
    | exact Eq.refl (AV.opt _ _)
    | exact Eq.refl (AV.agg _)
    | exact Eq.refl (AV.fpt _ _ _ _)
    | exact Eq.refl (AV.rpt _ _ _ _)
    | exact Eq.refl (AV.fn _ _)
    | exact Eq.refl (AV.tup _)
    | exact Eq.refl AV.top))
    | (apply q_as; (first
    | exact Eq.refl (AV.d _)
    | exact Eq.refl (AV.osl _ _ _ _)
    | exact Eq.refl (AV.opt _ _)
    | exact Eq.refl (AV.agg _)
    | exact Eq.refl (AV.fpt _ _ _ _)
    | exact Eq.refl (AV.rpt _ _ _ _)
    | exact Eq.refl (AV.fn _ _)
    | exact Eq.refl (AV.tup _)
    | exact Eq.refl AV.top))
    | (apply q_not; exact rfl)
    | (apply q_makeFunc)))
  | (apply W.ed; (first
    | (apply (e_callJ (js := [0]) (hc)); exact rfl; exact rfl; exact rfl; exact rfl; exact rfl; kernel_rfl; kernel_rfl)
    | (apply e_boxF; exact rfl; exact rfl; exact rfl; kernel_rfl; kernel_rfl)))
  | (apply AWP.seq)
  | (apply ACont_normal)
  | (apply W.region; kernel_rfl)
  | (apply Walk.nil)
  | (apply AWP.ret)))
  exact ⟨.inl rfl, [], [bV (!l.any fun x => !q x)], rfl, rfl, ⟨rfl, trivial⟩, AVle.of_eq (by rw [List.all_eq_not_any_not]; rfl), rfl⟩

theorem A_every1_fv1 {M D : Int} {par : List (List Int)} (q : Int → Bool) (x : Int) (hg : ACalls Tryd.prog 49 [iV x, .opt 0 0] [.box [.d .any, iV M, iV D, rowsA par, .d .any]] (bV (q x)) [.box [.d .any, iV M, iV D, rowsA par, .d .any]]) : ACalls Tryd.prog 73 [iV x, .opt 1 0] [.box [.d .any, iV M, iV D, rowsA par, .d .any], .box [.fn 49 [.opt 0 0]]] (bV (!q x)) [.box [.d .any, iV M, iV D, rowsA par, .d .any], .box [.fn 49 [.opt 0 0]]] := by
  refine acalls_of_bodyO Tryd.func73 rfl (Nat.le_of_ble_eq_true rfl) ?_
  (repeat' (first
  | (apply W.qd; (first
    | (apply q_mv; (first
    | exact Eq.refl (AV.d _)
    | exact Eq.refl (AV.osl _ _ _ _)
    | exact Eq.refl (AV.opt _ _)
    | exact Eq.refl (AV.agg _)
    | exact Eq.refl (AV.fpt _ _ _ _)
    | exact Eq.refl (AV.rpt _ _ _ _)
    | exact Eq.refl (AV.fn _ _)
    | exact Eq.refl (AV.tup _)
    | exact Eq.refl AV.top))
    | (apply q_as; (first
    | exact Eq.refl (AV.d _)
    | exact Eq.refl (AV.osl _ _ _ _)
    | exact Eq.refl (AV.opt _ _)
    | exact Eq.refl (AV.agg _)
    | exact Eq.refl (AV.fpt _ _ _ _)
    | exact Eq.refl (AV.rpt _ _ _ _)
    | exact Eq.refl (AV.fn _ _)
    | exact Eq.refl (AV.tup _)
    | exact Eq.refl AV.top))
    | (apply q_ld_box; exact rfl; exact rfl; exact rfl; exact rfl)
    | (apply q_not; exact rfl)))
  | (apply W.ed; (apply (e_callJ (js := [0]) (hg)); exact rfl; exact rfl; exact rfl; exact rfl; exact rfl; kernel_rfl; kernel_rfl))
  | (apply AWP.seq)
  | (apply ACont_normal)
  | (apply W.region; kernel_rfl)
  | (apply Walk.nil)
  | (apply AWP.ret)))
  exact ⟨.inl rfl, [0, 1], [bV (!q x)], rfl, rfl, ⟨rfl, trivial⟩, AVle.of_eq rfl, rfl⟩
theorem A_every_fv1 {M D : Int} {par : List (List Int)} (q : Int → Bool) (l : List Int) (hl : l.length ≤ 1000000000) (hg : ∀ x ∈ l, ACalls Tryd.prog 49 [iV x, .opt 0 0] [.box [.d .any, iV M, iV D, rowsA par, .d .any]] (bV (q x)) [.box [.d .any, iV M, iV D, rowsA par, .d .any]]) : ACalls Tryd.prog 48 [ints l, .fn 49 [.opt 0 0]] [.box [.d .any, iV M, iV D, rowsA par, .d .any]] (bV (l.all q)) [.box [.d .any, iV M, iV D, rowsA par, .d .any]] := by
  refine acalls_of_bodyO Tryd.func48 rfl (Nat.le_of_ble_eq_true rfl) ?_
  have hc := A_contains_int (O := [.box [.d .any, iV M, iV D, rowsA par, .d .any], .box [.fn 49 [.opt 0 0]]]) (g := 73) (caps := [.opt 1 0]) (fun x => !q x) l hl (by kernel_rfl) (fun x hx => A_every1_fv1 q x (hg x hx))
  (repeat' (first
  | (apply W.qd; (first
    | (apply q_mv; (first
    | exact Eq.refl (AV.d _)
    | exact Eq.refl (AV.osl _ _ _ _)
    | exact Eq.refl (AV.opt _ _)
    | exact Eq.refl (AV.agg _)
    | exact Eq.refl (AV.fpt _ _ _ _)
    | exact Eq.refl (AV.rpt _ _ _ _)
    | exact Eq.refl (AV.fn _ _)
    | exact Eq.refl (AV.tup _)
    | exact Eq.refl AV.top))
    | (apply q_as; (first
    | exact Eq.refl (AV.d _)
    | exact Eq.refl (AV.osl _ _ _ _)
    | exact Eq.refl (AV.opt _ _)
    | exact Eq.refl (AV.agg _)
    | exact Eq.refl (AV.fpt _ _ _ _)
    | exact Eq.refl (AV.rpt _ _ _ _)
    | exact Eq.refl (AV.fn _ _)
    | exact Eq.refl (AV.tup _)
    | exact Eq.refl AV.top))
    | (apply q_not; exact rfl)
    | (apply q_makeFunc)))
  | (apply W.ed; (first
    | (apply (e_callJ (js := [0, 1]) (hc)); exact rfl; exact rfl; exact rfl; exact rfl; exact rfl; kernel_rfl; kernel_rfl)
    | (apply e_boxF; exact rfl; exact rfl; exact rfl; kernel_rfl; kernel_rfl)))
  | (apply AWP.seq)
  | (apply ACont_normal)
  | (apply W.region; kernel_rfl)
  | (apply Walk.nil)
  | (apply AWP.ret)))
  exact ⟨.inl rfl, [0], [bV (!l.any fun x => !q x)], rfl, rfl, ⟨rfl, trivial⟩, AVle.of_eq (by rw [List.all_eq_not_any_not]; rfl), rfl⟩

theorem A_every1_row1 {M D : Int} {par : List (List Int)} (q : List Int → Bool) (x : List Int) (hg : ACalls Tryd.prog 47 [ints x, .opt 0 0] [.box [.d .any, iV M, iV D, rowsA par, .d .any]] (bV (q x)) [.box [.d .any, iV M, iV D, rowsA par, .d .any]]) : ACalls Tryd.prog 71 [ints x, .opt 1 0] [.box [.d .any, iV M, iV D, rowsA par, .d .any], .box [.fn 47 [.opt 0 0]]] (bV (!q x)) [.box [.d .any, iV M, iV D, rowsA par, .d .any], .box [.fn 47 [.opt 0 0]]] := by
  refine acalls_of_bodyO Tryd.func71 rfl (Nat.le_of_ble_eq_true rfl) ?_
  (repeat' (first
  | (apply W.qd; (first
    | (apply q_mv; (first
    | exact Eq.refl (AV.d _)
    | exact Eq.refl (AV.osl _ _ _ _)
    | exact Eq.refl (AV.opt _ _)
    | exact Eq.refl (AV.agg _)
    | exact Eq.refl (AV.fpt _ _ _ _)
    | exact Eq.refl (AV.rpt _ _ _ _)
    | exact Eq.refl (AV.fn _ _)
    | exact Eq.refl (AV.tup _)
    | exact Eq.refl AV.top))
    | (apply q_as; (first
    | exact Eq.refl (AV.d _)
    | exact Eq.refl (AV.osl _ _ _ _)
    | exact Eq.refl (AV.opt _ _)
    | exact Eq.refl (AV.agg _)
    | exact Eq.refl (AV.fpt _ _ _ _)
    | exact Eq.refl (AV.rpt _ _ _ _)
    | exact Eq.refl (AV.fn _ _)
    | exact Eq.refl (AV.tup _)
    | exact Eq.refl AV.top))
    | (apply q_ld_box; exact rfl; exact rfl; exact rfl; exact rfl)
    | (apply q_not; exact rfl)))
  | (apply W.ed; (apply (e_callJ (js := [0]) (hg)); exact rfl; exact rfl; exact rfl; exact rfl; exact rfl; kernel_rfl; kernel_rfl))
  | (apply AWP.seq)
  | (apply ACont_normal)
  | (apply W.region; kernel_rfl)
  | (apply Walk.nil)
  | (apply AWP.ret)))
  exact ⟨.inl rfl, [0, 1], [bV (!q x)], rfl, rfl, ⟨rfl, trivial⟩, AVle.of_eq rfl, rfl⟩
theorem A_every_row1 {M D : Int} {par : List (List Int)} (q : List Int → Bool) (l : List (List Int)) (hl : l.length ≤ 1000000000) (hg : ∀ x ∈ l, ACalls Tryd.prog 47 [ints x, .opt 0 0] [.box [.d .any, iV M, iV D, rowsA par, .d .any]] (bV (q x)) [.box [.d .any, iV M, iV D, rowsA par, .d .any]]) : ACalls Tryd.prog 46 [rowsA l, .fn 47 [.opt 0 0]] [.box [.d .any, iV M, iV D, rowsA par, .d .any]] (bV (l.all q)) [.box [.d .any, iV M, iV D, rowsA par, .d .any]] := by
  refine acalls_of_bodyO Tryd.func46 rfl (Nat.le_of_ble_eq_true rfl) ?_
  have hc := A_contains_row (O := [.box [.d .any, iV M, iV D, rowsA par, .d .any], .box [.fn 47 [.opt 0 0]]]) (g := 71) (caps := [.opt 1 0]) (fun x => !q x) l hl (by kernel_rfl) (fun x hx => A_every1_row1 q x (hg x hx))
  (repeat' (first
  | (apply W.qd; (first
    | (apply q_mv; (first
    | exact Eq.refl (AV.d _)
    | exact Eq.refl (AV.osl _ _ _ _)
    | exact Eq.refl (AV.opt _ _)
    | exact Eq.refl (AV.agg _)
    | exact Eq.refl (AV.fpt _ _ _ _)
    | exact Eq.refl (AV.rpt _ _ _ _)
    | exact Eq.refl (AV.fn _ _)
    | exact Eq.refl (AV.tup _)
    | exact Eq.refl AV.top))
    | (apply q_as; (first
    | exact Eq.refl (AV.d _)
    | exact Eq.refl (AV.osl _ _ _ _)
    | exact Eq.refl (AV.opt _ _)
    | exact Eq.refl (AV.agg _)
    | exact Eq.refl (AV.fpt _ _ _ _)
    | exact Eq.refl (AV.rpt _ _ _ _)
    | exact Eq.refl (AV.fn _ _)
    | exact Eq.refl (AV.tup _)
    | exact Eq.refl AV.top))
    | (apply q_not; exact rfl)
    | (apply q_makeFunc)))
  | (apply W.ed; (first
    | (apply (e_callJ (js := [0, 1]) (hc)); exact rfl; exact rfl; exact rfl; exact rfl; exact rfl; kernel_rfl; kernel_rfl)
    | (apply e_boxF; exact rfl; exact rfl; exact rfl; kernel_rfl; kernel_rfl)))
  | (apply AWP.seq)
  | (apply ACont_normal)
  | (apply W.region; kernel_rfl)
  | (apply Walk.nil)
  | (apply AWP.ret)))
  exact ⟨.inl rfl, [0], [bV (!l.any fun x => !q x)], rfl, rfl, ⟨rfl, trivial⟩, AVle.of_eq (by rw [List.all_eq_not_any_not]; rfl), rfl⟩

theorem A_every1_str2 {M D : Int} {par : List (List Int)} {us : List (List Nat)} (q : List Nat → Bool) (x : List Nat) (hg : ACalls Tryd.prog 64 [bS x, .opt 1 0, .opt 0 0] [.box [.d .any, iV M, iV D, rowsA par, .d .any], .box [strs us]] (bV (q x)) [.box [.d .any, iV M, iV D, rowsA par, .d .any], .box [strs us]]) : ACalls Tryd.prog 85 [bS x, .opt 2 0] [.box [.d .any, iV M, iV D, rowsA par, .d .any], .box [strs us], .box [.fn 64 [.opt 1 0, .opt 0 0]]] (bV (!q x)) [.box [.d .any, iV M, iV D, rowsA par, .d .any], .box [strs us], .box [.fn 64 [.opt 1 0, .opt 0 0]]] := by
  refine acalls_of_bodyO Tryd.func85 rfl (Nat.le_of_ble_eq_true rfl) ?_
  (repeat' (first
  | (apply W.qd; (first
    | (apply q_mv; (first
    | exact Eq.refl (AV.d _)
    | exact Eq.refl (AV.osl _ _ _ _)
    | exact Eq.refl (AV.opt _ _)
    | exact Eq.refl (AV.agg _)
    | exact Eq.refl (AV.fpt _ _ _ _)
    | exact Eq.refl (AV.rpt _ _ _ _)
    | exact Eq.refl (AV.fn _ _)
    | exact Eq.refl (AV.tup _)
    | exact Eq.refl AV.top))
    | (apply q_as; (first
    | exact Eq.refl (AV.d _)
    | exact Eq.refl (AV.osl _ _ _ _)
    | exact Eq.refl (AV.opt _ _)
    | exact Eq.refl (AV.agg _)
    | exact Eq.refl (AV.fpt _ _ _ _)
    | exact Eq.refl (AV.rpt _ _ _ _)
    | exact Eq.refl (AV.fn _ _)
    | exact Eq.refl (AV.tup _)
    | exact Eq.refl AV.top))
    | (apply q_ld_box; exact rfl; exact rfl; exact rfl; exact rfl)
    | (apply q_not; exact rfl)))
  | (apply W.ed; (apply (e_callJ (js := [0, 1]) (hg)); exact rfl; exact rfl; exact rfl; exact rfl; exact rfl; kernel_rfl; kernel_rfl))
  | (apply AWP.seq)
  | (apply ACont_normal)
  | (apply W.region; kernel_rfl)
  | (apply Walk.nil)
  | (apply AWP.ret)))
  exact ⟨.inl rfl, [0, 1, 2], [bV (!q x)], rfl, rfl, ⟨rfl, trivial⟩, AVle.of_eq rfl, rfl⟩
theorem A_every_str2 {M D : Int} {par : List (List Int)} {us : List (List Nat)} (q : List Nat → Bool) (l : List (List Nat)) (hl : l.length ≤ 1000000000) (hg : ∀ x ∈ l, ACalls Tryd.prog 64 [bS x, .opt 1 0, .opt 0 0] [.box [.d .any, iV M, iV D, rowsA par, .d .any], .box [strs us]] (bV (q x)) [.box [.d .any, iV M, iV D, rowsA par, .d .any], .box [strs us]]) : ACalls Tryd.prog 63 [strs l, .fn 64 [.opt 1 0, .opt 0 0]] [.box [.d .any, iV M, iV D, rowsA par, .d .any], .box [strs us]] (bV (l.all q)) [.box [.d .any, iV M, iV D, rowsA par, .d .any], .box [strs us]] := by
  refine acalls_of_bodyO Tryd.func63 rfl (Nat.le_of_ble_eq_true rfl) ?_
  have hc := A_contains_str (O := [.box [.d .any, iV M, iV D, rowsA par, .d .any], .box [strs us], .box [.fn 64 [.opt 1 0, .opt 0 0]]]) (g := 85) (caps := [.opt 2 0]) (fun x => !q x) l hl (by kernel_rfl) (fun x hx => A_every1_str2 q x (hg x hx))
  (repeat' (first
  | (apply W.qd; (first
    | (apply q_mv; (first
    | exact Eq.refl (AV.d _)
    | exact Eq.refl (AV.osl _ _ _ _)
    | exact Eq.refl (AV.opt _ _)
    | exact Eq.refl (AV.agg _)
    | exact Eq.refl (AV.fpt _ _ _ _)
    | exact Eq.refl (AV.rpt _ _ _ _)
    | exact Eq.refl (AV.fn _ _)
    | exact Eq.refl (AV.tup _)
    | exact Eq.refl AV.top))
    | (apply q_as; (first
    | exact Eq.refl (AV.d _)
    | exact Eq.refl (AV.osl _ _ _ _)
    | exact Eq.refl (AV.opt _ _)
    | exact Eq.refl (AV.agg _)
    | exact Eq.refl (AV.fpt _ _ _ _)
    | exact Eq.refl (AV.rpt _ _ _ _)
    | exact Eq.refl (AV.fn _ _)
    | exact Eq.refl (AV.tup _)
    | exact Eq.refl AV.top))
    | (apply q_not; exact rfl)
    | (apply q_makeFunc)))
  | (apply W.ed; (first
    | (apply (e_callJ (js := [0, 1, 2]) (hc)); exact rfl; exact rfl; exact rfl; exact rfl; exact rfl; kernel_rfl; kernel_rfl)
    | (apply e_boxF; exact rfl; exact rfl; exact rfl; kernel_rfl; kernel_rfl)))
  | (apply AWP.seq)
  | (apply ACont_normal)
  | (apply W.region; kernel_rfl)
  | (apply Walk.nil)
  | (apply AWP.ret)))
  exact ⟨.inl rfl, [0, 1], [bV (!l.any fun x => !q x)], rfl, rfl, ⟨rfl, trivial⟩, AVle.of_eq (by rw [List.all_eq_not_any_not]; rfl), rfl⟩
end Go.Proofs.YtjaipchlnnjaeaaDoor
end

section
/- Package erasure over the machine of abstract values: Valid, Width. -/
namespace Go.Proofs.YtjaipchlnnjaeaaDoor
open Go.RowKit
set_option linter.unusedVariables false
set_option linter.unusedSimpArgs false
set_option maxHeartbeats 4000000
set_option maxRecDepth 100000
attribute [local irreducible] Quiet Eff OpOk AWPG ACont ABlock ACalls AGoto

/-- A code, its names unknown. -/
abbrev cdA (M D : Int) (par : List (List Int)) : AV := .agg [.d .any, iV M, iV D, rowsA par, .d .any]
/-- Is this row a row of a code? -/
def rowOk (M D : Int) (row : List Int) : Bool := decide ((row.length : Int) = D) && row.all (fun x => allF M [x]) && !(row.all fun x => decide (x = 0))
/-- Is this a code? -/
def validC (M D : Int) (par : List (List Int)) : Bool := allF M [0] && decide (1 ≤ D) && decide (par.length ≤ 32) && decide (D ≤ 32 - (par.length : Int)) && par.all (rowOk M D)
/-- Numbers of a machine. -/
structure CodeIn (par : List (List Int)) : Prop where
  row : ∀ r ∈ par, ∀ x ∈ r, x < 9223372036854775808
theorem A_ev1 {M D : Int} {par : List (List Int)} (x : Int) (hx : x < 9223372036854775808) : ACalls Tryd.prog 49 [iV x, .opt 0 0] [.box [.d .any, iV M, iV D, rowsA par, .d .any]] (bV (allF M [x])) [.box [.d .any, iV M, iV D, rowsA par, .d .any]] := by
  refine acalls_of_bodyO Tryd.func49 rfl (Nat.le_of_ble_eq_true rfl) ?_
  have hv := A_fvalid M x hx
  (repeat' (first
  | (apply W.qd; (first
    | (apply (q_callC (hv)); exact rfl; exact rfl; kernel_rfl; kernel_rfl; kernel_rfl)
    | (apply q_mv; (first
    | exact Eq.refl (AV.d _)
    | exact Eq.refl (AV.osl _ _ _ _)
    | exact Eq.refl (AV.opt _ _)
    | exact Eq.refl (AV.agg _)
    | exact Eq.refl (AV.fpt _ _ _ _)
    | exact Eq.refl (AV.rpt _ _ _ _)
    | exact Eq.refl (AV.fn _ _)
    | exact Eq.refl (AV.tup _)
    | exact Eq.refl AV.top))
    | (apply q_as; (first
    | exact Eq.refl (AV.d _)
    | exact Eq.refl (AV.osl _ _ _ _)
    | exact Eq.refl (AV.opt _ _)
    | exact Eq.refl (AV.agg _)
    | exact Eq.refl (AV.fpt _ _ _ _)
    | exact Eq.refl (AV.rpt _ _ _ _)
    | exact Eq.refl (AV.fn _ _)
    | exact Eq.refl (AV.tup _)
    | exact Eq.refl AV.top))
    | (apply q_fld_optF; exact rfl; exact rfl; exact rfl)
    | (apply q_ld_box; exact rfl; exact rfl; exact rfl; exact rfl)))
  | (apply AWP.seq)
  | (apply ACont_normal)
  | (apply W.region; kernel_rfl)
  | (apply Walk.nil)
  | (apply AWP.ret)))
  exact ⟨.inl rfl, [0], [bV (allF M [x])], rfl, rfl, ⟨rfl, trivial⟩, AVle.of_eq rfl, rfl⟩
theorem A_ev2 (x : Int) : ACalls Tryd.prog 50 [iV x] [] (bV (decide (x = 0))) [] := by
  refine acalls_of_bodyO Tryd.func50 rfl (Nat.le_of_ble_eq_true rfl) ?_
  (repeat' (first
  | (apply W.qd; (first
    | (apply q_mv; (first
    | exact Eq.refl (AV.d _)
    | exact Eq.refl (AV.osl _ _ _ _)
    | exact Eq.refl (AV.opt _ _)
    | exact Eq.refl (AV.agg _)
    | exact Eq.refl (AV.fpt _ _ _ _)
    | exact Eq.refl (AV.rpt _ _ _ _)
    | exact Eq.refl (AV.fn _ _)
    | exact Eq.refl (AV.tup _)
    | exact Eq.refl AV.top))
    | (apply q_as; (first
    | exact Eq.refl (AV.d _)
    | exact Eq.refl (AV.osl _ _ _ _)
    | exact Eq.refl (AV.opt _ _)
    | exact Eq.refl (AV.agg _)
    | exact Eq.refl (AV.fpt _ _ _ _)
    | exact Eq.refl (AV.rpt _ _ _ _)
    | exact Eq.refl (AV.fn _ _)
    | exact Eq.refl (AV.tup _)
    | exact Eq.refl AV.top))
    | (apply q_eql; exact rfl; exact rfl)))
  | (apply AWP.seq)
  | (apply ACont_normal)
  | (apply W.region; kernel_rfl)
  | (apply Walk.nil)
  | (apply AWP.ret)))
  exact ⟨.inl rfl, [], [bV (decide (x = 0))], rfl, rfl, ⟨rfl, trivial⟩, AVle.of_eq rfl, rfl⟩
theorem A_ev0 {M D : Int} {par : List (List Int)} (r : List Int) (hr : ((r.length : Int) = D → r.length ≤ 1000000000) ∧ ∀ x ∈ r, x < 9223372036854775808) : ACalls Tryd.prog 47 [ints r, .opt 0 0] [.box [.d .any, iV M, iV D, rowsA par, .d .any]] (bV (rowOk M D r)) [.box [.d .any, iV M, iV D, rowsA par, .d .any]] := by
  refine acalls_of_bodyO Tryd.func47 rfl (Nat.le_of_ble_eq_true rfl) ?_
  by_cases hrD : ¬ (r.length : Int) = D
  · have he : rowOk M D r = false := by unfold rowOk; rw [decide_eq_false hrD]; simp
    rw [he]
    (repeat' (first
  | (apply W.qd; (first
    | (apply q_mv; (first
    | exact Eq.refl (AV.d _)
    | exact Eq.refl (AV.osl _ _ _ _)
    | exact Eq.refl (AV.opt _ _)
    | exact Eq.refl (AV.agg _)
    | exact Eq.refl (AV.fpt _ _ _ _)
    | exact Eq.refl (AV.rpt _ _ _ _)
    | exact Eq.refl (AV.fn _ _)
    | exact Eq.refl (AV.tup _)
    | exact Eq.refl AV.top))
    | (apply q_as; (first
    | exact Eq.refl (AV.d _)
    | exact Eq.refl (AV.osl _ _ _ _)
    | exact Eq.refl (AV.opt _ _)
    | exact Eq.refl (AV.agg _)
    | exact Eq.refl (AV.fpt _ _ _ _)
    | exact Eq.refl (AV.rpt _ _ _ _)
    | exact Eq.refl (AV.fn _ _)
    | exact Eq.refl (AV.tup _)
    | exact Eq.refl AV.top))
    | (apply q_fld_optF; exact rfl; exact rfl; exact rfl)
    | (apply q_ld_box; exact rfl; exact rfl; exact rfl; exact rfl)
    | (apply q_eql; exact rfl; exact rfl)
    | (apply q_len_sl; exact rfl; exact rfl)
    | (apply (q_pickF (u := .d _)); exact rfl; exact rfl)))
  | (refine W.gOff _ _ rfl rfl (by intro h; cases h) ?_)
  | (apply AWP.seq)
  | (apply ACont_normal)
  | (apply W.region; kernel_rfl)
  | (apply Walk.nil)
  | (apply AWP.ret)
  | (refine W.gT _ _ rfl rfl (fun hb => ?_) (fun hb => ?_) <;> ((try simp only [hb, Bool.not_true, Bool.not_false]) <;> (try simp only [decide_eq_true_eq, decide_eq_false_iff_not, Bool.not_eq_true', Bool.not_eq_false', Int.not_lt, Int.not_le, List.length_map, not_true_eq_false] at hb) <;> (try (exfalso; omega))))))
    all_goals exact ⟨.inl rfl, [0], [bV false], rfl, rfl, ⟨rfl, trivial⟩, AVle.of_eq rfl, rfl⟩
  replace hr := And.intro (hr.1 (Classical.not_not.1 hrD)) hr.2
  have h1 := A_every_fv1 (M := M) (D := D) (par := par) (fun x => allF M [x]) r hr.1 fun x hx => A_ev1 x (hr.2 x hx)
  have h2 := A_every_nz0 (fun x => decide (x = 0)) r hr.1 fun x _ => A_ev2 x
  have he : rowOk M D r = (decide ((r.length : Int) = D) && r.all (fun x => allF M [x]) && !(r.all fun x => decide (x = 0))) := rfl
  replace he := Lib.hid he
  generalize r.all (fun x => allF M [x]) = b1 at *
  generalize r.all (fun x => decide (x = 0)) = b2 at *
  cases b1 <;> cases b2
  all_goals (repeat' (first
  | (apply W.gOn; exact rfl; exact rfl)
  | (apply W.qd; (first
    | (apply (q_callC (h2)); exact rfl; exact rfl; kernel_rfl; kernel_rfl; kernel_rfl)
    | (apply q_mv; (first
    | exact Eq.refl (AV.d _)
    | exact Eq.refl (AV.osl _ _ _ _)
    | exact Eq.refl (AV.opt _ _)
    | exact Eq.refl (AV.agg _)
    | exact Eq.refl (AV.fpt _ _ _ _)
    | exact Eq.refl (AV.rpt _ _ _ _)
    | exact Eq.refl (AV.fn _ _)
    | exact Eq.refl (AV.tup _)
    | exact Eq.refl AV.top))
    | (apply q_as; (first
    | exact Eq.refl (AV.d _)
    | exact Eq.refl (AV.osl _ _ _ _)
    | exact Eq.refl (AV.opt _ _)
    | exact Eq.refl (AV.agg _)
    | exact Eq.refl (AV.fpt _ _ _ _)
    | exact Eq.refl (AV.rpt _ _ _ _)
    | exact Eq.refl (AV.fn _ _)
    | exact Eq.refl (AV.tup _)
    | exact Eq.refl AV.top))
    | (apply q_fld_optF; exact rfl; exact rfl; exact rfl)
    | (apply q_ld_box; exact rfl; exact rfl; exact rfl; exact rfl)
    | (apply q_eql; exact rfl; exact rfl)
    | (apply q_not; exact rfl)
    | (apply q_len_sl; exact rfl; exact rfl)
    | (apply q_makeFunc)
    | (apply (q_pickT (u := .d _)); exact rfl; exact rfl)
    | (apply (q_pickF (u := .d _)); exact rfl; exact rfl)))
  | (apply W.ed; (apply (e_callJ (js := [0]) (h1)); exact rfl; exact rfl; exact rfl; exact rfl; exact rfl; kernel_rfl; kernel_rfl))
  | (refine W.gOff _ _ rfl rfl (by intro h; cases h) ?_)
  | (apply AWP.seq)
  | (apply ACont_normal)
  | (apply W.region; kernel_rfl)
  | (apply Walk.nil)
  | (apply AWP.ret)
  | (refine W.gT _ _ rfl rfl (fun hb => ?_) (fun hb => ?_) <;> ((try simp only [hb, Bool.not_true, Bool.not_false]) <;> (try simp only [decide_eq_true_eq, decide_eq_false_iff_not, Bool.not_eq_true', Bool.not_eq_false', Int.not_lt, Int.not_le, List.length_map, not_true_eq_false] at hb) <;> (try (exfalso; omega))))))
  all_goals first
    | (refine ⟨.inl rfl, [0], [bV true], rfl, rfl, ⟨rfl, trivial⟩, AVle.of_eq ?_, rfl⟩; rw [he.out]; simp [tupA, AV.frz, hb]; done)
    | (refine ⟨.inl rfl, [0], [bV false], rfl, rfl, ⟨rfl, trivial⟩, AVle.of_eq ?_, rfl⟩; rw [he.out]; simp [tupA, AV.frz, hb]; done)
theorem A_evalid {M D : Int} {par : List (List Int)} (hp : CodeIn par) : ACalls Tryd.prog 19 [cdA M D par] [] (bV (validC M D par)) [] := by
  refine acalls_of_bodyO Tryd.func19 rfl (Nat.le_of_ble_eq_true rfl) ?_
  have h0 := A_fvalid M 0 (by omega)
  by_cases hsm : ¬ (par.length ≤ 32 ∧ D ≤ 32)
  · have hml : (par.map rD).length = par.length := List.length_map _
    have he : validC M D par = false := by
      rw [Bool.eq_false_iff]
      intro h
      unfold validC at h
      simp only [Bool.and_eq_true, decide_eq_true_eq] at h
      omega
    rw [he]
    generalize allF M [0] = b2 at *
    cases b2
    all_goals (repeat' (first
  | (apply W.gOn; exact rfl; exact rfl)
  | (apply W.qd; (first
    | (apply (q_callC (h0)); exact rfl; exact rfl; kernel_rfl; kernel_rfl; kernel_rfl)
    | (apply q_mv; (first
    | exact Eq.refl (AV.d _)
    | exact Eq.refl (AV.osl _ _ _ _)
    | exact Eq.refl (AV.opt _ _)
    | exact Eq.refl (AV.agg _)
    | exact Eq.refl (AV.fpt _ _ _ _)
    | exact Eq.refl (AV.rpt _ _ _ _)
    | exact Eq.refl (AV.fn _ _)
    | exact Eq.refl (AV.tup _)
    | exact Eq.refl AV.top))
    | (apply q_as; (first
    | exact Eq.refl (AV.d _)
    | exact Eq.refl (AV.osl _ _ _ _)
    | exact Eq.refl (AV.opt _ _)
    | exact Eq.refl (AV.agg _)
    | exact Eq.refl (AV.fpt _ _ _ _)
    | exact Eq.refl (AV.rpt _ _ _ _)
    | exact Eq.refl (AV.fn _ _)
    | exact Eq.refl (AV.tup _)
    | exact Eq.refl AV.top))
    | (apply q_fld_optF; exact rfl; exact rfl; exact rfl)
    | (apply q_ld_box; exact rfl; exact rfl; exact rfl; exact rfl)
    | (apply q_lss; exact rfl; exact rfl)
    | (apply q_gtr; exact rfl; exact rfl)
    | (apply q_not; exact rfl)
    | (apply q_sub; exact rfl; exact rfl; omega)
    | (apply q_len_sl; exact rfl; exact rfl)
    | (apply (q_pickT (u := .d _)); exact rfl; exact rfl)
    | (apply (q_pickF (u := .d _)); exact rfl; exact rfl)))
  | (apply W.ed; (apply e_boxF; exact rfl; exact rfl; exact rfl; kernel_rfl; kernel_rfl))
  | (refine W.gOff _ _ rfl rfl (by intro h; cases h) ?_)
  | (apply AWP.seq)
  | (apply ACont_normal)
  | (apply W.region; kernel_rfl)
  | (apply Walk.nil)
  | (apply AWP.ret)
  | (apply ACont_ret)
  | (apply W.condT; exact rfl)
  | (refine W.gF _ _ rfl rfl (fun hb => ?_) (fun hb => ?_) <;> ((try simp only [hb, Bool.not_true, Bool.not_false]) <;> (try simp only [decide_eq_true_eq, decide_eq_false_iff_not, Bool.not_eq_true', Bool.not_eq_false', Int.not_lt, Int.not_le, List.length_map, not_true_eq_false] at hb) <;> (try (exfalso; omega))))
  | (refine W.cond _ rfl (fun hb => ?_) (fun hb => ?_) <;> ((try simp only [hb, Bool.not_true, Bool.not_false]) <;> (try simp only [decide_eq_true_eq, decide_eq_false_iff_not, Bool.not_eq_true', Bool.not_eq_false', Int.not_lt, Int.not_le, List.length_map, not_true_eq_false] at hb) <;> (try (exfalso; omega))))))
    all_goals exact ⟨.inl rfl, [], [bV false], rfl, rfl, ⟨rfl, trivial⟩, AVle.of_eq rfl, rfl⟩
  replace hsm := Classical.not_not.1 hsm
  have h1 := A_every_row1 (M := M) (D := D) (par := par) (rowOk M D) par (by omega) fun r hr => A_ev0 r ⟨fun e => by omega, hp.row r hr⟩
  have hlen := hsm.1
  have hml : (par.map rD).length = par.length := List.length_map _
  have he : validC M D par = (allF M [0] && decide (1 ≤ D) && decide (par.length ≤ 32) && decide (D ≤ 32 - (par.length : Int)) && par.all (rowOk M D)) := rfl
  replace he := Lib.hid he
  generalize par.all (rowOk M D) = b1 at *
  generalize allF M [0] = b2 at *
  cases b2
  all_goals (repeat' (first
  | (apply W.gOn; exact rfl; exact rfl)
  | (apply W.qd; (first
    | (apply (q_callC (h0)); exact rfl; exact rfl; kernel_rfl; kernel_rfl; kernel_rfl)
    | (apply q_mv; (first
    | exact Eq.refl (AV.d _)
    | exact Eq.refl (AV.osl _ _ _ _)
    | exact Eq.refl (AV.opt _ _)
    | exact Eq.refl (AV.agg _)
    | exact Eq.refl (AV.fpt _ _ _ _)
    | exact Eq.refl (AV.rpt _ _ _ _)
    | exact Eq.refl (AV.fn _ _)
    | exact Eq.refl (AV.tup _)
    | exact Eq.refl AV.top))
    | (apply q_as; (first
    | exact Eq.refl (AV.d _)
    | exact Eq.refl (AV.osl _ _ _ _)
    | exact Eq.refl (AV.opt _ _)
    | exact Eq.refl (AV.agg _)
    | exact Eq.refl (AV.fpt _ _ _ _)
    | exact Eq.refl (AV.rpt _ _ _ _)
    | exact Eq.refl (AV.fn _ _)
    | exact Eq.refl (AV.tup _)
    | exact Eq.refl AV.top))
    | (apply q_fld_optF; exact rfl; exact rfl; exact rfl)
    | (apply q_ld_box; exact rfl; exact rfl; exact rfl; exact rfl)
    | (apply q_lss; exact rfl; exact rfl)
    | (apply q_gtr; exact rfl; exact rfl)
    | (apply q_not; exact rfl)
    | (apply q_sub; exact rfl; exact rfl; omega)
    | (apply q_len_sl; exact rfl; exact rfl)
    | (apply q_makeFunc)
    | (apply (q_pickT (u := .d _)); exact rfl; exact rfl)
    | (apply (q_pickF (u := .d _)); exact rfl; exact rfl)))
  | (apply W.ed; (first
    | (apply (e_callJ (js := [0]) (h1)); exact rfl; exact rfl; exact rfl; exact rfl; exact rfl; kernel_rfl; kernel_rfl)
    | (apply e_boxF; exact rfl; exact rfl; exact rfl; kernel_rfl; kernel_rfl)))
  | (refine W.gOff _ _ rfl rfl (by intro h; cases h) ?_)
  | (apply AWP.seq)
  | (apply ACont_normal)
  | (apply W.region; kernel_rfl)
  | (apply Walk.nil)
  | (apply AWP.skip)
  | (apply AWP.ret)
  | (apply ACont_ret)
  | (apply W.condT; exact rfl)
  | (refine W.gF _ _ rfl rfl (fun hb => ?_) (fun hb => ?_) <;> ((try simp only [hb, Bool.not_true, Bool.not_false]) <;> (try simp only [decide_eq_true_eq, decide_eq_false_iff_not, Bool.not_eq_true', Bool.not_eq_false', Int.not_lt, Int.not_le, List.length_map, not_true_eq_false] at hb) <;> (try (exfalso; omega))))
  | (refine W.cond _ rfl (fun hb => ?_) (fun hb => ?_) <;> ((try simp only [hb, Bool.not_true, Bool.not_false]) <;> (try simp only [decide_eq_true_eq, decide_eq_false_iff_not, Bool.not_eq_true', Bool.not_eq_false', Int.not_lt, Int.not_le, List.length_map, not_true_eq_false] at hb) <;> (try (exfalso; omega))))))
  all_goals clear h0 h1
  all_goals first
    | (refine ⟨.inl rfl, [], [bV false], rfl, rfl, ⟨rfl, trivial⟩, AVle.of_eq ?_, rfl⟩
       rw [he.out]
       refine congrArg bV ?_
       symm
       rw [Bool.eq_false_iff]
       intro h
       (simp only [Bool.and_eq_true, decide_eq_true_eq, Bool.false_eq_true, false_and] at h) <;> omega)
    | (refine ⟨.inl rfl, [], [bV b1], rfl, rfl, ⟨rfl, trivial⟩, AVle.of_eq ?_, rfl⟩
       rw [he.out]
       refine congrArg bV ?_
       rw [decide_eq_true (show 1 ≤ D by omega), decide_eq_true (show par.length ≤ 32 by omega), decide_eq_true (show D ≤ 32 - (par.length : Int) by omega)]
       simp)
theorem A_ewidth {M D : Int} {par : List (List Int)} (hp : CodeIn par) : ACalls Tryd.prog 21 [cdA M D par] [] (iV (if validC M D par then D + (par.length : Int) else 0)) [] := by
  refine acalls_of_bodyO Tryd.func21 rfl (Nat.le_of_ble_eq_true rfl) ?_
  have h0 := A_evalid (M := M) (D := D) hp
  have hml : (par.map rD).length = par.length := List.length_map _
  cases hv : validC M D par
  · rw [hv] at h0
    (repeat' (first
  | (apply W.qd; (first
    | (apply (q_callC (h0)); exact rfl; exact rfl; kernel_rfl; kernel_rfl; kernel_rfl)
    | (apply q_as; (first
    | exact Eq.refl (AV.d _)
    | exact Eq.refl (AV.osl _ _ _ _)
    | exact Eq.refl (AV.opt _ _)
    | exact Eq.refl (AV.agg _)
    | exact Eq.refl (AV.fpt _ _ _ _)
    | exact Eq.refl (AV.rpt _ _ _ _)
    | exact Eq.refl (AV.fn _ _)
    | exact Eq.refl (AV.tup _)
    | exact Eq.refl AV.top))
    | (apply q_ld_boxF; exact rfl; exact rfl; exact rfl; exact rfl)
    | (apply q_not; exact rfl)))
  | (apply W.ed; (apply e_boxF; exact rfl; exact rfl; exact rfl; kernel_rfl; kernel_rfl))
  | (apply AWP.seq)
  | (apply ACont_normal)
  | (apply W.region; kernel_rfl)
  | (apply Walk.nil)
  | (apply AWP.ret)
  | (apply ACont_ret)
  | (apply W.condT; exact rfl)))
    exact ⟨.inl rfl, [], [iV 0], rfl, rfl, ⟨rfl, trivial⟩, AVle.of_eq rfl, rfl⟩
  · rw [hv] at h0
    have hD : 1 ≤ D ∧ D ≤ 32 ∧ par.length ≤ 32 := by
      unfold validC at hv
      simp only [Bool.and_eq_true, decide_eq_true_eq] at hv
      omega
    (repeat' (first
  | (apply W.qd; (first
    | (apply (q_callC (h0)); exact rfl; exact rfl; kernel_rfl; kernel_rfl; kernel_rfl)
    | (apply q_as; (first
    | exact Eq.refl (AV.d _)
    | exact Eq.refl (AV.osl _ _ _ _)
    | exact Eq.refl (AV.opt _ _)
    | exact Eq.refl (AV.agg _)
    | exact Eq.refl (AV.fpt _ _ _ _)
    | exact Eq.refl (AV.rpt _ _ _ _)
    | exact Eq.refl (AV.fn _ _)
    | exact Eq.refl (AV.tup _)
    | exact Eq.refl AV.top))
    | (apply q_fld_optF; exact rfl; exact rfl; exact rfl)
    | (apply q_ld_box; exact rfl; exact rfl; exact rfl; exact rfl)
    | (apply q_ld_boxF; exact rfl; exact rfl; exact rfl; exact rfl)
    | (apply q_not; exact rfl)
    | (apply q_add; exact rfl; exact rfl; omega)
    | (apply q_len_sl; exact rfl; exact rfl)))
  | (apply W.ed; (apply e_boxF; exact rfl; exact rfl; exact rfl; kernel_rfl; kernel_rfl))
  | (apply AWP.seq)
  | (apply ACont_normal)
  | (apply W.region; kernel_rfl)
  | (apply Walk.nil)
  | (apply AWP.skip)
  | (apply AWP.ret)
  | (apply W.condF; exact rfl)))
    exact ⟨.inl rfl, [], [iV (D + (par.length : Int))], rfl, rfl, ⟨iV_eq (by simp), trivial⟩, AVle.of_eq rfl, rfl⟩
end Go.Proofs.YtjaipchlnnjaeaaDoor
end

section
/- slices.Grow, slices.Concat over the machine of abstract values. -/
namespace Go.Proofs.YtjaipchlnnjaeaaDoor
open Go.RowKit
set_option linter.unusedVariables false
set_option linter.unusedSimpArgs false
set_option maxHeartbeats 4000000
set_option maxRecDepth 100000
attribute [local irreducible] Quiet Eff OpOk AWPG ACont ABlock ACalls AGoto

theorem A_grow {n : Nat} (h0 : 0 < n) (hn : n ≤ 1000000) : ACalls Tryd.prog 62 [.d (.v (.slice none 0 0)), iV n] [] (.osl 0 0 0 0) [.row 0 1 3 ((List.replicate n 0).map iD)] := by
  refine acalls_of_bodyO Tryd.func62 rfl (Nat.le_of_ble_eq_true rfl) ?_
  (repeat' (first
  | (apply W.qd; (first
    | (apply q_mv; (first
    | exact Eq.refl (AV.d _)
    | exact Eq.refl (AV.osl _ _ _ _)
    | exact Eq.refl (AV.opt _ _)
    | exact Eq.refl (AV.agg _)
    | exact Eq.refl (AV.fpt _ _ _ _)
    | exact Eq.refl (AV.rpt _ _ _ _)
    | exact Eq.refl (AV.fn _ _)
    | exact Eq.refl (AV.tup _)
    | exact Eq.refl AV.top))
    | (apply q_as; (first
    | exact Eq.refl (AV.d _)
    | exact Eq.refl (AV.osl _ _ _ _)
    | exact Eq.refl (AV.opt _ _)
    | exact Eq.refl (AV.agg _)
    | exact Eq.refl (AV.fpt _ _ _ _)
    | exact Eq.refl (AV.rpt _ _ _ _)
    | exact Eq.refl (AV.fn _ _)
    | exact Eq.refl (AV.tup _)
    | exact Eq.refl AV.top))
    | (apply q_lss; exact rfl; exact rfl)
    | (apply q_gtr; exact rfl; exact rfl)
    | (apply q_sub; exact rfl; exact rfl; omega)
    | (apply q_len_nil; exact rfl; exact rfl)
    | (apply q_slc_osl; exact rfl; exact rfl; exact rfl; (first | exact ⟨_, _, rfl, rfl⟩ | exact ⟨_, _, rfl, natI_spec rfl⟩ | exact ⟨_, _, rfl, (Int.toNat_of_nonneg (by omega)).symm⟩ | exact rfl); (first | exact ⟨_, _, rfl, rfl⟩ | exact ⟨_, _, rfl, natI_spec rfl⟩ | exact ⟨_, _, rfl, (Int.toNat_of_nonneg (by omega)).symm⟩ | exact rfl); omega; omega)
    | (apply q_cap_nil; exact rfl; exact rfl)
    | (apply q_slc_nil; exact rfl; exact rfl; (first | exact ⟨_, _, rfl, rfl⟩ | exact ⟨_, _, rfl, natI_spec rfl⟩ | exact ⟨_, _, rfl, (Int.toNat_of_nonneg (by omega)).symm⟩ | exact rfl); (first | exact ⟨_, _, rfl, rfl⟩ | exact ⟨_, _, rfl, natI_spec rfl⟩ | exact ⟨_, _, rfl, (Int.toNat_of_nonneg (by omega)).symm⟩ | exact rfl))))
  | (apply W.ed; (apply e_apz; exact rfl; exact rfl; (first | (with_reducible exact rfl) | exact natI_spec rfl | assumption | exact (Int.toNat_of_nonneg (by omega)).symm); exact rfl; exact rfl; exact rfl; exact rfl; exact rfl; exact rfl; exact rfl; omega; omega))
  | (apply AWP.seq)
  | (apply ACont_normal)
  | (apply W.region; kernel_rfl)
  | (apply Walk.nil)
  | (apply AWP.skip)
  | (apply AWP.ret)
  | (apply W.condF; exact rfl)
  | (refine W.cond _ rfl (fun hb => ?_) (fun hb => ?_) <;> ((try simp only [hb, Bool.not_true, Bool.not_false]) <;> (try simp only [decide_eq_true_eq, decide_eq_false_iff_not, Bool.not_eq_true', Bool.not_eq_false', Int.not_lt, Int.not_le, List.length_map, not_true_eq_false] at hb) <;> (try (exfalso; omega))))))
  have e : ((n : Int) - (((0 : Nat) : Int) - ((0 : Nat) : Int))).toNat = n := by omega
  rw [e]
  refine ⟨.inl rfl, [0], [.osl 0 0 0 0], rfl, rfl, ⟨rfl, trivial⟩, AVle.of_eq rfl, ?_⟩
  refine congrArg (fun z => [Ent.row 0 1 3 z]) ?_
  simp [List.map_replicate, iD]
theorem A_grow0 : ACalls Tryd.prog 62 [.d (.v (.slice none 0 0)), iV (0 : Nat)] [] (.d (.v (.slice none 0 0))) [] := by
  refine acalls_of_bodyO Tryd.func62 rfl (Nat.le_of_ble_eq_true rfl) ?_
  (repeat' (first
  | (apply W.qd; (first
    | (apply q_mv; (first
    | exact Eq.refl (AV.d _)
    | exact Eq.refl (AV.osl _ _ _ _)
    | exact Eq.refl (AV.opt _ _)
    | exact Eq.refl (AV.agg _)
    | exact Eq.refl (AV.fpt _ _ _ _)
    | exact Eq.refl (AV.rpt _ _ _ _)
    | exact Eq.refl (AV.fn _ _)
    | exact Eq.refl (AV.tup _)
    | exact Eq.refl AV.top))
    | (apply q_as; (first
    | exact Eq.refl (AV.d _)
    | exact Eq.refl (AV.osl _ _ _ _)
    | exact Eq.refl (AV.opt _ _)
    | exact Eq.refl (AV.agg _)
    | exact Eq.refl (AV.fpt _ _ _ _)
    | exact Eq.refl (AV.rpt _ _ _ _)
    | exact Eq.refl (AV.fn _ _)
    | exact Eq.refl (AV.tup _)
    | exact Eq.refl AV.top))
    | (apply q_lss; exact rfl; exact rfl)
    | (apply q_gtr; exact rfl; exact rfl)
    | (apply q_sub; exact rfl; exact rfl; omega)
    | (apply q_len_nil; exact rfl; exact rfl)
    | (apply q_cap_nil; exact rfl; exact rfl)))
  | (apply AWP.seq)
  | (apply ACont_normal)
  | (apply W.region; kernel_rfl)
  | (apply Walk.nil)
  | (apply AWP.skip)
  | (apply AWP.ret)
  | (apply W.condF; exact rfl)))
  exact ⟨.inl rfl, [], [.d (.v (.slice none 0 0))], rfl, rfl, ⟨rfl, trivial⟩, AVle.of_eq rfl, rfl⟩
/-- Rows of numbers that are not negative. -/
def rnD (l : List Nat) : List Dat := [.sl 1 (l.map kD)]
abbrev rowsN (l : List (List Nat)) : AV := .d (.sl 1 (l.map rnD))
theorem A_concat {ps : List (List Nat)} (hl : ps.length ≤ 1000) (hr : ∀ r ∈ ps, 0 < r.length ∧ r.length ≤ 1000) : ACalls Tryd.prog 40 [rowsN ps] [] (nats ps.flatten) [] := by
  refine acalls_of_body Tryd.func40 rfl (Nat.le_of_ble_eq_true rfl) ?_
  have hB : ∀ k (hk : k < ps.length), (ps.take (k + 1)).flatten = (ps.take k).flatten ++ ps[k] := fun k hk => by
    rw [← List.take_append_getElem hk, List.flatten_append, List.flatten_cons, List.flatten_nil, List.append_nil]
  have hBl : ∀ k, k ≤ ps.length → (ps.take k).flatten.length ≤ k * 1000 := fun k => by
    induction k with
    | zero => intro _; simp
    | succ k ih =>
      intro hk
      rw [hB k hk, List.length_append, Nat.add_mul]
      have := ih (by omega)
      have := (hr ps[k] (List.getElem_mem _)).2
      omega
  have hBn : (ps.take ps.length).flatten = ps.flatten := by rw [List.take_length]
  have hB0 : (ps.take 0).flatten = [] := rfl
  have hpos : 0 < ps.length → 0 < ps.flatten.length := fun h => by
    cases ps with
    | nil => simp at h
    | cons r rs =>
      have := (hr r (by simp)).1
      rw [List.flatten_cons, List.length_append]; omega
  have h0 : ps.length = 0 → ps.flatten = [] := fun h => by rw [List.eq_nil_of_length_eq_zero h]; rfl
  generalize hBd : (fun k => (ps.take k).flatten) = B
  have hBd : ∀ k, (ps.take k).flatten = B k := fun k => congrFun hBd k
  simp only [hBd] at hB hBl hBn hB0
  generalize ps.flatten = F at *
  replace hBd := Lib.hid hBd
  (repeat' (first
  | (apply W.qd; (first
    | (apply q_mv; (first
    | exact Eq.refl (AV.d _)
    | exact Eq.refl (AV.osl _ _ _ _)
    | exact Eq.refl (AV.opt _ _)
    | exact Eq.refl (AV.agg _)
    | exact Eq.refl (AV.fpt _ _ _ _)
    | exact Eq.refl (AV.rpt _ _ _ _)
    | exact Eq.refl (AV.fn _ _)
    | exact Eq.refl (AV.tup _)
    | exact Eq.refl AV.top))
    | (apply q_as; (first
    | exact Eq.refl (AV.d _)
    | exact Eq.refl (AV.osl _ _ _ _)
    | exact Eq.refl (AV.opt _ _)
    | exact Eq.refl (AV.agg _)
    | exact Eq.refl (AV.fpt _ _ _ _)
    | exact Eq.refl (AV.rpt _ _ _ _)
    | exact Eq.refl (AV.fn _ _)
    | exact Eq.refl (AV.tup _)
    | exact Eq.refl AV.top))
    | (apply q_len_sl; exact rfl; exact rfl)))
  | (apply AWP.seq)
  | (apply ACont_normal)
  | (apply W.region; kernel_rfl)
  | (apply Walk.nil)
  | (apply AWP.block)))
  refine AWP.loopW (α := Nat) (fun k => k ≤ ps.length) (fun k => ⟨[(11, iV k), (10, iV ps.length), (9, rowsN ps), (3, iV (B k).length), (0, rowsN ps)], []⟩) (fun k => ps.length - k) 0 (by omega) ?wk0 fun k hk => ?_
  case wk0 =>
    rw [hB0]
    exact ⟨[], rfl, rfl, rfl, rfl, iV_eq (by simp), rfl, rfl, rfl, trivial⟩
  by_cases hkl : k < ps.length
  · have hBk := Lib.hid (hB k hkl)
    have hc := hBl k (by omega)
    have hd := hr ps[k] (List.getElem_mem _)
    have hkl1 : k * 1000 ≤ 1000 * 1000 := Nat.mul_le_mul_right _ (by omega)
    have hml : (ps[k].map kD).length = ps[k].length := List.length_map _
    (repeat' (first
  | (apply W.qd; (first
    | (apply q_mv; (first
    | exact Eq.refl (AV.d _)
    | exact Eq.refl (AV.osl _ _ _ _)
    | exact Eq.refl (AV.opt _ _)
    | exact Eq.refl (AV.agg _)
    | exact Eq.refl (AV.fpt _ _ _ _)
    | exact Eq.refl (AV.rpt _ _ _ _)
    | exact Eq.refl (AV.fn _ _)
    | exact Eq.refl (AV.tup _)
    | exact Eq.refl AV.top))
    | (apply q_as; (first
    | exact Eq.refl (AV.d _)
    | exact Eq.refl (AV.osl _ _ _ _)
    | exact Eq.refl (AV.opt _ _)
    | exact Eq.refl (AV.agg _)
    | exact Eq.refl (AV.fpt _ _ _ _)
    | exact Eq.refl (AV.rpt _ _ _ _)
    | exact Eq.refl (AV.fn _ _)
    | exact Eq.refl (AV.tup _)
    | exact Eq.refl AV.top))
    | (apply q_lss; exact rfl; exact rfl)
    | (apply q_add; exact rfl; exact rfl; omega)
    | (apply q_len_sl; exact rfl; exact rfl)
    | (apply q_ld_map; exact rfl; exact rfl; exact rfl; (first | omega | (focus (simp; done))))
    | (apply q_ix_slF; exact rfl; exact rfl; exact rfl; exact rfl; (first | (with_reducible exact rfl) | exact natI_spec rfl | assumption | exact (Int.toNat_of_nonneg (by omega)).symm); (first | omega | (focus (simp only [List.length_map]; omega)) | (focus (simp; done)) | (focus (simp; omega))))))
  | (apply AWP.seq)
  | (apply ACont_normal)
  | (apply W.region; kernel_rfl)
  | (apply Walk.nil)
  | (apply AWP.block)
  | (apply AWP.skip)
  | (apply ABlock_normal)
  | (apply W.condF; exact rfl)
  | (refine W.cond _ rfl (fun hb => ?_) (fun hb => ?_) <;> ((try simp only [hb, Bool.not_true, Bool.not_false]) <;> (try simp only [decide_eq_true_eq, decide_eq_false_iff_not, Bool.not_eq_true', Bool.not_eq_false', Int.not_lt, Int.not_le, List.length_map, not_true_eq_false] at hb) <;> (try (exfalso; omega))))))
    refine ⟨k + 1, by omega, by omega, ?_⟩
    rw [hBk.out]
    refine ⟨[], rfl, rfl, rfl, iV_eq (by omega), rfl, rfl, iV_eq (by simp), rfl, trivial⟩
  · have e : ps.length = k := by omega
    subst e
    rw [hBn]
    have hc := hBl ps.length (Nat.le_refl _)
    rw [hBn] at hc
    by_cases hz : ps.length = 0
    · have hF := h0 hz
      subst hF
      have hg := A_grow0
      (repeat' (first
  | (apply W.qd; (first
    | (apply (q_callC (hg)); exact rfl; exact rfl; kernel_rfl; kernel_rfl; kernel_rfl)
    | (apply q_mv; (first
    | exact Eq.refl (AV.d _)
    | exact Eq.refl (AV.osl _ _ _ _)
    | exact Eq.refl (AV.opt _ _)
    | exact Eq.refl (AV.agg _)
    | exact Eq.refl (AV.fpt _ _ _ _)
    | exact Eq.refl (AV.rpt _ _ _ _)
    | exact Eq.refl (AV.fn _ _)
    | exact Eq.refl (AV.tup _)
    | exact Eq.refl AV.top))
    | (apply q_as; (first
    | exact Eq.refl (AV.d _)
    | exact Eq.refl (AV.osl _ _ _ _)
    | exact Eq.refl (AV.opt _ _)
    | exact Eq.refl (AV.agg _)
    | exact Eq.refl (AV.fpt _ _ _ _)
    | exact Eq.refl (AV.rpt _ _ _ _)
    | exact Eq.refl (AV.fn _ _)
    | exact Eq.refl (AV.tup _)
    | exact Eq.refl AV.top))
    | (apply q_lss; exact rfl; exact rfl)
    | (apply q_len_sl; exact rfl; exact rfl)))
  | (apply AWP.seq)
  | (apply ACont_normal)
  | (apply W.region; kernel_rfl)
  | (apply Walk.nil)
  | (apply AWP.block)
  | (apply AWP.exit)
  | (apply ACont_exit)
  | (apply ABlock_exit)
  | (refine W.cond _ rfl (fun hb => ?_) (fun hb => ?_) <;> ((try simp only [hb, Bool.not_true, Bool.not_false]) <;> (try simp only [decide_eq_true_eq, decide_eq_false_iff_not, Bool.not_eq_true', Bool.not_eq_false', Int.not_lt, Int.not_le, List.length_map, not_true_eq_false] at hb) <;> (try (exfalso; omega))))))
      refine AWP.loopW (α := Nat) (fun k => k = 0) (fun k => ⟨[(27, iV (0 : Nat)), (26, iV (0 : Nat)), (6, .d (.v (.slice none 0 0)))], []⟩) (fun k => k) 0 rfl ⟨[], rfl, rfl, rfl, rfl, iV_eq (by simp [hz]), rfl, trivial⟩ fun k hk => ?_
      (repeat' (first
  | (apply W.qd; (first
    | (apply q_mv; (first
    | exact Eq.refl (AV.d _)
    | exact Eq.refl (AV.osl _ _ _ _)
    | exact Eq.refl (AV.opt _ _)
    | exact Eq.refl (AV.agg _)
    | exact Eq.refl (AV.fpt _ _ _ _)
    | exact Eq.refl (AV.rpt _ _ _ _)
    | exact Eq.refl (AV.fn _ _)
    | exact Eq.refl (AV.tup _)
    | exact Eq.refl AV.top))
    | (apply q_as; (first
    | exact Eq.refl (AV.d _)
    | exact Eq.refl (AV.osl _ _ _ _)
    | exact Eq.refl (AV.opt _ _)
    | exact Eq.refl (AV.agg _)
    | exact Eq.refl (AV.fpt _ _ _ _)
    | exact Eq.refl (AV.rpt _ _ _ _)
    | exact Eq.refl (AV.fn _ _)
    | exact Eq.refl (AV.tup _)
    | exact Eq.refl AV.top))
    | (apply q_lss; exact rfl; exact rfl)))
  | (apply AWP.seq)
  | (apply ACont_normal)
  | (apply W.region; kernel_rfl)
  | (apply Walk.nil)
  | (apply AWP.exit)
  | (apply AWP.ret)
  | (apply ACont_exit)
  | (apply ABlock_exit)
  | (apply W.condF; exact rfl)))
      exact Ends.nil rfl rfl
    · have hF := hpos (by omega)
      have hg := A_grow hF (by omega)
      (repeat' (first
  | (apply W.qd; (first
    | (apply q_mv; (first
    | exact Eq.refl (AV.d _)
    | exact Eq.refl (AV.osl _ _ _ _)
    | exact Eq.refl (AV.opt _ _)
    | exact Eq.refl (AV.agg _)
    | exact Eq.refl (AV.fpt _ _ _ _)
    | exact Eq.refl (AV.rpt _ _ _ _)
    | exact Eq.refl (AV.fn _ _)
    | exact Eq.refl (AV.tup _)
    | exact Eq.refl AV.top))
    | (apply q_as; (first
    | exact Eq.refl (AV.d _)
    | exact Eq.refl (AV.osl _ _ _ _)
    | exact Eq.refl (AV.opt _ _)
    | exact Eq.refl (AV.agg _)
    | exact Eq.refl (AV.fpt _ _ _ _)
    | exact Eq.refl (AV.rpt _ _ _ _)
    | exact Eq.refl (AV.fn _ _)
    | exact Eq.refl (AV.tup _)
    | exact Eq.refl AV.top))
    | (apply q_lss; exact rfl; exact rfl)
    | (apply q_len_sl; exact rfl; exact rfl)))
  | (apply W.ed; (apply (e_callJ (js := []) (hg)); exact rfl; exact rfl; exact rfl; exact rfl; exact rfl; kernel_rfl; kernel_rfl))
  | (apply AWP.seq)
  | (apply ACont_normal)
  | (apply W.region; kernel_rfl)
  | (apply Walk.nil)
  | (apply AWP.block)
  | (apply AWP.exit)
  | (apply ACont_exit)
  | (apply ABlock_exit)
  | (refine W.cond _ rfl (fun hb => ?_) (fun hb => ?_) <;> ((try simp only [hb, Bool.not_true, Bool.not_false]) <;> (try simp only [decide_eq_true_eq, decide_eq_false_iff_not, Bool.not_eq_true', Bool.not_eq_false', Int.not_lt, Int.not_le, List.length_map, not_true_eq_false] at hb) <;> (try (exfalso; omega))))))
      refine AWP.shrink 6 0 rfl rfl rfl ?_
      refine AWP.loopW (α := Nat) (fun k => k ≤ ps.length) (fun k => ⟨[(27, iV k), (26, iV ps.length), (25, rowsN ps), (6, .osl 0 (k + 1) 0 (B k).length)], [.row (k + 1) 1 3 ((B k).map kD)]⟩) (fun k => ps.length - k) 0 (by omega) ?wk1 fun k hk => ?_
      case wk1 =>
        rw [hB0]
        exact ⟨[0], rfl, rfl, rfl, rfl, iV_eq (by simp), rfl, rfl, trivial⟩
      by_cases hkl : k < ps.length
      · have hBk := Lib.hid (hB k hkl)
        have hc := hBl k (by omega)
        have hd := hr ps[k] (List.getElem_mem _)
        have hkl1 : k * 1000 ≤ 1000 * 1000 := Nat.mul_le_mul_right _ (by omega)
        have hd1 := hd.1
        (repeat' (first
  | (apply W.qd; (first
    | (apply q_mv; (first
    | exact Eq.refl (AV.d _)
    | exact Eq.refl (AV.osl _ _ _ _)
    | exact Eq.refl (AV.opt _ _)
    | exact Eq.refl (AV.agg _)
    | exact Eq.refl (AV.fpt _ _ _ _)
    | exact Eq.refl (AV.rpt _ _ _ _)
    | exact Eq.refl (AV.fn _ _)
    | exact Eq.refl (AV.tup _)
    | exact Eq.refl AV.top))
    | (apply q_as; (first
    | exact Eq.refl (AV.d _)
    | exact Eq.refl (AV.osl _ _ _ _)
    | exact Eq.refl (AV.opt _ _)
    | exact Eq.refl (AV.agg _)
    | exact Eq.refl (AV.fpt _ _ _ _)
    | exact Eq.refl (AV.rpt _ _ _ _)
    | exact Eq.refl (AV.fn _ _)
    | exact Eq.refl (AV.tup _)
    | exact Eq.refl AV.top))
    | (apply q_lss; exact rfl; exact rfl)
    | (apply q_add; exact rfl; exact rfl; omega)
    | (apply q_ld_map; exact rfl; exact rfl; exact rfl; (first | omega | (focus (simp; done))))
    | (apply q_ix_slF; exact rfl; exact rfl; exact rfl; exact rfl; (first | (with_reducible exact rfl) | exact natI_spec rfl | assumption | exact (Int.toNat_of_nonneg (by omega)).symm); (first | omega | (focus (simp only [List.length_map]; omega)) | (focus (simp; done)) | (focus (simp; omega))))))
  | (apply W.ed; (apply e_appN; exact rfl; exact rfl; exact rfl; exact rfl; exact rfl; exact rfl; exact rfl; exact rfl; (first | assumption | omega); omega))
  | (apply AWP.seq)
  | (apply ACont_normal)
  | (apply W.region; kernel_rfl)
  | (apply Walk.nil)
  | (apply AWP.block)
  | (apply AWP.skip)
  | (apply ABlock_normal)
  | (refine W.cond _ rfl (fun hb => ?_) (fun hb => ?_) <;> ((try simp only [hb, Bool.not_true, Bool.not_false]) <;> (try simp only [decide_eq_true_eq, decide_eq_false_iff_not, Bool.not_eq_true', Bool.not_eq_false', Int.not_lt, Int.not_le, List.length_map, not_true_eq_false] at hb) <;> (try (exfalso; omega))))))
        refine ⟨k + 1, by omega, by omega, ?_⟩
        rw [hBk.out]
        exact ⟨[0], rfl, rfl, rfl, iV_eq (by omega), rfl, rfl, rfl, trivial⟩
      · have e : ps.length = k := by omega
        subst e
        rw [hBn]
        (repeat' (first
  | (apply W.qd; (first
    | (apply q_mv; (first
    | exact Eq.refl (AV.d _)
    | exact Eq.refl (AV.osl _ _ _ _)
    | exact Eq.refl (AV.opt _ _)
    | exact Eq.refl (AV.agg _)
    | exact Eq.refl (AV.fpt _ _ _ _)
    | exact Eq.refl (AV.rpt _ _ _ _)
    | exact Eq.refl (AV.fn _ _)
    | exact Eq.refl (AV.tup _)
    | exact Eq.refl AV.top))
    | (apply q_as; (first
    | exact Eq.refl (AV.d _)
    | exact Eq.refl (AV.osl _ _ _ _)
    | exact Eq.refl (AV.opt _ _)
    | exact Eq.refl (AV.agg _)
    | exact Eq.refl (AV.fpt _ _ _ _)
    | exact Eq.refl (AV.rpt _ _ _ _)
    | exact Eq.refl (AV.fn _ _)
    | exact Eq.refl (AV.tup _)
    | exact Eq.refl AV.top))
    | (apply q_lss; exact rfl; exact rfl)))
  | (apply AWP.seq)
  | (apply ACont_normal)
  | (apply W.region; kernel_rfl)
  | (apply Walk.nil)
  | (apply AWP.exit)
  | (apply AWP.ret)
  | (apply ACont_exit)
  | (apply ABlock_exit)
  | (refine W.cond _ rfl (fun hb => ?_) (fun hb => ?_) <;> ((try simp only [hb, Bool.not_true, Bool.not_false]) <;> (try simp only [decide_eq_true_eq, decide_eq_false_iff_not, Bool.not_eq_true', Bool.not_eq_false', Int.not_lt, Int.not_le, List.length_map, not_true_eq_false] at hb) <;> (try (exfalso; omega))))))
        exact Ends.osl rfl rfl (by simp) rfl
end Go.Proofs.YtjaipchlnnjaeaaDoor
end

section
/- Package erasure over the machine of abstract values: valid codes as data; Generator. -/
namespace Go.Proofs.YtjaipchlnnjaeaaDoor
open Go.RowKit
set_option linter.unusedVariables false
set_option linter.unusedSimpArgs false
set_option maxHeartbeats 4000000
set_option maxRecDepth 100000
attribute [local irreducible] Quiet Eff OpOk AWPG ACont ABlock ACalls AGoto

/-- A valid code: a field, data units, the parity units' rows. -/
structure CodeOk (M D : Nat) (ps : List (List Nat)) : Prop where
  f : FldM M
  d : 1 ≤ D
  w : D + ps.length ≤ 32
  row : ∀ r ∈ ps, r.length = D ∧ (∀ x ∈ r, x < 2 ^ M) ∧ ∃ x ∈ r, x ≠ 0
abbrev cdN (M D : Nat) (ps : List (List Nat)) : AV := .agg [.d .any, iV M, iV D, rowsN ps, .d .any]
/-- Numbers that are not negative, as numbers. -/
def toZ (ps : List (List Nat)) : List (List Int) := ps.map fun r => r.map fun n : Nat => (n : Int)
theorem rowsN_A (ps : List (List Nat)) : ps.map rnD = (toZ ps).map rD := by
  unfold toZ
  rw [List.map_map]
  apply List.map_congr_left
  intro r _
  show [Dat.sl 1 (r.map kD)] = [Dat.sl 1 ((r.map fun n : Nat => (n : Int)).map iD)]
  rw [List.map_map]
  rfl
theorem cdN_A (M D : Nat) (ps : List (List Nat)) : cdN M D ps = cdA M D (toZ ps) := by
  show AV.agg [.d .any, iV M, iV D, .d (.sl 1 (ps.map rnD)), .d .any] = _
  rw [rowsN_A]
theorem allF1 {M n : Nat} (hM : FldM M) (h : n < 2 ^ M) : allF M [(n : Int)] = true := by
  unfold allF
  rw [decide_eq_true (show ((M : Int) = 8 ∨ (M : Int) = 16) by unfold FldM at hM; omega), Bool.true_and, List.all_cons, List.all_nil, Bool.and_true]
  exact inF_lt hM h
theorem valid_ok {M D : Nat} {ps : List (List Nat)} (h : CodeOk M D ps) : validC M D (toZ ps) = true := by
  have h1 := h.d
  have h2 := h.w
  have h3 := allF1 h.f (Nat.two_pow_pos M)
  have hl : (toZ ps).length = ps.length := List.length_map _
  unfold validC
  rw [hl, decide_eq_true (show 1 ≤ (D : Int) by omega), decide_eq_true (show ps.length ≤ 32 by omega), decide_eq_true (show (D : Int) ≤ 32 - (ps.length : Int) by omega)]
  rw [show allF M [0] = true from h3]
  simp only [Bool.true_and]
  unfold toZ
  rw [List.all_map, List.all_eq_true]
  intro r hr
  obtain ⟨r1, r2, x, r3, r4⟩ := h.row r hr
  show rowOk M D (r.map fun n : Nat => (n : Int)) = true
  unfold rowOk
  rw [List.length_map, decide_eq_true (show (r.length : Int) = D by omega), Bool.true_and, List.all_map, List.all_map, Bool.and_eq_true]
  refine ⟨List.all_eq_true.2 fun y hy => allF1 h.f (r2 y hy), ?_⟩
  rw [Bool.not_eq_true', List.all_eq_false]
  refine ⟨x, r3, ?_⟩
  simp; omega
theorem code_in {M D : Nat} {ps : List (List Nat)} (h : CodeOk M D ps) : CodeIn (toZ ps) := by
  have h2 := h.w
  refine ⟨fun r hr x hx => ?_⟩
  obtain ⟨s, hs, rfl⟩ := List.mem_map.1 hr
  obtain ⟨r1, r2, _⟩ := h.row s hs
  obtain ⟨n, hn, rfl⟩ := List.mem_map.1 hx
  have := r2 n hn
  have h16 := h.f.pow
  omega
theorem ok_valid {M D : Int} {par : List (List Int)} (h : validC M D par = true) : ∃ (m d : Nat) (ps : List (List Nat)), M = m ∧ D = d ∧ par = toZ ps ∧ CodeOk m d ps := by
  unfold validC at h
  simp only [Bool.and_eq_true, decide_eq_true_eq] at h
  obtain ⟨⟨⟨⟨h1, h2⟩, h3⟩, h4⟩, h5⟩ := h
  have hm : M = 8 ∨ M = 16 := by
    unfold allF at h1
    rw [Bool.and_eq_true, decide_eq_true_eq] at h1
    exact h1.1
  obtain ⟨m, rfl⟩ := Int.eq_ofNat_of_zero_le (show 0 ≤ M by omega)
  obtain ⟨d, rfl⟩ := Int.eq_ofNat_of_zero_le (show 0 ≤ D by omega)
  have hM : FldM m := by unfold FldM; omega
  have key : ∀ par : List (List Int), par.all (rowOk m d) = true → ∃ ps, par = toZ ps ∧ ∀ r ∈ ps, r.length = d ∧ (∀ x ∈ r, x < 2 ^ m) ∧ ∃ x ∈ r, x ≠ 0 := by
    intro par
    induction par with
    | nil => intro _; exact ⟨[], rfl, fun r hr => by cases hr⟩
    | cons r par ih =>
      intro h
      rw [List.all_cons, Bool.and_eq_true] at h
      obtain ⟨ps, h6, h7⟩ := ih h.2
      have h8 := h.1
      unfold rowOk at h8
      simp only [Bool.and_eq_true, decide_eq_true_eq] at h8
      obtain ⟨⟨h9, h10⟩, h11⟩ := h8
      have hr : ∃ s : List Nat, r = s.map (fun n : Nat => (n : Int)) ∧ ∀ x ∈ s, x < 2 ^ m := by
        clear h9 h11 h
        induction r with
        | nil => exact ⟨[], rfl, fun x hx => by cases hx⟩
        | cons y r ihr =>
          rw [List.all_cons, Bool.and_eq_true] at h10
          obtain ⟨s, rfl, hs⟩ := ihr h10.2
          have hy := h10.1
          unfold allF at hy
          rw [Bool.and_eq_true, List.all_cons, List.all_nil, Bool.and_true] at hy
          obtain ⟨n, rfl, hn⟩ := inF_nat hM hy.2
          exact ⟨n :: s, rfl, fun x hx => by
            rcases List.mem_cons.1 hx with rfl | hx
            · exact hn
            · exact hs x hx⟩
      obtain ⟨s, rfl, hs⟩ := hr
      refine ⟨s :: ps, by rw [h6]; rfl, fun x hx => ?_⟩
      rcases List.mem_cons.1 hx with rfl | hx
      · refine ⟨by rw [List.length_map] at h9; omega, hs, ?_⟩
        rw [Bool.not_eq_true', List.all_eq_false] at h11
        obtain ⟨y, hy, hy2⟩ := h11
        obtain ⟨n, hn, rfl⟩ := List.mem_map.1 hy
        exact ⟨n, hn, by simp at hy2; omega⟩
      · exact h7 x hx
  obtain ⟨ps, rfl, h6⟩ := key par h5
  have hl : (toZ ps).length = ps.length := List.length_map _
  exact ⟨m, d, ps, rfl, rfl, rfl, hM, by omega, by omega, h6⟩
theorem A_evalidN {M D : Nat} {ps : List (List Nat)} (h : CodeOk M D ps) : ACalls Tryd.prog 19 [cdN M D ps] [] (bV true) [] := by
  have := A_evalid (M := M) (D := D) (code_in h)
  rwa [valid_ok h, ← cdN_A] at this
theorem A_ewidthN {M D : Nat} {ps : List (List Nat)} (h : CodeOk M D ps) : ACalls Tryd.prog 21 [cdN M D ps] [] (iV (D + ps.length : Nat)) [] := by
  have := A_ewidth (M := M) (D := D) (code_in h)
  rw [valid_ok h, if_pos rfl, ← cdN_A] at this
  rwa [show ((D + ps.length : Nat) : Int) = (D : Int) + ((toZ ps).length : Int) by unfold toZ; rw [List.length_map]; omega]
/-- Ones on the diagonal, n of them. -/
def idAt (D : Nat) : Nat → List Nat
  | 0 => List.replicate (D * D) 0
  | n + 1 => (idAt D n).set (n * D + n) 1
theorem idAt_length (D n : Nat) : (idAt D n).length = D * D := by
  induction n with
  | zero => rw [idAt, List.length_replicate]
  | succ n ih => rw [idAt, List.length_set, ih]
/-- The generator matrix's elements. -/
def genN (D : Nat) (ps : List (List Nat)) : List Nat := idAt D D ++ ps.flatten
theorem flatten_length {D : Nat} : ∀ {ps : List (List Nat)}, (∀ r ∈ ps, r.length = D) → ps.flatten.length = ps.length * D
  | [], _ => by simp
  | r :: ps, h => by
    rw [List.flatten_cons, List.length_append, flatten_length fun s hs => h s (by simp [hs]), h r (by simp), List.length_cons, Nat.add_mul, Nat.one_mul]; omega
theorem idAt_lt {M : Nat} (hM : FldM M) (D n : Nat) : ∀ x ∈ idAt D n, x < 2 ^ M := by
  induction n with
  | zero => intro x hx; rw [idAt] at hx; rw [List.eq_of_mem_replicate hx]; exact Nat.two_pow_pos M
  | succ n ih =>
    intro x hx
    rw [idAt] at hx
    rcases List.mem_or_eq_of_mem_set hx with hx | rfl
    · exact ih x hx
    · have := hM.pow; unfold FldM at hM; rcases hM with rfl | rfl <;> omega
theorem gen_ok {M D : Nat} {ps : List (List Nat)} (h : CodeOk M D ps) : MxOk M (D + ps.length) D (genN D ps) := by
  have h1 := h.w
  refine ⟨h.f, h.w, by omega, ?_, fun x hx => ?_⟩
  · rw [genN, List.length_append, idAt_length, flatten_length fun r hr => (h.row r hr).1, Nat.add_mul]
  · rcases List.mem_append.1 hx with hx | hx
    · exact idAt_lt h.f _ _ x hx
    · obtain ⟨r, hr, hx⟩ := List.mem_flatten.1 hx
      exact (h.row r hr).2.1 x hx
theorem A_egen {M D : Nat} {ps : List (List Nat)} (h : CodeOk M D ps) : ACalls Tryd.prog 14 [cdN M D ps] [] (.tup [mx M (D + ps.length : Nat) D (genN D ps), iV 0]) [] := by
  refine acalls_of_body Tryd.func14 rfl (Nat.le_of_ble_eq_true rfl) ?_
  have h1 := h.d
  have h2 := h.w
  have hv := A_evalidN h
  have hw := A_ewidthN h
  have hc := A_concat (ps := ps) (by omega) fun r hr => by have := (h.row r hr).1; omega
  have h4 : D * D ≤ 1024 := Nat.mul_le_mul (show D ≤ 32 by omega) (show D ≤ 32 by omega)
  refine AWP.hole rfl (AWP.hole rfl (AWP.hole rfl ?_))
  (repeat' (first
  | (apply W.qd; (first
    | (apply (q_callC (hv)); exact rfl; exact rfl; kernel_rfl; kernel_rfl; kernel_rfl)
    | (apply (q_callC (hw)); exact rfl; exact rfl; kernel_rfl; kernel_rfl; kernel_rfl)
    | (apply q_mv; (first
    | exact Eq.refl (AV.d _)
    | exact Eq.refl (AV.osl _ _ _ _)
    | exact Eq.refl (AV.opt _ _)
    | exact Eq.refl (AV.agg _)
    | exact Eq.refl (AV.fpt _ _ _ _)
    | exact Eq.refl (AV.rpt _ _ _ _)
    | exact Eq.refl (AV.fn _ _)
    | exact Eq.refl (AV.tup _)
    | exact Eq.refl AV.top))
    | (apply q_as; (first
    | exact Eq.refl (AV.d _)
    | exact Eq.refl (AV.osl _ _ _ _)
    | exact Eq.refl (AV.opt _ _)
    | exact Eq.refl (AV.agg _)
    | exact Eq.refl (AV.fpt _ _ _ _)
    | exact Eq.refl (AV.rpt _ _ _ _)
    | exact Eq.refl (AV.fn _ _)
    | exact Eq.refl (AV.tup _)
    | exact Eq.refl AV.top))
    | (apply q_fld_optF; exact rfl; exact rfl; exact rfl)
    | (apply q_ld_box; exact rfl; exact rfl; exact rfl; exact rfl)
    | (apply q_ld_boxF; exact rfl; exact rfl; exact rfl; exact rfl)
    | (apply q_not; exact rfl)
    | (apply q_mul; exact rfl; exact rfl; (first | omega | assumption))
    | (apply q_buildF; exact rfl; exact rfl; kernel_rfl)))
  | (apply W.ld; (first
    | (apply l_alloc; exact rfl; exact rfl; exact rfl; kernel_rfl; kernel_rfl)
    | (apply (l_make (f := kD) 0); exact rfl; exact rfl; exact rfl; (first | (with_reducible exact rfl) | exact natI_spec rfl | assumption | exact (Int.toNat_of_nonneg (by omega)).symm); exact rfl; exact rfl; exact rfl; exact rfl; exact rfl; exact rfl; kernel_rfl; omega)))
  | (apply W.ed; (apply e_boxF; exact rfl; exact rfl; exact rfl; kernel_rfl; kernel_rfl))
  | (apply W.ln; (apply l_st_box; exact rfl; exact rfl; exact rfl; exact rfl; exact rfl; exact rfl; kernel_rfl; kernel_rfl; kernel_rfl))
  | (apply AWP.seq)
  | (apply ACont_normal)
  | (apply W.region; kernel_rfl)
  | (apply W.regionD; exact rfl; kernel_rfl)
  | (apply Walk.nil)
  | (apply W.chk; kernel_rfl)
  | (apply AWP.block)
  | (apply AWP.skip)
  | (apply W.condF; exact rfl)))
  have e0 : ((D : Int) * (D : Int)).toNat = D * D := by rw [← Int.natCast_mul, Int.toNat_natCast]
  rw [e0]
  refine AWP.loopW (α := Nat) (fun i => i ≤ D) (fun i => ⟨[(25, iV i), (24, iV D), (4, .opt 2 0), (2, .opt 0 0), (1, .opt 3 0), (3, iV 0)], [.box [iV 0, iV 0, iV 0, .d (.v (.slice none 0 0))], .row 0 1 3 ((idAt D i).map kD), .box [iV M, iV (D + ps.length : Nat), iV D, .osl 1 0 0 (D * D)], .box [.d .any, iV M, iV D, rowsN ps, .d .any]]⟩) (fun i => D - i) 0 (by omega) ⟨[0, 1, 2, 3], rfl, rfl, rfl, by (repeat (first | exact trivial | refine ⟨rfl, ?_⟩))⟩ fun i hi => ?_
  have hil := idAt_length D i
  by_cases hiD : i < D
  · have hT : idAt D (i + 1) = (idAt D i).set (i * D + i) 1 := rfl
    replace hT := Lib.hid hT
    have hid2 : i * D + D ≤ D * D := by
      have := Nat.mul_le_mul_right D (show i + 1 ≤ D from hiD)
      rw [Nat.add_mul, Nat.one_mul] at this
      omega
    generalize idAt D i = B at *
    have h8 : -9223372036854775808 ≤ (i : Int) * (D : Int) ∧ (i : Int) * (D : Int) < 9223372036854775808 := by omega
    (repeat' (first
  | (apply W.qd; (first
    | (apply q_mv; (first
    | exact Eq.refl (AV.d _)
    | exact Eq.refl (AV.osl _ _ _ _)
    | exact Eq.refl (AV.opt _ _)
    | exact Eq.refl (AV.agg _)
    | exact Eq.refl (AV.fpt _ _ _ _)
    | exact Eq.refl (AV.rpt _ _ _ _)
    | exact Eq.refl (AV.fn _ _)
    | exact Eq.refl (AV.tup _)
    | exact Eq.refl AV.top))
    | (apply q_as; (first
    | exact Eq.refl (AV.d _)
    | exact Eq.refl (AV.osl _ _ _ _)
    | exact Eq.refl (AV.opt _ _)
    | exact Eq.refl (AV.agg _)
    | exact Eq.refl (AV.fpt _ _ _ _)
    | exact Eq.refl (AV.rpt _ _ _ _)
    | exact Eq.refl (AV.fn _ _)
    | exact Eq.refl (AV.tup _)
    | exact Eq.refl AV.top))
    | (apply q_fld_optF; exact rfl; exact rfl; exact rfl)
    | (apply q_ld_box; exact rfl; exact rfl; exact rfl; exact rfl)
    | (apply q_lss; exact rfl; exact rfl)
    | (apply q_add; exact rfl; exact rfl; omega)
    | (apply q_mul; exact rfl; exact rfl; (first | omega | assumption))
    | (apply q_ix_osl0; exact rfl; exact rfl; exact rfl; exact rfl; (first | (with_reducible exact rfl) | exact natI_spec rfl | assumption | exact (Int.toNat_of_nonneg (by omega)).symm); (first | omega | (focus (simp only [List.length_map]; omega)) | (focus (simp; done)) | (focus (simp; omega))))))
  | (apply W.ln; (apply l_st_rpt; exact rfl; exact rfl; exact rfl; exact rfl; exact rfl; exact rfl; exact rfl; exact fun _ => rfl; (first | omega | (focus (simp only [List.length_map]; omega)) | (focus (simp; omega)))))
  | (apply AWP.seq)
  | (apply ACont_normal)
  | (apply W.region; kernel_rfl)
  | (apply Walk.nil)
  | (apply AWP.block)
  | (apply AWP.skip)
  | (apply ABlock_normal)
  | (refine W.cond _ rfl (fun hb => ?_) (fun hb => ?_) <;> ((try simp only [hb, Bool.not_true, Bool.not_false]) <;> (try simp only [decide_eq_true_eq, decide_eq_false_iff_not, Bool.not_eq_true', Bool.not_eq_false', Int.not_lt, Int.not_le, List.length_map, not_true_eq_false] at hb) <;> (try (exfalso; omega))))))
    have e1 : ((i : Int) * (D : Int) + (i : Int)).toNat = i * D + i := by
      rw [← Int.natCast_mul, ← Int.natCast_add, Int.toNat_natCast]
    refine ⟨i + 1, by omega, by omega, ?_⟩
    rw [hT.out, e1]
    exact ⟨[0, 1, 2, 3], rfl, rfl, rfl, iV_eq (by omega), rfl, rfl, rfl, rfl, rfl, trivial⟩
  · have e : D = i := by omega
    subst e
    by_cases hps : ps = []
    · subst hps
      have hg : genN D [] = idAt D D := List.append_nil _
      rw [hg]
      generalize idAt D D = B at *
      (repeat' (first
  | (apply W.qd; (first
    | (apply (q_callC (hc)); exact rfl; exact rfl; kernel_rfl; kernel_rfl; kernel_rfl)
    | (apply q_as; (first
    | exact Eq.refl (AV.d _)
    | exact Eq.refl (AV.osl _ _ _ _)
    | exact Eq.refl (AV.opt _ _)
    | exact Eq.refl (AV.agg _)
    | exact Eq.refl (AV.fpt _ _ _ _)
    | exact Eq.refl (AV.rpt _ _ _ _)
    | exact Eq.refl (AV.fn _ _)
    | exact Eq.refl (AV.tup _)
    | exact Eq.refl AV.top))
    | (apply q_fld_optF; exact rfl; exact rfl; exact rfl)
    | (apply q_ld_box; exact rfl; exact rfl; exact rfl; exact rfl)
    | (apply q_ld_boxF; exact rfl; exact rfl; exact rfl; exact rfl)
    | (apply q_lss; exact rfl; exact rfl)
    | (apply q_app0; exact rfl; exact rfl; exact rfl; exact rfl)))
  | (apply W.ln; (apply l_st_box; exact rfl; exact rfl; exact rfl; exact rfl; exact rfl; exact rfl; kernel_rfl; kernel_rfl; kernel_rfl))
  | (apply AWP.seq)
  | (apply ACont_normal)
  | (apply W.region; kernel_rfl)
  | (apply W.regionD; exact rfl; kernel_rfl)
  | (apply Walk.nil)
  | (apply W.chk; kernel_rfl)
  | (apply AWP.exit)
  | (apply AWP.ret)
  | (apply ACont_exit)
  | (apply ABlock_exit)
  | (refine W.cond _ rfl (fun hb => ?_) (fun hb => ?_) <;> ((try simp only [hb, Bool.not_true, Bool.not_false]) <;> (try simp only [decide_eq_true_eq, decide_eq_false_iff_not, Bool.not_eq_true', Bool.not_eq_false', Int.not_lt, Int.not_le, List.length_map, not_true_eq_false] at hb) <;> (try (exfalso; omega))))))
      refine Ends.cell2 rfl rfl rfl rfl ?_
      have hz := frz_row (own := [Ent.box [iV M, iV (D + ([] : List (List Nat)).length : Nat), iV D, .osl 1 0 0 (D * D)], .row 0 1 3 (B.map kD), .box [iV M, iV (D + ([] : List (List Nat)).length : Nat), iV D, .osl 1 0 0 (D * D)], .box [.d .any, iV M, iV D, rowsN [], .d .any]]) (i := 1) rfl (by simp [hil] : D * D = (B.map kD).length)
      exact congrArg (fun z => AV.tup [AV.agg [iV M, iV (D + ([] : List (List Nat)).length : Nat), iV D, z], iV 0]) hz
    · have hF : 0 < ps.flatten.length := by
        rw [flatten_length fun r hr => (h.row r hr).1]
        exact Nat.mul_pos (List.length_pos_iff.2 hps) (by omega)
      have hF2 : ps.flatten.length ≤ 1024 := by
        rw [flatten_length fun r hr => (h.row r hr).1]
        exact Nat.mul_le_mul (show ps.length ≤ 32 by omega) (show D ≤ 32 by omega)
      have hg : genN D ps = idAt D D ++ ps.flatten := rfl
      generalize ps.flatten = G at *
      generalize genN D ps = R at *
      replace hg := Lib.hid hg
      generalize idAt D D = B at *
      rw [← hil]
      (repeat' (first
  | (apply W.qd; (first
    | (apply (q_callC (hc)); exact rfl; exact rfl; kernel_rfl; kernel_rfl; kernel_rfl)
    | (apply q_as; (first
    | exact Eq.refl (AV.d _)
    | exact Eq.refl (AV.osl _ _ _ _)
    | exact Eq.refl (AV.opt _ _)
    | exact Eq.refl (AV.agg _)
    | exact Eq.refl (AV.fpt _ _ _ _)
    | exact Eq.refl (AV.rpt _ _ _ _)
    | exact Eq.refl (AV.fn _ _)
    | exact Eq.refl (AV.tup _)
    | exact Eq.refl AV.top))
    | (apply q_fld_optF; exact rfl; exact rfl; exact rfl)
    | (apply q_ld_box; exact rfl; exact rfl; exact rfl; exact rfl)
    | (apply q_ld_boxF; exact rfl; exact rfl; exact rfl; exact rfl)
    | (apply q_lss; exact rfl; exact rfl)))
  | (apply W.ed; (apply e_appN; exact rfl; exact rfl; exact rfl; exact rfl; exact rfl; exact rfl; exact rfl; exact rfl; (first | assumption | omega); omega))
  | (apply W.ln; (apply l_st_box; exact rfl; exact rfl; exact rfl; exact rfl; exact rfl; exact rfl; kernel_rfl; kernel_rfl; kernel_rfl))
  | (apply AWP.seq)
  | (apply ACont_normal)
  | (apply W.region; kernel_rfl)
  | (apply W.regionD; exact rfl; kernel_rfl)
  | (apply Walk.nil)
  | (apply W.chk; kernel_rfl)
  | (apply AWP.exit)
  | (apply AWP.ret)
  | (apply ACont_exit)
  | (apply ABlock_exit)
  | (refine W.cond _ rfl (fun hb => ?_) (fun hb => ?_) <;> ((try simp only [hb, Bool.not_true, Bool.not_false]) <;> (try simp only [decide_eq_true_eq, decide_eq_false_iff_not, Bool.not_eq_true', Bool.not_eq_false', Int.not_lt, Int.not_le, List.length_map, not_true_eq_false] at hb) <;> (try (exfalso; omega))))))
      refine Ends.cell2 rfl rfl rfl rfl ?_
      rw [hg.out]
      have hz := frz_row (own := [Ent.box [iV M, iV (D + ps.length : Nat), iV D, .osl 1 (0 + 1) 0 (B ++ G).length], .row (0 + 1) 1 3 ((B ++ G).map kD), .box [iV M, iV (D + ps.length : Nat), iV D, .osl 1 (0 + 1) 0 (B ++ G).length], .box [.d .any, iV M, iV D, rowsN ps, .d .any]]) (i := 1) rfl (by simp : (B ++ G).length = ((B ++ G).map kD).length)
      exact congrArg (fun z => AV.tup [AV.agg [iV M, iV (D + ps.length : Nat), iV D, z], iV 0]) hz
end Go.Proofs.YtjaipchlnnjaeaaDoor
end

section
/- Package erasure over the machine of abstract values: Basis. -/
namespace Go.Proofs.YtjaipchlnnjaeaaDoor
open Go.RowKit
set_option linter.unusedVariables false
set_option linter.unusedSimpArgs false
set_option maxHeartbeats 4000000
set_option maxRecDepth 100000
attribute [local irreducible] Quiet Eff OpOk AWPG ACont ABlock ACalls AGoto

theorem frz_rowJ {own : List Ent} {js : List Nat} {i ver n sz : Nat} {e : TypeId} {l : List (List Dat)} (ho : own[i]? = some (.row ver sz e l)) (hj : plc js i = none) (hn : n = l.length) : AV.frz own js (.osl i ver 0 n) = .d (.sl sz l) := by
  simp [AV.frz, frzSl, ho, hj, hn]
theorem AVle.tup2 {x x' y y' : AV} (h1 : AVle x x') (h2 : AVle y y') : AVle (.tup [x, y]) (.tup [x', y']) := fun F own κ w u hs => by
  rw [AV.sat] at hs ⊢
  obtain ⟨vs, e, h⟩ := hs
  refine ⟨vs, e, ?_⟩
  generalize vs.toList = us at h
  match us, h with
  | [a, b], h =>
    simp only [AV.satL] at h ⊢
    exact ⟨h1 _ _ _ _ _ h.1, h2 _ _ _ _ _ h.2.1, trivial⟩
theorem Ends.nil2 {P : Program} {env : List (Nat × AV)} {own : List Ent} {t t' sz : Nat} {y : AV} (hx : look env t = .d (.v (.slice none 0 0))) (hy : look env t' = y) (hf : AV.frz own [] y = y) : Ends P [.tmp t, .tmp t'] (.tup [.d (.sl sz []), y]) [] .ret ⟨env, own⟩ :=
  ⟨.inl rfl, [], [.d (.v (.slice none 0 0)), y], rfl, ⟨hx, hy, trivial⟩, by
    show AVle (.tup [_, AV.frz own [] y]) _
    rw [hf]
    exact AVle.tup2 (AVle.nil sz) (AVle.of_eq rfl), rfl⟩
/-- The units that are present, of the first i. -/
def presAt (hv : List Bool) (i : Nat) : List Nat := (List.range i).filter fun k => hv.getD k false
theorem presAt_succ (hv : List Bool) (i : Nat) : presAt hv (i + 1) = if hv.getD i false = true then presAt hv i ++ [i] else presAt hv i := by
  unfold presAt
  rw [List.range_succ, List.filter_append]
  cases h : hv.getD i false <;> (rw [List.getD_eq_getElem?_getD] at h; simp [List.filter_cons, h])
abbrev presN (hv : List Bool) : List Nat := presAt hv hv.length
theorem presAt_lt {hv : List Bool} {i x : Nat} (h : x ∈ presAt hv i) : x < i := by
  have := (List.mem_filter.1 h).1
  simpa using this
theorem presAt_length (hv : List Bool) (i : Nat) : (presAt hv i).length ≤ i := by
  unfold presAt
  exact Nat.le_trans (List.length_filter_le _ _) (by simp)
/-- The basis. -/
def basisN (M D : Nat) (ps : List (List Nat)) (hv : List Bool) : List Nat :=
  (red M D (presN hv).length (trN (presN hv).length D (pickN D (genN D ps) (presN hv))) (presN hv).length).2.map fun j => (presN hv).getD j 0
theorem red_lt {M R C : Nat} {L : List Nat} (n : Nat) : ∀ j ∈ (red M R C L n).2, j < n := by
  induction n with
  | zero => intro j hj; simp [red] at hj
  | succ n ih =>
    intro j hj
    rw [red, redStep] at hj
    dsimp only at hj
    split at hj
    · have := ih j hj; omega
    · rcases List.mem_append.1 hj with h | h
      · have := ih j h; omega
      · have : j = n := by simpa using h
        omega
theorem A_ebasis {M D : Nat} {ps : List (List Nat)} {hv : List Bool} (h : CodeOk M D ps) (hl : hv.length = D + ps.length) : ACalls Tryd.prog 28 [cdN M D ps, bools hv] [] (.tup [nats (basisN M D ps hv), iV 0]) [] := by
  refine acalls_of_body Tryd.func28 rfl (Nat.le_of_ble_eq_true rfl) ?_
  have h1 := h.d
  have h2 := h.w
  have hgen := A_egen h
  have hok := gen_ok h
  have hpl : (presN hv).length ≤ hv.length := presAt_length hv hv.length
  have hplt : ∀ x ∈ presN hv, x < D + ps.length := fun x hx => by have := presAt_lt hx; omega
  have hpick := A_mpick hok h1 hplt (by omega)
  have hind := A_mindependent (pick_ok hok hplt (by omega))
  have hrl := red_lt (M := M) (R := D) (C := (presN hv).length) (L := trN (presN hv).length D (pickN D (genN D ps) (presN hv))) (presN hv).length
  have hBas : basisN M D ps hv = (red M D (presN hv).length (trN (presN hv).length D (pickN D (genN D ps) (presN hv))) (presN hv).length).2.map fun j => (presN hv).getD j 0 := rfl
  have hbe : presN hv = [] → basisN M D ps hv = [] := fun e => by rw [hBas, e]; rfl
  have hred := red_ok (M := M) (R := D) (C := (presN hv).length) (L := trN (presN hv).length D (pickN D (genN D ps) (presN hv))) h.f (trN_length _ _ _) (trN_lt (pick_ok hok hplt (by omega)).e) (presN hv).length
  have hpr := hred.pr
  generalize (red M D (presN hv).length (trN (presN hv).length D (pickN D (genN D ps) (presN hv))) (presN hv).length).2 = J at *
  generalize pickN D (genN D ps) (presN hv) = PK at *
  generalize genN D ps = GN at *
  generalize basisN M D ps hv = B at *
  clear hok hred
  have hsucc := fun i => Lib.hid (presAt_succ hv i)
  have hpl0 := fun i => presAt_length hv i
  have hml : (hv.map tD).length = hv.length := List.length_map _
  (repeat' (first
  | (apply W.gOn; exact rfl; exact rfl)
  | (apply W.qd; (first
    | (apply (q_callC (hgen)); exact rfl; exact rfl; kernel_rfl; kernel_rfl; kernel_rfl)
    | (apply q_mv; (first
    | exact Eq.refl (AV.d _)
    | exact Eq.refl (AV.osl _ _ _ _)
    | exact Eq.refl (AV.opt _ _)
    | exact Eq.refl (AV.agg _)
    | exact Eq.refl (AV.fpt _ _ _ _)
    | exact Eq.refl (AV.rpt _ _ _ _)
    | exact Eq.refl (AV.fn _ _)
    | exact Eq.refl (AV.tup _)
    | exact Eq.refl AV.top))
    | (apply q_as; (first
    | exact Eq.refl (AV.d _)
    | exact Eq.refl (AV.osl _ _ _ _)
    | exact Eq.refl (AV.opt _ _)
    | exact Eq.refl (AV.agg _)
    | exact Eq.refl (AV.fpt _ _ _ _)
    | exact Eq.refl (AV.rpt _ _ _ _)
    | exact Eq.refl (AV.fn _ _)
    | exact Eq.refl (AV.tup _)
    | exact Eq.refl AV.top))
    | (apply q_fld_optF; exact rfl; exact rfl; exact rfl)
    | (apply q_ld_box; exact rfl; exact rfl; exact rfl; exact rfl)
    | (apply q_ld_boxF; exact rfl; exact rfl; exact rfl; exact rfl)
    | (apply q_neq; exact rfl; exact rfl)
    | (apply q_extract; exact rfl; exact rfl)
    | (apply q_len_sl; exact rfl; exact rfl)
    | (apply (q_pickF (u := .d _)); exact rfl; exact rfl)))
  | (apply W.ed; (first
    | (apply e_boxF; exact rfl; exact rfl; exact rfl; kernel_rfl; kernel_rfl)
    | (apply e_allocF; exact rfl; exact rfl; exact rfl; kernel_rfl)))
  | (apply W.ln; (apply l_st_box; exact rfl; exact rfl; exact rfl; exact rfl; exact rfl; exact rfl; kernel_rfl; kernel_rfl; kernel_rfl))
  | (apply AWP.seq)
  | (apply ACont_normal)
  | (apply W.region; kernel_rfl)
  | (apply Walk.nil)
  | (apply AWP.block)
  | (apply AWP.skip)
  | (refine W.cond _ rfl (fun hb => ?_) (fun hb => ?_) <;> ((try simp only [hb, Bool.not_true, Bool.not_false]) <;> (try simp only [decide_eq_true_eq, decide_eq_false_iff_not, Bool.not_eq_true', Bool.not_eq_false', Int.not_lt, Int.not_le, List.length_map, not_true_eq_false] at hb) <;> (try (exfalso; omega))))))
  refine AWP.nilRow 8 1 3 rfl (by omega) ?_
  refine AWP.loopW (α := Nat) (fun i => i ≤ hv.length) (fun i => ⟨[(32, iV i), (31, iV hv.length), (30, bools hv), (8, .osl 2 (presAt hv i).length 0 (presAt hv i).length), (2, .opt 0 0), (6, .opt 1 0)], [.box [.d .any, iV M, iV D, rowsN ps, .d .any], .box [iV M, iV (D + ps.length : Nat), iV D, nats GN], .row (presAt hv i).length 1 3 ((presAt hv i).map kD)]⟩) (fun i => hv.length - i) 0 (by omega) ?wk0 fun i hi => ?_
  case wk0 =>
    rw [show presAt hv 0 = [] from rfl]
    exact ⟨[0, 1, 2], rfl, rfl, rfl, rfl, iV_eq (by simp), rfl, rfl, rfl, rfl, trivial⟩
  by_cases hil : i < hv.length
  · have hs := hsucc i
    have hi0 := hpl0 i
    rw [List.getD_eq_getElem?_getD, List.getElem?_eq_getElem hil] at hs
    generalize presAt hv i = P at *
    (repeat' (first
  | (apply W.qd; (first
    | (apply q_mv; (first
    | exact Eq.refl (AV.d _)
    | exact Eq.refl (AV.osl _ _ _ _)
    | exact Eq.refl (AV.opt _ _)
    | exact Eq.refl (AV.agg _)
    | exact Eq.refl (AV.fpt _ _ _ _)
    | exact Eq.refl (AV.rpt _ _ _ _)
    | exact Eq.refl (AV.fn _ _)
    | exact Eq.refl (AV.tup _)
    | exact Eq.refl AV.top))
    | (apply q_as; (first
    | exact Eq.refl (AV.d _)
    | exact Eq.refl (AV.osl _ _ _ _)
    | exact Eq.refl (AV.opt _ _)
    | exact Eq.refl (AV.agg _)
    | exact Eq.refl (AV.fpt _ _ _ _)
    | exact Eq.refl (AV.rpt _ _ _ _)
    | exact Eq.refl (AV.fn _ _)
    | exact Eq.refl (AV.tup _)
    | exact Eq.refl AV.top))
    | (apply q_lss; exact rfl; exact rfl)
    | (apply q_add; exact rfl; exact rfl; omega)
    | (apply q_ld_map; exact rfl; exact rfl; exact rfl; (first | omega | (focus (simp; done))))
    | (apply q_litF; exact rfl; exact rfl; exact rfl; exact rfl; exact rfl; kernel_rfl; kernel_rfl; exact rfl)
    | (apply q_ix_slF; exact rfl; exact rfl; exact rfl; exact rfl; (first | (with_reducible exact rfl) | exact natI_spec rfl | assumption | exact (Int.toNat_of_nonneg (by omega)).symm); (first | omega | (focus (simp only [List.length_map]; omega)) | (focus (simp; done)) | (focus (simp; omega))))))
  | (apply W.ed; (apply e_app1F; exact rfl; exact rfl; exact rfl; exact rfl; exact rfl; exact rfl; exact rfl; exact rfl; (first | omega | (focus (simp; omega)) | (focus (simp; done)))))
  | (apply AWP.seq)
  | (apply ACont_normal)
  | (apply W.region; kernel_rfl)
  | (apply Walk.nil)
  | (apply AWP.block)
  | (apply AWP.skip)
  | (apply ABlock_normal)
  | (refine W.cond _ rfl (fun hb => ?_) (fun hb => ?_) <;> ((try simp only [hb, Bool.not_true, Bool.not_false]) <;> (try simp only [decide_eq_true_eq, decide_eq_false_iff_not, Bool.not_eq_true', Bool.not_eq_false', Int.not_lt, Int.not_le, List.length_map, not_true_eq_false] at hb) <;> (try (exfalso; omega))))))
    · rw [if_pos (by simpa using hb)] at hs
      refine ⟨i + 1, by omega, by omega, ?_⟩
      rw [hs.out, show (P ++ [i]).length = P.length + 1 by simp]
      exact ⟨[0, 1, 2], rfl, rfl, rfl, iV_eq (by omega), rfl, rfl, congrArg (AV.osl 2 (P.length + 1) 0) (by simp), rfl, rfl, trivial⟩
    · rw [if_neg (by simpa using hb)] at hs
      refine ⟨i + 1, by omega, by omega, ?_⟩
      rw [hs.out]
      exact ⟨[0, 1, 2], rfl, rfl, rfl, iV_eq (by omega), rfl, rfl, rfl, rfl, rfl, trivial⟩
  · have e : hv.length = i := by omega
    subst e
    change presAt hv hv.length = [] → _ at hbe
    change B = J.map fun j => (presAt hv hv.length).getD j 0 at hBas
    change (presAt hv hv.length).length ≤ hv.length at hpl
    change ∀ j ∈ J, j < (presAt hv hv.length).length at hrl
    change ACalls _ _ [_, nats (presAt hv hv.length)] _ (.tup [mx M (presAt hv hv.length).length D PK, _]) _ at hpick
    change ACalls _ _ [mx M (presAt hv hv.length).length D PK] _ _ _ at hind
    clear hplt hsucc hpl0
    generalize presAt hv hv.length = P at *
    refine AWP.wk ⟨[(32, iV hv.length), (31, iV hv.length), (8, nats P), (2, .opt 0 0), (6, .opt 1 0)], [.box [.d .any, iV M, iV D, rowsN ps, .d .any], .box [iV M, iV (D + ps.length : Nat), iV D, nats GN]]⟩ ⟨[0, 1], rfl, rfl, rfl, rfl, rfl, (frz_rowJ rfl rfl (by simp)).symm, rfl, rfl, trivial⟩ ?_
    by_cases hP : P = []
    · subst hP
      rw [hbe rfl]
      (repeat' (first
  | (apply W.qd; (first
    | (apply q_mv; (first
    | exact Eq.refl (AV.d _)
    | exact Eq.refl (AV.osl _ _ _ _)
    | exact Eq.refl (AV.opt _ _)
    | exact Eq.refl (AV.agg _)
    | exact Eq.refl (AV.fpt _ _ _ _)
    | exact Eq.refl (AV.rpt _ _ _ _)
    | exact Eq.refl (AV.fn _ _)
    | exact Eq.refl (AV.tup _)
    | exact Eq.refl AV.top))
    | (apply q_as; (first
    | exact Eq.refl (AV.d _)
    | exact Eq.refl (AV.osl _ _ _ _)
    | exact Eq.refl (AV.opt _ _)
    | exact Eq.refl (AV.agg _)
    | exact Eq.refl (AV.fpt _ _ _ _)
    | exact Eq.refl (AV.rpt _ _ _ _)
    | exact Eq.refl (AV.fn _ _)
    | exact Eq.refl (AV.tup _)
    | exact Eq.refl AV.top))
    | (apply q_lss; exact rfl; exact rfl)
    | (apply q_eql; exact rfl; exact rfl)
    | (apply q_len_sl; exact rfl; exact rfl)))
  | (apply AWP.seq)
  | (apply ACont_normal)
  | (apply W.region; kernel_rfl)
  | (apply Walk.nil)
  | (apply AWP.exit)
  | (apply AWP.ret)
  | (apply ACont_exit)
  | (apply ACont_ret)
  | (apply ABlock_exit)
  | (apply W.condT; exact rfl)
  | (refine W.cond _ rfl (fun hb => ?_) (fun hb => ?_) <;> ((try simp only [hb, Bool.not_true, Bool.not_false]) <;> (try simp only [decide_eq_true_eq, decide_eq_false_iff_not, Bool.not_eq_true', Bool.not_eq_false', Int.not_lt, Int.not_le, List.length_map, not_true_eq_false] at hb) <;> (try (exfalso; omega))))))
      exact Ends.nil2 rfl rfl rfl
    · have hP0 : 0 < P.length := List.length_pos_iff.2 hP
      have hmP : (P.map kD).length = P.length := List.length_map _
      (repeat' (first
  | (apply W.qd; (first
    | (apply (q_callC (hpick)); exact rfl; exact rfl; kernel_rfl; kernel_rfl; kernel_rfl)
    | (apply (q_callC (hind)); exact rfl; exact rfl; kernel_rfl; kernel_rfl; kernel_rfl)
    | (apply q_mv; (first
    | exact Eq.refl (AV.d _)
    | exact Eq.refl (AV.osl _ _ _ _)
    | exact Eq.refl (AV.opt _ _)
    | exact Eq.refl (AV.agg _)
    | exact Eq.refl (AV.fpt _ _ _ _)
    | exact Eq.refl (AV.rpt _ _ _ _)
    | exact Eq.refl (AV.fn _ _)
    | exact Eq.refl (AV.tup _)
    | exact Eq.refl AV.top))
    | (apply q_as; (first
    | exact Eq.refl (AV.d _)
    | exact Eq.refl (AV.osl _ _ _ _)
    | exact Eq.refl (AV.opt _ _)
    | exact Eq.refl (AV.agg _)
    | exact Eq.refl (AV.fpt _ _ _ _)
    | exact Eq.refl (AV.rpt _ _ _ _)
    | exact Eq.refl (AV.fn _ _)
    | exact Eq.refl (AV.tup _)
    | exact Eq.refl AV.top))
    | (apply q_ld_boxF; exact rfl; exact rfl; exact rfl; exact rfl)
    | (apply q_lss; exact rfl; exact rfl)
    | (apply q_eql; exact rfl; exact rfl)
    | (apply q_extract; exact rfl; exact rfl)
    | (apply q_len_sl; exact rfl; exact rfl)))
  | (apply W.ed; (apply e_allocF; exact rfl; exact rfl; exact rfl; kernel_rfl))
  | (apply W.ln; (apply l_st_box; exact rfl; exact rfl; exact rfl; exact rfl; exact rfl; exact rfl; kernel_rfl; kernel_rfl; kernel_rfl))
  | (apply AWP.seq)
  | (apply ACont_normal)
  | (apply W.region; kernel_rfl)
  | (apply Walk.nil)
  | (apply AWP.block)
  | (apply AWP.skip)
  | (apply AWP.exit)
  | (apply ACont_exit)
  | (apply ABlock_exit)
  | (refine W.cond _ rfl (fun hb => ?_) (fun hb => ?_) <;> ((try simp only [hb, Bool.not_true, Bool.not_false]) <;> (try simp only [decide_eq_true_eq, decide_eq_false_iff_not, Bool.not_eq_true', Bool.not_eq_false', Int.not_lt, Int.not_le, List.length_map, not_true_eq_false] at hb) <;> (try (exfalso; omega))))))
      refine AWP.nilRow 13 1 3 rfl (by omega) ?_
      refine AWP.loopW (α := Nat) (fun k => k ≤ J.length) (fun k => ⟨[(55, iV k), (54, iV J.length), (53, nats J), (8, nats P), (13, .osl 3 k 0 ((J.take k).map fun j => P.getD j 0).length)], [.box [.d .any, iV M, iV D, rowsN ps, .d .any], .box [iV M, iV (D + ps.length : Nat), iV D, nats GN], .box [iV M, iV P.length, iV D, nats PK], .row k 1 3 (((J.take k).map fun j => P.getD j 0).map kD)]⟩) (fun k => J.length - k) 0 (by omega) ?wk1 fun k hk => ?_
      case wk1 =>
        exact ⟨[0, 1, 2, 3], rfl, rfl, rfl, rfl, iV_eq (by simp), rfl, rfl, rfl, trivial⟩
      by_cases hkl : k < J.length
      · have hx := hrl J[k] (List.getElem_mem _)
        have hs : (J.take (k + 1)).map (fun j => P.getD j 0) = (J.take k).map (fun j => P.getD j 0) ++ [P[J[k]]] := by
          rw [← List.take_append_getElem hkl, List.map_append]
          simp [List.getD_eq_getElem?_getD, hx]
        have hll : ((J.take k).map fun j => P.getD j 0).length ≤ 1024 := by simp; omega
        replace hs := Lib.hid hs
        generalize (J.take k).map (fun j => P.getD j 0) = A at *
        (repeat' (first
  | (apply W.qd; (first
    | (apply q_mv; (first
    | exact Eq.refl (AV.d _)
    | exact Eq.refl (AV.osl _ _ _ _)
    | exact Eq.refl (AV.opt _ _)
    | exact Eq.refl (AV.agg _)
    | exact Eq.refl (AV.fpt _ _ _ _)
    | exact Eq.refl (AV.rpt _ _ _ _)
    | exact Eq.refl (AV.fn _ _)
    | exact Eq.refl (AV.tup _)
    | exact Eq.refl AV.top))
    | (apply q_as; (first
    | exact Eq.refl (AV.d _)
    | exact Eq.refl (AV.osl _ _ _ _)
    | exact Eq.refl (AV.opt _ _)
    | exact Eq.refl (AV.agg _)
    | exact Eq.refl (AV.fpt _ _ _ _)
    | exact Eq.refl (AV.rpt _ _ _ _)
    | exact Eq.refl (AV.fn _ _)
    | exact Eq.refl (AV.tup _)
    | exact Eq.refl AV.top))
    | (apply q_lss; exact rfl; exact rfl)
    | (apply q_add; exact rfl; exact rfl; omega)
    | (apply q_ld_map; exact rfl; exact rfl; exact rfl; (first | omega | (focus (simp; done))))
    | (apply q_litF; exact rfl; exact rfl; exact rfl; exact rfl; exact rfl; kernel_rfl; kernel_rfl; exact rfl)
    | (apply q_ix_slF; exact rfl; exact rfl; exact rfl; exact rfl; (first | (with_reducible exact rfl) | exact natI_spec rfl | assumption | exact (Int.toNat_of_nonneg (by omega)).symm); (first | omega | (focus (simp only [List.length_map]; omega)) | (focus (simp; done)) | (focus (simp; omega))))))
  | (apply W.ed; (apply e_app1F; exact rfl; exact rfl; exact rfl; exact rfl; exact rfl; exact rfl; exact rfl; exact rfl; (first | omega | (focus (simp; omega)) | (focus (simp; done)))))
  | (apply AWP.seq)
  | (apply ACont_normal)
  | (apply W.region; kernel_rfl)
  | (apply Walk.nil)
  | (apply AWP.block)
  | (apply AWP.skip)
  | (apply ABlock_normal)
  | (refine W.cond _ rfl (fun hb => ?_) (fun hb => ?_) <;> ((try simp only [hb, Bool.not_true, Bool.not_false]) <;> (try simp only [decide_eq_true_eq, decide_eq_false_iff_not, Bool.not_eq_true', Bool.not_eq_false', Int.not_lt, Int.not_le, List.length_map, not_true_eq_false] at hb) <;> (try (exfalso; omega))))))
        refine ⟨k + 1, by omega, by omega, ?_⟩
        rw [hs.out]
        exact ⟨[0, 1, 2, 3], rfl, rfl, rfl, iV_eq (by omega), rfl, rfl, rfl, rfl, trivial⟩
      · have e : J.length = k := by omega
        subst e
        rw [List.take_length, ← hBas]
        (repeat' (first
  | (apply W.qd; (first
    | (apply q_mv; (first
    | exact Eq.refl (AV.d _)
    | exact Eq.refl (AV.osl _ _ _ _)
    | exact Eq.refl (AV.opt _ _)
    | exact Eq.refl (AV.agg _)
    | exact Eq.refl (AV.fpt _ _ _ _)
    | exact Eq.refl (AV.rpt _ _ _ _)
    | exact Eq.refl (AV.fn _ _)
    | exact Eq.refl (AV.tup _)
    | exact Eq.refl AV.top))
    | (apply q_as; (first
    | exact Eq.refl (AV.d _)
    | exact Eq.refl (AV.osl _ _ _ _)
    | exact Eq.refl (AV.opt _ _)
    | exact Eq.refl (AV.agg _)
    | exact Eq.refl (AV.fpt _ _ _ _)
    | exact Eq.refl (AV.rpt _ _ _ _)
    | exact Eq.refl (AV.fn _ _)
    | exact Eq.refl (AV.tup _)
    | exact Eq.refl AV.top))
    | (apply q_lss; exact rfl; exact rfl)))
  | (apply AWP.seq)
  | (apply ACont_normal)
  | (apply W.region; kernel_rfl)
  | (apply Walk.nil)
  | (apply AWP.exit)
  | (apply AWP.ret)
  | (apply ACont_exit)
  | (apply ABlock_exit)
  | (refine W.cond _ rfl (fun hb => ?_) (fun hb => ?_) <;> ((try simp only [hb, Bool.not_true, Bool.not_false]) <;> (try simp only [decide_eq_true_eq, decide_eq_false_iff_not, Bool.not_eq_true', Bool.not_eq_false', Int.not_lt, Int.not_le, List.length_map, not_true_eq_false] at hb) <;> (try (exfalso; omega))))))
        exact Ends.two rfl rfl (congrArg (fun z => AV.tup [z, iV 0]) (frz_rowJ rfl rfl (by simp)))
end Go.Proofs.YtjaipchlnnjaeaaDoor
end

section
/- Package erasure over the machine of abstract values: Clone of numbers, span.add, span.reduce. -/
namespace Go.Proofs.YtjaipchlnnjaeaaDoor
open Go.RowKit
set_option linter.unusedVariables false
set_option linter.unusedSimpArgs false
set_option maxHeartbeats 4000000
set_option maxRecDepth 100000
attribute [local irreducible] Quiet Eff OpOk AWPG ACont ABlock ACalls AGoto

theorem A_clone {l : List Nat} (h0 : 0 < l.length) (hl : l.length ≤ 1000000) : ACalls Tryd.prog 93 [nats l] [] (.osl 0 1 0 l.length) [.row 1 1 3 (l.map kD)] := by
  refine acalls_of_bodyO Tryd.func93 rfl (Nat.le_of_ble_eq_true rfl) ?_
  have hm : (l.map kD).length = l.length := List.length_map _
  (repeat' (first
  | (apply W.ed; (apply e_lit0F; exact rfl; exact rfl; exact rfl; exact rfl; exact rfl))
  | (apply W.qd; (first
    | (apply q_mv; (first
    | exact Eq.refl (AV.d _)
    | exact Eq.refl (AV.osl _ _ _ _)
    | exact Eq.refl (AV.opt _ _)
    | exact Eq.refl (AV.agg _)
    | exact Eq.refl (AV.fpt _ _ _ _)
    | exact Eq.refl (AV.rpt _ _ _ _)
    | exact Eq.refl (AV.fn _ _)
    | exact Eq.refl (AV.tup _)
    | exact Eq.refl AV.top))
    | (apply q_as; (first
    | exact Eq.refl (AV.d _)
    | exact Eq.refl (AV.osl _ _ _ _)
    | exact Eq.refl (AV.opt _ _)
    | exact Eq.refl (AV.agg _)
    | exact Eq.refl (AV.fpt _ _ _ _)
    | exact Eq.refl (AV.rpt _ _ _ _)
    | exact Eq.refl (AV.fn _ _)
    | exact Eq.refl (AV.tup _)
    | exact Eq.refl AV.top))
    | (apply q_eqnilm; exact rfl; exact rfl; exact rfl; (first | assumption | omega))))
  | (apply W.ed; (apply e_appF; exact rfl; exact rfl; exact rfl; exact rfl; exact rfl; exact rfl; exact rfl; exact rfl; (first | rfl | simp); (first | exact Nat.zero_lt_one | (focus (simp; done)) | omega); (first | (focus (simp; done)) | (focus (simp; omega)) | omega)))
  | (apply AWP.seq)
  | (apply ACont_normal)
  | (apply W.region; kernel_rfl)
  | (apply Walk.nil)
  | (apply AWP.skip)
  | (apply AWP.ret)
  | (apply W.condF; exact rfl)))
  refine ⟨.inl rfl, [0], [.osl 0 1 0 ((([] : List Nat).length) + (l.map kD).length)], rfl, rfl, ⟨rfl, trivial⟩, AVle.of_eq ?_, rfl⟩
  show AV.osl 0 1 0 (0 + (l.map kD).length) = .osl 0 1 0 l.length
  rw [hm, Nat.zero_add]
/-- A list to which a multiple of another one was added, the first k elements. -/
def addV (M f : Nat) (T l : List Nat) : Nat → List Nat
  | 0 => T
  | k + 1 => (addV M f T l k).set k ((addV M f T l k).getD k 0 ^^^ Gf.mul M (modN M) f (l.getD k 0))
theorem addV_length (M f : Nat) (T l : List Nat) (k : Nat) : (addV M f T l k).length = T.length := by
  induction k with
  | zero => rfl
  | succ k ih => rw [addV, List.length_set, ih]
theorem addV_lt {M f : Nat} (hM : FldM M) (hf : f < 2 ^ M) {T l : List Nat} (h : ∀ x ∈ T, x < 2 ^ M) (k : Nat) : ∀ x ∈ addV M f T l k, x < 2 ^ M := by
  induction k with
  | zero => exact h
  | succ k ih =>
    intro x hx
    rw [addV] at hx
    rcases List.mem_or_eq_of_mem_set hx with hx | rfl
    · exact ih x hx
    · exact Nat.xor_lt_two_pow (getD_lt ih _) (Gf.mul_lt (FldM.gen hM).hm (FldM.gen hM).top (FldM.gen hM).lt hf _)
/-- A row of a basis, as data: its leading column, the row, its coefficients. -/
def redD (r : Nat × List Nat × List Nat) : List Dat := [.v (.int .i64 r.1), .sl 1 (r.2.1.map kD), .sl 1 (r.2.2.map kD)]
abbrev spB (M D : Nat) (ps : List (List Nat)) (us : List Nat) (rv rn : Nat) : Ent := .box [.d .any, iV M, iV D, rowsN ps, .d .any, nats us, .osl 1 rv 0 rn]
abbrev spR (rv : Nat) (rows : List (Nat × List Nat × List Nat)) : Ent := .row rv 3 103 (rows.map redD)
theorem A_sadd {M D f v rv rn nT : Nat} {ps : List (List Nat)} {us T l : List Nat} {rows : List (Nat × List Nat × List Nat)} (hM : FldM M) (hf : f < 2 ^ M) (hT : ∀ x ∈ T, x < 2 ^ M) (hl : ∀ x ∈ l, x < 2 ^ M) (hnT : T.length = nT) (hn : T.length = l.length) (hn2 : l.length ≤ 1000) : ACalls Tryd.prog 77 [.opt 0 0, .osl 2 v 0 nT, iV f, nats l] [spB M D ps us rv rn, spR rv rows, .row v 1 3 (T.map kD)] (.tup []) [spB M D ps us rv rn, spR rv rows, .row v 1 3 ((addV M f T l l.length).map kD)] := by
  refine acalls_of_bodyO Tryd.func77 rfl (Nat.le_of_ble_eq_true rfl) ?_
  (repeat' (first
  | (apply W.qd; (first
    | (apply q_mv; (first
    | exact Eq.refl (AV.d _)
    | exact Eq.refl (AV.osl _ _ _ _)
    | exact Eq.refl (AV.opt _ _)
    | exact Eq.refl (AV.agg _)
    | exact Eq.refl (AV.fpt _ _ _ _)
    | exact Eq.refl (AV.rpt _ _ _ _)
    | exact Eq.refl (AV.fn _ _)
    | exact Eq.refl (AV.tup _)
    | exact Eq.refl AV.top))
    | (apply q_len_sl; exact rfl; exact rfl)))
  | (apply AWP.seq)
  | (apply ACont_normal)
  | (apply W.region; kernel_rfl)
  | (apply Walk.nil)
  | (apply AWP.block)))
  refine AWP.loopW (α := Nat) (fun k => k ≤ l.length) (fun k => ⟨[(14, iV k), (13, iV l.length), (12, nats l), (0, .opt 0 0), (1, .osl 2 v 0 nT), (2, iV f)], [spB M D ps us rv rn, spR rv rows, .row v 1 3 ((addV M f T l k).map kD)]⟩) (fun k => l.length - k) 0 (by omega) ⟨[0, 1, 2], rfl, rfl, rfl, rfl, iV_eq (by simp), rfl, rfl, rfl, rfl, trivial⟩ fun k hk => ?_
  have hlen := addV_length M f T l k
  have hall := addV_lt hM hf (l := l) hT k
  by_cases hkl : k < l.length
  · have hs := Lib.hid (show addV M f T l (k + 1) = (addV M f T l k).set k ((addV M f T l k).getD k 0 ^^^ Gf.mul M (modN M) f (l.getD k 0)) from rfl)
    generalize addV M f T l k = B at *
    have c1 := hl l[k] (List.getElem_mem _)
    have c2 := hall (B[k]'(by omega)) (List.getElem_mem _)
    have ht := A_mul hM hf c1
    have c3 := hM.cap c1
    have c4 := hM.cap c2
    have hm : Gf.mul M (modN M) f l[k] < 2 ^ M := Gf.mul_lt (FldM.gen hM).hm (FldM.gen hM).top (FldM.gen hM).lt hf _
    have c5 := hM.cap hm
    (repeat' (first
  | (apply W.qd; (first
    | (apply (q_callC (ht)); exact rfl; exact rfl; kernel_rfl; kernel_rfl; kernel_rfl)
    | (apply q_mv; (first
    | exact Eq.refl (AV.d _)
    | exact Eq.refl (AV.osl _ _ _ _)
    | exact Eq.refl (AV.opt _ _)
    | exact Eq.refl (AV.agg _)
    | exact Eq.refl (AV.fpt _ _ _ _)
    | exact Eq.refl (AV.rpt _ _ _ _)
    | exact Eq.refl (AV.fn _ _)
    | exact Eq.refl (AV.tup _)
    | exact Eq.refl AV.top))
    | (apply q_as; (first
    | exact Eq.refl (AV.d _)
    | exact Eq.refl (AV.osl _ _ _ _)
    | exact Eq.refl (AV.opt _ _)
    | exact Eq.refl (AV.agg _)
    | exact Eq.refl (AV.fpt _ _ _ _)
    | exact Eq.refl (AV.rpt _ _ _ _)
    | exact Eq.refl (AV.fn _ _)
    | exact Eq.refl (AV.tup _)
    | exact Eq.refl AV.top))
    | (apply q_fld_optF; exact rfl; exact rfl; exact rfl)
    | (apply q_ld_box; exact rfl; exact rfl; exact rfl; exact rfl)
    | (apply q_lss; exact rfl; exact rfl)
    | (apply q_add; exact rfl; exact rfl; omega)
    | (apply q_extract; exact rfl; exact rfl)
    | (apply q_ld_map; exact rfl; exact rfl; exact rfl; (first | omega | (focus (simp; done))))
    | (apply q_nil_opt; exact rfl)
    | (apply q_ix_slF; exact rfl; exact rfl; exact rfl; exact rfl; (first | (with_reducible exact rfl) | exact natI_spec rfl | assumption | exact (Int.toNat_of_nonneg (by omega)).symm); (first | omega | (focus (simp only [List.length_map]; omega)) | (focus (simp; done)) | (focus (simp; omega))))
    | (apply q_xorN; exact rfl; exact rfl; (first | (with_reducible exact rfl) | exact natI_spec rfl | assumption | exact (Int.toNat_of_nonneg (by omega)).symm); (first | (with_reducible exact rfl) | exact natI_spec rfl | assumption | exact (Int.toNat_of_nonneg (by omega)).symm); (first | (apply hcap1; omega) | (apply hcap2; omega) | (apply hcap3; omega) | (apply hcap4; omega) | (focus (show _ < 9223372036854775808; omega)) | (focus (show _ < 256; omega)) | assumption); (first | (apply hcap1; omega) | (apply hcap2; omega) | (apply hcap3; omega) | (apply hcap4; omega) | (focus (show _ < 9223372036854775808; omega)) | (focus (show _ < 256; omega)) | assumption))
    | (apply q_ix_osl0; exact rfl; exact rfl; exact rfl; exact rfl; (first | (with_reducible exact rfl) | exact natI_spec rfl | assumption | exact (Int.toNat_of_nonneg (by omega)).symm); (first | omega | (focus (simp only [List.length_map]; omega)) | (focus (simp; done)) | (focus (simp; omega))))
    | (apply q_ld_rptm; exact rfl; exact rfl; exact rfl; exact rfl; (first | omega | (focus (simp only [List.length_map]; omega)) | (focus (simp; done)) | (focus (simp; omega))))))
  | (apply W.ln; (apply l_st_rpt; exact rfl; exact rfl; exact rfl; exact rfl; exact rfl; exact rfl; exact rfl; exact fun _ => rfl; (first | omega | (focus (simp only [List.length_map]; omega)) | (focus (simp; omega)))))
  | (apply AWP.seq)
  | (apply ACont_normal)
  | (apply W.region; kernel_rfl)
  | (apply Walk.nil)
  | (apply AWP.block)
  | (apply AWP.skip)
  | (apply ABlock_normal)
  | (refine W.cond _ rfl (fun hb => ?_) (fun hb => ?_) <;> ((try simp only [hb, Bool.not_true, Bool.not_false]) <;> (try simp only [decide_eq_true_eq, decide_eq_false_iff_not, Bool.not_eq_true', Bool.not_eq_false', Int.not_lt, Int.not_le, List.length_map, not_true_eq_false] at hb) <;> (try (exfalso; omega))))))
    refine ⟨k + 1, by omega, by omega, ?_⟩
    rw [hs.out, List.getD_eq_getElem?_getD, List.getD_eq_getElem?_getD, List.getElem?_eq_getElem (show k < B.length by omega), List.getElem?_eq_getElem hkl]
    exact ⟨[0, 1, 2], rfl, rfl, rfl, iV_eq (by omega), rfl, rfl, rfl, rfl, rfl, trivial⟩
  · have e : l.length = k := by omega
    subst e
    (repeat' (first
  | (apply W.qd; (apply q_lss; exact rfl; exact rfl))
  | (apply AWP.seq)
  | (apply ACont_normal)
  | (apply W.region; kernel_rfl)
  | (apply Walk.nil)
  | (apply AWP.exit)
  | (apply ACont_exit)
  | (apply ABlock_exit)
  | (refine W.cond _ rfl (fun hb => ?_) (fun hb => ?_) <;> ((try simp only [hb, Bool.not_true, Bool.not_false]) <;> (try simp only [decide_eq_true_eq, decide_eq_false_iff_not, Bool.not_eq_true', Bool.not_eq_false', Int.not_lt, Int.not_le, List.length_map, not_true_eq_false] at hb) <;> (try (exfalso; omega))))))
    exact ⟨.inr rfl, [0, 1, 2], [], rfl, rfl, trivial, AVle.of_eq rfl, rfl⟩
/-- Rows of a basis. -/
structure RedRow (M D n : Nat) (r : Nat × List Nat × List Nat) : Prop where
  c : r.1 < D
  l1 : r.2.1.length = D
  l2 : r.2.2.length = n
  e1 : ∀ x ∈ r.2.1, x < 2 ^ M
  e2 : ∀ x ∈ r.2.2, x < 2 ^ M
/-- A row of a basis is subtracted. -/
def subR (M : Nat) (s : List Nat × List Nat) (r : Nat × List Nat × List Nat) : List Nat × List Nat :=
  if s.1.getD r.1 0 = 0 then s else (addV M (s.1.getD r.1 0) s.1 r.2.1 r.2.1.length, addV M (s.1.getD r.1 0) s.2 r.2.2 r.2.2.length)
structure SubOk (M D n : Nat) (s : List Nat × List Nat) : Prop where
  l1 : s.1.length = D
  l2 : s.2.length = n
  e1 : ∀ x ∈ s.1, x < 2 ^ M
  e2 : ∀ x ∈ s.2, x < 2 ^ M
theorem sub_ok {M D n : Nat} {s : List Nat × List Nat} {r : Nat × List Nat × List Nat} (hM : FldM M) (h : SubOk M D n s) (hr : RedRow M D n r) : SubOk M D n (subR M s r) := by
  unfold subR
  split
  · exact h
  · exact ⟨by rw [addV_length]; exact h.l1, by rw [addV_length]; exact h.l2, addV_lt hM (getD_lt h.e1 _) h.e1 _, addV_lt hM (getD_lt h.e1 _) h.e2 _⟩
abbrev spEnv (M D n : Nat) (ps : List (List Nat)) (us : List Nat) (rv rn : Nat) (rows : List (Nat × List Nat × List Nat)) (R K : List Nat) : List Ent :=
  [spB M D ps us rv rn, spR rv rows, .row 1 1 3 (R.map kD), .row 0 1 3 (K.map kD), .box [.osl 2 1 0 D], .box [.osl 3 0 0 n], .box [.opt 0 0]]
theorem A_ssub {M D n rv rn : Nat} {ps : List (List Nat)} {us R K : List Nat} {rows : List (Nat × List Nat × List Nat)} {r : Nat × List Nat × List Nat} (hM : FldM M) (hD : D ≤ 32) (hn : n ≤ 32) (h : SubOk M D n (R, K)) (hr : RedRow M D n r) : ACalls Tryd.prog 94 [.agg [iV r.1, nats r.2.1, nats r.2.2], .opt 4 0, .opt 6 0, .opt 5 0] (spEnv M D n ps us rv rn rows R K) (.tup []) (spEnv M D n ps us rv rn rows (subR M (R, K) r).1 (subR M (R, K) r).2) := by
  refine acalls_of_bodyO Tryd.func94 rfl (Nat.le_of_ble_eq_true rfl) ?_
  obtain ⟨c, rw', kf⟩ := r
  have h1 := h.l1
  have h2 := h.l2
  have h3 := hr.c
  have h4 := hr.l1
  have h5 := hr.l2
  dsimp only at h1 h2 h3 h4 h5
  have hf : R[c]'(by omega) < 2 ^ M := h.e1 _ (List.getElem_mem _)
  have a1 := A_sadd (D := D) (v := 1) (rv := rv) (rn := rn) (ps := ps) (us := us) (rows := rows) hM hf h.e1 hr.e1 h1 (by dsimp only; omega) (by dsimp only; omega)
  have a2 := A_sadd (D := D) (v := 0) (rv := rv) (rn := rn) (ps := ps) (us := us) (rows := rows) hM hf h.e2 hr.e2 h2 (by dsimp only; omega) (by dsimp only; omega)
  have hs : subR M (R, K) (c, rw', kf) = if R[c]'(by omega) = 0 then (R, K) else (addV M (R[c]'(by omega)) R rw' rw'.length, addV M (R[c]'(by omega)) K kf kf.length) := by
    unfold subR
    rw [List.getD_eq_getElem?_getD, List.getElem?_eq_getElem (show c < R.length by omega)]
    rfl
  replace hs := Lib.hid hs
  dsimp only at a1 a2
  (repeat' (first
  | (apply W.qd; (first
    | (apply q_mv; (first
    | exact Eq.refl (AV.d _)
    | exact Eq.refl (AV.osl _ _ _ _)
    | exact Eq.refl (AV.opt _ _)
    | exact Eq.refl (AV.agg _)
    | exact Eq.refl (AV.fpt _ _ _ _)
    | exact Eq.refl (AV.rpt _ _ _ _)
    | exact Eq.refl (AV.fn _ _)
    | exact Eq.refl (AV.tup _)
    | exact Eq.refl AV.top))
    | (apply q_as; (first
    | exact Eq.refl (AV.d _)
    | exact Eq.refl (AV.osl _ _ _ _)
    | exact Eq.refl (AV.opt _ _)
    | exact Eq.refl (AV.agg _)
    | exact Eq.refl (AV.fpt _ _ _ _)
    | exact Eq.refl (AV.rpt _ _ _ _)
    | exact Eq.refl (AV.fn _ _)
    | exact Eq.refl (AV.tup _)
    | exact Eq.refl AV.top))
    | (apply q_fld_optF; exact rfl; exact rfl; exact rfl)
    | (apply q_ld_box; exact rfl; exact rfl; exact rfl; exact rfl)
    | (apply q_neq; exact rfl; exact rfl)
    | (apply q_ix_osl0; exact rfl; exact rfl; exact rfl; exact rfl; (first | (with_reducible exact rfl) | exact natI_spec rfl | assumption | exact (Int.toNat_of_nonneg (by omega)).symm); (first | omega | (focus (simp only [List.length_map]; omega)) | (focus (simp; done)) | (focus (simp; omega))))
    | (apply q_ld_rptm; exact rfl; exact rfl; exact rfl; exact rfl; (first | omega | (focus (simp only [List.length_map]; omega)) | (focus (simp; done)) | (focus (simp; omega))))))
  | (apply W.ed; (first
    | (apply (e_callJ (js := [0, 1, 2]) (a1)); exact rfl; exact rfl; exact rfl; exact rfl; exact rfl; kernel_rfl; kernel_rfl)
    | (apply (e_callJ (js := [0, 1, 3]) (a2)); exact rfl; exact rfl; exact rfl; exact rfl; exact rfl; kernel_rfl; kernel_rfl)
    | (apply e_boxF; exact rfl; exact rfl; exact rfl; kernel_rfl; kernel_rfl)))
  | (apply AWP.seq)
  | (apply ACont_normal)
  | (apply W.region; kernel_rfl)
  | (apply Walk.nil)
  | (apply AWP.skip)
  | (refine W.cond _ rfl (fun hb => ?_) (fun hb => ?_) <;> ((try simp only [hb, Bool.not_true, Bool.not_false]) <;> (try simp only [decide_eq_true_eq, decide_eq_false_iff_not, Bool.not_eq_true', Bool.not_eq_false', Int.not_lt, Int.not_le, List.length_map, not_true_eq_false] at hb) <;> (try (exfalso; omega))))))
  · rw [hs.out, if_neg (by simpa using hb)]
    exact ⟨.inr rfl, [0, 1, 2, 3, 4, 5, 6], [], rfl, rfl, trivial, AVle.of_eq rfl, rfl⟩
  · rw [hs.out, if_pos (by simpa using hb)]
    exact ⟨.inr rfl, [0, 1, 2, 3, 4, 5, 6], [], rfl, rfl, trivial, AVle.of_eq rfl, rfl⟩
/-- A row, reduced by the first k rows of a basis, and the coefficients. -/
def redV (M n : Nat) (row : List Nat) (rows : List (Nat × List Nat × List Nat)) : List Nat × List Nat := rows.foldl (subR M) (row, List.replicate n 0)
theorem redV_ok {M D n : Nat} {row : List Nat} {rows : List (Nat × List Nat × List Nat)} (hM : FldM M) (hl : row.length = D) (he : ∀ x ∈ row, x < 2 ^ M) (hr : ∀ r ∈ rows, RedRow M D n r) : SubOk M D n (redV M n row rows) := by
  unfold redV
  have h0 : SubOk M D n (row, List.replicate n 0) := ⟨hl, List.length_replicate, he, fun x hx => by rw [List.eq_of_mem_replicate hx]; exact Nat.two_pow_pos M⟩
  revert h0
  generalize (row, List.replicate n 0) = s
  intro h0
  induction rows generalizing s with
  | nil => exact h0
  | cons r rows ih => exact ih (fun x hx => hr x (by simp [hx])) _ (sub_ok hM h0 (hr r (by simp)))
theorem A_sreduce {M D rv : Nat} {ps : List (List Nat)} {us row : List Nat} {rows : List (Nat × List Nat × List Nat)} (hM : FldM M) (h0 : 1 ≤ D) (hD : D ≤ 32) (hn : us.length ≤ 32) (hrl : rows.length ≤ 32) (hl : row.length = D) (he : ∀ x ∈ row, x < 2 ^ M) (hr : ∀ r ∈ rows, RedRow M D us.length r) : ACalls Tryd.prog 75 [.opt 0 0, nats row] [spB M D ps us rv rows.length, spR rv rows] (.tup [.osl 2 1 0 D, .osl 3 0 0 us.length]) [spB M D ps us rv rows.length, spR rv rows, .row 1 1 3 ((redV M us.length row rows).1.map kD), .row 0 1 3 ((redV M us.length row rows).2.map kD)] := by
  refine acalls_of_bodyO Tryd.func75 rfl (Nat.le_of_ble_eq_true rfl) ?_
  have hcl := A_clone (l := row) (by omega) (by omega)
  have hK : redV M us.length row (rows.take 0) = (row, List.replicate us.length 0) := rfl
  have hS : ∀ k (hk : k < rows.length), redV M us.length row (rows.take (k + 1)) = subR M (redV M us.length row (rows.take k)) rows[k] := fun k hk => by
    unfold redV
    rw [← List.take_append_getElem hk, List.foldl_append]
    rfl
  have hO : ∀ k, SubOk M D us.length (redV M us.length row (rows.take k)) := fun k => redV_ok hM hl he fun r hr' => hr r (List.mem_of_mem_take hr')
  have hE : redV M us.length row (rows.take rows.length) = redV M us.length row rows := by rw [List.take_length]
  rw [hl] at hcl
  generalize hT : (fun k => redV M us.length row (rows.take k)) = T
  have hT : ∀ k, redV M us.length row (rows.take k) = T k := fun k => congrFun hT k
  simp only [hT] at hK hS hO hE
  rw [← hE]
  replace hT := Lib.hid hT
  have hml : (us.map kD).length = us.length := List.length_map _
  refine AWP.hole rfl (AWP.hole rfl (AWP.hole rfl (AWP.hole rfl ?_)))
  (repeat' (first
  | (apply W.qd; (first
    | (apply q_mv; (first
    | exact Eq.refl (AV.d _)
    | exact Eq.refl (AV.osl _ _ _ _)
    | exact Eq.refl (AV.opt _ _)
    | exact Eq.refl (AV.agg _)
    | exact Eq.refl (AV.fpt _ _ _ _)
    | exact Eq.refl (AV.rpt _ _ _ _)
    | exact Eq.refl (AV.fn _ _)
    | exact Eq.refl (AV.tup _)
    | exact Eq.refl AV.top))
    | (apply q_as; (first
    | exact Eq.refl (AV.d _)
    | exact Eq.refl (AV.osl _ _ _ _)
    | exact Eq.refl (AV.opt _ _)
    | exact Eq.refl (AV.agg _)
    | exact Eq.refl (AV.fpt _ _ _ _)
    | exact Eq.refl (AV.rpt _ _ _ _)
    | exact Eq.refl (AV.fn _ _)
    | exact Eq.refl (AV.tup _)
    | exact Eq.refl AV.top))
    | (apply q_fld_optF; exact rfl; exact rfl; exact rfl)
    | (apply q_ld_box; exact rfl; exact rfl; exact rfl; exact rfl)
    | (apply q_len_sl; exact rfl; exact rfl)
    | (apply q_len_osl; exact rfl; exact rfl; exact rfl)
    | (apply q_makeFunc)
    | (apply q_nil_opt; exact rfl)))
  | (apply W.ld; (first
    | (apply (l_call (hcl)); exact rfl; exact rfl; exact rfl; exact rfl; kernel_rfl; kernel_rfl)
    | (apply l_alloc; exact rfl; exact rfl; exact rfl; kernel_rfl; kernel_rfl)
    | (apply (l_make (f := kD) 0); exact rfl; exact rfl; exact rfl; (first | (with_reducible exact rfl) | exact natI_spec rfl | assumption | exact (Int.toNat_of_nonneg (by omega)).symm); exact rfl; exact rfl; exact rfl; exact rfl; exact rfl; exact rfl; kernel_rfl; omega)))
  | (apply W.ed; (apply e_boxF; exact rfl; exact rfl; exact rfl; kernel_rfl; kernel_rfl))
  | (apply W.ln; (apply l_st_box; exact rfl; exact rfl; exact rfl; exact rfl; exact rfl; exact rfl; kernel_rfl; kernel_rfl; kernel_rfl))
  | (apply AWP.seq)
  | (apply ACont_normal)
  | (apply W.region; kernel_rfl)
  | (apply W.regionD; exact rfl; kernel_rfl)
  | (apply Walk.nil)
  | (apply W.chk; kernel_rfl)
  | (apply AWP.block)))
  rw [hml]
  refine AWP.loopW (α := Nat) (fun k => k ≤ rows.length) (fun k => ⟨[(25, iV k), (24, iV rows.length), (23, .osl 1 rv 0 rows.length), (8, .fn 94 [.opt 4 0, .opt 6 0, .opt 5 0]), (6, .opt 4 0), (7, .opt 5 0), (2, .opt 6 0)], spEnv M D us.length ps us rv rows.length rows (T k).1 (T k).2⟩) (fun k => rows.length - k) 0 (by omega) ?wk0 fun k hk => ?_
  case wk0 =>
    rw [hK]
    exact ⟨[0, 1, 2, 3, 4, 5, 6], rfl, rfl, rfl, rfl, rfl, rfl, rfl, rfl, rfl, rfl, trivial⟩
  by_cases hkl : k < rows.length
  · have hs := Lib.hid (hS k hkl)
    have ho := hO k
    generalize T k = s at *
    obtain ⟨A, B⟩ := s
    have hrr := hr rows[k] (List.getElem_mem _)
    have hsub := A_ssub (rv := rv) (rn := rows.length) (ps := ps) (us := us) (rows := rows) hM hD hn ho hrr
    generalize hZ : subR M (A, B) rows[k] = Z at *
    dsimp only
    (repeat' (first
  | (apply W.qd; (first
    | (apply q_mv; (first
    | exact Eq.refl (AV.d _)
    | exact Eq.refl (AV.osl _ _ _ _)
    | exact Eq.refl (AV.opt _ _)
    | exact Eq.refl (AV.agg _)
    | exact Eq.refl (AV.fpt _ _ _ _)
    | exact Eq.refl (AV.rpt _ _ _ _)
    | exact Eq.refl (AV.fn _ _)
    | exact Eq.refl (AV.tup _)
    | exact Eq.refl AV.top))
    | (apply q_ld_boxF; exact rfl; exact rfl; exact rfl; exact rfl)
    | (apply q_lss; exact rfl; exact rfl)
    | (apply q_add; exact rfl; exact rfl; omega)
    | (apply q_ix_osl0; exact rfl; exact rfl; exact rfl; exact rfl; (first | (with_reducible exact rfl) | exact natI_spec rfl | assumption | exact (Int.toNat_of_nonneg (by omega)).symm); (first | omega | (focus (simp only [List.length_map]; omega)) | (focus (simp; done)) | (focus (simp; omega))))
    | (apply q_ld_rptsm; exact rfl; exact rfl; exact rfl; exact rfl; (first | omega | (focus (simp only [List.length_map]; omega)) | (focus (simp; done)) | (focus (simp; omega))))))
  | (apply W.ed; (first
    | (apply (e_callJ (js := [0, 1, 2, 3, 4, 5, 6]) (hsub)); exact rfl; exact rfl; exact rfl; exact rfl; exact rfl; kernel_rfl; kernel_rfl)
    | (apply e_allocF; exact rfl; exact rfl; exact rfl; kernel_rfl)))
  | (apply W.ln; (apply l_st_box; exact rfl; exact rfl; exact rfl; exact rfl; exact rfl; exact rfl; kernel_rfl; kernel_rfl; kernel_rfl))
  | (apply AWP.seq)
  | (apply ACont_normal)
  | (apply W.region; kernel_rfl)
  | (apply Walk.nil)
  | (apply AWP.block)
  | (apply AWP.skip)
  | (apply ABlock_normal)
  | (refine W.cond _ rfl (fun hb => ?_) (fun hb => ?_) <;> ((try simp only [hb, Bool.not_true, Bool.not_false]) <;> (try simp only [decide_eq_true_eq, decide_eq_false_iff_not, Bool.not_eq_true', Bool.not_eq_false', Int.not_lt, Int.not_le, List.length_map, not_true_eq_false] at hb) <;> (try (exfalso; omega))))))
    refine ⟨k + 1, by omega, by omega, ?_⟩
    rw [hs.out]
    exact ⟨[0, 1, 2, 3, 4, 5, 6], rfl, rfl, rfl, iV_eq (by omega), rfl, rfl, rfl, rfl, rfl, rfl, trivial⟩
  · have e : rows.length = k := by omega
    subst e
    generalize T rows.length = s at *
    (repeat' (first
  | (apply W.qd; (first
    | (apply q_as; (first
    | exact Eq.refl (AV.d _)
    | exact Eq.refl (AV.osl _ _ _ _)
    | exact Eq.refl (AV.opt _ _)
    | exact Eq.refl (AV.agg _)
    | exact Eq.refl (AV.fpt _ _ _ _)
    | exact Eq.refl (AV.rpt _ _ _ _)
    | exact Eq.refl (AV.fn _ _)
    | exact Eq.refl (AV.tup _)
    | exact Eq.refl AV.top))
    | (apply q_ld_box; exact rfl; exact rfl; exact rfl; exact rfl)
    | (apply q_lss; exact rfl; exact rfl)))
  | (apply AWP.seq)
  | (apply ACont_normal)
  | (apply W.region; kernel_rfl)
  | (apply W.regionD; exact rfl; kernel_rfl)
  | (apply Walk.nil)
  | (apply W.chk; kernel_rfl)
  | (apply AWP.exit)
  | (apply AWP.ret)
  | (apply ACont_exit)
  | (apply ABlock_exit)
  | (refine W.cond _ rfl (fun hb => ?_) (fun hb => ?_) <;> ((try simp only [hb, Bool.not_true, Bool.not_false]) <;> (try simp only [decide_eq_true_eq, decide_eq_false_iff_not, Bool.not_eq_true', Bool.not_eq_false', Int.not_lt, Int.not_le, List.length_map, not_true_eq_false] at hb) <;> (try (exfalso; omega))))))
    exact ⟨.inl rfl, [0, 1, 2, 3], [.osl 2 1 0 D, .osl 3 0 0 us.length], rfl, rfl, ⟨rfl, rfl, trivial⟩, AVle.of_eq rfl, rfl⟩
end Go.Proofs.YtjaipchlnnjaeaaDoor
end
