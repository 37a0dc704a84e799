import Derived.Test.YtplpgijpmgbaiaaGreatDoorMChangeProgresses6
/- Joined texts: Sp4 Sp5 Sp6 Sp7. -/
set_option linter.unusedVariables false
set_option linter.unusedSimpArgs false
namespace Go.Proofs.YtplpgijpmgbaiaaGreatDoor
open Go.RowKit
set_option maxHeartbeats 4000000
set_option maxRecDepth 100000
section
def grps (us : List Us) : List Int := us.map (·.1)
def rgtR (g : Int) (w : SRw) : Bool := if w.1 = -1 then decide (w.2.1 = 0) && decide (w.2.2.length = 0) else decide (0 ≤ w.1 ∧ w.1 < 8 ∧ 1 ≤ w.2.1 ∧ w.2.1 ≤ 32 ∧ w.2.2.length ≠ 0) && incB g (-1) (grps w.2.2)
def conR (rows : List SRw) (a b : Nat) : Bool := !(decide ((rows.getD b rw0).1 = (rows.getD a rw0).1) && !decide ((rows.getD b rw0).2.1 = (rows.getD a rw0).2.1))
def okR (d r n s l i : Int) (rows : List SRw) (a : Nat) : Bool := rgtR (grpI d r n s l i (rows.getD a rw0).2.1) (rows.getD a rw0) && (List.range a).all (conR rows a)
def validR (d r n s l i : Int) (rows : List SRw) : Bool := decide (chk13 d r n s l i = 0 ∧ (rows.length : Int) = n) && (List.range rows.length).all (okR d r n s l i rows)
theorem incB_len {g : Int} {L : List Int} (h : incB g (-1) L = true) : ∀ k, (hk : k < L.length) → (k : Int) ≤ L[k]
 | 0, hk => by
   have := (incB_drop g L (-1)).1 h 0 hk
   rw [if_pos rfl] at this
   omega
 | k + 1, hk => by
   have h1 := (incB_drop g L (-1)).1 h (k + 1) hk
   have h2 := incB_len h k (by omega)
   rw [if_neg (by omega), Nat.add_sub_cancel, List.getD_eq_getElem?_getD, List.getElem?_eq_getElem (by omega), Option.getD_some] at h1
   omega
theorem incB_le {g : Int} {L : List Int} (h : incB g (-1) L = true) (hg : g ≤ 64) : L.length ≤ 64 := by
 rcases Nat.lt_or_ge 64 L.length with h1 | h1
 ·have h2 := incB_len h 64 h1
  have h3 := ((incB_drop g L (-1)).1 h 64 h1).2
  omega
 ·exact h1
theorem grpI_le (d r n s l i w : Int) : grpI d r n s l i w ≤ 64 := by
 unfold grpI
 split
 ·rename_i h
  obtain ⟨h1, h2, h3, h4, h5⟩ := h.bd
  have := Int.ediv_le_self (a := d - s) w (by omega)
  omega
 ·omega
theorem valid_rwin {d r n s l i : Int} {rows : List SRw} (h : validR d r n s l i rows = true) (hl : rows.length ≤ 12) : RwIn rows where
 l := hl
 u a ha := by
  unfold validR at h
  rw [Bool.and_eq_true, List.all_eq_true] at h
  have h1 := h.2 a (List.mem_range.2 ha)
  unfold okR at h1
  rw [Bool.and_eq_true, getDr ha] at h1
  have h2 := h1.1
  unfold rgtR at h2
  split at h2
  ·rw [Bool.and_eq_true, decide_eq_true_eq, decide_eq_true_eq] at h2
   omega
  ·rw [Bool.and_eq_true] at h2
   have := incB_le h2.2 (grpI_le _ _ _ _ _ _ _)
   unfold grps at this
   rwa [List.length_map] at this
attribute [local irreducible] Quiet Eff OpOk AWPG ACont ABlock ACalls AGoto
theorem A_rright24 {d r n s l i : Int} {w : SRw} (hw : w.2.2.length ≤ 9223372036854775807) : ACalls Tryz.prog 124 [cfgA d r n s l i, rwA w] [] (bV (rgtR (grpI d r n s l i w.2.1) w)) [] := by
 obtain ⟨c, wd, us⟩ := w
 dsimp only at hw ⊢
 have hg := A_rgroups d r n s l i wd
 generalize grpI d r n s l i wd = g at *
 have hmu : (us.map usD).length = us.length := List.length_map _
 refine acalls_of_body Tryz.func124 rfl (Nat.le_of_ble_eq_true rfl) ?_
 unfold rgtR
 dsimp only
 by_cases h1 : c = -1
 ·rw [if_pos h1]
  (repeat' (first
   |(apply yFb; exact rfl; exact rfl)
   |(apply W.qd; (first
   |(apply q_mv; (conv => lhs; whnf))|(apply q_as; (conv => lhs; whnf))|(exact yS rfl rfl rfl)|(exact yT rfl rfl rfl rfl)|(exact q_eql rfl rfl)|(exact yV rfl rfl)|(apply (yEb (u := .d _)); exact rfl; exact rfl)
   |(apply (yDb (u := .d _)); exact rfl; exact rfl)))|(apply W.ed; (apply yBb; (iterate 3 exact rfl); kernel_rfl; kernel_rfl))|(refine W.gOff _ _ rfl rfl (by intro h; cases h) ?_)|(apply yA)|(apply yB)|(apply yC; kernel_rfl)|(apply yE)|(apply yJ)|(apply yP)|(refine W.gT _ _ rfl rfl (fun hb => ?_) (fun hb => ?_) <;> ((try simp only [hb, zK]) <;> (try simp only [zL, zI] at hb) <;> (try (exfalso; omega))))
   |(refine W.cond _ rfl (fun hb => ?_) (fun hb => ?_) <;> ((try simp only [hb, zK]) <;> (try simp only [zL, zI] at hb) <;> (try (exfalso; omega))))))
  all_goals first | (exfalso; omega) | (refine Ends.b rfl ?_; rw [Bool.eq_iff_iff]; simp <;> omega)
 rw [if_neg h1]
 by_cases h2 : 0 ≤ c ∧ c < 8 ∧ 1 ≤ wd ∧ wd ≤ 32 ∧ us.length ≠ 0
 case neg =>
  rw [decide_eq_false h2, Bool.false_and]
  (repeat' (first
   |(apply yFb; exact rfl; exact rfl)
   |(apply W.qd; (first
   |(apply q_mv; (conv => lhs; whnf))|(apply q_as; (conv => lhs; whnf))|(exact yS rfl rfl rfl)|(exact yT rfl rfl rfl rfl)|(exact q_lss rfl rfl)|(exact q_gtr rfl rfl)|(exact q_geq rfl rfl)|(exact q_eql rfl rfl)|(exact yV rfl rfl)|(apply (yEb (u := .d _)); exact rfl; exact rfl)
   |(apply (yDb (u := .d _)); exact rfl; exact rfl)))|(apply W.ed; (apply yBb; (iterate 3 exact rfl); kernel_rfl; kernel_rfl))|(refine W.gOff _ _ rfl rfl (by intro h; cases h) ?_)|(apply yA)|(apply yB)|(apply (W.regionS 5); exact rfl; kernel_rfl)|(apply yE)|(apply yH)|(apply yJ)|(apply yP)|(apply yQ; exact rfl)|(refine W.gF _ _ rfl rfl (fun hb => ?_) (fun hb => ?_) <;> ((try simp only [hb, zK]) <;> (try simp only [zL, zI] at hb) <;> (try (exfalso; omega))))
   |(refine W.cond _ rfl (fun hb => ?_) (fun hb => ?_) <;> ((try simp only [hb, zK]) <;> (try simp only [zL, zI] at hb) <;> (try (exfalso; omega))))))
  all_goals first | (exfalso; omega) | exact Ends.b rfl rfl
 rw [decide_eq_true h2, Bool.true_and]
 (repeat' (first
  |(apply yFb; exact rfl; exact rfl)
  |(apply W.qd; (first
  |(apply (yW (hg)); exact rfl; exact rfl; (iterate 3 kernel_rfl))|(apply q_mv; (conv => lhs; whnf))|(apply q_as; (conv => lhs; whnf))|(exact yS rfl rfl rfl)|(exact yT rfl rfl rfl rfl)|(exact yU rfl rfl rfl rfl)|(exact q_lss rfl rfl)|(exact q_gtr rfl rfl)|(exact q_geq rfl rfl)|(exact q_eql rfl rfl)|(exact yV rfl rfl)
  |(apply (yDb (u := .d _)); exact rfl; exact rfl)))|(apply W.ed; (apply yBb; (iterate 3 exact rfl); kernel_rfl; kernel_rfl))|(apply yA)|(apply yB)|(apply (W.regionS 7); exact rfl; kernel_rfl)|(apply yE)|(apply yG)|(apply yH)|(refine W.gF _ _ rfl rfl (fun hb => ?_) (fun hb => ?_) <;> ((try simp only [hb, zK]) <;> (try simp only [zL, zI] at hb) <;> (try (exfalso; omega))))
  |(refine W.cond _ rfl (fun hb => ?_) (fun hb => ?_) <;> ((try simp only [hb, zK]) <;> (try simp only [zL, zI] at hb) <;> (try (exfalso; omega))))))
 all_goals try (exfalso; omega)
 have hml : (grps us).length = us.length := List.length_map _
 have hge : ∀ k (h : k < us.length), (grps us)[k]'(by rw [hml]; exact h) = us[k].1 := fun k h => List.getElem_map _
 have hcnd := incB_drop g (grps us) (-1)
 have hcnd : incB g (-1) (grps us) = true ↔ ∀ k, (h : k < us.length) → lastI (grps us) k < us[k].1 ∧ us[k].1 < g := by
  rw [hcnd]
  constructor
  ·intro h3 k h4
   have := h3 k (by rw [hml]; exact h4)
   rw [hge k h4] at this; exact this
  ·intro h3 k h4
   rw [hge k (by rw [← hml]; exact h4)]; exact h3 k (by rw [← hml]; exact h4)
 have hl0 : lastI (grps us) 0 = -1 := rfl
 have hls : ∀ k (h : k < us.length), lastI (grps us) (k + 1) = us[k].1 := fun k h => by
  unfold lastI
  rw [if_neg (by omega), Nat.add_sub_cancel, List.getD_eq_getElem?_getD, List.getElem?_eq_getElem (by rw [hml]; exact h), Option.getD_some, hge k h]
 generalize lastI (grps us) = la at *
 generalize incB g (-1) (grps us) = R at *
 clear hml hge h1
 refine AWP.loopW (α := Nat) (fun k => k ≤ us.length ∧ ∀ j, (h : j < us.length) → j < k → (la j < us[j].1 ∧ us[j].1 < g) ∧ 0 ≤ us[j].1) (fun k => ⟨[(6, iV k), (5, iV g), (3, .opt 1 0)], [.box [iV d, iV r, iV n, iV s, iV l, iV i], .box [iV c, iV wd, .d (.sl 3 (us.map usD))]]⟩) (fun k => us.length - k) 0 ⟨Nat.zero_le _, fun j h hj => by omega⟩ ⟨[0, 1], rfl, rfl, rfl, by (repeat (first | exact trivial | refine ⟨rfl, ?_⟩))⟩ fun k hk => ?_
 by_cases hkl : k < us.length
 ·have hnx : (la k < us[k].1 ∧ us[k].1 < g) ∧ 0 ≤ us[k].1 → ∀ j, (h : j < us.length) → j < k + 1 → (la j < us[j].1 ∧ us[j].1 < g) ∧ 0 ≤ us[j].1 := fun hg j h hj => by
   by_cases e : j = k
   ·subst e; exact hg
   ·exact hk.2 j h (by omega)
  have hbd : ¬ (la k < us[k].1 ∧ us[k].1 < g) → R = false := fun hg => by
   cases hq : R with
   | false => rfl
   | true => exact absurd (hcnd.1 hq k hkl) hg
  by_cases hk0 : k = 0
  ·subst hk0
   rw [hl0] at hnx hbd
   clear hcnd hls hl0 hk
   (repeat' (first
    |(apply yFb; exact rfl; exact rfl)
    |(apply W.qd; (first
    |(apply q_mv; (conv => lhs; whnf))|(apply q_as; (conv => lhs; whnf))|(exact yS rfl rfl rfl)|(exact yT rfl rfl rfl rfl)|(exact q_lss rfl rfl)|(exact q_gtr rfl rfl)|(exact q_geq rfl rfl)|(exact q_add rfl rfl (by omega))|(exact yV rfl rfl)|(apply yX; (iterate 3 exact rfl); (first | omega | (focus (simp; done))))|(apply q_fld_fptF; (iterate 3 exact rfl))|(apply yGb; (iterate 4 exact rfl); (first | (with_reducible exact rfl) | exact natI_spec rfl | assumption | exact (Int.toNat_of_nonneg (by omega)).symm); (first | omega | (focus (simp only [List.length_map]; omega)) | (focus (simp; done)) | (focus (simp; omega))))|(apply (yEb (u := .d _)); exact rfl; exact rfl)
    |(apply (yDb (u := .d _)); exact rfl; exact rfl)))|(refine W.gOff _ _ rfl rfl (by intro h; cases h) ?_)|(apply yA)|(apply yB)|(apply yC; kernel_rfl)|(apply yD; exact rfl; kernel_rfl)|(apply yE)|(apply yF; kernel_rfl)|(apply yG)|(apply yH)|(apply yJ)|(apply yP)|(apply yL)|(apply yN)|(apply yQ; exact rfl)|(apply yR; exact rfl)|(refine W.gF _ _ rfl rfl (fun hb => ?_) (fun hb => ?_) <;> ((try simp only [hb, zK]) <;> (try simp only [zL, zI] at hb) <;> (try (exfalso; omega))))
    |(refine W.cond _ rfl (fun hb => ?_) (fun hb => ?_) <;> ((try simp only [hb, zK]) <;> (try simp only [zL, zI] at hb) <;> (try (exfalso; omega))))))
   all_goals first
    |exact Ends.b rfl (hbd (by omega)).symm
    |exact ⟨0 + 1, ⟨by omega, hnx (by omega)⟩, by omega, [0, 1], rfl, rfl, rfl, iV_eq (by omega), rfl, rfl, trivial⟩
    |(exfalso; omega)
  ·obtain ⟨q, rfl⟩ : ∃ q, k = q + 1 := ⟨k - 1, by omega⟩
   have hq := hk.2 q (by omega) (by omega)
   rw [hls q (by omega)] at hnx hbd
   have hqs : (((q + 1 : Nat) : Int) - 1) = ((q : Nat) : Int) := by omega
   clear hcnd hls hl0 hk
   (repeat' (first
    |(apply yFb; exact rfl; exact rfl)
    |(apply W.qd; (first
    |(apply q_mv; (conv => lhs; whnf))|(apply q_as; (conv => lhs; whnf))|(exact yS rfl rfl rfl)|(exact yT rfl rfl rfl rfl)|(exact q_lss rfl rfl)|(exact q_leq rfl rfl)|(exact q_gtr rfl rfl)|(exact q_geq rfl rfl)|(exact q_add rfl rfl (by omega))|(exact q_sub rfl rfl (by omega))|(exact yV rfl rfl)|(apply yX; (iterate 3 exact rfl); (first | omega | (focus (simp; done))))|(apply q_fld_fptF; (iterate 3 exact rfl))|(apply yGb; (iterate 4 exact rfl); (first | (with_reducible exact rfl) | exact natI_spec rfl | assumption | exact (Int.toNat_of_nonneg (by omega)).symm); (first | omega | (focus (simp only [List.length_map]; omega)) | (focus (simp; done)) | (focus (simp; omega))))|(apply (yEb (u := .d _)); exact rfl; exact rfl)
    |(apply (yDb (u := .d _)); exact rfl; exact rfl)))|(refine W.gOff _ _ rfl rfl (by intro h; cases h) ?_)|(apply yA)|(apply yB)|(apply yC; kernel_rfl)|(apply yD; exact rfl; kernel_rfl)|(apply yE)|(apply yF; kernel_rfl)|(apply yG)|(apply yH)|(apply yJ)|(apply yP)|(apply yL)|(apply yN)|(apply yQ; exact rfl)|(refine W.gT _ _ rfl rfl (fun hb => ?_) (fun hb => ?_) <;> ((try simp only [hb, zK]) <;> (try simp only [zL, zI] at hb) <;> (try (exfalso; omega))))|(refine W.gF _ _ rfl rfl (fun hb => ?_) (fun hb => ?_) <;> ((try simp only [hb, zK]) <;> (try simp only [zL, zI] at hb) <;> (try (exfalso; omega))))
    |(refine W.cond _ rfl (fun hb => ?_) (fun hb => ?_) <;> ((try simp only [hb, zK]) <;> (try simp only [zL, zI] at hb) <;> (try (exfalso; omega))))))
   all_goals first
    |exact Ends.b rfl (hbd (by omega)).symm
    |exact ⟨q + 1 + 1, ⟨by omega, hnx (by omega)⟩, by omega, [0, 1], rfl, rfl, rfl, iV_eq (by omega), rfl, rfl, trivial⟩
    |(exfalso; omega)
 ·have ht : R = true := hcnd.2 fun j h => (hk.2 j h (by omega)).1
  rw [ht]
  clear hcnd hls hl0 hk
  (repeat' (first
   |(apply W.qd; (first
   |(apply q_mv; (conv => lhs; whnf))|(apply q_as; (conv => lhs; whnf))|(exact yS rfl rfl rfl)|(exact yT rfl rfl rfl rfl)|(exact q_lss rfl rfl)
   |(exact yV rfl rfl)))|(apply yA)|(apply yB)|(apply yC; kernel_rfl)|(apply yE)|(apply yI)|(apply yJ)|(apply yK)|(apply yM)
   |(refine W.cond _ rfl (fun hb => ?_) (fun hb => ?_) <;> ((try simp only [hb, zK]) <;> (try simp only [zL, zI] at hb) <;> (try (exfalso; omega))))))
  all_goals exact Ends.b rfl rfl
theorem A_rvalid24 {d r n s l i : Int} {rows : List SRw} (hl : rows.length ≤ 12) (hu : ∀ a (h : a < rows.length), rows[a].2.2.length ≤ 9223372036854775807) : ACalls Tryz.prog 70 [cfgA d r n s l i, rws rows] [] (bV (validR d r n s l i rows)) [] := by
 have hck := A_rdchk d r n s l i
 have hm : (rows.map rwD).length = rows.length := List.length_map _
 refine acalls_of_body Tryz.func70 rfl (Nat.le_of_ble_eq_true rfl) ?_
 unfold validR
 by_cases h1 : chk13 d r n s l i = 0 ∧ (rows.length : Int) = n
 case neg =>
  rw [decide_eq_false h1, Bool.false_and]
  generalize chk13 d r n s l i = e at *
  (repeat' (first
   |(apply yFb; exact rfl; exact rfl)
   |(apply W.qd; (first
   |(apply (yW (hck)); exact rfl; exact rfl; (iterate 3 kernel_rfl))|(apply q_mv; (conv => lhs; whnf))|(apply q_as; (conv => lhs; whnf))|(exact yS rfl rfl rfl)|(exact yT rfl rfl rfl rfl)|(exact yU rfl rfl rfl rfl)|(exact q_neq rfl rfl)|(exact yV rfl rfl)|(apply (yEb (u := .d _)); exact rfl; exact rfl)
   |(apply (yDb (u := .d _)); exact rfl; exact rfl)))|(apply W.ed; (apply yBb; (iterate 3 exact rfl); kernel_rfl; kernel_rfl))|(refine W.gOff _ _ rfl rfl (by intro h; cases h) ?_)|(apply yA)|(apply yB)|(apply (W.regionS 4); exact rfl; kernel_rfl)|(apply yE)|(apply yJ)|(apply yP)|(apply yQ; exact rfl)|(refine W.gF _ _ rfl rfl (fun hb => ?_) (fun hb => ?_) <;> ((try simp only [hb, zK]) <;> (try simp only [zL, zI] at hb) <;> (try (exfalso; omega))))
   |(refine W.cond _ rfl (fun hb => ?_) (fun hb => ?_) <;> ((try simp only [hb, zK]) <;> (try simp only [zL, zI] at hb) <;> (try (exfalso; omega))))))
  all_goals first | (exfalso; omega) | exact Ends.b rfl rfl
 rw [decide_eq_true h1, Bool.true_and]
 rw [h1.1] at hck
 have hn := h1.2
 clear h1
 have hR := fun a (h : a < rows.length) => A_rright24 (d := d) (r := r) (n := n) (s := s) (l := l) (i := i) (w := rows[a]) (hu a h)
 have hok : ∀ a (h : a < rows.length), okR d r n s l i rows a = (rgtR (grpI d r n s l i rows[a].2.1) rows[a] && (List.range a).all (conR rows a)) := fun a h => by
  unfold okR; rw [getDr h]
 have hcon : ∀ a (h : a < rows.length) b (h2 : b < rows.length), conR rows a b = !(decide (rows[b].1 = rows[a].1) && !decide (rows[b].2.1 = rows[a].2.1)) := fun a h b h2 => by
  unfold conR; rw [getDr h, getDr h2]
 generalize okR d r n s l i rows = Q at *
 (repeat' (first
  |(apply yFb; exact rfl; exact rfl)
  |(apply W.qd; (first
  |(apply (yW (hck)); exact rfl; exact rfl; (iterate 3 kernel_rfl))|(apply q_mv; (conv => lhs; whnf))|(apply q_as; (conv => lhs; whnf))|(exact yS rfl rfl rfl)|(exact yT rfl rfl rfl rfl)|(exact yU rfl rfl rfl rfl)|(exact q_neq rfl rfl)|(exact yV rfl rfl)
  |(apply (yDb (u := .d _)); exact rfl; exact rfl)))|(apply W.ed; (apply yBb; (iterate 3 exact rfl); kernel_rfl; kernel_rfl))|(apply yA)|(apply yB)|(apply (W.regionS 5); exact rfl; kernel_rfl)|(apply yE)|(apply yG)|(apply yH)
  |(refine W.cond _ rfl (fun hb => ?_) (fun hb => ?_) <;> ((try simp only [hb, zK]) <;> (try simp only [zL, zI] at hb) <;> (try (exfalso; omega))))))
 all_goals try (exfalso; omega)
 refine AWP.loopW (α := Nat) (fun a => a ≤ rows.length ∧ ∀ j, j < a → Q j = true) (fun a => ⟨[(6, iV a), (1, rws rows), (2, .opt 0 0)], [.box [iV d, iV r, iV n, iV s, iV l, iV i]]⟩) (fun a => rows.length - a) 0 ⟨Nat.zero_le _, fun j hj => by omega⟩ ⟨[0], rfl, rfl, rfl, by (repeat (first | exact trivial | refine ⟨rfl, ?_⟩))⟩ fun a ha => ?_
 by_cases hal : a < rows.length
 ·have hbad : Q a = false → (List.range rows.length).all Q = false := fun h => by
   rw [List.all_eq_false]
   exact ⟨a, List.mem_range.2 hal, by rw [h]; decide⟩
  have hnx : Q a = true → ∀ j, j < a + 1 → Q j = true := fun h j hj => by
   by_cases e : j = a
   ·subst e; exact h
   ·exact ha.2 j (by omega)
  have hra := hR a hal
  have hqa := hok a hal
  have hca := fun b (h2 : b < rows.length) => hcon a hal b h2
  clear ha hok hcon hR hu
  generalize (List.range rows.length).all Q = R at *
  generalize rgtR (grpI d r n s l i rows[a].2.1) rows[a] = ra at *
  cases ra with
  | false =>
    rw [Bool.false_and] at hqa
    rw [hbad hqa]
    (repeat' (first
     |(apply W.qd; (first
     |(apply (yW (hra)); exact rfl; exact rfl; (iterate 3 kernel_rfl))|(apply q_mv; (conv => lhs; whnf))|(apply q_as; (conv => lhs; whnf))|(exact yU rfl rfl rfl rfl)|(exact q_lss rfl rfl)|(exact q_not rfl)|(exact yV rfl rfl)|(apply yY; (iterate 3 exact rfl); (first | omega | (focus (simp; done))))
     |(apply yGb; (iterate 4 exact rfl); (first | (with_reducible exact rfl) | exact natI_spec rfl | assumption | exact (Int.toNat_of_nonneg (by omega)).symm); (first | omega | (focus (simp only [List.length_map]; omega)) | (focus (simp; done)) | (focus (simp; omega))))))|(apply yA)|(apply yB)|(apply (W.regionS 11); exact rfl; kernel_rfl)|(apply (W.regionDS 11); exact rfl; exact rfl; kernel_rfl)|(apply yE)|(apply yF; kernel_rfl)|(apply yG)|(apply yH)|(apply yJ)|(apply yP)|(apply yN)|(apply yQ; exact rfl)
     |(refine W.cond _ rfl (fun hb => ?_) (fun hb => ?_) <;> ((try simp only [hb, zK]) <;> (try simp only [zL, zI] at hb) <;> (try (exfalso; omega))))))
    all_goals first | (exfalso; omega) | exact Ends.b rfl rfl
  | true =>
    rw [Bool.true_and] at hqa
    (repeat' (first
     |(apply W.qd; (first
     |(apply (yW (hra)); exact rfl; exact rfl; (iterate 3 kernel_rfl))|(apply q_mv; (conv => lhs; whnf))|(apply q_as; (conv => lhs; whnf))|(exact yU rfl rfl rfl rfl)|(exact q_lss rfl rfl)|(exact q_not rfl)|(exact yV rfl rfl)|(apply yY; (iterate 3 exact rfl); (first | omega | (focus (simp; done))))
     |(apply yGb; (iterate 4 exact rfl); (first | (with_reducible exact rfl) | exact natI_spec rfl | assumption | exact (Int.toNat_of_nonneg (by omega)).symm); (first | omega | (focus (simp only [List.length_map]; omega)) | (focus (simp; done)) | (focus (simp; omega))))))|(apply yA)|(apply yB)|(apply (W.regionS 11); exact rfl; kernel_rfl)|(apply (W.regionDS 11); exact rfl; exact rfl; kernel_rfl)|(apply yE)|(apply yF; kernel_rfl)|(apply yG)|(apply yH)|(apply yR; exact rfl)
     |(refine W.cond _ rfl (fun hb => ?_) (fun hb => ?_) <;> ((try simp only [hb, zK]) <;> (try simp only [zL, zI] at hb) <;> (try (exfalso; omega))))))
    all_goals try (exfalso; omega)
    refine AWP.loopW (α := Nat) (fun b => b ≤ a ∧ ∀ j, j < b → conR rows a j = true) (fun b => ⟨[(8, iV b), (6, iV a), (1, rws rows), (2, .opt 0 0)], [.box [iV d, iV r, iV n, iV s, iV l, iV i]]⟩) (fun b => a - b) 0 ⟨Nat.zero_le _, fun j hj => by omega⟩ ⟨[0], rfl, rfl, rfl, by (repeat (first | exact trivial | refine ⟨rfl, ?_⟩))⟩ fun b hb9 => ?_
    by_cases hbl : b < a
    ·have hcb := hca b (by omega)
     have hbd : conR rows a b = false → R = false := fun h => hbad (by rw [hqa, List.all_eq_false]; exact ⟨b, List.mem_range.2 hbl, by rw [h]; decide⟩)
     have hn2 : conR rows a b = true → ∀ j, j < b + 1 → conR rows a j = true := fun h j hj => by
      by_cases e : j = b
      ·subst e; exact h
      ·exact hb9.2 j (by omega)
     have hb1 := hb9.1
     clear hb9 hca hqa hnx hbad
     have hbr : b < rows.length := by omega
     by_cases e1 : rows[b].1 = rows[a].1
     ·by_cases e2 : rows[b].2.1 = rows[a].2.1
      ·rw [decide_eq_true e1, decide_eq_true e2] at hcb
       (repeat' (first
        |(apply yFb; exact rfl; exact rfl)
        |(apply W.qd; (first
        |(apply q_mv; (conv => lhs; whnf))|(apply q_as; (conv => lhs; whnf))|(exact q_lss rfl rfl)|(exact q_eql rfl rfl)|(exact q_neq rfl rfl)|(exact q_add rfl rfl (by omega))|(apply yX; (iterate 3 exact rfl); (first | omega | (focus (simp; done))))|(apply q_fld_fptF; (iterate 3 exact rfl))|(apply yGb; (iterate 4 exact rfl); (first | (with_reducible exact rfl) | exact natI_spec rfl | assumption | exact (Int.toNat_of_nonneg (by omega)).symm); (first | omega | (focus (simp only [List.length_map]; omega)) | (focus (simp; done)) | (focus (simp; omega))))
        |(apply (yEb (u := .d _)); exact rfl; exact rfl)))|(apply yA)|(apply yB)|(apply yC; kernel_rfl)|(apply yD; exact rfl; kernel_rfl)|(apply yE)|(apply yF; kernel_rfl)|(apply yG)|(apply yH)|(apply yL)|(refine W.gT _ _ rfl rfl (fun hb => ?_) (fun hb => ?_) <;> ((try simp only [hb, zK]) <;> (try simp only [zL, zI] at hb) <;> (try (exfalso; omega))))
        |(refine W.cond _ rfl (fun hb => ?_) (fun hb => ?_) <;> ((try simp only [hb, zK]) <;> (try simp only [zL, zI] at hb) <;> (try (exfalso; omega))))))
       all_goals first
        |(exfalso; omega)
        |exact ⟨b + 1, ⟨by omega, hn2 hcb⟩, by omega, [0], rfl, rfl, rfl, iV_eq (by omega), rfl, rfl, rfl, trivial⟩
      ·rw [decide_eq_true e1, decide_eq_false e2] at hcb
       rw [hbd hcb]
       (repeat' (first
        |(apply yFb; exact rfl; exact rfl)
        |(apply W.qd; (first
        |(apply q_mv; (conv => lhs; whnf))|(apply q_as; (conv => lhs; whnf))|(exact q_lss rfl rfl)|(exact q_eql rfl rfl)|(exact q_neq rfl rfl)|(apply yX; (iterate 3 exact rfl); (first | omega | (focus (simp; done))))|(apply q_fld_fptF; (iterate 3 exact rfl))|(apply yGb; (iterate 4 exact rfl); (first | (with_reducible exact rfl) | exact natI_spec rfl | assumption | exact (Int.toNat_of_nonneg (by omega)).symm); (first | omega | (focus (simp only [List.length_map]; omega)) | (focus (simp; done)) | (focus (simp; omega))))
        |(apply (yEb (u := .d _)); exact rfl; exact rfl)))|(apply yA)|(apply yB)|(apply yC; kernel_rfl)|(apply yD; exact rfl; kernel_rfl)|(apply yE)|(apply yF; kernel_rfl)|(apply yG)|(apply yH)|(apply yJ)|(apply yP)|(apply yN)|(refine W.gT _ _ rfl rfl (fun hb => ?_) (fun hb => ?_) <;> ((try simp only [hb, zK]) <;> (try simp only [zL, zI] at hb) <;> (try (exfalso; omega))))
        |(refine W.cond _ rfl (fun hb => ?_) (fun hb => ?_) <;> ((try simp only [hb, zK]) <;> (try simp only [zL, zI] at hb) <;> (try (exfalso; omega))))))
       all_goals first | (exfalso; omega) | exact Ends.b rfl rfl
     ·rw [decide_eq_false e1, Bool.false_and] at hcb
      (repeat' (first
       |(apply W.qd; (first
       |(apply q_mv; (conv => lhs; whnf))|(apply q_as; (conv => lhs; whnf))|(exact q_lss rfl rfl)|(exact q_eql rfl rfl)|(exact q_add rfl rfl (by omega))|(apply yX; (iterate 3 exact rfl); (first | omega | (focus (simp; done))))|(apply q_fld_fptF; (iterate 3 exact rfl))|(apply yGb; (iterate 4 exact rfl); (first | (with_reducible exact rfl) | exact natI_spec rfl | assumption | exact (Int.toNat_of_nonneg (by omega)).symm); (first | omega | (focus (simp only [List.length_map]; omega)) | (focus (simp; done)) | (focus (simp; omega))))
       |(apply (yDb (u := .d _)); exact rfl; exact rfl)))|(refine W.gOff _ _ rfl rfl (by intro h; cases h) ?_)|(apply yA)|(apply yB)|(apply yC; kernel_rfl)|(apply yD; exact rfl; kernel_rfl)|(apply yE)|(apply yF; kernel_rfl)|(apply yG)|(apply yH)|(apply yL)|(apply yR; exact rfl)|(refine W.gT _ _ rfl rfl (fun hb => ?_) (fun hb => ?_) <;> ((try simp only [hb, zK]) <;> (try simp only [zL, zI] at hb) <;> (try (exfalso; omega))))
       |(refine W.cond _ rfl (fun hb => ?_) (fun hb => ?_) <;> ((try simp only [hb, zK]) <;> (try simp only [zL, zI] at hb) <;> (try (exfalso; omega))))))
      all_goals first
       |(exfalso; omega)
       |exact ⟨b + 1, ⟨by omega, hn2 hcb⟩, by omega, [0], rfl, rfl, rfl, iV_eq (by omega), rfl, rfl, rfl, trivial⟩
    ·obtain rfl : b = a := by omega
     have hq1 : Q b = true := by
      rw [hqa, List.all_eq_true]
      intro j hj
      exact hb9.2 j (List.mem_range.1 hj)
     have hn3 := hnx hq1
     clear hb9 hca hqa hnx hbad hn
     (repeat' (first
      |(apply W.qd; (first
      |(apply q_mv; (conv => lhs; whnf))|(apply q_as; (conv => lhs; whnf))|(exact q_lss rfl rfl)
      |(exact q_add rfl rfl (by omega))))|(apply yA)|(apply yB)|(apply yC; kernel_rfl)|(apply yE)|(apply yI)|(apply yK)|(apply yL)|(apply yM)
      |(refine W.cond _ rfl (fun hb => ?_) (fun hb => ?_) <;> ((try simp only [hb, zK]) <;> (try simp only [zL, zI] at hb) <;> (try (exfalso; omega))))))
     all_goals first
      |(exfalso; omega)
      |exact ⟨b + 1, ⟨by omega, hn3⟩, by omega, [0], rfl, rfl, rfl, iV_eq (by omega), rfl, rfl, trivial⟩
 ·have hall : (List.range rows.length).all Q = true := by
   rw [List.all_eq_true]
   intro j hj
   exact ha.2 j (by have := List.mem_range.1 hj; omega)
  rw [hall]
  clear ha hok hcon hR hu
  (repeat' (first
   |(apply W.qd; (first
   |(apply q_mv; (conv => lhs; whnf))|(apply q_as; (conv => lhs; whnf))|(exact q_lss rfl rfl)
   |(exact yV rfl rfl)))|(apply yA)|(apply yB)|(apply yC; kernel_rfl)|(apply yE)|(apply yI)|(apply yJ)|(apply yK)|(apply yM)
   |(refine W.cond _ rfl (fun hb => ?_) (fun hb => ?_) <;> ((try simp only [hb, zK]) <;> (try simp only [zL, zI] at hb) <;> (try (exfalso; omega))))))
  all_goals exact Ends.b rfl rfl
end
section
def vldS (d n : Int) (cs : List Cd) (vs : List Sv) (rows : List SRw) : Bool := decide (d ≤ 12 ∧ n ≤ 12 ∧ rows.length ≤ 12 ∧ cs.length ≤ 8 ∧ vs.length ≤ 8)
def vld39 (d r n s l i : Int) (cs : List Cd) (vs : List Sv) (rows : List SRw) : Bool := (vldS d n cs vs rows && cs.all few30) && (validB cs vs && validR d r n s l i rows)
structure RwB (rows : List SRw) : Prop where
 l : rows.length ≤ 9223372036854775807
 u : ∀ a (h : a < rows.length), rows[a].2.2.length ≤ 9223372036854775807
theorem vld_rwin {d r n s l i : Int} {cs : List Cd} {vs : List Sv} {rows : List SRw} (h : vld39 d r n s l i cs vs rows = true) : RwIn rows := by
 unfold vld39 vldS at h
 simp only [Bool.and_eq_true, decide_eq_true_eq] at h
 exact valid_rwin h.2.2 h.1.1.2.2.1
theorem few_fin {c : Cd} (h1 : few30 c = true) (hn : NameIn c.1) : FInD c := by
 unfold few30 at h1
 simp only [Bool.and_eq_true, decide_eq_true_eq] at h1
 exact ⟨hn.b, hn.l, by omega, by omega⟩
attribute [local irreducible] Quiet Eff OpOk AWPG ACont ABlock ACalls AGoto
theorem A_valid39 {d r n s l i : Int} {cs : List Cd} {vs : List Sv} {rows : List SRw} (hL : LibIn cs vs) (hB : RwB rows) : ACalls Tryz.prog 28 [cfgA d r n s l i, lib cs vs, rws rows] [] (bV (vld39 d r n s l i cs vs rows)) [] := by
 have hcl := hL.cl
 have hvl := hL.vl
 have hrl := hB.l
 have hmc : (cs.map cdD).length = cs.length := List.length_map _
 have hmv : (vs.map svD).length = vs.length := List.length_map _
 have hmr : (rows.map rwD).length = rows.length := List.length_map _
 refine acalls_of_body Tryz.func28 rfl (Nat.le_of_ble_eq_true rfl) ?_
 unfold vld39 vldS
 by_cases h1 : d ≤ 12 ∧ n ≤ 12 ∧ rows.length ≤ 12 ∧ cs.length ≤ 8 ∧ vs.length ≤ 8
 case neg =>
  rw [decide_eq_false h1, Bool.false_and, Bool.false_and]
  (repeat' (first
   |(apply yFb; exact rfl; exact rfl)
   |(apply W.qd; (first
   |(apply q_mv; (conv => lhs; whnf))|(apply q_as; (conv => lhs; whnf))|(exact yS rfl rfl rfl)|(exact yT rfl rfl rfl rfl)|(exact q_gtr rfl rfl)|(exact yV rfl rfl)|(apply (yEb (u := .d _)); exact rfl; exact rfl)
   |(apply (yDb (u := .d _)); exact rfl; exact rfl)))|(apply W.ed; (apply yBb; (iterate 3 exact rfl); kernel_rfl; kernel_rfl))|(refine W.gOff _ _ rfl rfl (by intro h; cases h) ?_)|(apply yA)|(apply yB)|(apply (W.regionS 3); exact rfl; kernel_rfl)|(apply yE)|(apply yJ)|(apply yP)|(apply yQ; exact rfl)|(refine W.gF _ _ rfl rfl (fun hb => ?_) (fun hb => ?_) <;> ((try simp only [hb, zK]) <;> (try simp only [zL, zI] at hb) <;> (try (exfalso; omega))))
   |(refine W.cond _ rfl (fun hb => ?_) (fun hb => ?_) <;> ((try simp only [hb, zK]) <;> (try simp only [zL, zI] at hb) <;> (try (exfalso; omega))))))
  all_goals first | (exfalso; omega) | exact Ends.b rfl rfl
 rw [decide_eq_true h1, Bool.true_and]
 obtain ⟨g1, g2, g3, g4, g5⟩ := h1
 have hf := fun k (h : k < cs.length) => A_few39 (c := cs[k])
 have hv24 := A_rvalid24 (d := d) (r := r) (n := n) (s := s) (l := l) (i := i) (rows := rows) g3 hB.u
 (repeat' (first
  |(apply yFb; exact rfl; exact rfl)
  |(apply W.qd; (first
  |(apply q_mv; (conv => lhs; whnf))|(apply q_as; (conv => lhs; whnf))|(exact yS rfl rfl rfl)|(exact yT rfl rfl rfl rfl)|(exact q_gtr rfl rfl)|(exact yV rfl rfl)
  |(apply (yDb (u := .d _)); exact rfl; exact rfl)))|(apply W.ed; (apply yBb; (iterate 3 exact rfl); kernel_rfl; kernel_rfl))|(apply yA)|(apply yB)|(apply (W.regionS 4); exact rfl; kernel_rfl)|(apply yE)|(apply yG)|(apply yH)|(refine W.gF _ _ rfl rfl (fun hb => ?_) (fun hb => ?_) <;> ((try simp only [hb, zK]) <;> (try simp only [zL, zI] at hb) <;> (try (exfalso; omega))))
  |(refine W.cond _ rfl (fun hb => ?_) (fun hb => ?_) <;> ((try simp only [hb, zK]) <;> (try simp only [zL, zI] at hb) <;> (try (exfalso; omega))))))
 all_goals try (exfalso; omega)
 refine AWP.loopW (α := Nat) (fun k => k ≤ cs.length ∧ ∀ j (hj : j < cs.length), j < k → few30 cs[j] = true) (fun k => ⟨[(7, iV k), (2, rws rows), (3, .opt 0 0), (4, .opt 1 0)], [.box [iV d, iV r, iV n, iV s, iV l, iV i], .box [cds cs, svs vs]]⟩) (fun k => cs.length - k) 0 ⟨Nat.zero_le _, fun j hj h => by omega⟩ ⟨[0, 1], rfl, rfl, rfl, by (repeat (first | exact trivial | refine ⟨rfl, ?_⟩))⟩ fun k hk => ?_
 by_cases hkl : k < cs.length
 ·have hfk := hf k hkl
  have hnx : few30 cs[k] = true → ∀ j (hj : j < cs.length), j < k + 1 → few30 cs[j] = true := fun h j hj hji => by
   by_cases e : j = k
   ·subst e; exact h
   ·exact hk.2 j hj (by omega)
  have hbad : few30 cs[k] = false → cs.all few30 = false := fun h => by
   rw [List.all_eq_false]
   exact ⟨_, List.getElem_mem hkl, by rw [h]; decide⟩
  clear hk hf hv24
  generalize few30 cs[k] = b at *
  cases b with
  | false =>
    rw [hbad rfl, Bool.false_and]
    (repeat' (first
     |(apply W.qd; (first
     |(apply (yW (hfk)); exact rfl; exact rfl; (iterate 3 kernel_rfl))|(apply q_mv; (conv => lhs; whnf))|(apply q_as; (conv => lhs; whnf))|(exact yS rfl rfl rfl)|(exact yT rfl rfl rfl rfl)|(exact q_lss rfl rfl)|(exact q_not rfl)|(exact yV rfl rfl)|(apply yY; (iterate 3 exact rfl); (first | omega | (focus (simp; done))))
     |(apply yGb; (iterate 4 exact rfl); (first | (with_reducible exact rfl) | exact natI_spec rfl | assumption | exact (Int.toNat_of_nonneg (by omega)).symm); (first | omega | (focus (simp only [List.length_map]; omega)) | (focus (simp; done)) | (focus (simp; omega))))))|(apply yA)|(apply yB)|(apply yC; kernel_rfl)|(apply yE)|(apply yG)|(apply yH)|(apply yJ)|(apply yP)|(apply yN)|(apply yQ; exact rfl)
     |(refine W.cond _ rfl (fun hb => ?_) (fun hb => ?_) <;> ((try simp only [hb, zK]) <;> (try simp only [zL, zI] at hb) <;> (try (exfalso; omega))))))
    all_goals first | (exfalso; omega) | exact Ends.b rfl rfl
  | true =>
    (repeat' (first
     |(apply W.qd; (first
     |(apply (yW (hfk)); exact rfl; exact rfl; (iterate 3 kernel_rfl))|(apply q_mv; (conv => lhs; whnf))|(apply q_as; (conv => lhs; whnf))|(exact yS rfl rfl rfl)|(exact yT rfl rfl rfl rfl)|(exact q_lss rfl rfl)|(exact q_not rfl)|(exact q_add rfl rfl (by omega))|(exact yV rfl rfl)|(apply yY; (iterate 3 exact rfl); (first | omega | (focus (simp; done))))
     |(apply yGb; (iterate 4 exact rfl); (first | (with_reducible exact rfl) | exact natI_spec rfl | assumption | exact (Int.toNat_of_nonneg (by omega)).symm); (first | omega | (focus (simp only [List.length_map]; omega)) | (focus (simp; done)) | (focus (simp; omega))))))|(apply yA)|(apply yB)|(apply yC; kernel_rfl)|(apply yE)|(apply yG)|(apply yH)|(apply yL)|(apply yR; exact rfl)
     |(refine W.cond _ rfl (fun hb => ?_) (fun hb => ?_) <;> ((try simp only [hb, zK]) <;> (try simp only [zL, zI] at hb) <;> (try (exfalso; omega))))))
    all_goals first
     |(exfalso; omega)
     |exact ⟨k + 1, ⟨by omega, hnx rfl⟩, by omega, [0, 1], rfl, rfl, rfl, iV_eq (by omega), rfl, rfl, rfl, trivial⟩
 ·have hall : cs.all few30 = true := by
   rw [List.all_eq_true]
   intro x hx
   obtain ⟨j, hj, rfl⟩ := List.getElem_of_mem hx
   exact hk.2 j hj (by omega)
  rw [hall, Bool.true_and]
  have hF : ∀ c ∈ cs, FInD c := fun c hc => few_fin (List.all_eq_true.1 hall c hc) (hL.cn c hc)
  have hv30 := A_rvalid30 hL hF
  clear hk hf hF hall
  generalize validR d r n s l i rows = b2 at *
  cases hb1 : validB cs vs with
  | false =>
    rw [hb1] at hv30
    (repeat' (first
     |(apply W.qd; (first
     |(apply (yW (hv30)); exact rfl; exact rfl; (iterate 3 kernel_rfl))|(apply q_mv; (conv => lhs; whnf))|(apply q_as; (conv => lhs; whnf))|(exact yS rfl rfl rfl)|(exact yT rfl rfl rfl rfl)|(exact yU rfl rfl rfl rfl)|(exact q_lss rfl rfl)|(exact yV rfl rfl)
     |(apply (yDb (u := .d _)); exact rfl; exact rfl)))|(refine W.gOff _ _ rfl rfl (by intro h; cases h) ?_)|(apply yA)|(apply yB)|(apply yC; kernel_rfl)|(apply yE)|(apply yI)|(apply yJ)|(apply yK)|(apply yM)
     |(refine W.cond _ rfl (fun hb => ?_) (fun hb => ?_) <;> ((try simp only [hb, zK]) <;> (try simp only [zL, zI] at hb) <;> (try (exfalso; omega))))))
    all_goals exact Ends.b rfl rfl
  | true =>
    rw [hb1] at hv30
    (repeat' (first
     |(apply yFb; exact rfl; exact rfl)
     |(apply W.qd; (first
     |(apply (yW (hv30)); exact rfl; exact rfl; (iterate 3 kernel_rfl))|(apply (yW (hv24)); exact rfl; exact rfl; (iterate 3 kernel_rfl))|(apply q_mv; (conv => lhs; whnf))|(apply q_as; (conv => lhs; whnf))|(exact yS rfl rfl rfl)|(exact yT rfl rfl rfl rfl)|(exact yU rfl rfl rfl rfl)|(exact q_lss rfl rfl)|(exact yV rfl rfl)
     |(apply (yEb (u := .d _)); exact rfl; exact rfl)))|(apply yA)|(apply yB)|(apply yC; kernel_rfl)|(apply yE)|(apply yI)|(apply yJ)|(apply yK)|(apply yM)
     |(refine W.cond _ rfl (fun hb => ?_) (fun hb => ?_) <;> ((try simp only [hb, zK]) <;> (try simp only [zL, zI] at hb) <;> (try (exfalso; omega))))))
    all_goals exact Ends.b rfl rfl
end
section
abbrev uss (l : List Us) : AV := .d (.sl 3 (l.map usD))
abbrev usA (u : Us) : AV := .agg ((usD u).map .d)
def usZ : Us := (0, 0, 0)
def rwL (r : SRw) : List AV := (rwD r).map AV.d
def cpC (rows : List SRw) (k : Nat) (e : List AV) : List AV := ((rows.map rwL).set k e).flatten
def cpX (rows : List SRw) (k : Nat) (x : AV) : List AV := [iV (rows.getD k rw0).1, iV (rows.getD k rw0).2.1, x]
theorem rwL_len {rows : List SRw} {k : Nat} {e : List AV} (h : e.length = 3) : ∀ x ∈ (rows.map rwL).set k e, x.length = 3 := fun x hx => by
 rcases List.mem_or_eq_of_mem_set hx with h1 | rfl
 ·obtain ⟨r, _, rfl⟩ := List.mem_map.1 h1; rfl
 ·exact h
theorem cpC_len {rows : List SRw} {k : Nat} {e : List AV} (h : e.length = 3) : (cpC rows k e).length = rows.length * 3 := by
 unfold cpC
 rw [flA_len (rwL_len h), List.length_set, List.length_map]
theorem cpC_get_ne {rows : List SRw} {k i : Nat} {e : List AV} (h : e.length = 3) (hi : i < rows.length) (hk : i ≠ k) : (cpC rows k e)[i * 3 + 2]? = some (uss rows[i].2.2) := by
 unfold cpC
 rw [flA_get (e := rwL rows[i]) (rwL_len h) (by rw [List.getElem?_set_ne (Ne.symm hk), List.getElem?_map, List.getElem?_eq_getElem hi]; rfl) (by omega)]; rfl
theorem cpC_get {rows : List SRw} {k : Nat} {x : AV} (hk : k < rows.length) : (cpC rows k (cpX rows k x))[k * 3 + 2]? = some x := by
 unfold cpC
 rw [flA_get (e := cpX rows k x) (rwL_len rfl) (by rw [List.getElem?_set_self (by simpa using hk)]) (by omega)]; rfl
theorem cpC_set {rows : List SRw} {k : Nat} {x y : AV} (hk : k < rows.length) : (cpC rows k (cpX rows k x)).set (k * 3 + 2) y = cpC rows k (cpX rows k y) := by
 unfold cpC
 rw [flA_set (e := cpX rows k x) (rwL_len rfl) (by rw [List.getElem?_set_self (by simpa using hk)]) (by omega), List.set_set]; rfl
theorem cpC_spl {rows : List SRw} {k : Nat} {x : AV} {e : List AV} (h : e.length = 3) (hk : k < rows.length) : (cpC rows k (cpX rows k x)).take (k * 3) ++ e ++ (cpC rows k (cpX rows k x)).drop (k * 3 + e.length) = cpC rows k e := by
 unfold cpC
 rw [flA_spl h (rwL_len rfl) (by simpa using hk), List.set_set]
theorem cpC_same {rows : List SRw} {k : Nat} (hk : k < rows.length) : ((rows.map rwD).flatten).map AV.d = cpC rows k (cpX rows k (uss rows[k].2.2)) := by
 have e : (rows.map rwL).set k (cpX rows k (uss rows[k].2.2)) = rows.map rwL := by
  apply List.ext_getElem?
  intro i
  by_cases h : i = k
  ·subst h
   rw [List.getElem?_set_self (by simpa using hk), List.getElem?_map, List.getElem?_eq_getElem hk]
   unfold cpX
   rw [getDr hk]; rfl
  ·rw [List.getElem?_set_ne (Ne.symm h)]
 unfold cpC
 rw [e, List.map_flatten, List.map_map]; rfl
theorem cpC_map {rows : List SRw} {k : Nat} {e : List AV} {g : AV → AV} (hg : ∀ d, g (.d d) = .d d) : (cpC rows k e).map g = cpC rows k (e.map g) := by
 have e1 : ∀ r : SRw, (rwL r).map g = rwL r := fun r => by unfold rwL rwD; simp [hg]
 unfold cpC
 rw [List.map_flatten, List.map_set, List.map_map]
 congr 2
 exact List.map_congr_left fun r _ => e1 r
theorem cpC_setn {rows : List SRw} {k i : Nat} {e : List AV} (h : e.length = 3) (hi : i < rows.length) (hk : i ≠ k) : (cpC rows k e).set (i * 3 + 2) (uss rows[i].2.2) = cpC rows k e := by
 have h1 := cpC_get_ne h hi hk
 apply List.ext_getElem?
 intro j
 by_cases hj : j = i * 3 + 2
 ·subst hj
  rw [List.getElem?_set_self (by rw [cpC_len h]; omega), h1]
 ·rw [List.getElem?_set_ne (Ne.symm hj)]
theorem cpC_rel {rows : List SRw} {k : Nat} {r : SRw} {own : List Ent} {e : List AV} (h : e.length = 3) (hk : k < rows.length)
 (h2 : ∀ (q : Nat) (x : Dat), (rwD r)[q]? = some x → ∃ y, e[q]? = some y ∧ AVle (AV.frz own [] y) (.d x)) :
 ∀ (j : Nat) (x : Dat), (((rows.set k r).map rwD).flatten)[j]? = some x → ∃ y, (cpC rows k e)[j]? = some y ∧ AVle (AV.frz own [] y) (.d x) := fun j x hj => by
 have hl : ∀ e ∈ (rows.set k r).map rwD, e.length = 3 := fun e he => by obtain ⟨r, _, rfl⟩ := List.mem_map.1 he; rfl
 have hjl : j < ((rows.set k r).map rwD).flatten.length := (List.getElem?_eq_some_iff.1 hj).1
 rw [flA_len hl, List.length_map, List.length_set] at hjl
 have hd : j / 3 < rows.length := by omega
 have e1 : j = j / 3 * 3 + j % 3 := by omega
 have e2 : ((rows.set k r).map rwD)[j / 3]? = some (rwD ((rows.set k r)[j / 3]'(by rw [List.length_set]; exact hd))) := by
  rw [List.getElem?_map, List.getElem?_eq_getElem (by rw [List.length_set]; exact hd)]; rfl
 rw [e1, flA_get hl e2 (by omega)] at hj
 by_cases hjk : j / 3 = k
 ·have e3 : (rows.set k r)[j / 3]'(by rw [List.length_set]; exact hd) = r := by
   have := List.getElem?_set_self (a := r) hk
   rw [← hjk, List.getElem?_eq_getElem (by rw [List.length_set]; exact hd)] at this
   subst hjk
   exact Option.some.inj this
  rw [e3] at hj
  obtain ⟨y, h3, h4⟩ := h2 _ x hj
  refine ⟨y, ?_, h4⟩
  unfold cpC
  rw [e1, flA_get (rwL_len h) (e := e) (by rw [hjk, List.getElem?_set_self (by simpa using hk)]) (by omega)]
  exact h3
 ·have e3 : (rows.set k r)[j / 3]'(by rw [List.length_set]; exact hd) = rows[j / 3] := List.getElem_set_ne (Ne.symm hjk) _
  rw [e3] at hj
  refine ⟨.d x, ?_, AVle.of_eq (by rw [AV.frz])⟩
  unfold cpC
  rw [e1, flA_get (rwL_len h) (e := rwL rows[j / 3]) (by rw [List.getElem?_set_ne (Ne.symm hjk), List.getElem?_map, List.getElem?_eq_getElem hd]; rfl) (by omega)]
  unfold rwL
  rw [List.getElem?_map, hj]; rfl
attribute [local irreducible] Quiet Eff OpOk AWPG ACont ABlock ACalls AGoto
theorem A_cloneR {rows : List SRw} (h0 : 0 < rows.length) (hl : rows.length ≤ 1000000) : ACalls Tryz.prog 132 [rws rows] [] (.osl 0 1 0 rows.length) [.row 1 3 164 (rows.map rwD)] := by
 refine acalls_of_bodyO Tryz.func132 rfl (Nat.le_of_ble_eq_true rfl) ?_
 have hm : (rows.map rwD).length = rows.length := List.length_map _
 (repeat' (first
  |(apply W.ed; (apply e_lit0F; (iterate 5 exact rfl)))
  |(apply W.qd; (first
  |(apply q_mv; (conv => lhs; whnf))|(apply q_as; (conv => lhs; whnf))
  |(apply q_eqnilm; (iterate 3 exact rfl); (first | assumption | omega))))|(apply W.ed; (apply e_appF; (iterate 8 exact rfl); (first | rfl | simp); (first | exact Nat.zero_lt_one | (focus (simp; done)) | omega); (first | (focus (simp; done)) | (focus (simp; omega)) | omega)))|(apply yA)|(apply yB)|(apply yC; kernel_rfl)|(apply yE)|(apply yH)|(apply yJ)
  |(apply yR; exact rfl)))
 refine ⟨.inl rfl, [0], [.osl 0 1 0 ((([] : List Nat).length) + (rows.map rwD).length)], rfl, rfl, ⟨rfl, trivial⟩, AVle.of_eq ?_, rfl⟩
 show AV.osl 0 1 0 (0 + (rows.map rwD).length) = .osl 0 1 0 rows.length
 rw [hm, Nat.zero_add]
theorem A_cloneU {l : List Us} (h0 : 0 < l.length) (hl : l.length ≤ 1000000) : ACalls Tryz.prog 133 [uss l] [] (.osl 0 1 0 l.length) [.row 1 3 167 (l.map usD)] := by
 refine acalls_of_bodyO Tryz.func133 rfl (Nat.le_of_ble_eq_true rfl) ?_
 have hm : (l.map usD).length = l.length := List.length_map _
 (repeat' (first
  |(apply W.ed; (apply e_lit0F; (iterate 5 exact rfl)))
  |(apply W.qd; (first
  |(apply q_mv; (conv => lhs; whnf))|(apply q_as; (conv => lhs; whnf))
  |(apply q_eqnilm; (iterate 3 exact rfl); (first | assumption | omega))))|(apply W.ed; (apply e_appF; (iterate 8 exact rfl); (first | rfl | simp); (first | exact Nat.zero_lt_one | (focus (simp; done)) | omega); (first | (focus (simp; done)) | (focus (simp; omega)) | omega)))|(apply yA)|(apply yB)|(apply yC; kernel_rfl)|(apply yE)|(apply yH)|(apply yJ)
  |(apply yR; exact rfl)))
 refine ⟨.inl rfl, [0], [.osl 0 1 0 ((([] : List Nat).length) + (l.map usD).length)], rfl, rfl, ⟨rfl, trivial⟩, AVle.of_eq ?_, rfl⟩
 show AV.osl 0 1 0 (0 + (l.map usD).length) = .osl 0 1 0 l.length
 rw [hm, Nat.zero_add]
theorem A_cloneUd {l : List Us} (hl : l.length ≤ 1000000) : ACalls Tryz.prog 133 [uss l] [] (uss l) [] := by
 have hm : (l.map usD).length = l.length := List.length_map _
 rcases Nat.eq_zero_or_pos l.length with h0 | h0
 ·obtain rfl := List.eq_nil_of_length_eq_zero h0
  refine acalls_empty fun A c hc => ?_
  cases A with
  | none =>
    refine acalls_of_body Tryz.func133 rfl (Nat.le_of_ble_eq_true rfl) ?_
    (repeat' (first
     |(apply W.qd; (first
     |((apply q_eqnilV; (iterate 3 exact rfl)))|(apply q_mv; (conv => lhs; whnf))
     |(apply q_as; (conv => lhs; whnf))))|(apply yA)|(apply yB)|(apply yC; kernel_rfl)|(apply yE)|(apply yJ)|(apply yP)
     |(apply yQ; exact rfl)))
    exact Ends.nil rfl rfl
  | some b =>
    refine acalls_of_body Tryz.func133 rfl (Nat.le_of_ble_eq_true rfl) ?_
    (repeat' (first
     |(apply W.qd; (first
     |((apply q_eqnilV; (iterate 3 exact rfl)))|(apply q_mv; (conv => lhs; whnf))
     |(apply q_as; (conv => lhs; whnf))))|(apply yA)|(apply yB)|(apply (W.regionS 3); exact rfl; kernel_rfl)|(apply yE)|(apply yH)
     |(apply yR; exact rfl)))
    refine AWP.le 0 (uss []) rfl (AVle.empty hc 3) ?_
    (repeat' (first
     |(apply W.ed; (apply e_lit0F; (iterate 5 exact rfl)))
     |(apply W.qd; (first
     |(apply q_mv; (conv => lhs; whnf))|(apply q_as; (conv => lhs; whnf))
     |(apply q_app0; (iterate 4 exact rfl))))|(apply yB)|(apply yC; kernel_rfl)|(apply yE)
     |(apply yJ)))
    exact Ends.osl rfl rfl rfl rfl
 ·refine acalls_of_body Tryz.func133 rfl (Nat.le_of_ble_eq_true rfl) ?_
  (repeat' (first
   |(apply W.ed; (apply e_lit0F; (iterate 5 exact rfl)))
   |(apply W.qd; (first
   |(apply q_mv; (conv => lhs; whnf))|(apply q_as; (conv => lhs; whnf))
   |(apply q_eqnilm; (iterate 3 exact rfl); (first | assumption | omega))))|(apply W.ed; (apply e_appF; (iterate 8 exact rfl); (first | rfl | simp); (first | exact Nat.zero_lt_one | (focus (simp; done)) | omega); (first | (focus (simp; done)) | (focus (simp; omega)) | omega)))|(apply yA)|(apply yB)|(apply yC; kernel_rfl)|(apply yE)|(apply yH)|(apply yJ)
   |(apply yR; exact rfl)))
  exact Ends.osl rfl rfl (by simp) rfl
def cpO (rows : List SRw) (k i : Nat) : List Ent :=
 if i ≤ k then [.box (cpC rows k (cpX rows k (uss (rows.getD k rw0).2.2)))] else [.box (cpC rows k (cpX rows k (.osl 1 1 0 (rows.getD k rw0).2.2.length))), .row 1 3 167 ((rows.getD k rw0).2.2.map usD)]
theorem A_copiedS {rows : List SRw} {k : Nat} (h : RwIn rows) (hk : k < rows.length) (h0 : 0 < rows[k].2.2.length) : ACalls Tryz.prog 77 [rws rows] [] (.bsl 0 rows.length 0) [.box (cpC rows k (cpX rows k (.osl 1 1 0 rows[k].2.2.length))), .row 1 3 167 (rows[k].2.2.map usD)] := by
 have hrl := h.l
 have hu := h.u
 have hm : (rows.map rwD).length = rows.length := List.length_map _
 have hcl : ACalls Tryz.prog 132 [rws rows] [] (.bsl 0 rows.length 0) [.box (cpC rows k (cpX rows k (uss rows[k].2.2)))] := by
  rw [← cpC_same hk]
  exact acalls_thaw (by omega) hm (A_cloneR (by omega) (by omega))
 have hbk : normF (bkOwn [] [] [.box (cpC rows k (cpX rows k (uss rows[k].2.2)))]) = some [.box (cpC rows k (cpX rows k (uss rows[k].2.2)))] := by
  have e : AV.bkL [] 0 (cpC rows k (cpX rows k (uss rows[k].2.2))) = cpC rows k (cpX rows k (uss rows[k].2.2)) := by
   rw [bkL_map, cpC_map (fun d => by rw [AV.bk])]
   rfl
  show normF [.box (AV.bkL [] 0 (cpC rows k (cpX rows k (uss rows[k].2.2))))] = _
  rw [e]; rfl
 refine acalls_of_bodyS Tryz.func77 rfl (Nat.le_of_ble_eq_true rfl) ?_
 (repeat' (first
  |(apply W.qd; (first
  |((exact q_len_bsl rfl rfl))
  |((apply q_mv; exact Eq.refl (AV.bsl _ _ _)))
  |((apply q_as; exact Eq.refl (AV.bsl _ _ _)))|(apply q_mv; (conv => lhs; whnf))
  |(apply q_as; (conv => lhs; whnf))))|(apply W.ed; ((apply (e_callJ (js := []) hcl); (iterate 3 exact rfl); exact hbk; exact rfl; kernel_rfl; kernel_rfl)))|(apply yA)|(apply yB)|(apply (W.regionS 3); exact rfl; kernel_rfl)|(apply yE)
  |(apply yG)))
 refine AWP.loopE (α := Nat) (fun i => i ≤ rows.length) (fun i => ⟨[(8, iV i), (7, iV rows.length), (0, .bsl 0 rows.length 0)], cpO rows k i⟩) (fun i => rows.length - i) 0 (Nat.zero_le _) ?wkA fun i hi => ?_
 case wkA =>
  unfold cpO
  rw [if_pos (Nat.zero_le _), getDr hk]
  exact ⟨rfl, rfl, rfl, rfl, trivial⟩
 by_cases hil : i < rows.length
 ·have hui := hu i hil
  by_cases hik : i = k
  ·subst hik
   have e0 : cpO rows i i = [.box (cpC rows i (cpX rows i (uss rows[i].2.2)))] := by unfold cpO; rw [if_pos (Nat.le_refl _), getDr hk]
   have e1 : cpO rows i (i + 1) = [.box (cpC rows i (cpX rows i (.osl 1 1 0 rows[i].2.2.length))), .row 1 3 167 (rows[i].2.2.map usD)] := by unfold cpO; rw [if_neg (by omega), getDr hk]
   have hget := cpC_get (x := uss rows[i].2.2) hk
   have hset := cpC_set (x := uss rows[i].2.2) (y := .osl 1 1 0 rows[i].2.2.length) hk
   have hlen := cpC_len (rows := rows) (k := i) (e := cpX rows i (uss rows[i].2.2)) rfl
   have hlt : i * 3 + 2 < (cpC rows i (cpX rows i (uss rows[i].2.2))).length := by omega
   have hc2 := A_cloneU (l := rows[i].2.2) h0 (by omega)
   have hbk2 : normF (bkOwn [] [.box (cpC rows i (cpX rows i (uss rows[i].2.2)))] [.row 1 3 167 (rows[i].2.2.map usD)]) = some [.box (cpC rows i (cpX rows i (uss rows[i].2.2))), .row 1 3 167 (rows[i].2.2.map usD)] := rfl
   rw [e0]
   clear hcl hbk hlen
   generalize rows[i].2.2 = us at *
   generalize cpC rows i (cpX rows i (uss us)) = C0 at *
   generalize cpC rows i (cpX rows i (.osl 1 1 0 us.length)) = C1 at *
   (repeat' (first
    |(apply W.qd; (first
    |((apply s_ld; exact rfl; exact rfl; exact hget; exact rfl))
    |((apply (q_fld_opt (off := 2)); exact rfl; exact rfl))
    |((apply (q_ix_bslK (sz := 3)); (iterate 4 exact rfl); omega))
    |((apply q_mv; exact Eq.refl (AV.bsl _ _ _)))|(apply q_mv; (conv => lhs; whnf))|(apply q_as; (conv => lhs; whnf))|(exact q_lss rfl rfl)
    |(exact q_add rfl rfl (by omega))))|(apply W.ed; ((apply (e_callJ (js := []) hc2); (iterate 3 exact rfl); exact hbk2; exact rfl; kernel_rfl; kernel_rfl)))|(apply W.en; ((apply e_stS; (iterate 4 exact rfl); exact congrArg (fun l => [Ent.box l, _]) hset; (iterate 3 exact rfl); exact hlt)))|(apply yA)|(apply yB)|(apply yC; kernel_rfl)|(apply yE)|(apply yG)|(apply yH)|(apply yL)
    |(refine W.cond _ rfl (fun hb => ?_) (fun hb => ?_) <;> ((try simp only [hb, zK]) <;> (try simp only [zL, zI] at hb) <;> (try (exfalso; omega))))))
   refine ⟨i + 1, by omega, by omega, ?_⟩
   rw [e1]
   exact ⟨rfl, iV_eq (by omega), rfl, rfl, trivial⟩
  ·rcases Nat.lt_or_gt_of_ne hik with hlt | hgt
   ·have e0 : cpO rows k i = [.box (cpC rows k (cpX rows k (uss rows[k].2.2)))] := by unfold cpO; rw [if_pos (by omega), getDr hk]
    have e1 : cpO rows k (i + 1) = [.box (cpC rows k (cpX rows k (uss rows[k].2.2)))] := by unfold cpO; rw [if_pos (by omega), getDr hk]
    have hget := cpC_get_ne (e := cpX rows k (uss rows[k].2.2)) rfl hil hik
    have hset := cpC_setn (e := cpX rows k (uss rows[k].2.2)) rfl hil hik
    have hlen := cpC_len (rows := rows) (k := k) (e := cpX rows k (uss rows[k].2.2)) rfl
    have hlt : i * 3 + 2 < (cpC rows k (cpX rows k (uss rows[k].2.2))).length := by omega
    have hc2 := A_cloneUd (l := rows[i].2.2) (by omega)
    rw [e0]
    clear hcl hbk hlen
    generalize rows[i].2.2 = us at *
    generalize cpC rows k (cpX rows k (uss rows[k].2.2)) = C0 at *
    (repeat' (first
     |(apply W.qd; (first
     |(apply (yW (hc2)); exact rfl; exact rfl; (iterate 3 kernel_rfl))
     |((apply s_ld; exact rfl; exact rfl; exact hget; exact rfl))
     |((apply (q_fld_opt (off := 2)); exact rfl; exact rfl))
     |((apply (q_ix_bslK (sz := 3)); (iterate 4 exact rfl); omega))
     |((apply q_mv; exact Eq.refl (AV.bsl _ _ _)))|(apply q_mv; (conv => lhs; whnf))|(apply q_as; (conv => lhs; whnf))|(exact q_lss rfl rfl)
     |(exact q_add rfl rfl (by omega))))|(apply W.en; ((apply e_stS; (iterate 4 exact rfl); exact congrArg (fun l => [Ent.box l]) hset; (iterate 3 exact rfl); exact hlt)))|(apply yA)|(apply yB)|(apply yC; kernel_rfl)|(apply yE)|(apply yG)|(apply yH)|(apply yL)
     |(refine W.cond _ rfl (fun hb => ?_) (fun hb => ?_) <;> ((try simp only [hb, zK]) <;> (try simp only [zL, zI] at hb) <;> (try (exfalso; omega))))))
    refine ⟨i + 1, by omega, by omega, ?_⟩
    rw [e1]
    exact ⟨rfl, iV_eq (by omega), rfl, rfl, trivial⟩
   ·have e0 : cpO rows k i = [.box (cpC rows k (cpX rows k (.osl 1 1 0 rows[k].2.2.length))), .row 1 3 167 (rows[k].2.2.map usD)] := by unfold cpO; rw [if_neg (by omega), getDr hk]
    have e1 : cpO rows k (i + 1) = [.box (cpC rows k (cpX rows k (.osl 1 1 0 rows[k].2.2.length))), .row 1 3 167 (rows[k].2.2.map usD)] := by unfold cpO; rw [if_neg (by omega), getDr hk]
    have hget := cpC_get_ne (e := cpX rows k (.osl 1 1 0 rows[k].2.2.length)) rfl hil hik
    have hset := cpC_setn (e := cpX rows k (.osl 1 1 0 rows[k].2.2.length)) rfl hil hik
    have hlen := cpC_len (rows := rows) (k := k) (e := cpX rows k (.osl 1 1 0 rows[k].2.2.length)) rfl
    have hlt : i * 3 + 2 < (cpC rows k (cpX rows k (.osl 1 1 0 rows[k].2.2.length))).length := by omega
    have hc2 := A_cloneUd (l := rows[i].2.2) (by omega)
    rw [e0]
    clear hcl hbk hlen
    generalize rows[i].2.2 = us at *
    generalize cpC rows k (cpX rows k (.osl 1 1 0 rows[k].2.2.length)) = C0 at *
    generalize rows[k].2.2 = us2 at *
    (repeat' (first
     |(apply W.qd; (first
     |(apply (yW (hc2)); exact rfl; exact rfl; (iterate 3 kernel_rfl))
     |((apply s_ld; exact rfl; exact rfl; exact hget; exact rfl))
     |((apply (q_fld_opt (off := 2)); exact rfl; exact rfl))
     |((apply (q_ix_bslK (sz := 3)); (iterate 4 exact rfl); omega))
     |((apply q_mv; exact Eq.refl (AV.bsl _ _ _)))|(apply q_mv; (conv => lhs; whnf))|(apply q_as; (conv => lhs; whnf))|(exact q_lss rfl rfl)
     |(exact q_add rfl rfl (by omega))))|(apply W.en; ((apply e_stS; (iterate 4 exact rfl); exact congrArg (fun l => [Ent.box l, _]) hset; (iterate 3 exact rfl); exact hlt)))|(apply yA)|(apply yB)|(apply yC; kernel_rfl)|(apply yE)|(apply yG)|(apply yH)|(apply yL)
     |(refine W.cond _ rfl (fun hb => ?_) (fun hb => ?_) <;> ((try simp only [hb, zK]) <;> (try simp only [zL, zI] at hb) <;> (try (exfalso; omega))))))
    refine ⟨i + 1, by omega, by omega, ?_⟩
    rw [e1]
    exact ⟨rfl, iV_eq (by omega), rfl, rfl, trivial⟩
 ·obtain rfl : i = rows.length := by omega
  have e0 : cpO rows k rows.length = [.box (cpC rows k (cpX rows k (.osl 1 1 0 rows[k].2.2.length))), .row 1 3 167 (rows[k].2.2.map usD)] := by unfold cpO; rw [if_neg (by omega), getDr hk]
  rw [e0]
  (repeat' (first
   |(apply W.qd; (first
   |((apply q_mv; exact Eq.refl (AV.bsl _ _ _)))
   |((apply q_as; exact Eq.refl (AV.bsl _ _ _)))
   |(exact q_lss rfl rfl)))|(apply yA)|(apply yB)|(apply yC; kernel_rfl)|(apply yE)|(apply yI)|(apply yJ)|(apply yK)|(apply yM)
   |(refine W.cond _ rfl (fun hb => ?_) (fun hb => ?_) <;> ((try simp only [hb, zK]) <;> (try simp only [zL, zI] at hb) <;> (try (exfalso; omega))))))
  exact ⟨.inl rfl, [.bsl 0 rows.length 0], ⟨rfl, trivial⟩, AVle.of_eq rfl, rfl⟩
theorem A_deleteU {u : Us} {tl : List Us} (hl : tl.length ≤ 1000000) : ACalls Tryz.prog 78 [.osl 0 1 0 (tl.length + 1), iV 0, iV 1] [.row 1 3 167 ((u :: tl).map usD)] (.osl 0 2 0 tl.length) [.row 2 3 167 ((tl ++ [usZ]).map usD)] := by
 have hdl : ((u :: tl).map usD).drop 1 ++ ((u :: tl).map usD).drop tl.length = tl.map usD ++ ((u :: tl).map usD).drop tl.length := rfl
 have hll : ((u :: tl).map usD).length = tl.length + 1 := by simp
 have hll2 : (tl.map usD ++ ((u :: tl).map usD).drop tl.length).length = tl.length + 1 := by simp
 have hfin : (tl.map usD ++ ((u :: tl).map usD).drop tl.length).take tl.length ++ List.replicate (tl.length + 1 - tl.length) (usD usZ) ++ (tl.map usD ++ ((u :: tl).map usD).drop tl.length).drop (tl.length + (tl.length + 1 - tl.length)) = (tl ++ [usZ]).map usD := by
  rw [show tl.length + 1 - tl.length = 1 by omega]
  rw [List.take_left' (List.length_map _), List.drop_eq_nil_of_le (by omega), List.append_nil, List.map_append]; rfl
 refine acalls_of_bodyS Tryz.func78 rfl (Nat.le_of_ble_eq_true rfl) ?_
 generalize (u :: tl).map usD = L at *
 (repeat' (first
  |(apply W.qd; (first
  |((apply (q_slc_osl 0 0); (iterate 4 exact rfl); exact ⟨_, _, rfl, rfl⟩; omega; omega))
  |((apply (q_slc_osl 1 (tl.length + 1)); (iterate 3 exact rfl); exact ⟨_, _, rfl, rfl⟩; exact rfl; omega; omega))
  |((apply (q_slc_oslM 0 1 (tl.length + 1)); (iterate 3 exact rfl); exact ⟨_, _, rfl, rfl⟩; exact ⟨_, _, rfl, rfl⟩; exact ⟨_, _, rfl, rfl⟩; omega; omega; omega))
  |((apply (q_slc_oslU tl.length (tl.length + 1)); (iterate 3 exact rfl); exact ⟨_, _, rfl, rfl⟩; exact ⟨_, _, rfl, rfl⟩; omega; omega))|(apply q_mv; (conv => lhs; whnf))|(apply q_as; (conv => lhs; whnf))|(exact q_eql rfl rfl)
  |(exact q_len_osl rfl rfl rfl)))|(apply W.ed; ((apply e_appDel; (iterate 4 exact rfl); exact hll; exact hdl; exact rfl)))|(apply W.en; ((apply (e_clearm (usD usZ)); (iterate 6 exact rfl); omega; exact hfin; exact rfl)))|(apply yA)|(apply yB)|(apply yC; kernel_rfl)|(apply yD; exact rfl; kernel_rfl)|(apply yE)|(apply yF; kernel_rfl)|(apply yH)|(apply yJ)
  |(apply yR; exact rfl)))
 all_goals first | (exfalso; omega) | exact ⟨.inl rfl, [.osl 0 2 0 tl.length], ⟨rfl, trivial⟩, AVle.of_eq rfl, rfl⟩
theorem A_ixU {O : List Ent} {g : FuncId} {caps : List AV} (q : Us → Bool) (l : List Us) (hl : l.length ≤ 9223372036854775807) (hgf : isFn Tryz.prog g = true) (hg : ∀ x ∈ l, ACalls Tryz.prog g (usA x :: caps) O (bV (q x)) O) : ACalls Tryz.prog 130 [uss l, .fn g caps] O (iV (idxA q l)) O := by
 refine acalls_of_bodyS Tryz.func130 rfl (Nat.le_of_ble_eq_true rfl) ?_
 have hm : (l.map usD).length = l.length := List.length_map _
 (repeat (first
  |(apply W.qd; (first
  |(apply q_mv; (conv => lhs; whnf))|(apply q_as; (conv => lhs; whnf))
  |(exact yV rfl rfl)))|(apply yA)|(apply yB)|(apply yC; kernel_rfl)|(apply yE)
  |(apply yG)))
 refine AWP.loopE (α := Nat) (fun k => k ≤ l.length ∧ ∀ x ∈ l.take k, q x = false) (fun k => ⟨[(8, iV k), (7, iV l.length), (0, uss l), (1, .fn g caps)], O⟩) (fun k => l.length - k) 0 ⟨by omega, by simp⟩ ⟨rfl, rfl, iV_eq (by rw [hm]), rfl, rfl, trivial⟩ fun k hk => ?_
 by_cases hkl : k < l.length
 ·have hx := hg l[k] (List.getElem_mem hkl)
  (repeat' (first
   |(apply W.qd; (first
   |(apply q_mv; (conv => lhs; whnf))|(apply q_as; (conv => lhs; whnf))|(exact q_lss rfl rfl)|(exact q_add rfl rfl (by omega))|(apply yY; (iterate 3 exact rfl); (first | omega | (focus (simp; done))))
   |(apply yGb; (iterate 4 exact rfl); (first | (with_reducible exact rfl) | exact natI_spec rfl | assumption | exact (Int.toNat_of_nonneg (by omega)).symm); (first | omega | (focus (simp only [List.length_map]; omega)) | (focus (simp; done)) | (focus (simp; omega))))))|(apply W.ed; (apply (e_callS (hx)); exact rfl; exact rfl; (first | assumption | kernel_rfl)))|(apply yA)|(apply yB)|(apply yC; kernel_rfl)|(apply yE)|(apply yG)|(apply yH)|(apply yJ)|(apply yP)|(apply yL)|(apply yN)
   |(refine W.cond _ rfl (fun hb => ?_) (fun hb => ?_) <;> ((try simp only [hb, zK]) <;> (try simp only [zL, zI] at hb) <;> (try (exfalso; omega))))))
  ·exact EndsS.i rfl (idxA_hit hkl hb hk.2).symm
  ·refine ⟨k + 1, ⟨by omega, fun x hx => ?_⟩, by omega, ⟨rfl, by (repeat (first | exact trivial | refine ⟨rfl, ?_⟩))⟩⟩
   rw [List.take_succ_eq_append_getElem hkl] at hx
   rcases List.mem_append.1 hx with hx | hx
   ·exact hk.2 x hx
   ·rw [List.mem_singleton.1 hx]; exact hb
 ·(repeat' (first
  |(apply W.qd; (first
  |(apply q_as; (conv => lhs; whnf))
  |(exact q_lss rfl rfl)))|(apply yA)|(apply yB)|(apply yC; kernel_rfl)|(apply yE)|(apply yI)|(apply yJ)|(apply yK)|(apply yM)
  |(refine W.cond _ rfl (fun hb => ?_) (fun hb => ?_) <;> ((try simp only [hb, zK]) <;> (try simp only [zL, zI] at hb) <;> (try (exfalso; omega))))))
  refine EndsS.i rfl (idxA_miss fun x hx => hk.2 x ?_).symm
  rwa [List.take_of_length_le (by omega)]
abbrev spO (a g : Int) : List Ent := [.box [iV a, iV g]]
theorem A_usedF (x : Us) {a g : Int} : ACalls Tryz.prog 131 [usA x, .opt 0 0] (spO a g) (bV (decide (x.1 = g))) (spO a g) := by
 refine acalls_of_bodyO Tryz.func131 rfl (Nat.le_of_ble_eq_true rfl) ?_
 (repeat' (first
  |(apply W.qd; (first
  |(apply q_as; (conv => lhs; whnf))|(exact yS rfl rfl rfl)|(exact yT rfl rfl rfl rfl)
  |(exact q_eql rfl rfl)))|(apply W.ed; (apply yBb; (iterate 3 exact rfl); kernel_rfl; kernel_rfl))|(apply yA)|(apply yB)|(apply yC; kernel_rfl)|(apply yE)
  |(apply yJ)))
 all_goals exact ⟨.inl rfl, [0], [bV (decide (x.1 = g))], rfl, rfl, ⟨rfl, trivial⟩, AVle.of_eq rfl, rfl⟩
theorem A_index {rows : List SRw} {k : Nat} {u : Us} {tl : List Us} (h : RwIn rows) (hk : k < rows.length) (hu : rows[k].2.2 = u :: tl) : ACalls Tryz.prog 76 [rws rows, .agg [iV k, iV u.1]] [] (iV 0) [] := by
 have hrl := h.l
 have hul := h.u k hk
 have hm : (rows.map rwD).length = rows.length := List.length_map _
 have hi := A_ixU (O := spO k u.1) (g := 131) (caps := [.opt 0 0]) (fun x => decide (x.1 = u.1)) rows[k].2.2 (by omega) (by kernel_rfl) (fun x _ => A_usedF x)
 have hz : idxA (fun x : Us => decide (x.1 = u.1)) rows[k].2.2 = 0 := by
  have := idxA_hit (q := fun x : Us => decide (x.1 = u.1)) (l := rows[k].2.2) (k := 0) (by rw [hu]; simp) (by simp [hu]) (by simp)
  simpa using this
 rw [hz] at hi
 refine acalls_of_body Tryz.func76 rfl (Nat.le_of_ble_eq_true rfl) ?_
 (repeat' (first
  |(apply yFb; exact rfl; exact rfl)
  |(apply W.qd; (first
  |(apply q_mv; (conv => lhs; whnf))|(apply q_as; (conv => lhs; whnf))|(exact yS rfl rfl rfl)|(exact yT rfl rfl rfl rfl)|(exact q_lss rfl rfl)|(exact q_geq rfl rfl)|(exact yV rfl rfl)|(apply yX; (iterate 3 exact rfl); (first | omega | (focus (simp; done))))|(apply q_fld_fptF; (iterate 3 exact rfl))|(apply q_makeFunc)|(apply yGb; (iterate 4 exact rfl); (first | (with_reducible exact rfl) | exact natI_spec rfl | assumption | exact (Int.toNat_of_nonneg (by omega)).symm); (first | omega | (focus (simp only [List.length_map]; omega)) | (focus (simp; done)) | (focus (simp; omega))))
  |(apply (yDb (u := .d _)); exact rfl; exact rfl)))
  |(apply W.ed; (first
  |(apply (e_callS (hi)); exact rfl; exact rfl; (first | assumption | kernel_rfl))
  |(apply yBb; (iterate 3 exact rfl); kernel_rfl; kernel_rfl)))|(apply yA)|(apply yB)|(apply yC; kernel_rfl)|(apply yE)|(apply yH)|(apply yJ)
  |(refine W.cond _ rfl (fun hb => ?_) (fun hb => ?_) <;> ((try simp only [hb, zK]) <;> (try simp only [zL, zI] at hb) <;> (try (exfalso; omega))))))
 all_goals first | (exfalso; omega) | exact Ends.i rfl rfl
theorem A_release {rows : List SRw} {k : Nat} {u : Us} {tl : List Us} (h : RwIn rows) (hk : k < rows.length) (hu : rows[k].2.2 = u :: tl) : ACalls Tryz.prog 33 [rws rows, .agg [iV k, iV u.1]] [] (.tup [rws (rows.set k (relRow rows[k])), iV 0]) [] := by
 have hrl := h.l
 have hul := h.u k hk
 have hm : (rows.map rwD).length = rows.length := List.length_map _
 have hix := A_index h hk hu
 have hcp := A_copiedS h hk (by rw [hu]; simp)
 have hdel := A_deleteU (u := u) (tl := tl) (by rw [hu, List.length_cons] at hul; omega)
 have hrel : relRow rows[k] = if tl = [] then (-1, 0, []) else (rows[k].1, rows[k].2.1, tl) := by
  unfold relRow
  rw [hu]
  cases tl with
  | nil => rfl
  | cons a b => rw [if_neg (by simp)]
 rw [hu, List.length_cons] at hcp
 have hbk : normF (bkOwn [] [.box [iV k, iV u.1]] [.box (cpC rows k (cpX rows k (.osl 1 1 0 (tl.length + 1)))), .row 1 3 167 ((u :: tl).map usD)]) = some [.box [iV k, iV u.1], .box (cpC rows k (cpX rows k (.osl 2 1 0 (tl.length + 1)))), .row 1 3 167 ((u :: tl).map usD)] := by
  have e : AV.bkL [] 1 (cpC rows k (cpX rows k (.osl 1 1 0 (tl.length + 1)))) = cpC rows k (cpX rows k (.osl 2 1 0 (tl.length + 1))) := by
   rw [bkL_map, cpC_map (fun d => by rw [AV.bk])]
   rfl
  show normF [.box [iV k, iV u.1], .box (AV.bkL [] 1 (cpC rows k (cpX rows k (.osl 1 1 0 (tl.length + 1))))), .row 1 3 167 ((u :: tl).map usD)] = _
  rw [e]; rfl
 have hget := cpC_get (rows := rows) (x := .osl 2 1 0 (tl.length + 1)) hk
 have hget2 := cpC_get (rows := rows) (x := .osl 2 2 0 tl.length) hk
 have hset := cpC_set (rows := rows) (x := .osl 2 1 0 (tl.length + 1)) (y := .osl 2 2 0 tl.length) hk
 have hspl := cpC_spl (rows := rows) (x := .osl 2 2 0 tl.length) (e := [iV (-1), iV 0, .d (.v (.slice none 0 0))]) rfl hk
 have hlen := cpC_len (rows := rows) (k := k) (e := cpX rows k (.osl 2 1 0 (tl.length + 1))) rfl
 have hlen2 := cpC_len (rows := rows) (k := k) (e := cpX rows k (.osl 2 2 0 tl.length)) rfl
 have hlen3 := cpC_len (rows := rows) (k := k) (e := [iV (-1), iV 0, .d (.v (.slice none 0 0))]) rfl
 have hlt : k * 3 + 2 < (cpC rows k (cpX rows k (.osl 2 1 0 (tl.length + 1)))).length := by omega
 have hlt3 : k * 3 + 3 ≤ (cpC rows k (cpX rows k (.osl 2 2 0 tl.length))).length := by omega
 by_cases ht : tl = []
 ·rw [if_pos ht] at hrel
  rw [hrel]
  refine acalls_frzB (i := 1) (c := 0) (n := rows.length) (cells := cpC rows k [iV (-1), iV 0, .d (.v (.slice none 0 0))]) (ownR := [.box [iV k, iV u.1], .box (cpC rows k [iV (-1), iV 0, .d (.v (.slice none 0 0))]), .row 2 3 167 ((tl ++ [usZ]).map usD)]) rfl (by omega) (by rw [List.length_map, List.length_set]) (fun e he => by obtain ⟨r, _, rfl⟩ := List.mem_map.1 he; rfl) (cpC_rel rfl hk fun q x hq => ?_) (fun e => ?_) ?_
  ·match q with
   | 0 => obtain rfl : Dat.v (.int .i64 (-1)) = x := by simpa [rwD] using hq
          exact ⟨_, rfl, AVle.of_eq (by rw [AV.frz])⟩
   | 1 => obtain rfl : Dat.v (.int .i64 0) = x := by simpa [rwD] using hq
          exact ⟨_, rfl, AVle.of_eq (by rw [AV.frz])⟩
   | 2 => obtain rfl : Dat.sl 3 [] = x := by simpa [rwD] using hq
          exact ⟨_, rfl, by rw [AV.frz]; exact AVle.nil 3⟩
   | q + 3 => simp [rwD] at hq
  ·have := congrArg List.length e
   rw [hlen3] at this
   simp at this; omega
  ·have hl0 : tl.length = 0 := by rw [ht]; rfl
   refine acalls_of_bodyS Tryz.func33 rfl (Nat.le_of_ble_eq_true rfl) ?_
   clear hlen hlen2 hlen3 hrel ht
   generalize cpC rows k (cpX rows k (.osl 2 1 0 (tl.length + 1))) = C1 at *
   generalize cpC rows k (cpX rows k (.osl 2 2 0 tl.length)) = C2 at *
   generalize cpC rows k [iV (-1), iV 0, .d (.v (.slice none 0 0))] = C3 at *
   generalize cpC rows k (cpX rows k (.osl 1 1 0 (tl.length + 1))) = C0 at *
   (repeat' (first
    |(apply W.qd; (first
    |(apply (yW (hix)); exact rfl; exact rfl; (iterate 3 kernel_rfl))
    |((apply s_ld; exact rfl; exact rfl; exact hget; exact rfl))
    |((apply s_ld; exact rfl; exact rfl; exact hget2; exact rfl))
    |((apply (q_fld_opt (off := 2)); exact rfl; exact rfl))
    |((apply (q_ix_bslK (sz := 3)); (iterate 4 exact rfl); omega))
    |((apply q_mv; exact Eq.refl (AV.bsl _ _ _)))
    |((apply q_as; exact Eq.refl (AV.bsl _ _ _)))|(apply q_mv; (conv => lhs; whnf))|(apply q_as; (conv => lhs; whnf))|(exact yS rfl rfl rfl)|(exact yT rfl rfl rfl rfl)|(exact yU rfl rfl rfl rfl)|(exact q_lss rfl rfl)|(exact q_eql rfl rfl)|(exact q_add rfl rfl (by omega))|(exact q_len_osl rfl rfl rfl)|(apply yZ; exact rfl; exact rfl; kernel_rfl)
    |(exact q_nil_opt rfl)))
    |(apply W.ed; (first
    |((apply (e_callJ (js := []) hcp); (iterate 3 exact rfl); exact hbk; exact rfl; kernel_rfl; kernel_rfl))|(apply (e_callJ (js := [2]) (hdel)); (iterate 5 exact rfl); kernel_rfl; kernel_rfl)
    |(apply yBb; (iterate 3 exact rfl); kernel_rfl; kernel_rfl)))
    |(apply W.en; (first
    |((apply e_stS; (iterate 4 exact rfl); exact congrArg (fun l => [_, Ent.box l, _]) hset; (iterate 3 exact rfl); exact hlt))
    |((apply e_stK; (iterate 7 exact rfl); exact hspl; exact rfl; exact hlt3))))|(apply yA)|(apply yB)|(apply yC; kernel_rfl)|(apply yE)|(apply yH)|(apply yJ)|(apply yR; exact rfl)
    |(refine W.cond _ rfl (fun hb => ?_) (fun hb => ?_) <;> ((try simp only [hb, zK]) <;> (try simp only [zL, zI] at hb) <;> (try (exfalso; omega))))))
   all_goals first | (exfalso; omega) | exact EndsS.two rfl rfl rfl
 ·rw [if_neg ht] at hrel
  rw [hrel]
  refine acalls_frzB (i := 1) (c := 0) (n := rows.length) (cells := cpC rows k (cpX rows k (.osl 2 2 0 tl.length))) (ownR := [.box [iV k, iV u.1], .box (cpC rows k (cpX rows k (.osl 2 2 0 tl.length))), .row 2 3 167 ((tl ++ [usZ]).map usD)]) rfl (by omega) (by rw [List.length_map, List.length_set]) (fun e he => by obtain ⟨r, _, rfl⟩ := List.mem_map.1 he; rfl) (cpC_rel rfl hk fun q x hq => ?_) (fun e => ?_) ?_
  ·match q with
   | 0 => obtain rfl : Dat.v (.int .i64 rows[k].1) = x := by simpa [rwD] using hq
          exact ⟨_, rfl, AVle.of_eq (by rw [AV.frz, getDr hk])⟩
   | 1 => obtain rfl : Dat.v (.int .i64 rows[k].2.1) = x := by simpa [rwD] using hq
          exact ⟨_, rfl, AVle.of_eq (by rw [AV.frz, getDr hk])⟩
   | 2 => obtain rfl : Dat.sl 3 (tl.map usD) = x := by simpa [rwD] using hq
          exact ⟨_, rfl, AVle.of_eq ((frz_rowT (l := (tl ++ [usZ]).map usD) rfl rfl).trans (by rw [List.map_append, List.take_left' (List.length_map _)]))⟩
   | q + 3 => simp [rwD] at hq
  ·have := congrArg List.length e
   rw [hlen2] at this
   simp at this; omega
  ·have hl0 : 0 < tl.length := List.length_pos_iff.2 ht
   refine acalls_of_bodyS Tryz.func33 rfl (Nat.le_of_ble_eq_true rfl) ?_
   clear hlen hlen2 hlen3 hrel ht hspl hlt3
   generalize cpC rows k (cpX rows k (.osl 2 1 0 (tl.length + 1))) = C1 at *
   generalize cpC rows k (cpX rows k (.osl 2 2 0 tl.length)) = C2 at *
   generalize cpC rows k (cpX rows k (.osl 1 1 0 (tl.length + 1))) = C0 at *
   (repeat' (first
    |(apply W.qd; (first
    |(apply (yW (hix)); exact rfl; exact rfl; (iterate 3 kernel_rfl))
    |((apply s_ld; exact rfl; exact rfl; exact hget; exact rfl))
    |((apply s_ld; exact rfl; exact rfl; exact hget2; exact rfl))
    |((apply (q_fld_opt (off := 2)); exact rfl; exact rfl))
    |((apply (q_ix_bslK (sz := 3)); (iterate 4 exact rfl); omega))
    |((apply q_mv; exact Eq.refl (AV.bsl _ _ _)))
    |((apply q_as; exact Eq.refl (AV.bsl _ _ _)))|(apply q_mv; (conv => lhs; whnf))|(apply q_as; (conv => lhs; whnf))|(exact yS rfl rfl rfl)|(exact yT rfl rfl rfl rfl)|(exact yU rfl rfl rfl rfl)|(exact q_lss rfl rfl)|(exact q_eql rfl rfl)|(exact q_add rfl rfl (by omega))|(exact q_len_osl rfl rfl rfl)
    |(exact q_nil_opt rfl)))
    |(apply W.ed; (first
    |((apply (e_callJ (js := []) hcp); (iterate 3 exact rfl); exact hbk; exact rfl; kernel_rfl; kernel_rfl))|(apply (e_callJ (js := [2]) (hdel)); (iterate 5 exact rfl); kernel_rfl; kernel_rfl)
    |(apply yBb; (iterate 3 exact rfl); kernel_rfl; kernel_rfl)))|(apply W.en; ((apply e_stS; (iterate 4 exact rfl); exact congrArg (fun l => [_, Ent.box l, _]) hset; (iterate 3 exact rfl); exact hlt)))|(apply yA)|(apply yB)|(apply yC; kernel_rfl)|(apply yE)|(apply yH)|(apply yJ)|(apply yR; exact rfl)
    |(refine W.cond _ rfl (fun hb => ?_) (fun hb => ?_) <;> ((try simp only [hb, zK]) <;> (try simp only [zL, zI] at hb) <;> (try (exfalso; omega))))))
   all_goals first | (exfalso; omega) | exact EndsS.two rfl rfl rfl
end
section
theorem rel_rwin {rows : List SRw} {i : Nat} (h : RwIn rows) (hi : i < rows.length) : RwIn (rows.set i (relRow rows[i])) := by
 refine ⟨by rw [List.length_set]; exact h.l, fun j hj => ?_⟩
 rw [List.length_set] at hj
 by_cases e : i = j
 ·subst e
  rw [List.getElem_set_self]
  have := h.u i hi
  unfold relRow
  split
  ·rename_i a b c hh
   rw [hh] at this
   simp at this ⊢; omega
  ·simp
 ·rw [List.getElem_set_ne e]; exact h.u j hj
theorem next_some {vs : List Sv} {k : Int} {rows : List SRw} (hc : chgB vs k = true) {s : Nat × Int} {t : List (Nat × Int)} (hs : strN rows (vs.getD k.toNat sv0).2.1 = s :: t) : nextN vs k rows = (((s.1 : Int), s.2), 0) := by
 have h1 : hasB vs.length k = true := by unfold chgB at hc; simp only [Bool.and_eq_true] at hc; exact hc.1
 unfold nextN
 rw [if_neg (by simp [h1]), if_neg (by simp [hc]), hs]
theorem next_none {vs : List Sv} {k : Int} {rows : List SRw} (h : leftN39 vs k rows = 0) : (nextN vs k rows).2 ≠ 0 := by
 unfold nextN
 split
 ·decide
 ·split
  ·decide
  ·rename_i h1 h2
   have hc : chgB vs k = true := by simpa using h2
   unfold leftN39 at h
   rw [if_pos hc] at h
   rw [List.eq_nil_of_length_eq_zero h]
   decide
theorem done_zero {vs : List Sv} {k : Int} {rows : List SRw} (h : leftN39 vs k rows = 0) : doneB vs k rows = chgB vs k := by
 unfold doneB
 rw [decide_eq_true h, Bool.and_true]
theorem done_pos {vs : List Sv} {k : Int} {rows : List SRw} (h : 0 < leftN39 vs k rows) : doneB vs k rows = false := by
 unfold doneB
 rw [decide_eq_false (by omega), Bool.and_false]
theorem prog_step {cs : List Cd} {vs : List Sv} {k : Int} {rows : List SRw} (hv : validB cs vs = true) (hR : RwIn rows) (h : 0 < leftN39 vs k rows) : ∃ (i : Nat) (hi : i < rows.length) (u : Us) (us : List Us), rows[i].2.2 = u :: us ∧ nextN vs k rows = (((i : Int), u.1), 0) ∧ leftN39 vs k (rows.set i (relRow rows[i])) + 1 = leftN39 vs k rows := by
 have hc : chgB vs k = true := by
  cases hb : chgB vs k with
  | true => rfl
  | false => unfold leftN39 at h; rw [hb, if_neg (by simp)] at h; omega
 have h1 : hasB vs.length k = true := by unfold chgB at hc; simp only [Bool.and_eq_true] at hc; exact hc.1
 obtain ⟨j, rfl, hj, e⟩ := getV1 h1
 have hc0 : (vs.getD ((j : Nat) : Int).toNat sv0).2.1 ≠ -1 := by
  rw [e]
  have := keeps_has ((valid_iff.1 hv).v j hj).kp
  omega
 have hl : leftN39 vs (j : Int) rows = (strN rows (vs.getD ((j : Nat) : Int).toNat sv0).2.1).length := by unfold leftN39; rw [if_pos hc]
 cases hs : strN rows (vs.getD ((j : Nat) : Int).toNat sv0).2.1 with
 | nil => rw [hs] at hl; simp at hl; omega
 | cons s t =>
   obtain ⟨i, hi, u, us, h2, h3, h4⟩ := str_rel hc0 hs
   refine ⟨i, hi, u, us, h2, ?_, ?_⟩
   ·rw [next_some hc hs, h3]
   ·rw [hl, hs]
    unfold leftN39
    rw [if_pos hc, h4]; rfl
attribute [local irreducible] Quiet Eff OpOk AWPG ACont ABlock ACalls AGoto
theorem A_progresses {d r n s l i k : Int} {cs : List Cd} {vs : List Sv} {rows : List SRw} (hL : LibIn cs vs) (hB : RwB rows) : ACalls Tryz.prog 8 [cfgA d r n s l i, lib cs vs, rws rows, iV k] [] (bV true) [] := by
 refine acalls_of_body Tryz.func8 rfl (Nat.le_of_ble_eq_true rfl) ?_
 have hsa := A_sanity39
 have hva := A_valid39 (d := d) (r := r) (n := n) (s := s) (l := l) (i := i) hL hB
 have hmv : (vs.map svD).length = vs.length := List.length_map _
 cases hv : vld39 d r n s l i cs vs rows with
 | false =>
   rw [hv] at hva
   (repeat' (first
    |(apply W.qd; (first
    |(apply (yW (hva)); exact rfl; exact rfl; (iterate 3 kernel_rfl))|(apply (yW (hsa)); exact rfl; exact rfl; (iterate 3 kernel_rfl))|(apply q_mv; (conv => lhs; whnf))|(apply q_as; (conv => lhs; whnf))|(exact yU rfl rfl rfl rfl)
    |(exact q_not rfl)))|(apply W.ed; (apply yBb; (iterate 3 exact rfl); kernel_rfl; kernel_rfl))|(apply yA)|(apply yB)|(apply yC; kernel_rfl)|(apply yE)|(apply yJ)|(apply yP)
    |(apply yQ; exact rfl)))
   all_goals exact Ends.b rfl rfl
 | true =>
   rw [hv] at hva
   have hR := vld_rwin hv
   have hvB : validB cs vs = true := by unfold vld39 at hv; simp only [Bool.and_eq_true] at hv; exact hv.2.1
   have hNl : leftN39 vs k rows ≤ 1000 := by
    unfold leftN39
    split
    ·exact strN_len hR
    ·omega
   have f3 := A_left39 (cs := cs) (vs := vs) (k := k) hR
   (repeat' (first
    |(apply W.qd; (first
    |(apply (yW (hva)); exact rfl; exact rfl; (iterate 3 kernel_rfl))|(apply (yW (f3)); exact rfl; exact rfl; (iterate 3 kernel_rfl))|(apply q_mv; (conv => lhs; whnf))|(apply q_as; (conv => lhs; whnf))|(exact yU rfl rfl rfl rfl)
    |(exact q_not rfl)))|(apply W.ed; (apply yBb; (iterate 3 exact rfl); kernel_rfl; kernel_rfl))|(apply yA)|(apply yB)|(apply (W.regionS 6); exact rfl; kernel_rfl)|(apply yE)|(apply yG)|(apply yH)
    |(apply yR; exact rfl)))
   refine AWP.loopW (α := Nat × List SRw) (fun x => x.1 ≤ leftN39 vs k rows ∧ RwIn x.2 ∧ leftN39 vs k x.2 + x.1 = leftN39 vs k rows) (fun x => ⟨[(11, iV x.1), (10, iV (leftN39 vs k rows : Nat)), (2, rws x.2), (3, iV k), (4, .opt 0 0), (5, .opt 1 0)], [.box [iV d, iV r, iV n, iV s, iV l, iV i], .box [cds cs, svs vs]]⟩) (fun x => leftN39 vs k rows - x.1) (0, rows) ⟨Nat.zero_le _, hR, rfl⟩ ⟨[0, 1], rfl, rfl, rfl, by (repeat (first | exact trivial | refine ⟨rfl, ?_⟩))⟩ fun x hx => ?_
   obtain ⟨a, rw0'⟩ := x
   obtain ⟨hx1, hx2, hx3⟩ := hx
   dsimp only at hx1 hx2 hx3 ⊢
   generalize leftN39 vs k rows = N at *
   clear hva f3 hR
   have g1 := A_next39 (cs := cs) (vs := vs) (k := k) hx2
   have g3 := A_left39 (cs := cs) (vs := vs) (k := k) hx2
   have g5 := A_done39 (cs := cs) (vs := vs) (k := k) hx2
   by_cases hal : a < N
   ·obtain ⟨j, hj, u, us, e1, e2, e3⟩ := prog_step hvB hx2 (show 0 < leftN39 vs k rw0' by omega)
    have hre := A_release hx2 hj e1
    have hR2 := rel_rwin hx2 hj
    have g7 := A_left39 (cs := cs) (vs := vs) (k := k) hR2
    rw [e2] at g1
    rw [done_pos (by omega)] at g5
    have e4 : (leftN39 vs k (rw0'.set j (relRow rw0'[j])) : Int) = N - a - 1 := by omega
    have e5 : leftN39 vs k (rw0'.set j (relRow rw0'[j])) + (a + 1) = N := by omega
    rw [e4] at g7
    clear g3 e1 e2 e3
    generalize rw0'.set j (relRow rw0'[j]) = rw1 at *
    (repeat' (first
     |(apply yFb; exact rfl; exact rfl)
     |(apply W.qd; (first
     |(apply (yW (g1)); exact rfl; exact rfl; (iterate 3 kernel_rfl))|(apply (yW (g5)); exact rfl; exact rfl; (iterate 3 kernel_rfl))|(apply (yW (hre)); exact rfl; exact rfl; (iterate 3 kernel_rfl))|(apply (yW (g7)); exact rfl; exact rfl; (iterate 3 kernel_rfl))|(apply q_mv; (conv => lhs; whnf))|(apply q_as; (conv => lhs; whnf))|(exact yU rfl rfl rfl rfl)|(exact q_lss rfl rfl)|(exact q_neq rfl rfl)|(exact q_add rfl rfl (by omega))|(exact q_sub rfl rfl (by omega))|(exact yAb rfl rfl)
     |(apply (yDb (u := .d _)); exact rfl; exact rfl)))|(apply W.ed; (apply yCb; (iterate 3 exact rfl); kernel_rfl))|(apply W.ln; (apply l_st_box; (iterate 6 exact rfl); (iterate 3 kernel_rfl)))|(apply yA)|(apply yB)|(apply yC; kernel_rfl)|(apply yE)|(apply yG)|(apply yH)|(apply yL)|(apply yR; exact rfl)
     |(refine W.cond _ rfl (fun hb => ?_) (fun hb => ?_) <;> ((try simp only [hb, zK]) <;> (try simp only [zL, zI] at hb) <;> (try (exfalso; omega))))))
    all_goals first
     |(exfalso; omega)
     |(exfalso; simp at hb; done)
     |exact ⟨(a + 1, rw1), ⟨by omega, hR2, e5⟩, by dsimp only; omega, [0, 1], rfl, rfl, rfl, iV_eq (by push_cast; omega), rfl, rfl, rfl, rfl, rfl, trivial⟩
   ·have h0 : leftN39 vs k rw0' = 0 := by omega
    have hn0 := next_none h0
    rw [done_zero h0] at g5
    generalize nextN vs k rw0' = NX at *
    obtain ⟨⟨n1, n2⟩, n3⟩ := NX
    have hch : chgB vs k = (hasB vs.length k && !decide ((vs.getD k.toNat sv0).2.2.1 = -1)) := rfl
    by_cases hh : hasB vs.length k = true
    ·rw [hh, Bool.true_and] at hch
     obtain ⟨j, rfl, hj, e⟩ := getV1 hh
     rw [e] at hch
     by_cases e9 : vs[j].2.2.1 = -1
     ·rw [decide_eq_true e9] at hch
      rw [hch] at g5
      (repeat' (first
       |(apply yFb; exact rfl; exact rfl)
       |(apply W.qd; (first
       |(apply (yW (g1)); exact rfl; exact rfl; (iterate 3 kernel_rfl))|(apply (yW (g5)); exact rfl; exact rfl; (iterate 3 kernel_rfl))|(apply (yW (hsa)); exact rfl; exact rfl; (iterate 3 kernel_rfl))|(apply q_mv; (conv => lhs; whnf))|(apply q_as; (conv => lhs; whnf))|(exact yS rfl rfl rfl)|(exact yT rfl rfl rfl rfl)|(exact yU rfl rfl rfl rfl)|(exact q_lss rfl rfl)|(exact q_geq rfl rfl)|(exact q_neq rfl rfl)|(exact yAb rfl rfl)|(exact yV rfl rfl)|(apply yX; (iterate 3 exact rfl); (first | omega | (focus (simp; done))))|(apply q_fld_fptF; (iterate 3 exact rfl))|(apply yGb; (iterate 4 exact rfl); (first | (with_reducible exact rfl) | exact natI_spec rfl | assumption | exact (Int.toNat_of_nonneg (by omega)).symm); (first | omega | (focus (simp only [List.length_map]; omega)) | (focus (simp; done)) | (focus (simp; omega))))|(apply (yEb (u := .d _)); exact rfl; exact rfl)
       |(apply q_eqlB; (iterate 3 exact rfl))))|(apply W.ed; (apply yCb; (iterate 3 exact rfl); kernel_rfl))|(apply W.ln; (apply l_st_box; (iterate 6 exact rfl); (iterate 3 kernel_rfl)))|(apply yA)|(apply yB)|(apply yC; kernel_rfl)|(apply yE)|(apply yI)|(apply yJ)|(apply yK)|(apply yM)|(refine W.gT _ _ rfl rfl (fun hb => ?_) (fun hb => ?_) <;> ((try simp only [hb, zK]) <;> (try simp only [zL, zI] at hb) <;> (try (exfalso; omega))))
       |(refine W.cond _ rfl (fun hb => ?_) (fun hb => ?_) <;> ((try simp only [hb, zK]) <;> (try simp only [zL, zI] at hb) <;> (try (exfalso; omega))))))
      all_goals first | (exfalso; omega) | exact Ends.b rfl (by simp_all)
     ·rw [decide_eq_false e9] at hch
      rw [hch] at g5
      (repeat' (first
       |(apply yFb; exact rfl; exact rfl)
       |(apply W.qd; (first
       |(apply (yW (g1)); exact rfl; exact rfl; (iterate 3 kernel_rfl))|(apply (yW (g5)); exact rfl; exact rfl; (iterate 3 kernel_rfl))|(apply (yW (hsa)); exact rfl; exact rfl; (iterate 3 kernel_rfl))|(apply q_mv; (conv => lhs; whnf))|(apply q_as; (conv => lhs; whnf))|(exact yS rfl rfl rfl)|(exact yT rfl rfl rfl rfl)|(exact yU rfl rfl rfl rfl)|(exact q_lss rfl rfl)|(exact q_geq rfl rfl)|(exact q_neq rfl rfl)|(exact yAb rfl rfl)|(exact yV rfl rfl)|(apply yX; (iterate 3 exact rfl); (first | omega | (focus (simp; done))))|(apply q_fld_fptF; (iterate 3 exact rfl))|(apply yGb; (iterate 4 exact rfl); (first | (with_reducible exact rfl) | exact natI_spec rfl | assumption | exact (Int.toNat_of_nonneg (by omega)).symm); (first | omega | (focus (simp only [List.length_map]; omega)) | (focus (simp; done)) | (focus (simp; omega))))|(apply (yEb (u := .d _)); exact rfl; exact rfl)
       |(apply q_eqlB; (iterate 3 exact rfl))))|(apply W.ed; (apply yCb; (iterate 3 exact rfl); kernel_rfl))|(apply W.ln; (apply l_st_box; (iterate 6 exact rfl); (iterate 3 kernel_rfl)))|(apply yA)|(apply yB)|(apply yC; kernel_rfl)|(apply yE)|(apply yI)|(apply yJ)|(apply yK)|(apply yM)|(refine W.gT _ _ rfl rfl (fun hb => ?_) (fun hb => ?_) <;> ((try simp only [hb, zK]) <;> (try simp only [zL, zI] at hb) <;> (try (exfalso; omega))))
       |(refine W.cond _ rfl (fun hb => ?_) (fun hb => ?_) <;> ((try simp only [hb, zK]) <;> (try simp only [zL, zI] at hb) <;> (try (exfalso; omega))))))
      all_goals first | (exfalso; omega) | exact Ends.b rfl (by simp_all)
    ·have hh2 : ¬ (0 ≤ k ∧ k < (vs.length : Int)) := fun h => hh (hasB_iff.2 h)
     rw [Bool.eq_false_iff.2 hh, Bool.false_and] at hch
     rw [hch] at g5
     (repeat' (first
      |(apply yFb; exact rfl; exact rfl)
      |(apply W.qd; (first
      |(apply (yW (g1)); exact rfl; exact rfl; (iterate 3 kernel_rfl))|(apply (yW (g5)); exact rfl; exact rfl; (iterate 3 kernel_rfl))|(apply (yW (hsa)); exact rfl; exact rfl; (iterate 3 kernel_rfl))|(apply q_mv; (conv => lhs; whnf))|(apply q_as; (conv => lhs; whnf))|(exact yS rfl rfl rfl)|(exact yT rfl rfl rfl rfl)|(exact yU rfl rfl rfl rfl)|(exact q_lss rfl rfl)|(exact q_geq rfl rfl)|(exact q_neq rfl rfl)|(exact yAb rfl rfl)|(exact yV rfl rfl)|(apply (yEb (u := .d _)); exact rfl; exact rfl)|(apply (yDb (u := .d _)); exact rfl; exact rfl)
      |(apply q_eqlB; (iterate 3 exact rfl))))|(apply W.ed; (apply yCb; (iterate 3 exact rfl); kernel_rfl))|(apply W.ln; (apply l_st_box; (iterate 6 exact rfl); (iterate 3 kernel_rfl)))|(refine W.gOff _ _ rfl rfl (by intro h; cases h) ?_)|(apply yA)|(apply yB)|(apply yC; kernel_rfl)|(apply yE)|(apply yI)|(apply yJ)|(apply yK)|(apply yM)|(refine W.gT _ _ rfl rfl (fun hb => ?_) (fun hb => ?_) <;> ((try simp only [hb, zK]) <;> (try simp only [zL, zI] at hb) <;> (try (exfalso; omega))))
      |(refine W.cond _ rfl (fun hb => ?_) (fun hb => ?_) <;> ((try simp only [hb, zK]) <;> (try simp only [zL, zI] at hb) <;> (try (exfalso; omega))))))
     all_goals first | (exfalso; omega) | exact Ends.b rfl (by simp_all)
end
end Go.Proofs.YtplpgijpmgbaiaaGreatDoor
