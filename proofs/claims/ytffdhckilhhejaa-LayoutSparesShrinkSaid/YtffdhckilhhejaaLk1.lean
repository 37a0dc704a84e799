/- Layout over the machine of abstract values: contracts of the design's functions; package layout's own. -/
import Derived.Test.YtffdhckilhhejaaLaw13b
import Derived.Test.YtffdhckilhhejaaKern12
namespace Go.Proofs.Ytffdhckilhhejaa
open Go.RowKit
set_option linter.unusedVariables false
set_option linter.unusedSimpArgs false

def iD (n : Int) : List Dat := [.v (.int .i64 n)]
abbrev ints (l : List Int) : AV := .d (.sl 1 (l.map iD))
abbrev cfgA (d r n s l i : Int) : AV := .agg [iV d, iV r, iV n, iV s, iV l, iV i]

theorem ints_of_own {F : Nat → Prop} {w w' : World} {e : Nat} {v : Value} {l : List Int} (ho : OwnSat F [] [] w) (h : w'.ownsRow w.heap.size e 1 v l.length (l.map (Value.int .i64))) : AV.sat F [] [] w' (ints l) v := by
  rw [AV.sat, Dat.sat]
  rcases h.2 with ⟨rfl, hx⟩ | ⟨g, cap, cur, rfl, hb, hh, hnc, hcm, hcs, htake⟩
  · have : l = [] := List.eq_nil_of_length_eq_zero hx
    subst this
    exact ⟨none, 0, rfl, by simp, by simp [maxLen], fun h => by simp at h⟩
  · refine ⟨_, cap, by simp, by simpa using hnc, hcm, fun _ => ⟨g, 0, rfl, (Array.getElem?_eq_some_iff.1 hh).1, fun hbad => ?_, ?_⟩⟩
    · rcases hbad with hbad | hbad
      · have := ho.frame g hbad; omega
      · cases hbad
    · rw [Dat.rowsSat_iff]
      intro j x hx
      rw [List.getElem?_map] at hx
      cases hj : l[j]? with
      | none => rw [hj] at hx; cases hx
      | some n =>
        rw [hj] at hx; obtain rfl : iD n = x := by simpa using hx
        refine ⟨rfl, ?_⟩
        simp only [iD, Dat.rowSat, and_true]
        refine ⟨.int .i64 n, ?_, rfl, rfl⟩
        rw [cell_of_row w' g _ cur e (0, 0) hh, Nat.zero_add, Nat.mul_one]
        have hlt : j < l.length := (List.getElem?_eq_some_iff.1 hj).1
        have h1 : cur.toList[j]? = (l.map (Value.int .i64))[j]? := by rw [← htake, List.getElem?_take, if_pos (by omega)]
        have h2 : cur[j]? = cur.toList[j]? := by simp
        rw [h2, h1, List.getElem?_map, hj]; rfl
theorem ints_ints {F : Nat → Prop} {own : List Ent} {κ : List (Option Nat)} {w : World} {v : Value} {l : List Int} (h : AV.sat F own κ w (ints l) v) : Ints w v l := by
  rw [AV.sat, Dat.sat] at h
  obtain ⟨A, c, rfl, h1, h2, h3⟩ := h
  refine ⟨A, c, by simp, by simpa using h1, h2, fun hp => ?_⟩
  obtain ⟨b, o, rfl, h4, _, h5⟩ := h3 (by simpa using hp)
  refine ⟨b, o, rfl, h4, fun j hj => ?_⟩
  rw [Dat.rowsSat_iff] at h5
  obtain ⟨_, h6⟩ := h5 j (iD l[j]) (by simp [hj])
  simp only [iD, Dat.rowSat, and_true] at h6
  obtain ⟨u, h7, _, h8⟩ := h6
  rw [Dat.sat] at h8
  rw [getD_lt _ _ _ hj, ← h8, ← h7, Nat.mul_one]

theorem A_check (d r n s l i : Int) : ACalls Try.prog 16 [cfgA d r n s l i] [] (iV (chkI d r n s l i)) [] := acalls_of_exact rfl fun w => check_any d r n s l i w
theorem A_order (d r n s l i row : Int) : ACalls Try.prog 23 [cfgA d r n s l i, iV row] [] (ints (ordI d r n s l i row)) [] := acalls_of_val rfl fun w => (order_any d r n s l i row w).mono fun e w' ⟨v, he, h1, h2⟩ => ⟨v, he, h2, fun F ho => ints_of_own ho h1⟩
theorem A_rcheck (d r n s l i : Int) : ACalls Try.prog 17 [cfgA d r n s l i] [] (iV (chkI d r n s l i)) [] := acalls_of_exact rfl fun w => rcheck_any d r n s l i w
theorem A_rorder (d r n s l i row : Int) : ACalls Try.prog 24 [cfgA d r n s l i, iV row] [] (ints (ordI d r n s l i row)) [] := acalls_of_val rfl fun w => (rorder_any d r n s l i row w).mono fun e w' ⟨v, he, h1, h2⟩ => ⟨v, he, h2, fun F ho => ints_of_own ho h1⟩
theorem A_same (a b : List Int) : ACalls Try.prog 18 [ints a, ints b] [] (bV (decide (a = b))) [] := fun F κ w vs ho hs => by
  have hk : κ = [] := List.eq_nil_of_length_eq_zero (by simpa using ho.len.symm)
  subst hk
  match vs, hs with
  | [v, u], hs =>
    simp only [AV.satL, and_true] at hs
    refine (same_any v u a b w (ints_ints hs.1) (ints_ints hs.2)).mono ?_
    rintro e w' ⟨he, k, rfl⟩
    exact ⟨_, [], he, sat_v.2 rfl, own_nil ho (Nat.le_refl _), tr_of_below (below_drewN (Below.refl _ _) k)⟩
  | [], hs => simp [AV.satL] at hs
  | [_], hs => simp [AV.satL] at hs
  | _ :: _ :: _ :: _, hs => simp [AV.satL] at hs
end Go.Proofs.Ytffdhckilhhejaa
