import Derived.Test.YtjaipchlnnjaeaaDoorB6
/- Joined texts: Lw6 Lw7. -/
section
/- The law ErasureRoundTrip: plain law, and the walk. -/
namespace Go.Proofs.YtjaipchlnnjaeaaDoor
open Go.RowKit
set_option linter.unusedVariables false
set_option linter.unusedSimpArgs false
set_option linter.unusedSectionVars false
set_option maxHeartbeats 4000000
set_option maxRecDepth 100000

/-- A stripe in which what is not present was replaced. -/
def unitsN (st : List (List Nat)) (hv : List Bool) (nz : List Nat) (k : Nat) : List (List Nat) := (List.range k).map fun i => if hv.getD i false = true then st.getD i [] else nz
theorem unitsN_length (st : List (List Nat)) (hv : List Bool) (nz : List Nat) (k : Nat) : (unitsN st hv nz k).length = k := by simp [unitsN]
theorem unitsN_succ (st : List (List Nat)) (hv : List Bool) (nz : List Nat) (k : Nat) : unitsN st hv nz (k + 1) = unitsN st hv nz k ++ [if hv.getD k false = true then st.getD k [] else nz] := by
  unfold unitsN; rw [List.range_succ, List.map_append]; rfl
theorem unitsN_getD {st : List (List Nat)} {hv : List Bool} {nz : List Nat} {k i : Nat} (hi : i < k) : (unitsN st hv nz k).getD i [] = if hv.getD i false = true then st.getD i [] else nz := by
  unfold unitsN
  rw [List.getD_eq_getElem?_getD, List.getElem?_map, List.getElem?_range hi]
  rfl
section
variable {M D n : Nat} {ps us : List (List Nat)} {hv : List Bool} {nz : List Nat} (h : CodeOk M D ps) (hl : us.length = D) (hu : ∀ u ∈ us, isB u ∧ u.length = n) (he : FitM M n) (hvl : hv.length = D + ps.length)
include h hl hu he hvl
theorem rt_fit : fitN M D ps (unitsN (encN M ps us) hv nz (D + ps.length)) hv = true := by
  unfold fitN
  rw [decide_eq_true (unitsN_length _ _ _ _), decide_eq_true hvl, unitsN_length]
  simp only [Bool.true_and]
  have hst : ∀ k, k < D + ps.length → ((encN M ps us).getD k []).length = n := fun k hk => (mem_isB (encN_ok h hl hu he) (by rw [encN_length]; omega)).2
  have hall : ∀ u ∈ havU (unitsN (encN M ps us) hv nz (D + ps.length)) hv (D + ps.length), u.length = n := fun u hx => by
    unfold havU at hx
    obtain ⟨i, hi, rfl⟩ := List.mem_map.1 hx
    obtain ⟨h1, h2⟩ := List.mem_filter.1 hi
    have h3 := List.mem_range.1 h1
    rw [unitsN_getD h3, if_pos h2, hst i h3]
  unfold uniB
  rw [List.all_eq_true]
  intro x hx
  unfold uniQ
  rw [headD_len hall (List.length_pos_of_mem hx), hall x hx, decide_eq_true rfl, Bool.true_and]
  rcases h.f with rfl | rfl
  · rfl
  · have := he rfl
    rw [decide_eq_true (show (n : Int) % 2 = 0 by omega), Bool.or_true]
theorem rt_terms {i : Nat} (hi : i < D + ps.length) {l : List (Nat × Nat)} (hc : combN M D ps hv i = some l) : TermsIn M n (unitsN (encN M ps us) hv nz (D + ps.length)) l ∧ sumN M n (unitsN (encN M ps us) hv nz (D + ps.length)) l = (encN M ps us).getD i [] := by
  have hok := comb_ok h hvl hi hc
  have hlt : ∀ t ∈ l, t.1 < D + ps.length := fun t ht => hv_lt h hvl (hok.pres t ht)
  have hst : ∀ k, k < D + ps.length → isB ((encN M ps us).getD k []) ∧ ((encN M ps us).getD k []).length = n := fun k hk => mem_isB (encN_ok h hl hu he) (by rw [encN_length]; omega)
  have hun : ∀ t ∈ l, (unitsN (encN M ps us) hv nz (D + ps.length)).getD t.1 [] = (encN M ps us).getD t.1 [] := fun t ht => by
    rw [unitsN_getD (hlt t ht), if_pos (hok.pres t ht)]
  have hb := basis_len h hvl
  have hw := h.w
  refine ⟨⟨hok.pos h hi, by have := hok.le; omega, fun t ht => ⟨by rw [unitsN_length]; exact hlt t ht, (hok.lt t ht).1, by rw [hun t ht]; exact (hst _ (hlt t ht)).1, by rw [hun t ht]; exact (hst _ (hlt t ht)).2⟩⟩, ?_⟩
  exact sum_sound h hl hu he hi hok.snd fun t ht => ⟨(hok.lt t ht).1, hlt t ht, hun t ht⟩
omit hl hu he in
theorem rt_lost {i : Nat} (hi : i < D + ps.length) (hc : combN M D ps hv i = none) : hv.getD i false = false := by
  cases hx : hv.getD i false
  · rfl
  · have := (comb_iff h hvl hi).2 (Sp.of h.f (fun s ⟨u, _, e⟩ => by rw [e]; exact U_all h _) ⟨i, hx, rfl⟩)
    rw [hc] at this; cases this
end
/-- Are the first k all there? -/
def allS {α : Type} (C : Nat → Option α) (k : Nat) : Bool := (List.range k).all fun i => (C i).isSome
theorem allS_succ {α : Type} (C : Nat → Option α) (k : Nat) : allS C (k + 1) = (allS C k && (C k).isSome) := by
  unfold allS; rw [List.range_succ, List.all_append]; simp
/-- The first that is not there. -/
theorem first_none {α : Type} (C : Nat → Option α) : ∀ W, ∃ q, q ≤ W ∧ (∀ i, i < q → (C i).isSome = true) ∧ (q < W → C q = none) ∧ allS C W = decide (q = W)
  | 0 => ⟨0, Nat.le_refl _, fun i h => by omega, fun h => by omega, rfl⟩
  | W + 1 => by
    obtain ⟨q, h1, h2, h3, h4⟩ := first_none C W
    by_cases e : q = W
    · subst e
      cases hc : C q with
      | none => exact ⟨q, by omega, h2, fun _ => hc, by rw [allS_succ, hc]; simp⟩
      | some x => exact ⟨q + 1, by omega, fun i hi => by
          by_cases e : i = q
          · rw [e, hc]; rfl
          · exact h2 i (by omega), fun h => by omega, by rw [allS_succ, h4, hc]; simp⟩
    · exact ⟨q, by omega, h2, fun _ => h3 (by omega), by rw [allS_succ, h4, decide_eq_false e, decide_eq_false (by omega)]; rfl⟩
attribute [local irreducible] Quiet Eff OpOk AWPG ACont ABlock ACalls AGoto

theorem A_round {M D : Int} {par : List (List Int)} {us : List (List Nat)} {hv : List Bool} {nz : List Nat} (hpar : ∀ r ∈ par, ∀ x ∈ r, x < 9223372036854775808) (hus : ∀ u ∈ us, isB u) (hnz : isB nz) :
    ACalls Tryd.prog 10 [.agg [.d .any, iV M, iV D, rowsA par, .d .any, strs us, bools hv, bS nz]] [] (bV true) [] := by
  refine acalls_of_bodyO Tryd.func10 rfl (Nat.le_of_ble_eq_true rfl) ?_
  have hca : CodeIn par := ⟨hpar⟩
  have hsan := A_sanity
  have hsm := A_small (M := M) (D := D) (par := par)
  have hfew := A_few (us := us)
  have hw := A_ewidth (M := M) (D := D) hca
  have hmh : (hv.map tD).length = hv.length := List.length_map _
  by_cases hgood : smallB D par = true ∧ fewB us = true ∧ (hv.length : Int) = (if validC M D par then D + (par.length : Int) else 0) ∧ nz.length ≤ 64
  · obtain ⟨g1, g2, g3, g4⟩ := hgood
    rw [g1] at hsm
    rw [g2] at hfew
    unfold fewB at g2
    simp only [Bool.and_eq_true, decide_eq_true_eq, List.all_eq_true] at g2
    rw [← g3] at hw
    by_cases hg : validC M D par = true ∧ (us.length : Int) = D ∧ uniB M us = true
    · obtain ⟨v1, v2, v3⟩ := hg
      rw [if_pos v1] at g3
      obtain ⟨m, d, ps, rfl, rfl, rfl, hok⟩ := ok_valid v1
      have hpl : (toZ ps).length = ps.length := List.length_map _
      rw [hpl] at g3
      have hvl : hv.length = d + ps.length := by omega
      have hd := hok.d
      have hwd := hok.w
      have hul : us.length = d := by omega
      obtain ⟨u1, u2⟩ := uni_ok hok.f v3 (by omega)
      have hn64 : (us.headD []).length ≤ 64 := by
        cases us with
        | nil => simp at hul; omega
        | cons x t => exact g2.2 x (by simp)
      generalize (us.headD []).length = n at *
      have hu : ∀ u ∈ us, isB u ∧ u.length = n := fun u hx => ⟨hus u hx, u1 u hx⟩
      have henc := A_encode hok hul hu (by omega) u2
      have hst : ∀ k, k < d + ps.length → isB ((encN m ps us).getD k []) ∧ ((encN m ps us).getD k []).length = n := fun k hk => mem_isB (encN_ok hok hul hu u2) (by rw [encN_length]; omega)
      have hsl : (encN m ps us).length = d + ps.length := by rw [encN_length]; omega
      have r1 := rt_fit (nz := nz) hok hul hu u2 hvl
      have r2 := fun i (hi : i < d + ps.length) l hc => rt_terms (nz := nz) (i := i) (l := l) hok hul hu u2 hvl hi hc
      have r3 := fun i (hi : i < d + ps.length) hc => rt_lost hok hvl (i := i) hi hc
      have hul2 : ∀ u ∈ unitsN (encN m ps us) hv nz (d + ps.length), u.length ≤ 1000000 := fun u hx => by
        unfold unitsN at hx
        obtain ⟨i, hi, rfl⟩ := List.mem_map.1 hx
        have := List.mem_range.1 hi
        split
        · rw [(hst i this).2]; omega
        · omega
      have hvlen := unitsN_length (encN m ps us) hv nz (d + ps.length)
      have hrec := fun i (hi : i < d + ps.length) => A_recoverable hok hvl hi
      have hlost := fun i (hi : i < d + ps.length) hc => A_recover_lost (u := i) hok (by omega) hvl hul2 r1 hi hc
      have hfound := fun i (hi : i < d + ps.length) l hc => A_recover_ok (u := i) (l := l) hok (by omega) hvl hul2 r1 hi hc (r2 i hi l hc).1 u2 (by omega)
      obtain ⟨q, q1, q2, q3, q4⟩ := first_none (combN m d ps hv) (d + ps.length)
      have hdec := A_decode (q := q) (ls := fun i => (combN m d ps hv i).getD []) hok (by omega) hvl hul2 r1 u2 (by omega) q1 (fun i hi => by
        have h1 := q2 i hi
        obtain ⟨l, hc⟩ := Option.isSome_iff_exists.1 h1
        rw [hc]
        exact ⟨rfl, (r2 i (by omega) l hc).1⟩) q3
      have hdbl := A_decodable hok hvl
      have hfull := full_iff_rec hok hvl
      have hus0 := unitsN_succ (encN m ps us) hv nz
      have hL : q = d + ps.length → (List.range (d + ps.length)).map (fun i => sumN m n (unitsN (encN m ps us) hv nz (d + ps.length)) ((combN m d ps hv i).getD [])) = encN m ps us := fun e => by
        apply List.ext_getElem (by simp [hsl])
        intro i h1 h2
        have hi : i < d + ps.length := by simpa using h1
        obtain ⟨l, hc⟩ := Option.isSome_iff_exists.1 (q2 i (by omega))
        rw [List.getElem_map, List.getElem_range, hc, Option.getD_some, (r2 i hi l hc).2, List.getD_eq_getElem?_getD, List.getElem?_eq_getElem h2]
        rfl
      have hsum := fun i hi l hc => (r2 i hi l hc).2
      simp only [cdN_A] at henc hrec hlost hfound hdec hdbl
      have hstB : ∀ u ∈ encN m ps us, isB u := fun u hx => (encN_ok hok hul hu u2 u hx).1
      have hsame := A_same_texts (a := encN m ps us) (b := encN m ps us) hstB hstB (by omega) (by omega)
      rw [decide_eq_true rfl] at hsame
      have hall := fun k => Lib.hid (allS_succ (combN m d ps hv) k)
      have hall0 : allS (combN m d ps hv) 0 = true := rfl
      have hus0 := fun k => Lib.hid (hus0 k)
      have hdq : decR m n (unitsN (encN m ps us) hv nz (d + ps.length)) (fun i => (combN m d ps hv i).getD []) (d + ps.length) q = if q < d + ps.length then .tup [strs [], iV 11] else .tup [strs ((List.range (d + ps.length)).map fun i => sumN m n (unitsN (encN m ps us) hv nz (d + ps.length)) ((combN m d ps hv i).getD [])), iV 0] := rfl
      rw [hdq] at hdec
      have hus00 : unitsN (encN m ps us) hv nz 0 = [] := rfl
      have hulen := fun k => unitsN_length (encN m ps us) hv nz k
      clear r1 hul2 hdq r2
      generalize hW : d + ps.length = Wd at *
      generalize unitsN (encN m ps us) hv nz = U at *
      generalize encN m ps us = ST at *
      generalize allS (combN m d ps hv) = AS at *
      generalize combN m d ps hv = C at *
      generalize (basisN m d ps hv).length = BL at *
      have hmST : (ST.map sD).length = ST.length := List.length_map _
      (repeat' (first
  | (apply W.gOn; exact rfl; exact rfl)
  | (apply W.qd; (first
    | (apply (q_callC (hsan)); exact rfl; exact rfl; kernel_rfl; kernel_rfl; kernel_rfl)
    | (apply (q_callC (hsm)); exact rfl; exact rfl; kernel_rfl; kernel_rfl; kernel_rfl)
    | (apply (q_callC (hfew)); exact rfl; exact rfl; kernel_rfl; kernel_rfl; kernel_rfl)
    | (apply (q_callC (hw)); exact rfl; exact rfl; kernel_rfl; kernel_rfl; kernel_rfl)
    | (apply (q_callC (henc)); exact rfl; exact rfl; kernel_rfl; kernel_rfl; kernel_rfl)
    | (apply q_mv; (first
    | exact Eq.refl (AV.d _)
    | exact Eq.refl (AV.osl _ _ _ _)
    | exact Eq.refl (AV.opt _ _)
    | exact Eq.refl (AV.agg _)
    | exact Eq.refl (AV.fpt _ _ _ _)
    | exact Eq.refl (AV.rpt _ _ _ _)
    | exact Eq.refl (AV.fn _ _)
    | exact Eq.refl (AV.tup _)
    | exact Eq.refl AV.top))
    | (apply q_as; (first
    | exact Eq.refl (AV.d _)
    | exact Eq.refl (AV.osl _ _ _ _)
    | exact Eq.refl (AV.opt _ _)
    | exact Eq.refl (AV.agg _)
    | exact Eq.refl (AV.fpt _ _ _ _)
    | exact Eq.refl (AV.rpt _ _ _ _)
    | exact Eq.refl (AV.fn _ _)
    | exact Eq.refl (AV.tup _)
    | exact Eq.refl AV.top))
    | (apply q_fld_optF; exact rfl; exact rfl; exact rfl)
    | (apply q_ld_box; exact rfl; exact rfl; exact rfl; exact rfl)
    | (apply q_ld_boxF; exact rfl; exact rfl; exact rfl; exact rfl)
    | (apply q_gtr; exact rfl; exact rfl)
    | (apply q_neq; exact rfl; exact rfl)
    | (apply q_not; exact rfl)
    | (apply q_extract; exact rfl; exact rfl)
    | (apply q_len_sl; exact rfl; exact rfl)
    | (apply q_len_bs; exact rfl; exact rfl)
    | (apply (q_pickF (u := .d _)); exact rfl; exact rfl)))
  | (apply W.ed; (apply e_boxF; exact rfl; exact rfl; exact rfl; kernel_rfl; kernel_rfl))
  | (apply AWP.seq)
  | (apply ACont_normal)
  | (apply W.region; kernel_rfl)
  | (apply W.regionD; exact rfl; kernel_rfl)
  | (apply Walk.nil)
  | (apply W.chk; kernel_rfl)
  | (apply AWP.block)
  | (apply AWP.skip)
  | (apply W.condF; exact rfl)
  | (refine W.gF _ _ rfl rfl (fun hb => ?_) (fun hb => ?_) <;> ((try simp only [hb, Bool.not_true, Bool.not_false]) <;> (try simp only [decide_eq_true_eq, decide_eq_false_iff_not, Bool.not_eq_true', Bool.not_eq_false', Int.not_lt, Int.not_le, List.length_map, not_true_eq_false] at hb) <;> (try (exfalso; omega))))
  | (refine W.cond _ rfl (fun hb => ?_) (fun hb => ?_) <;> ((try simp only [hb, Bool.not_true, Bool.not_false]) <;> (try simp only [decide_eq_true_eq, decide_eq_false_iff_not, Bool.not_eq_true', Bool.not_eq_false', Int.not_lt, Int.not_le, List.length_map, not_true_eq_false] at hb) <;> (try (exfalso; omega))))))
      refine AWP.nilRow 6 1 9 rfl (by omega) ?_
      refine AWP.loopW (α := Nat) (fun k => k ≤ Wd) (fun k => ⟨[(7, iV k), (6, .osl 1 k 0 (U k).length), (4, strs ST), (3, bV true), (1, .opt 0 0)], [.box [.d .any, iV m, iV d, rowsA (toZ ps), .d .any, strs us, bools hv, bS nz], .row k 1 9 ((U k).map sD)]⟩) (fun k => Wd - k) 0 (by omega) ?wk0 fun k hk => ?_
      case wk0 =>
        rw [hus00]
        exact ⟨[0, 1], rfl, rfl, rfl, by (repeat (first | exact trivial | refine ⟨rfl, ?_⟩))⟩
      by_cases hkl : k < Wd
      · have hs := hus0 k
        have hl1 := hulen k
        have e1 : ST.getD k [] = ST[k]'(by omega) := by rw [List.getD_eq_getElem?_getD, List.getElem?_eq_getElem (show k < ST.length by omega)]; rfl
        have e2 : hv.getD k false = hv[k]'(by omega) := by rw [List.getD_eq_getElem?_getD, List.getElem?_eq_getElem (show k < hv.length by omega)]; rfl
        rw [e1, e2] at hs
        clear hus0 hulen
        (repeat' (first
  | (apply W.qd; (first
    | (apply q_mv; (first
    | exact Eq.refl (AV.d _)
    | exact Eq.refl (AV.osl _ _ _ _)
    | exact Eq.refl (AV.opt _ _)
    | exact Eq.refl (AV.agg _)
    | exact Eq.refl (AV.fpt _ _ _ _)
    | exact Eq.refl (AV.rpt _ _ _ _)
    | exact Eq.refl (AV.fn _ _)
    | exact Eq.refl (AV.tup _)
    | exact Eq.refl AV.top))
    | (apply q_as; (first
    | exact Eq.refl (AV.d _)
    | exact Eq.refl (AV.osl _ _ _ _)
    | exact Eq.refl (AV.opt _ _)
    | exact Eq.refl (AV.agg _)
    | exact Eq.refl (AV.fpt _ _ _ _)
    | exact Eq.refl (AV.rpt _ _ _ _)
    | exact Eq.refl (AV.fn _ _)
    | exact Eq.refl (AV.tup _)
    | exact Eq.refl AV.top))
    | (apply q_fld_optF; exact rfl; exact rfl; exact rfl)
    | (apply q_ld_box; exact rfl; exact rfl; exact rfl; exact rfl)
    | (apply q_lss; exact rfl; exact rfl)
    | (apply q_add; exact rfl; exact rfl; omega)
    | (apply q_len_sl; exact rfl; exact rfl)
    | (apply q_ld_map; exact rfl; exact rfl; exact rfl; (first | omega | (focus (simp; done))))
    | (apply q_litF; exact rfl; exact rfl; exact rfl; exact rfl; exact rfl; kernel_rfl; kernel_rfl; exact rfl)
    | (apply q_ix_slF; exact rfl; exact rfl; exact rfl; exact rfl; (first | (with_reducible exact rfl) | exact natI_spec rfl | assumption | exact (Int.toNat_of_nonneg (by omega)).symm); (first | omega | (focus (simp only [List.length_map]; omega)) | (focus (simp; done)) | (focus (simp; omega))))))
  | (apply W.ld; (apply l_app1; exact rfl; exact rfl; exact rfl; exact rfl; exact rfl; exact rfl; exact rfl; exact rfl; (first | omega | (focus (simp; omega)) | (focus (simp; done)))))
  | (apply AWP.seq)
  | (apply ACont_normal)
  | (apply W.region; kernel_rfl)
  | (apply Walk.nil)
  | (apply AWP.block)
  | (apply AWP.skip)
  | (apply ABlock_normal)
  | (refine W.cond _ rfl (fun hb => ?_) (fun hb => ?_) <;> ((try simp only [hb, Bool.not_true, Bool.not_false]) <;> (try simp only [decide_eq_true_eq, decide_eq_false_iff_not, Bool.not_eq_true', Bool.not_eq_false', Int.not_lt, Int.not_le, List.length_map, not_true_eq_false] at hb) <;> (try (exfalso; omega))))))
        · rw [if_pos (by simpa using hb)] at hs
          refine ⟨k + 1, by omega, by omega, ?_⟩
          rw [hs.out]
          exact ⟨[0, 1], rfl, rfl, rfl, iV_eq (by omega), congrArg (AV.osl 1 (k + 1) 0) (by simp), rfl, rfl, rfl, trivial⟩
        · rw [if_neg (by simpa using hb)] at hs
          refine ⟨k + 1, by omega, by omega, ?_⟩
          rw [hs.out]
          exact ⟨[0, 1], rfl, rfl, rfl, iV_eq (by omega), congrArg (AV.osl 1 (k + 1) 0) (by simp), rfl, rfl, rfl, trivial⟩
      · have e : k = Wd := by omega
        subst e
        clear hus0 hulen
        generalize U k = V at *
        refine AWP.wk ⟨[(6, strs V), (7, iV k), (4, strs ST), (3, bV true), (1, .opt 0 0)], [.box [.d .any, iV m, iV d, rowsA (toZ ps), .d .any, strs us, bools hv, bS nz]]⟩ ⟨[0], rfl, rfl, rfl, (frz_rowJ rfl rfl (by simp)).symm, rfl, rfl, rfl, rfl, trivial⟩ ?_
        (repeat' (first
  | (apply W.qd; (first
    | (apply q_mv; (first
    | exact Eq.refl (AV.d _)
    | exact Eq.refl (AV.osl _ _ _ _)
    | exact Eq.refl (AV.opt _ _)
    | exact Eq.refl (AV.agg _)
    | exact Eq.refl (AV.fpt _ _ _ _)
    | exact Eq.refl (AV.rpt _ _ _ _)
    | exact Eq.refl (AV.fn _ _)
    | exact Eq.refl (AV.tup _)
    | exact Eq.refl AV.top))
    | (apply q_as; (first
    | exact Eq.refl (AV.d _)
    | exact Eq.refl (AV.osl _ _ _ _)
    | exact Eq.refl (AV.opt _ _)
    | exact Eq.refl (AV.agg _)
    | exact Eq.refl (AV.fpt _ _ _ _)
    | exact Eq.refl (AV.rpt _ _ _ _)
    | exact Eq.refl (AV.fn _ _)
    | exact Eq.refl (AV.tup _)
    | exact Eq.refl AV.top))
    | (apply q_lss; exact rfl; exact rfl)
    | (apply q_len_sl; exact rfl; exact rfl)))
  | (apply AWP.seq)
  | (apply ACont_normal)
  | (apply W.region; kernel_rfl)
  | (apply Walk.nil)
  | (apply AWP.block)
  | (apply AWP.exit)
  | (apply ACont_exit)
  | (apply ABlock_exit)
  | (refine W.cond _ rfl (fun hb => ?_) (fun hb => ?_) <;> ((try simp only [hb, Bool.not_true, Bool.not_false]) <;> (try simp only [decide_eq_true_eq, decide_eq_false_iff_not, Bool.not_eq_true', Bool.not_eq_false', Int.not_lt, Int.not_le, List.length_map, not_true_eq_false] at hb) <;> (try (exfalso; omega))))))
        refine AWP.loopW (α := Nat) (fun j => j ≤ k) (fun j => ⟨[(10, iV j), (9, bV (AS j)), (6, strs V), (4, strs ST), (3, bV true), (1, .opt 0 0)], [.box [.d .any, iV m, iV d, rowsA (toZ ps), .d .any, strs us, bools hv, bS nz]]⟩) (fun j => k - j) 0 (by omega) ?wk1 fun j hj => ?_
        case wk1 =>
          rw [hall0]
          exact ⟨[0], rfl, rfl, rfl, by (repeat (first | exact trivial | refine ⟨rfl, ?_⟩))⟩
        by_cases hjk : j < k
        · have hA := hall j
          have p1 := hrec j hjk
          have e2 : hv.getD j false = hv[j]'(by omega) := by rw [List.getD_eq_getElem?_getD, List.getElem?_eq_getElem (show j < hv.length by omega)]; rfl
          have e1 : ST.getD j [] = ST[j]'(by omega) := by rw [List.getD_eq_getElem?_getD, List.getElem?_eq_getElem (show j < ST.length by omega)]; rfl
          have b1 := hstB (ST[j]'(by omega)) (List.getElem_mem _)
          cases hC : C j with
          | none =>
            have p2 := hlost j hjk hC
            have p3 := r3 j hjk hC
            rw [e2] at p3
            rw [hC] at p1 hA
            generalize AS j = x at *
            cases x
            all_goals (repeat' (first
  | (apply W.gOn; exact rfl; exact rfl)
  | (apply W.qd; (first
    | (apply (q_callC (p1)); exact rfl; exact rfl; kernel_rfl; kernel_rfl; kernel_rfl)
    | (apply (q_callC (p2)); exact rfl; exact rfl; kernel_rfl; kernel_rfl; kernel_rfl)
    | (apply q_mv; (first
    | exact Eq.refl (AV.d _)
    | exact Eq.refl (AV.osl _ _ _ _)
    | exact Eq.refl (AV.opt _ _)
    | exact Eq.refl (AV.agg _)
    | exact Eq.refl (AV.fpt _ _ _ _)
    | exact Eq.refl (AV.rpt _ _ _ _)
    | exact Eq.refl (AV.fn _ _)
    | exact Eq.refl (AV.tup _)
    | exact Eq.refl AV.top))
    | (apply q_as; (first
    | exact Eq.refl (AV.d _)
    | exact Eq.refl (AV.osl _ _ _ _)
    | exact Eq.refl (AV.opt _ _)
    | exact Eq.refl (AV.agg _)
    | exact Eq.refl (AV.fpt _ _ _ _)
    | exact Eq.refl (AV.rpt _ _ _ _)
    | exact Eq.refl (AV.fn _ _)
    | exact Eq.refl (AV.tup _)
    | exact Eq.refl AV.top))
    | (apply q_fld_optF; exact rfl; exact rfl; exact rfl)
    | (apply q_ld_box; exact rfl; exact rfl; exact rfl; exact rfl)
    | (apply q_ld_boxF; exact rfl; exact rfl; exact rfl; exact rfl)
    | (apply q_lss; exact rfl; exact rfl)
    | (apply q_neq; exact rfl; exact rfl)
    | (apply q_not; exact rfl)
    | (apply q_add; exact rfl; exact rfl; omega)
    | (apply q_extract; exact rfl; exact rfl)
    | (apply q_len_sl; exact rfl; exact rfl)
    | (apply q_ld_map; exact rfl; exact rfl; exact rfl; (first | omega | (focus (simp; done))))
    | (apply q_ix_slF; exact rfl; exact rfl; exact rfl; exact rfl; (first | (with_reducible exact rfl) | exact natI_spec rfl | assumption | exact (Int.toNat_of_nonneg (by omega)).symm); (first | omega | (focus (simp only [List.length_map]; omega)) | (focus (simp; done)) | (focus (simp; omega))))
    | (apply (q_pickT (u := .d _)); exact rfl; exact rfl)
    | (apply (q_pickF (u := .d _)); exact rfl; exact rfl)))
  | (refine W.gOff _ _ rfl rfl (by intro h; cases h) ?_)
  | (apply AWP.seq)
  | (apply ACont_normal)
  | (apply W.region; kernel_rfl)
  | (apply Walk.nil)
  | (apply AWP.block)
  | (apply AWP.skip)
  | (apply AWP.ret)
  | (apply ACont_ret)
  | (apply ABlock_normal)
  | (apply ABlock_ret)
  | (refine W.cond _ rfl (fun hb => ?_) (fun hb => ?_) <;> ((try simp only [hb, Bool.not_true, Bool.not_false]) <;> (try simp only [decide_eq_true_eq, decide_eq_false_iff_not, Bool.not_eq_true', Bool.not_eq_false', Int.not_lt, Int.not_le, List.length_map, not_true_eq_false] at hb) <;> (try (exfalso; omega))))))
            (all_goals (try (exfalso; exact absurd ((‹hv[j] = true› : hv[j] = true).symm.trans (‹hv[j] = false› : hv[j] = false)) (by decide))))
            all_goals refine ⟨j + 1, by omega, by omega, ?_⟩
            all_goals rw [hA.out]
            all_goals exact ⟨[0], rfl, rfl, rfl, iV_eq (by omega), rfl, rfl, rfl, rfl, rfl, trivial⟩
          | some l =>
            have p2 := hfound j hjk l hC
            rw [hsum j hjk l hC, e1] at p2
            rw [hC] at p1 hA
            generalize AS j = x at *
            cases x
            all_goals (repeat' (first
  | (apply W.gOn; exact rfl; exact rfl)
  | (apply W.qd; (first
    | (apply (q_callC (p1)); exact rfl; exact rfl; kernel_rfl; kernel_rfl; kernel_rfl)
    | (apply (q_callC (p2)); exact rfl; exact rfl; kernel_rfl; kernel_rfl; kernel_rfl)
    | (apply q_mv; (first
    | exact Eq.refl (AV.d _)
    | exact Eq.refl (AV.osl _ _ _ _)
    | exact Eq.refl (AV.opt _ _)
    | exact Eq.refl (AV.agg _)
    | exact Eq.refl (AV.fpt _ _ _ _)
    | exact Eq.refl (AV.rpt _ _ _ _)
    | exact Eq.refl (AV.fn _ _)
    | exact Eq.refl (AV.tup _)
    | exact Eq.refl AV.top))
    | (apply q_as; (first
    | exact Eq.refl (AV.d _)
    | exact Eq.refl (AV.osl _ _ _ _)
    | exact Eq.refl (AV.opt _ _)
    | exact Eq.refl (AV.agg _)
    | exact Eq.refl (AV.fpt _ _ _ _)
    | exact Eq.refl (AV.rpt _ _ _ _)
    | exact Eq.refl (AV.fn _ _)
    | exact Eq.refl (AV.tup _)
    | exact Eq.refl AV.top))
    | (apply q_fld_optF; exact rfl; exact rfl; exact rfl)
    | (apply q_ld_box; exact rfl; exact rfl; exact rfl; exact rfl)
    | (apply q_ld_boxF; exact rfl; exact rfl; exact rfl; exact rfl)
    | (apply q_lss; exact rfl; exact rfl)
    | (apply q_neq; exact rfl; exact rfl)
    | (apply q_not; exact rfl)
    | (apply q_add; exact rfl; exact rfl; omega)
    | (apply q_extract; exact rfl; exact rfl)
    | (apply q_len_sl; exact rfl; exact rfl)
    | (apply q_ld_map; exact rfl; exact rfl; exact rfl; (first | omega | (focus (simp; done))))
    | (apply q_ix_slF; exact rfl; exact rfl; exact rfl; exact rfl; (first | (with_reducible exact rfl) | exact natI_spec rfl | assumption | exact (Int.toNat_of_nonneg (by omega)).symm); (first | omega | (focus (simp only [List.length_map]; omega)) | (focus (simp; done)) | (focus (simp; omega))))
    | (apply (q_pickT (u := .d _)); exact rfl; exact rfl)
    | (apply (q_pickF (u := .d _)); exact rfl; exact rfl)
    | (apply q_neqS; exact rfl; exact rfl; (first | assumption | exact isB_nil | exact isB_xor (by assumption) (by assumption)); (first | assumption | exact isB_nil | exact isB_xor (by assumption) (by assumption)))))
  | (refine W.gOff _ _ rfl rfl (by intro h; cases h) ?_)
  | (apply AWP.seq)
  | (apply ACont_normal)
  | (apply W.region; kernel_rfl)
  | (apply Walk.nil)
  | (apply AWP.block)
  | (apply AWP.skip)
  | (apply ABlock_normal)
  | (apply W.condF; exact rfl)
  | (refine W.gF _ _ rfl rfl (fun hb => ?_) (fun hb => ?_) <;> ((try simp only [hb, Bool.not_true, Bool.not_false]) <;> (try simp only [decide_eq_true_eq, decide_eq_false_iff_not, Bool.not_eq_true', Bool.not_eq_false', Int.not_lt, Int.not_le, List.length_map, not_true_eq_false] at hb) <;> (try (exfalso; omega))))
  | (refine W.cond _ rfl (fun hb => ?_) (fun hb => ?_) <;> ((try simp only [hb, Bool.not_true, Bool.not_false]) <;> (try simp only [decide_eq_true_eq, decide_eq_false_iff_not, Bool.not_eq_true', Bool.not_eq_false', Int.not_lt, Int.not_le, List.length_map, not_true_eq_false] at hb) <;> (try (exfalso; omega))))))
            all_goals refine ⟨j + 1, by omega, by omega, ?_⟩
            all_goals rw [hA.out]
            all_goals exact ⟨[0], rfl, rfl, rfl, iV_eq (by omega), rfl, rfl, rfl, rfl, rfl, trivial⟩
        · have e : k = j := by omega
          subst e
          clear hall hrec hlost hfound hsum r3
          rw [q4]
          by_cases hqk : q = k
          · rw [decide_eq_true hqk]
            rw [if_neg (by omega), hL hqk] at hdec
            have hBL : BL = d := hfull.2 fun u hu => q2 u (by omega)
            rw [decide_eq_true hBL] at hdbl
            clear hfull q2 q3 hL
            (repeat' (first
  | (apply W.gOn; exact rfl; exact rfl)
  | (apply W.qd; (first
    | (apply (q_callC (hdec)); exact rfl; exact rfl; kernel_rfl; kernel_rfl; kernel_rfl)
    | (apply (q_callC (hdbl)); exact rfl; exact rfl; kernel_rfl; kernel_rfl; kernel_rfl)
    | (apply (q_callC (hsame)); exact rfl; exact rfl; kernel_rfl; kernel_rfl; kernel_rfl)
    | (apply q_mv; (first
    | exact Eq.refl (AV.d _)
    | exact Eq.refl (AV.osl _ _ _ _)
    | exact Eq.refl (AV.opt _ _)
    | exact Eq.refl (AV.agg _)
    | exact Eq.refl (AV.fpt _ _ _ _)
    | exact Eq.refl (AV.rpt _ _ _ _)
    | exact Eq.refl (AV.fn _ _)
    | exact Eq.refl (AV.tup _)
    | exact Eq.refl AV.top))
    | (apply q_as; (first
    | exact Eq.refl (AV.d _)
    | exact Eq.refl (AV.osl _ _ _ _)
    | exact Eq.refl (AV.opt _ _)
    | exact Eq.refl (AV.agg _)
    | exact Eq.refl (AV.fpt _ _ _ _)
    | exact Eq.refl (AV.rpt _ _ _ _)
    | exact Eq.refl (AV.fn _ _)
    | exact Eq.refl (AV.tup _)
    | exact Eq.refl AV.top))
    | (apply q_fld_optF; exact rfl; exact rfl; exact rfl)
    | (apply q_ld_box; exact rfl; exact rfl; exact rfl; exact rfl)
    | (apply q_ld_boxF; exact rfl; exact rfl; exact rfl; exact rfl)
    | (apply q_lss; exact rfl; exact rfl)
    | (apply q_eql; exact rfl; exact rfl)
    | (apply q_extract; exact rfl; exact rfl)
    | (apply q_len_sl; exact rfl; exact rfl)
    | (apply (q_pickT (u := .d _)); exact rfl; exact rfl)
    | (apply q_neqB; exact rfl; exact rfl; exact rfl)))
  | (refine W.gOff _ _ rfl rfl (by intro h; cases h) ?_)
  | (apply AWP.seq)
  | (apply ACont_normal)
  | (apply W.region; kernel_rfl)
  | (apply Walk.nil)
  | (apply AWP.skip)
  | (apply AWP.exit)
  | (apply AWP.ret)
  | (apply ACont_exit)
  | (apply ABlock_exit)
  | (apply W.condF; exact rfl)
  | (refine W.cond _ rfl (fun hb => ?_) (fun hb => ?_) <;> ((try simp only [hb, Bool.not_true, Bool.not_false]) <;> (try simp only [decide_eq_true_eq, decide_eq_false_iff_not, Bool.not_eq_true', Bool.not_eq_false', Int.not_lt, Int.not_le, List.length_map, not_true_eq_false] at hb) <;> (try (exfalso; omega))))))
            all_goals first
              | exact ⟨.inl rfl, [], [bV true], rfl, rfl, ⟨rfl, trivial⟩, AVle.of_eq rfl, rfl⟩
              | (exfalso; simp at hb; done)
          · rw [decide_eq_false hqk]
            rw [if_pos (by omega)] at hdec
            have hBL : ¬ BL = d := fun e => by
              have := hfull.1 e q (by omega)
              rw [q3 (by omega)] at this; cases this
            rw [decide_eq_false hBL] at hdbl
            clear hfull q2 q3 hL
            (repeat' (first
  | (apply W.gOn; exact rfl; exact rfl)
  | (apply W.qd; (first
    | (apply (q_callC (hdec)); exact rfl; exact rfl; kernel_rfl; kernel_rfl; kernel_rfl)
    | (apply (q_callC (hdbl)); exact rfl; exact rfl; kernel_rfl; kernel_rfl; kernel_rfl)
    | (apply q_mv; (first
    | exact Eq.refl (AV.d _)
    | exact Eq.refl (AV.osl _ _ _ _)
    | exact Eq.refl (AV.opt _ _)
    | exact Eq.refl (AV.agg _)
    | exact Eq.refl (AV.fpt _ _ _ _)
    | exact Eq.refl (AV.rpt _ _ _ _)
    | exact Eq.refl (AV.fn _ _)
    | exact Eq.refl (AV.tup _)
    | exact Eq.refl AV.top))
    | (apply q_as; (first
    | exact Eq.refl (AV.d _)
    | exact Eq.refl (AV.osl _ _ _ _)
    | exact Eq.refl (AV.opt _ _)
    | exact Eq.refl (AV.agg _)
    | exact Eq.refl (AV.fpt _ _ _ _)
    | exact Eq.refl (AV.rpt _ _ _ _)
    | exact Eq.refl (AV.fn _ _)
    | exact Eq.refl (AV.tup _)
    | exact Eq.refl AV.top))
    | (apply q_fld_optF; exact rfl; exact rfl; exact rfl)
    | (apply q_ld_box; exact rfl; exact rfl; exact rfl; exact rfl)
    | (apply q_ld_boxF; exact rfl; exact rfl; exact rfl; exact rfl)
    | (apply q_lss; exact rfl; exact rfl)
    | (apply q_eql; exact rfl; exact rfl)
    | (apply q_not; exact rfl)
    | (apply q_extract; exact rfl; exact rfl)
    | (apply q_len_sl; exact rfl; exact rfl)
    | (apply (q_pickT (u := .d _)); exact rfl; exact rfl)
    | (apply (q_pickF (u := .d _)); exact rfl; exact rfl)
    | (apply q_neqB; exact rfl; exact rfl; exact rfl)))
  | (refine W.gOff _ _ rfl rfl (by intro h; cases h) ?_)
  | (apply AWP.seq)
  | (apply ACont_normal)
  | (apply W.region; kernel_rfl)
  | (apply Walk.nil)
  | (apply AWP.skip)
  | (apply AWP.exit)
  | (apply AWP.ret)
  | (apply ACont_exit)
  | (apply ABlock_exit)
  | (apply W.condF; exact rfl)
  | (refine W.cond _ rfl (fun hb => ?_) (fun hb => ?_) <;> ((try simp only [hb, Bool.not_true, Bool.not_false]) <;> (try simp only [decide_eq_true_eq, decide_eq_false_iff_not, Bool.not_eq_true', Bool.not_eq_false', Int.not_lt, Int.not_le, List.length_map, not_true_eq_false] at hb) <;> (try (exfalso; omega))))))
            all_goals first
              | exact ⟨.inl rfl, [], [bV true], rfl, rfl, ⟨rfl, trivial⟩, AVle.of_eq rfl, rfl⟩
              | (exfalso; simp at hb; done)
    · have henc := A_encode_bad (M := M) (D := D) (us := us) hca (by omega) (fun u hu => by have := g2.2 u hu; omega) hg
      (repeat' (first
  | (apply W.gOn; exact rfl; exact rfl)
  | (apply W.qd; (first
    | (apply (q_callC (hsan)); exact rfl; exact rfl; kernel_rfl; kernel_rfl; kernel_rfl)
    | (apply (q_callC (hsm)); exact rfl; exact rfl; kernel_rfl; kernel_rfl; kernel_rfl)
    | (apply (q_callC (hfew)); exact rfl; exact rfl; kernel_rfl; kernel_rfl; kernel_rfl)
    | (apply (q_callC (hw)); exact rfl; exact rfl; kernel_rfl; kernel_rfl; kernel_rfl)
    | (apply (q_callC (henc)); exact rfl; exact rfl; kernel_rfl; kernel_rfl; kernel_rfl)
    | (apply q_mv; (first
    | exact Eq.refl (AV.d _)
    | exact Eq.refl (AV.osl _ _ _ _)
    | exact Eq.refl (AV.opt _ _)
    | exact Eq.refl (AV.agg _)
    | exact Eq.refl (AV.fpt _ _ _ _)
    | exact Eq.refl (AV.rpt _ _ _ _)
    | exact Eq.refl (AV.fn _ _)
    | exact Eq.refl (AV.tup _)
    | exact Eq.refl AV.top))
    | (apply q_as; (first
    | exact Eq.refl (AV.d _)
    | exact Eq.refl (AV.osl _ _ _ _)
    | exact Eq.refl (AV.opt _ _)
    | exact Eq.refl (AV.agg _)
    | exact Eq.refl (AV.fpt _ _ _ _)
    | exact Eq.refl (AV.rpt _ _ _ _)
    | exact Eq.refl (AV.fn _ _)
    | exact Eq.refl (AV.tup _)
    | exact Eq.refl AV.top))
    | (apply q_fld_optF; exact rfl; exact rfl; exact rfl)
    | (apply q_ld_box; exact rfl; exact rfl; exact rfl; exact rfl)
    | (apply q_ld_boxF; exact rfl; exact rfl; exact rfl; exact rfl)
    | (apply q_gtr; exact rfl; exact rfl)
    | (apply q_eql; exact rfl; exact rfl)
    | (apply q_neq; exact rfl; exact rfl)
    | (apply q_not; exact rfl)
    | (apply q_extract; exact rfl; exact rfl)
    | (apply q_len_sl; exact rfl; exact rfl)
    | (apply q_len_bs; exact rfl; exact rfl)
    | (apply (q_pickT (u := .d _)); exact rfl; exact rfl)
    | (apply (q_pickF (u := .d _)); exact rfl; exact rfl)))
  | (apply W.ed; (apply e_boxF; exact rfl; exact rfl; exact rfl; kernel_rfl; kernel_rfl))
  | (apply AWP.seq)
  | (apply ACont_normal)
  | (apply W.region; kernel_rfl)
  | (apply W.regionD; exact rfl; kernel_rfl)
  | (apply Walk.nil)
  | (apply W.chk; kernel_rfl)
  | (apply AWP.skip)
  | (apply AWP.ret)
  | (apply ACont_ret)
  | (apply W.condT; exact rfl)
  | (refine W.gF _ _ rfl rfl (fun hb => ?_) (fun hb => ?_) <;> ((try simp only [hb, Bool.not_true, Bool.not_false]) <;> (try simp only [decide_eq_true_eq, decide_eq_false_iff_not, Bool.not_eq_true', Bool.not_eq_false', Int.not_lt, Int.not_le, List.length_map, not_true_eq_false] at hb) <;> (try (exfalso; omega))))
  | (refine W.cond _ rfl (fun hb => ?_) (fun hb => ?_) <;> ((try simp only [hb, Bool.not_true, Bool.not_false]) <;> (try simp only [decide_eq_true_eq, decide_eq_false_iff_not, Bool.not_eq_true', Bool.not_eq_false', Int.not_lt, Int.not_le, List.length_map, not_true_eq_false] at hb) <;> (try (exfalso; omega))))))
      all_goals exact ⟨.inl rfl, [], [bV true], rfl, rfl, ⟨rfl, trivial⟩, AVle.of_eq rfl, rfl⟩
  · cases h1 : smallB D par <;> rw [h1] at hsm
    · (repeat' (first
  | (apply W.qd; (first
    | (apply (q_callC (hsan)); exact rfl; exact rfl; kernel_rfl; kernel_rfl; kernel_rfl)
    | (apply (q_callC (hsm)); exact rfl; exact rfl; kernel_rfl; kernel_rfl; kernel_rfl)
    | (apply q_mv; (first
    | exact Eq.refl (AV.d _)
    | exact Eq.refl (AV.osl _ _ _ _)
    | exact Eq.refl (AV.opt _ _)
    | exact Eq.refl (AV.agg _)
    | exact Eq.refl (AV.fpt _ _ _ _)
    | exact Eq.refl (AV.rpt _ _ _ _)
    | exact Eq.refl (AV.fn _ _)
    | exact Eq.refl (AV.tup _)
    | exact Eq.refl AV.top))
    | (apply q_as; (first
    | exact Eq.refl (AV.d _)
    | exact Eq.refl (AV.osl _ _ _ _)
    | exact Eq.refl (AV.opt _ _)
    | exact Eq.refl (AV.agg _)
    | exact Eq.refl (AV.fpt _ _ _ _)
    | exact Eq.refl (AV.rpt _ _ _ _)
    | exact Eq.refl (AV.fn _ _)
    | exact Eq.refl (AV.tup _)
    | exact Eq.refl AV.top))
    | (apply q_fld_optF; exact rfl; exact rfl; exact rfl)
    | (apply q_ld_boxF; exact rfl; exact rfl; exact rfl; exact rfl)
    | (apply q_not; exact rfl)
    | (apply (q_pickT (u := .d _)); exact rfl; exact rfl)))
  | (apply W.ed; (apply e_boxF; exact rfl; exact rfl; exact rfl; kernel_rfl; kernel_rfl))
  | (refine W.gOff _ _ rfl rfl (by intro h; cases h) ?_)
  | (apply AWP.seq)
  | (apply ACont_normal)
  | (apply W.region; kernel_rfl)
  | (apply W.regionD; exact rfl; kernel_rfl)
  | (apply Walk.nil)
  | (apply W.chk; kernel_rfl)
  | (apply AWP.ret)
  | (apply ACont_ret)
  | (apply W.condT; exact rfl)))
      all_goals exact ⟨.inl rfl, [], [bV true], rfl, rfl, ⟨rfl, trivial⟩, AVle.of_eq rfl, rfl⟩
    · cases h2 : fewB us <;> rw [h2] at hfew
      · (repeat' (first
  | (apply W.gOn; exact rfl; exact rfl)
  | (apply W.qd; (first
    | (apply (q_callC (hsan)); exact rfl; exact rfl; kernel_rfl; kernel_rfl; kernel_rfl)
    | (apply (q_callC (hsm)); exact rfl; exact rfl; kernel_rfl; kernel_rfl; kernel_rfl)
    | (apply (q_callC (hfew)); exact rfl; exact rfl; kernel_rfl; kernel_rfl; kernel_rfl)
    | (apply q_mv; (first
    | exact Eq.refl (AV.d _)
    | exact Eq.refl (AV.osl _ _ _ _)
    | exact Eq.refl (AV.opt _ _)
    | exact Eq.refl (AV.agg _)
    | exact Eq.refl (AV.fpt _ _ _ _)
    | exact Eq.refl (AV.rpt _ _ _ _)
    | exact Eq.refl (AV.fn _ _)
    | exact Eq.refl (AV.tup _)
    | exact Eq.refl AV.top))
    | (apply q_as; (first
    | exact Eq.refl (AV.d _)
    | exact Eq.refl (AV.osl _ _ _ _)
    | exact Eq.refl (AV.opt _ _)
    | exact Eq.refl (AV.agg _)
    | exact Eq.refl (AV.fpt _ _ _ _)
    | exact Eq.refl (AV.rpt _ _ _ _)
    | exact Eq.refl (AV.fn _ _)
    | exact Eq.refl (AV.tup _)
    | exact Eq.refl AV.top))
    | (apply q_fld_optF; exact rfl; exact rfl; exact rfl)
    | (apply q_ld_box; exact rfl; exact rfl; exact rfl; exact rfl)
    | (apply q_ld_boxF; exact rfl; exact rfl; exact rfl; exact rfl)
    | (apply q_not; exact rfl)
    | (apply (q_pickT (u := .d _)); exact rfl; exact rfl)
    | (apply (q_pickF (u := .d _)); exact rfl; exact rfl)))
  | (apply W.ed; (apply e_boxF; exact rfl; exact rfl; exact rfl; kernel_rfl; kernel_rfl))
  | (refine W.gOff _ _ rfl rfl (by intro h; cases h) ?_)
  | (apply AWP.seq)
  | (apply ACont_normal)
  | (apply W.region; kernel_rfl)
  | (apply W.regionD; exact rfl; kernel_rfl)
  | (apply Walk.nil)
  | (apply W.chk; kernel_rfl)
  | (apply AWP.ret)
  | (apply ACont_ret)
  | (apply W.condT; exact rfl)))
        all_goals exact ⟨.inl rfl, [], [bV true], rfl, rfl, ⟨rfl, trivial⟩, AVle.of_eq rfl, rfl⟩
      · have hbad : ¬ ((hv.length : Int) = (if validC M D par then D + (par.length : Int) else 0) ∧ nz.length ≤ 64) := fun ⟨a, b⟩ => hgood ⟨h1, h2, a, b⟩
        generalize (if validC M D par then D + (par.length : Int) else 0) = w at *
        (repeat' (first
  | (apply W.gOn; exact rfl; exact rfl)
  | (apply W.qd; (first
    | (apply (q_callC (hsan)); exact rfl; exact rfl; kernel_rfl; kernel_rfl; kernel_rfl)
    | (apply (q_callC (hsm)); exact rfl; exact rfl; kernel_rfl; kernel_rfl; kernel_rfl)
    | (apply (q_callC (hfew)); exact rfl; exact rfl; kernel_rfl; kernel_rfl; kernel_rfl)
    | (apply (q_callC (hw)); exact rfl; exact rfl; kernel_rfl; kernel_rfl; kernel_rfl)
    | (apply q_mv; (first
    | exact Eq.refl (AV.d _)
    | exact Eq.refl (AV.osl _ _ _ _)
    | exact Eq.refl (AV.opt _ _)
    | exact Eq.refl (AV.agg _)
    | exact Eq.refl (AV.fpt _ _ _ _)
    | exact Eq.refl (AV.rpt _ _ _ _)
    | exact Eq.refl (AV.fn _ _)
    | exact Eq.refl (AV.tup _)
    | exact Eq.refl AV.top))
    | (apply q_as; (first
    | exact Eq.refl (AV.d _)
    | exact Eq.refl (AV.osl _ _ _ _)
    | exact Eq.refl (AV.opt _ _)
    | exact Eq.refl (AV.agg _)
    | exact Eq.refl (AV.fpt _ _ _ _)
    | exact Eq.refl (AV.rpt _ _ _ _)
    | exact Eq.refl (AV.fn _ _)
    | exact Eq.refl (AV.tup _)
    | exact Eq.refl AV.top))
    | (apply q_fld_optF; exact rfl; exact rfl; exact rfl)
    | (apply q_ld_box; exact rfl; exact rfl; exact rfl; exact rfl)
    | (apply q_ld_boxF; exact rfl; exact rfl; exact rfl; exact rfl)
    | (apply q_gtr; exact rfl; exact rfl)
    | (apply q_neq; exact rfl; exact rfl)
    | (apply q_not; exact rfl)
    | (apply q_len_sl; exact rfl; exact rfl)
    | (apply q_len_bs; exact rfl; exact rfl)
    | (apply (q_pickT (u := .d _)); exact rfl; exact rfl)
    | (apply (q_pickF (u := .d _)); exact rfl; exact rfl)))
  | (apply W.ed; (apply e_boxF; exact rfl; exact rfl; exact rfl; kernel_rfl; kernel_rfl))
  | (refine W.gOff _ _ rfl rfl (by intro h; cases h) ?_)
  | (apply AWP.seq)
  | (apply ACont_normal)
  | (apply W.region; kernel_rfl)
  | (apply W.regionD; exact rfl; kernel_rfl)
  | (apply Walk.nil)
  | (apply W.chk; kernel_rfl)
  | (apply AWP.ret)
  | (apply ACont_ret)
  | (apply W.condT; exact rfl)
  | (refine W.gF _ _ rfl rfl (fun hb => ?_) (fun hb => ?_) <;> ((try simp only [hb, Bool.not_true, Bool.not_false]) <;> (try simp only [decide_eq_true_eq, decide_eq_false_iff_not, Bool.not_eq_true', Bool.not_eq_false', Int.not_lt, Int.not_le, List.length_map, not_true_eq_false] at hb) <;> (try (exfalso; omega))))
  | (refine W.cond _ rfl (fun hb => ?_) (fun hb => ?_) <;> ((try simp only [hb, Bool.not_true, Bool.not_false]) <;> (try simp only [decide_eq_true_eq, decide_eq_false_iff_not, Bool.not_eq_true', Bool.not_eq_false', Int.not_lt, Int.not_le, List.length_map, not_true_eq_false] at hb) <;> (try (exfalso; omega))))))
        all_goals exact ⟨.inl rfl, [], [bV true], rfl, rfl, ⟨rfl, trivial⟩, AVle.of_eq rfl, rfl⟩
end Go.Proofs.YtjaipchlnnjaeaaDoor
end

section
/- The law ErasureCoefficientsAddUp: the walk. -/
namespace Go.Proofs.YtjaipchlnnjaeaaDoor
open Go.RowKit
set_option linter.unusedVariables false
set_option linter.unusedSimpArgs false
set_option linter.unusedSectionVars false
set_option maxHeartbeats 4000000
set_option maxRecDepth 100000

/-- The first j elements new, the others old. -/
def mixN (d : Nat) (a b : Nat → Nat) (j : Nat) : List Nat := (List.range d).map fun x => if x < j then a x else b x
theorem mixN_length (d : Nat) (a b : Nat → Nat) (j : Nat) : (mixN d a b j).length = d := by simp [mixN]
theorem mixN_get {d : Nat} (a b : Nat → Nat) {j i : Nat} (h : i < (mixN d a b j).length) : (mixN d a b j)[i] = if i < j then a i else b i := by simp [mixN]
theorem mixN_succ {d : Nat} (a b : Nat → Nat) {j : Nat} (hj : j < d) : mixN d a b (j + 1) = (mixN d a b j).set j (a j) := by
  apply List.ext_getElem (by rw [List.length_set, mixN_length, mixN_length])
  intro i h1 h2
  rw [mixN_get, List.getElem_set, mixN_get]
  by_cases e : j = i
  · subst e; rw [if_pos (by omega), if_pos rfl]
  · rw [if_neg e]
    by_cases e2 : i < j
    · rw [if_pos (by omega), if_pos e2]
    · rw [if_neg (by omega), if_neg e2]
theorem mixN_zero (d : Nat) (a b : Nat → Nat) : mixN d a b 0 = (List.range d).map b := by
  unfold mixN
  refine List.map_congr_left fun x _ => if_neg (by omega)
theorem mixN_full (d : Nat) (a b : Nat → Nat) : mixN d a b d = (List.range d).map a := by
  unfold mixN
  refine List.map_congr_left fun x hx => if_pos (List.mem_range.1 hx)
theorem lx_lt {M : Nat} {α : Type} {f : α → Nat} : ∀ {l : List α}, (∀ a ∈ l, f a < 2 ^ M) → lx f l < 2 ^ M
  | [], _ => Nat.two_pow_pos M
  | a :: l, h => xor_lt' (h a (by simp)) (lx_lt fun b hb => h b (by simp [hb]))
/-- The sum of the first k terms. -/
def cS (m d : Nat) (ps : List (List Nat)) (l : List (Nat × Nat)) (k x : Nat) : Nat := lx (fun t : Nat × Nat => mu m t.2 (U d (genN d ps) t.1 x)) (l.take k)
theorem cS_succ (m d : Nat) (ps : List (List Nat)) (l : List (Nat × Nat)) {k : Nat} (h : k < l.length) (x : Nat) : cS m d ps l (k + 1) x = cS m d ps l k x ^^^ mu m l[k].2 (U d (genN d ps) l[k].1 x) := by
  unfold cS
  rw [List.take_succ_eq_append_getElem h, lx_append]; simp [lx]
theorem cS_lt {m d : Nat} {ps : List (List Nat)} {l : List (Nat × Nat)} (hM : FldM m) (h : ∀ t ∈ l, t.2 < 2 ^ m) (k x : Nat) : cS m d ps l k x < 2 ^ m :=
  lx_lt fun t ht => mu_lt hM (h t (List.mem_of_mem_take ht)) _
attribute [local irreducible] Quiet Eff OpOk AWPG ACont ABlock ACalls AGoto

theorem A_addUp {M D x : Int} {par : List (List Int)} {hv : List Bool} (hpar : ∀ r ∈ par, ∀ x ∈ r, x < 9223372036854775808) (hx : 0 ≤ x ∧ x < 256) :
    ACalls Tryd.prog 5 [cdA M D par, bools hv, .d (.v (.int .u8 x))] [] (bV true) [] := by
  refine acalls_of_bodyO Tryd.func5 rfl (Nat.le_of_ble_eq_true rfl) ?_
  have hca : CodeIn par := ⟨hpar⟩
  have hsan := A_sanity
  have hsm := A_small (M := M) (D := D) (par := par)
  have hw := A_ewidth (M := M) (D := D) hca
  have hmh : (hv.map tD).length = hv.length := List.length_map _
  by_cases hgood : smallB D par = true ∧ validC M D par = true ∧ (hv.length : Int) = D + (par.length : Int)
  · obtain ⟨g1, g2, g3⟩ := hgood
    rw [g1] at hsm
    rw [if_pos g2] at hw
    obtain ⟨m, d, ps, rfl, rfl, rfl, hok⟩ := ok_valid g2
    have hpl : (toZ ps).length = ps.length := List.length_map _
    rw [hpl] at hw g3
    have hl : hv.length = d + ps.length := by omega
    have hd := hok.d
    have hwd := hok.w
    obtain ⟨X, rfl⟩ := Int.eq_ofNat_of_zero_le hx.1
    have hk : X % hv.length < hv.length := Nat.mod_lt _ (by omega)
    have hXm : ((X : Nat) : Int) % (hv.length : Int) = ((X % hv.length : Nat) : Int) := (Int.natCast_emod _ _).symm
    rw [← g3] at hw
    generalize X % hv.length = K at *
    have hK : K < d + ps.length := by omega
    have hcb := A_comb hok hl hK
    have hrow := fun u (hu : u < d + ps.length) => A_r8row hok hu
    simp only [cdN_A] at hcb hrow
    refine AWP.hole rfl ?_
    cases hc : combN m d ps hv K with
    | none =>
      have hlost := rt_lost hok hl hK hc
      have e2 : hv.getD K false = hv[K]'(by omega) := by rw [List.getD_eq_getElem?_getD, List.getElem?_eq_getElem (show K < hv.length by omega)]; rfl
      rw [e2] at hlost
      rw [hc] at hcb
      unfold termsA at hcb
      dsimp only at hcb
      (repeat' (first
  | (apply W.gOn; exact rfl; exact rfl)
  | (apply W.qd; (first
    | (apply (q_callC (hsan)); exact rfl; exact rfl; kernel_rfl; kernel_rfl; kernel_rfl)
    | (apply (q_callC (hsm)); exact rfl; exact rfl; kernel_rfl; kernel_rfl; kernel_rfl)
    | (apply (q_callC (hw)); exact rfl; exact rfl; kernel_rfl; kernel_rfl; kernel_rfl)
    | (apply q_mv; (first
    | exact Eq.refl (AV.d _)
    | exact Eq.refl (AV.osl _ _ _ _)
    | exact Eq.refl (AV.opt _ _)
    | exact Eq.refl (AV.agg _)
    | exact Eq.refl (AV.fpt _ _ _ _)
    | exact Eq.refl (AV.rpt _ _ _ _)
    | exact Eq.refl (AV.fn _ _)
    | exact Eq.refl (AV.tup _)
    | exact Eq.refl AV.top))
    | (apply q_as; (first
    | exact Eq.refl (AV.d _)
    | exact Eq.refl (AV.osl _ _ _ _)
    | exact Eq.refl (AV.opt _ _)
    | exact Eq.refl (AV.agg _)
    | exact Eq.refl (AV.fpt _ _ _ _)
    | exact Eq.refl (AV.rpt _ _ _ _)
    | exact Eq.refl (AV.fn _ _)
    | exact Eq.refl (AV.tup _)
    | exact Eq.refl AV.top))
    | (apply q_ld_boxF; exact rfl; exact rfl; exact rfl; exact rfl)
    | (apply q_eql; exact rfl; exact rfl)
    | (apply q_neq; exact rfl; exact rfl)
    | (apply q_not; exact rfl)
    | (apply q_rem; exact rfl; exact rfl; omega; omega)
    | (apply q_len_sl; exact rfl; exact rfl)
    | (apply (q_pickF (u := .d _)); exact rfl; exact rfl)
    | (apply q_convI; exact rfl; exact rfl; exact rfl; omega)))
  | (apply W.ed; (apply e_boxF; exact rfl; exact rfl; exact rfl; kernel_rfl; kernel_rfl))
  | (apply AWP.seq)
  | (apply ACont_normal)
  | (apply (W.regionS 6); exact rfl; kernel_rfl)
  | (apply Walk.nil)
  | (apply AWP.skip)
  | (refine W.gF _ _ rfl rfl (fun hb => ?_) (fun hb => ?_) <;> ((try simp only [hb, Bool.not_true, Bool.not_false]) <;> (try simp only [decide_eq_true_eq, decide_eq_false_iff_not, Bool.not_eq_true', Bool.not_eq_false', Int.not_lt, Int.not_le, List.length_map, not_true_eq_false] at hb) <;> (try (exfalso; omega))))
  | (refine W.cond _ rfl (fun hb => ?_) (fun hb => ?_) <;> ((try simp only [hb, Bool.not_true, Bool.not_false]) <;> (try simp only [decide_eq_true_eq, decide_eq_false_iff_not, Bool.not_eq_true', Bool.not_eq_false', Int.not_lt, Int.not_le, List.length_map, not_true_eq_false] at hb) <;> (try (exfalso; omega))))))
      refine AWP.wk ⟨[(9, iV K), (8, iV hv.length), (7, bV true), (1, bools hv), (3, .opt 1 0)], [hole, .box [.d .any, iV m, iV d, rowsA (toZ ps), .d .any]]⟩ ⟨[0, 1], rfl, rfl, rfl, iV_eq hXm.symm, rfl, rfl, rfl, rfl, trivial⟩ ?_
      (repeat' (first
  | (apply W.gOn; exact rfl; exact rfl)
  | (apply W.qd; (first
    | (apply (q_callC (hcb)); exact rfl; exact rfl; kernel_rfl; kernel_rfl; kernel_rfl)
    | (apply q_mv; (first
    | exact Eq.refl (AV.d _)
    | exact Eq.refl (AV.osl _ _ _ _)
    | exact Eq.refl (AV.opt _ _)
    | exact Eq.refl (AV.agg _)
    | exact Eq.refl (AV.fpt _ _ _ _)
    | exact Eq.refl (AV.rpt _ _ _ _)
    | exact Eq.refl (AV.fn _ _)
    | exact Eq.refl (AV.tup _)
    | exact Eq.refl AV.top))
    | (apply q_as; (first
    | exact Eq.refl (AV.d _)
    | exact Eq.refl (AV.osl _ _ _ _)
    | exact Eq.refl (AV.opt _ _)
    | exact Eq.refl (AV.agg _)
    | exact Eq.refl (AV.fpt _ _ _ _)
    | exact Eq.refl (AV.rpt _ _ _ _)
    | exact Eq.refl (AV.fn _ _)
    | exact Eq.refl (AV.tup _)
    | exact Eq.refl AV.top))
    | (apply q_ld_boxF; exact rfl; exact rfl; exact rfl; exact rfl)
    | (apply q_eql; exact rfl; exact rfl)
    | (apply q_neq; exact rfl; exact rfl)
    | (apply q_not; exact rfl)
    | (apply q_extract; exact rfl; exact rfl)
    | (apply q_len_sl; exact rfl; exact rfl)
    | (apply q_ld_map; exact rfl; exact rfl; exact rfl; (first | omega | (focus (simp; done))))
    | (apply q_ix_slF; exact rfl; exact rfl; exact rfl; exact rfl; (first | (with_reducible exact rfl) | exact natI_spec rfl | assumption | exact (Int.toNat_of_nonneg (by omega)).symm); (first | omega | (focus (simp only [List.length_map]; omega)) | (focus (simp; done)) | (focus (simp; omega))))
    | (apply (q_pickT (u := .d _)); exact rfl; exact rfl)))
  | (apply AWP.seq)
  | (apply ACont_normal)
  | (apply W.region; kernel_rfl)
  | (apply Walk.nil)
  | (apply AWP.ret)
  | (apply ACont_ret)
  | (apply W.condT; exact rfl)))
      (all_goals (try (exfalso; exact absurd ((‹hv[K] = true› : hv[K] = true).symm.trans (‹hv[K] = false› : hv[K] = false)) (by decide))))
      rw [hlost]
      exact ⟨.inl rfl, [], [bV true], rfl, rfl, ⟨rfl, trivial⟩, AVle.of_eq rfl, rfl⟩
    | some l =>
      have hco := comb_ok hok hl hK hc
      have hbl := basis_len hok hl
      have hll : l.length ≤ 32 := by have := hco.le; omega
      rw [hc] at hcb
      unfold termsA at hcb
      dsimp only at hcb
      have hlt1 : ∀ k (h : k < l.length), l[k].1 < d + ps.length := fun k h => hv_lt hok hl (hco.pres _ (List.getElem_mem h))
      have hcf : ∀ k (h : k < l.length), l[k].2 < 2 ^ m ∧ l[k].2 ≠ 0 := fun k h => hco.lt _ (List.getElem_mem h)
      have hpr : ∀ k (h : k < l.length), hv[l[k].1]'(by have := hlt1 k h; omega) = true := fun k h => by
        have := hco.pres _ (List.getElem_mem h)
        rwa [List.getD_eq_getElem?_getD, List.getElem?_eq_getElem (show l[k].1 < hv.length by have := hlt1 k h; omega)] at this
      have hinc : ∀ k (h : k < l.length), 0 < k → (l[k - 1]'(by omega)).1 < l[k].1 := fun k h h0 => List.pairwise_iff_getElem.1 hco.inc (k - 1) k _ _ (by omega)
      have hml : (l.map tmD).length = l.length := List.length_map _
      (repeat' (first
  | (apply W.gOn; exact rfl; exact rfl)
  | (apply W.qd; (first
    | (apply (q_callC (hsan)); exact rfl; exact rfl; kernel_rfl; kernel_rfl; kernel_rfl)
    | (apply (q_callC (hsm)); exact rfl; exact rfl; kernel_rfl; kernel_rfl; kernel_rfl)
    | (apply (q_callC (hw)); exact rfl; exact rfl; kernel_rfl; kernel_rfl; kernel_rfl)
    | (apply q_mv; (first
    | exact Eq.refl (AV.d _)
    | exact Eq.refl (AV.osl _ _ _ _)
    | exact Eq.refl (AV.opt _ _)
    | exact Eq.refl (AV.agg _)
    | exact Eq.refl (AV.fpt _ _ _ _)
    | exact Eq.refl (AV.rpt _ _ _ _)
    | exact Eq.refl (AV.fn _ _)
    | exact Eq.refl (AV.tup _)
    | exact Eq.refl AV.top))
    | (apply q_as; (first
    | exact Eq.refl (AV.d _)
    | exact Eq.refl (AV.osl _ _ _ _)
    | exact Eq.refl (AV.opt _ _)
    | exact Eq.refl (AV.agg _)
    | exact Eq.refl (AV.fpt _ _ _ _)
    | exact Eq.refl (AV.rpt _ _ _ _)
    | exact Eq.refl (AV.fn _ _)
    | exact Eq.refl (AV.tup _)
    | exact Eq.refl AV.top))
    | (apply q_ld_boxF; exact rfl; exact rfl; exact rfl; exact rfl)
    | (apply q_eql; exact rfl; exact rfl)
    | (apply q_neq; exact rfl; exact rfl)
    | (apply q_not; exact rfl)
    | (apply q_rem; exact rfl; exact rfl; omega; omega)
    | (apply q_len_sl; exact rfl; exact rfl)
    | (apply (q_pickF (u := .d _)); exact rfl; exact rfl)
    | (apply q_convI; exact rfl; exact rfl; exact rfl; omega)))
  | (apply W.ed; (apply e_boxF; exact rfl; exact rfl; exact rfl; kernel_rfl; kernel_rfl))
  | (apply AWP.seq)
  | (apply ACont_normal)
  | (apply (W.regionS 6); exact rfl; kernel_rfl)
  | (apply Walk.nil)
  | (apply AWP.skip)
  | (refine W.gF _ _ rfl rfl (fun hb => ?_) (fun hb => ?_) <;> ((try simp only [hb, Bool.not_true, Bool.not_false]) <;> (try simp only [decide_eq_true_eq, decide_eq_false_iff_not, Bool.not_eq_true', Bool.not_eq_false', Int.not_lt, Int.not_le, List.length_map, not_true_eq_false] at hb) <;> (try (exfalso; omega))))
  | (refine W.cond _ rfl (fun hb => ?_) (fun hb => ?_) <;> ((try simp only [hb, Bool.not_true, Bool.not_false]) <;> (try simp only [decide_eq_true_eq, decide_eq_false_iff_not, Bool.not_eq_true', Bool.not_eq_false', Int.not_lt, Int.not_le, List.length_map, not_true_eq_false] at hb) <;> (try (exfalso; omega))))))
      refine AWP.wk ⟨[(9, iV K), (8, iV hv.length), (7, bV true), (1, bools hv), (3, .opt 1 0)], [hole, .box [.d .any, iV m, iV d, rowsA (toZ ps), .d .any]]⟩ ⟨[0, 1], rfl, rfl, rfl, iV_eq hXm.symm, rfl, rfl, rfl, rfl, trivial⟩ ?_
      (repeat' (first
  | (apply W.qd; (first
    | (apply (q_callC (hcb)); exact rfl; exact rfl; kernel_rfl; kernel_rfl; kernel_rfl)
    | (apply q_mv; (first
    | exact Eq.refl (AV.d _)
    | exact Eq.refl (AV.osl _ _ _ _)
    | exact Eq.refl (AV.opt _ _)
    | exact Eq.refl (AV.agg _)
    | exact Eq.refl (AV.fpt _ _ _ _)
    | exact Eq.refl (AV.rpt _ _ _ _)
    | exact Eq.refl (AV.fn _ _)
    | exact Eq.refl (AV.tup _)
    | exact Eq.refl AV.top))
    | (apply q_as; (first
    | exact Eq.refl (AV.d _)
    | exact Eq.refl (AV.osl _ _ _ _)
    | exact Eq.refl (AV.opt _ _)
    | exact Eq.refl (AV.agg _)
    | exact Eq.refl (AV.fpt _ _ _ _)
    | exact Eq.refl (AV.rpt _ _ _ _)
    | exact Eq.refl (AV.fn _ _)
    | exact Eq.refl (AV.tup _)
    | exact Eq.refl AV.top))
    | (apply q_fld_optF; exact rfl; exact rfl; exact rfl)
    | (apply q_ld_box; exact rfl; exact rfl; exact rfl; exact rfl)
    | (apply q_ld_boxF; exact rfl; exact rfl; exact rfl; exact rfl)
    | (apply q_neq; exact rfl; exact rfl)
    | (apply q_extract; exact rfl; exact rfl)))
  | (apply W.ld; (apply (l_make (f := kD) 0); exact rfl; exact rfl; exact rfl; (first | (with_reducible exact rfl) | exact natI_spec rfl | assumption | exact (Int.toNat_of_nonneg (by omega)).symm); exact rfl; exact rfl; exact rfl; exact rfl; exact rfl; exact rfl; kernel_rfl; omega))
  | (apply AWP.seq)
  | (apply ACont_normal)
  | (apply W.region; kernel_rfl)
  | (apply Walk.nil)
  | (apply AWP.block)
  | (apply AWP.skip)
  | (apply W.condF; exact rfl)))
      refine AWP.loopW (α := Nat) (fun k => k ≤ l.length) (fun k => ⟨[(13, iV k), (12, .osl 0 0 0 d), (10, tmsA l), (9, iV K), (8, iV hv.length), (7, bV true), (1, bools hv), (3, .opt 1 0)], [.row 0 1 3 (((List.range d).map (cS m d ps l k)).map kD), .box [.d .any, iV m, iV d, rowsA (toZ ps), .d .any]]⟩) (fun k => l.length - k) 0 (by omega) ?wk0 fun k hk => ?_
      case wk0 =>
        have e : (List.range d).map (cS m d ps l 0) = List.replicate d 0 := by
          apply List.ext_getElem (by simp)
          intro i h1 h2
          simp [cS, lx]
        rw [e]
        exact ⟨[0, 1], rfl, rfl, rfl, by (repeat (first | exact trivial | refine ⟨rfl, ?_⟩))⟩
      by_cases hkl : k < l.length
      · have p1 := hlt1 k hkl
        have p2 := hcf k hkl
        have p3 := hpr k hkl
        have p4 := hinc k hkl
        have p5 := hrow _ p1
        have hnext := cS_succ m d ps l hkl
        have hlB := cS_lt (d := d) (ps := ps) hok.f (fun t ht => (hco.lt t ht).1) k
        have hlA := cS_lt (d := d) (ps := ps) hok.f (fun t ht => (hco.lt t ht).1) (k + 1)
        have hfull := Lib.hid (mixN_full d (cS m d ps l (k + 1)) (cS m d ps l k)).symm
        have hrl := rowN_length d ps l[k].1
        have hrj : ∀ j (h : j < (rowN d ps l[k].1).length), (rowN d ps l[k].1)[j] = U d (genN d ps) l[k].1 j := fun j h => by simp [rowN]
        have hUl : ∀ j, j < d → U d (genN d ps) l[k].1 j < 2 ^ m := fun j hj => U_all hok _ j hj
        rw [← mixN_zero d (cS m d ps l (k + 1)) (cS m d ps l k)]
        generalize cS m d ps l k = B at *
        generalize hAe : cS m d ps l (k + 1) = A at *
        generalize rowN d ps l[k].1 = R at *
        have hcase : k = 0 ∨ (k ≠ 0 ∧ ((k : Int) - 1) = ((k - 1 : Nat) : Int)) := by omega
        rcases hcase with hk0 | ⟨hk0, hkm⟩
        all_goals (repeat' (first
  | (apply W.gOn; exact rfl; exact rfl)
  | (apply W.qd; (first
    | (apply (q_callC (p5)); exact rfl; exact rfl; kernel_rfl; kernel_rfl; kernel_rfl)
    | (apply q_mv; (first
    | exact Eq.refl (AV.d _)
    | exact Eq.refl (AV.osl _ _ _ _)
    | exact Eq.refl (AV.opt _ _)
    | exact Eq.refl (AV.agg _)
    | exact Eq.refl (AV.fpt _ _ _ _)
    | exact Eq.refl (AV.rpt _ _ _ _)
    | exact Eq.refl (AV.fn _ _)
    | exact Eq.refl (AV.tup _)
    | exact Eq.refl AV.top))
    | (apply q_as; (first
    | exact Eq.refl (AV.d _)
    | exact Eq.refl (AV.osl _ _ _ _)
    | exact Eq.refl (AV.opt _ _)
    | exact Eq.refl (AV.agg _)
    | exact Eq.refl (AV.fpt _ _ _ _)
    | exact Eq.refl (AV.rpt _ _ _ _)
    | exact Eq.refl (AV.fn _ _)
    | exact Eq.refl (AV.tup _)
    | exact Eq.refl AV.top))
    | (apply q_fld_optF; exact rfl; exact rfl; exact rfl)
    | (apply q_ld_box; exact rfl; exact rfl; exact rfl; exact rfl)
    | (apply q_ld_boxF; exact rfl; exact rfl; exact rfl; exact rfl)
    | (apply q_lss; exact rfl; exact rfl)
    | (apply q_gtr; exact rfl; exact rfl)
    | (apply q_geq; exact rfl; exact rfl)
    | (apply q_eql; exact rfl; exact rfl)
    | (apply q_not; exact rfl)
    | (apply q_sub; exact rfl; exact rfl; omega)
    | (apply q_len_sl; exact rfl; exact rfl)
    | (apply q_ld_map; exact rfl; exact rfl; exact rfl; (first | omega | (focus (simp; done))))
    | (apply q_ld_maps; exact rfl; exact rfl; exact rfl; (first | omega | (focus (simp; done))))
    | (apply q_fld_fptF; exact rfl; exact rfl; exact rfl)
    | (apply q_ix_slF; exact rfl; exact rfl; exact rfl; exact rfl; (first | (with_reducible exact rfl) | exact natI_spec rfl | assumption | exact (Int.toNat_of_nonneg (by omega)).symm); (first | omega | (focus (simp only [List.length_map]; omega)) | (focus (simp; done)) | (focus (simp; omega))))
    | (apply (q_pickT (u := .d _)); exact rfl; exact rfl)
    | (apply (q_pickF (u := .d _)); exact rfl; exact rfl)))
  | (apply W.ed; (apply e_allocF; exact rfl; exact rfl; exact rfl; kernel_rfl))
  | (apply W.ln; (apply l_st_box; exact rfl; exact rfl; exact rfl; exact rfl; exact rfl; exact rfl; kernel_rfl; kernel_rfl; kernel_rfl))
  | (refine W.gOff _ _ rfl rfl (by intro h; cases h) ?_)
  | (apply AWP.seq)
  | (apply ACont_normal)
  | (apply W.region; kernel_rfl)
  | (apply W.regionD; exact rfl; kernel_rfl)
  | (apply Walk.nil)
  | (apply W.chk; kernel_rfl)
  | (apply AWP.block)
  | (apply AWP.skip)
  | (apply AWP.ret)
  | (apply ACont_ret)
  | (apply ABlock_ret)
  | (apply W.condT; exact rfl)
  | (apply W.condF; exact rfl)
  | (refine W.gT _ _ rfl rfl (fun hb => ?_) (fun hb => ?_) <;> ((try simp only [hb, Bool.not_true, Bool.not_false]) <;> (try simp only [decide_eq_true_eq, decide_eq_false_iff_not, Bool.not_eq_true', Bool.not_eq_false', Int.not_lt, Int.not_le, List.length_map, not_true_eq_false] at hb) <;> (try (exfalso; omega))))
  | (refine W.gF _ _ rfl rfl (fun hb => ?_) (fun hb => ?_) <;> ((try simp only [hb, Bool.not_true, Bool.not_false]) <;> (try simp only [decide_eq_true_eq, decide_eq_false_iff_not, Bool.not_eq_true', Bool.not_eq_false', Int.not_lt, Int.not_le, List.length_map, not_true_eq_false] at hb) <;> (try (exfalso; omega))))
  | (refine W.cond _ rfl (fun hb => ?_) (fun hb => ?_) <;> ((try simp only [hb, Bool.not_true, Bool.not_false]) <;> (try simp only [decide_eq_true_eq, decide_eq_false_iff_not, Bool.not_eq_true', Bool.not_eq_false', Int.not_lt, Int.not_le, List.length_map, not_true_eq_false] at hb) <;> (try (exfalso; omega))))))
        (all_goals (try (exfalso; exact absurd ((‹hv[l[k].1] = true› : hv[l[k].1] = true).symm.trans (‹hv[l[k].1] = false› : hv[l[k].1] = false)) (by decide))))
        all_goals
          refine AWP.loopW (α := Nat) (fun j => j ≤ d) (fun j => ⟨[(16, iV j), (15, nats R), (14, .opt 2 0), (13, iV k), (12, .osl 0 0 0 d), (10, tmsA l), (9, iV K), (8, iV hv.length), (7, bV true), (1, bools hv), (3, .opt 1 0)], [.row 0 1 3 ((mixN d A B j).map kD), .box [.d .any, iV m, iV d, rowsA (toZ ps), .d .any], .box [iV l[k].1, iV l[k].2]]⟩) (fun j => d - j) 0 (by omega) ⟨[0, 1, 2], rfl, rfl, rfl, by (repeat (first | exact trivial | refine ⟨rfl, ?_⟩))⟩ fun j hj => ?_
          by_cases hjd : j < d
          · have q1 := A_rmul hok.f p2.1 (b := R[j]'(by omega)) (by rw [hrj]; exact hUl j hjd)
            have q2 := hok.f.cap (Gf.mul_lt (FldM.gen hok.f).hm (FldM.gen hok.f).top (FldM.gen hok.f).lt p2.1 (R[j]'(by omega)))
            have q3' : ∀ h : j < (mixN d A B j).length, (mixN d A B j)[j] = B j := fun h => by rw [mixN_get, if_neg (by omega)]
            have q6 := Lib.hid (mixN_succ A B hjd)
            have q7 := mixN_length d A B j
            generalize mixN d A B j = MX at *
            have q3 : MX[j]'(by omega) = B j := q3' (by omega)
            have q4 := hok.f.cap (hlB j)
            rw [← q3] at q4
            have q5 : MX[j]'(by omega) ^^^ Gf.mul m (modN m) l[k].2 (R[j]'(by omega)) = A j := by rw [q3, hrj j (by omega), hnext j]
            (repeat' (first
  | (apply W.qd; (first
    | (apply (q_callC (q1)); exact rfl; exact rfl; kernel_rfl; kernel_rfl; kernel_rfl)
    | (apply q_mv; (first
    | exact Eq.refl (AV.d _)
    | exact Eq.refl (AV.osl _ _ _ _)
    | exact Eq.refl (AV.opt _ _)
    | exact Eq.refl (AV.agg _)
    | exact Eq.refl (AV.fpt _ _ _ _)
    | exact Eq.refl (AV.rpt _ _ _ _)
    | exact Eq.refl (AV.fn _ _)
    | exact Eq.refl (AV.tup _)
    | exact Eq.refl AV.top))
    | (apply q_as; (first
    | exact Eq.refl (AV.d _)
    | exact Eq.refl (AV.osl _ _ _ _)
    | exact Eq.refl (AV.opt _ _)
    | exact Eq.refl (AV.agg _)
    | exact Eq.refl (AV.fpt _ _ _ _)
    | exact Eq.refl (AV.rpt _ _ _ _)
    | exact Eq.refl (AV.fn _ _)
    | exact Eq.refl (AV.tup _)
    | exact Eq.refl AV.top))
    | (apply q_fld_optF; exact rfl; exact rfl; exact rfl)
    | (apply q_ld_box; exact rfl; exact rfl; exact rfl; exact rfl)
    | (apply q_lss; exact rfl; exact rfl)
    | (apply q_neq; exact rfl; exact rfl)
    | (apply q_add; exact rfl; exact rfl; omega)
    | (apply q_extract; exact rfl; exact rfl)
    | (apply q_ld_map; exact rfl; exact rfl; exact rfl; (first | omega | (focus (simp; done))))
    | (apply q_ix_slF; exact rfl; exact rfl; exact rfl; exact rfl; (first | (with_reducible exact rfl) | exact natI_spec rfl | assumption | exact (Int.toNat_of_nonneg (by omega)).symm); (first | omega | (focus (simp only [List.length_map]; omega)) | (focus (simp; done)) | (focus (simp; omega))))
    | (apply q_xorN; exact rfl; exact rfl; (first | (with_reducible exact rfl) | exact natI_spec rfl | assumption | exact (Int.toNat_of_nonneg (by omega)).symm); (first | (with_reducible exact rfl) | exact natI_spec rfl | assumption | exact (Int.toNat_of_nonneg (by omega)).symm); (first | (apply hcap1; omega) | (apply hcap2; omega) | (apply hcap3; omega) | (apply hcap4; omega) | (focus (show _ < 9223372036854775808; omega)) | (focus (show _ < 256; omega)) | assumption); (first | (apply hcap1; omega) | (apply hcap2; omega) | (apply hcap3; omega) | (apply hcap4; omega) | (focus (show _ < 9223372036854775808; omega)) | (focus (show _ < 256; omega)) | assumption))
    | (apply q_ix_osl0; exact rfl; exact rfl; exact rfl; exact rfl; (first | (with_reducible exact rfl) | exact natI_spec rfl | assumption | exact (Int.toNat_of_nonneg (by omega)).symm); (first | omega | (focus (simp only [List.length_map]; omega)) | (focus (simp; done)) | (focus (simp; omega))))
    | (apply q_ld_rptm; exact rfl; exact rfl; exact rfl; exact rfl; (first | omega | (focus (simp only [List.length_map]; omega)) | (focus (simp; done)) | (focus (simp; omega))))))
  | (apply W.ln; (apply l_st_rpt; exact rfl; exact rfl; exact rfl; exact rfl; exact rfl; exact rfl; exact rfl; exact fun _ => rfl; (first | omega | (focus (simp only [List.length_map]; omega)) | (focus (simp; omega)))))
  | (apply AWP.seq)
  | (apply ACont_normal)
  | (apply W.region; kernel_rfl)
  | (apply W.regionD; exact rfl; kernel_rfl)
  | (apply Walk.nil)
  | (apply W.chk; kernel_rfl)
  | (apply AWP.block)
  | (apply AWP.skip)
  | (apply ABlock_normal)
  | (apply W.condF; exact rfl)
  | (refine W.cond _ rfl (fun hb => ?_) (fun hb => ?_) <;> ((try simp only [hb, Bool.not_true, Bool.not_false]) <;> (try simp only [decide_eq_true_eq, decide_eq_false_iff_not, Bool.not_eq_true', Bool.not_eq_false', Int.not_lt, Int.not_le, List.length_map, not_true_eq_false] at hb) <;> (try (exfalso; omega))))))
            refine ⟨j + 1, by omega, by omega, ?_⟩
            rw [q6.out, ← q5]
            exact ⟨[0, 1, 2], rfl, rfl, rfl, iV_eq (by omega), rfl, rfl, rfl, rfl, rfl, rfl, rfl, rfl, rfl, rfl, trivial⟩
          · have e : j = d := by omega
            subst e
            (repeat' (first
  | (apply W.qd; (first
    | (apply q_mv; (first
    | exact Eq.refl (AV.d _)
    | exact Eq.refl (AV.osl _ _ _ _)
    | exact Eq.refl (AV.opt _ _)
    | exact Eq.refl (AV.agg _)
    | exact Eq.refl (AV.fpt _ _ _ _)
    | exact Eq.refl (AV.rpt _ _ _ _)
    | exact Eq.refl (AV.fn _ _)
    | exact Eq.refl (AV.tup _)
    | exact Eq.refl AV.top))
    | (apply q_as; (first
    | exact Eq.refl (AV.d _)
    | exact Eq.refl (AV.osl _ _ _ _)
    | exact Eq.refl (AV.opt _ _)
    | exact Eq.refl (AV.agg _)
    | exact Eq.refl (AV.fpt _ _ _ _)
    | exact Eq.refl (AV.rpt _ _ _ _)
    | exact Eq.refl (AV.fn _ _)
    | exact Eq.refl (AV.tup _)
    | exact Eq.refl AV.top))
    | (apply q_fld_optF; exact rfl; exact rfl; exact rfl)
    | (apply q_ld_box; exact rfl; exact rfl; exact rfl; exact rfl)
    | (apply q_lss; exact rfl; exact rfl)
    | (apply q_add; exact rfl; exact rfl; omega)))
  | (apply AWP.seq)
  | (apply ACont_normal)
  | (apply W.region; kernel_rfl)
  | (apply Walk.nil)
  | (apply AWP.exit)
  | (apply ACont_exit)
  | (apply ABlock_normal)
  | (apply ABlock_exit)
  | (refine W.cond _ rfl (fun hb => ?_) (fun hb => ?_) <;> ((try simp only [hb, Bool.not_true, Bool.not_false]) <;> (try simp only [decide_eq_true_eq, decide_eq_false_iff_not, Bool.not_eq_true', Bool.not_eq_false', Int.not_lt, Int.not_le, List.length_map, not_true_eq_false] at hb) <;> (try (exfalso; omega))))))
            refine ⟨k + 1, by omega, by omega, ?_⟩
            rw [hAe, hfull.out]
            exact ⟨[0, 1], rfl, rfl, rfl, iV_eq (by omega), rfl, rfl, rfl, rfl, rfl, rfl, rfl, trivial⟩
      · have e : k = l.length := by omega
        subst e
        have hfin : (List.range d).map (cS m d ps l l.length) = rowN d ps K := by
          unfold rowN
          refine List.map_congr_left fun x hx => ?_
          unfold cS
          rw [List.take_length]
          exact hco.snd x (List.mem_range.1 hx)
        rw [hfin]
        have p5 := hrow K hK
        have hrl := rowN_length d ps K
        have hsame := A_same_ints (a := (rowN d ps K).map fun n : Nat => (n : Int)) (b := (rowN d ps K).map fun n : Nat => (n : Int)) (by simp; omega) (by simp; omega)
        rw [← nats_ints, decide_eq_true rfl] at hsame
        generalize rowN d ps K = R at *
        refine AWP.wk ⟨[(12, nats R), (13, iV l.length), (10, tmsA l), (9, iV K), (8, iV hv.length), (7, bV true), (1, bools hv), (3, .opt 0 0)], [.box [.d .any, iV m, iV d, rowsA (toZ ps), .d .any]]⟩ ⟨[1], rfl, rfl, rfl, (frz_rowJ rfl rfl (by simp; omega)).symm, rfl, rfl, rfl, rfl, rfl, rfl, rfl, trivial⟩ ?_
        (repeat' (first
  | (apply W.gOn; exact rfl; exact rfl)
  | (apply W.qd; (first
    | (apply (q_callC (p5)); exact rfl; exact rfl; kernel_rfl; kernel_rfl; kernel_rfl)
    | (apply (q_callC (hsame)); exact rfl; exact rfl; kernel_rfl; kernel_rfl; kernel_rfl)
    | (apply q_mv; (first
    | exact Eq.refl (AV.d _)
    | exact Eq.refl (AV.osl _ _ _ _)
    | exact Eq.refl (AV.opt _ _)
    | exact Eq.refl (AV.agg _)
    | exact Eq.refl (AV.fpt _ _ _ _)
    | exact Eq.refl (AV.rpt _ _ _ _)
    | exact Eq.refl (AV.fn _ _)
    | exact Eq.refl (AV.tup _)
    | exact Eq.refl AV.top))
    | (apply q_as; (first
    | exact Eq.refl (AV.d _)
    | exact Eq.refl (AV.osl _ _ _ _)
    | exact Eq.refl (AV.opt _ _)
    | exact Eq.refl (AV.agg _)
    | exact Eq.refl (AV.fpt _ _ _ _)
    | exact Eq.refl (AV.rpt _ _ _ _)
    | exact Eq.refl (AV.fn _ _)
    | exact Eq.refl (AV.tup _)
    | exact Eq.refl AV.top))
    | (apply q_ld_boxF; exact rfl; exact rfl; exact rfl; exact rfl)
    | (apply q_lss; exact rfl; exact rfl)
    | (apply q_len_sl; exact rfl; exact rfl)
    | (apply (q_pickT (u := .d _)); exact rfl; exact rfl)))
  | (apply AWP.seq)
  | (apply ACont_normal)
  | (apply W.region; kernel_rfl)
  | (apply Walk.nil)
  | (apply AWP.exit)
  | (apply AWP.ret)
  | (apply ACont_exit)
  | (apply ABlock_exit)
  | (refine W.cond _ rfl (fun hb => ?_) (fun hb => ?_) <;> ((try simp only [hb, Bool.not_true, Bool.not_false]) <;> (try simp only [decide_eq_true_eq, decide_eq_false_iff_not, Bool.not_eq_true', Bool.not_eq_false', Int.not_lt, Int.not_le, List.length_map, not_true_eq_false] at hb) <;> (try (exfalso; omega))))))
        exact ⟨.inl rfl, [], [bV true], rfl, rfl, ⟨rfl, trivial⟩, AVle.of_eq rfl, rfl⟩
  · rcases three_ways hgood with h1 | ⟨h1, h2⟩ | ⟨h1, h2, h3⟩
    · rw [h1] at hsm
      (repeat' (first
  | (apply W.qd; (first
    | (apply (q_callC (hsan)); exact rfl; exact rfl; kernel_rfl; kernel_rfl; kernel_rfl)
    | (apply (q_callC (hsm)); exact rfl; exact rfl; kernel_rfl; kernel_rfl; kernel_rfl)
    | (apply (q_callC (hw)); exact rfl; exact rfl; kernel_rfl; kernel_rfl; kernel_rfl)
    | (apply q_mv; (first
    | exact Eq.refl (AV.d _)
    | exact Eq.refl (AV.osl _ _ _ _)
    | exact Eq.refl (AV.opt _ _)
    | exact Eq.refl (AV.agg _)
    | exact Eq.refl (AV.fpt _ _ _ _)
    | exact Eq.refl (AV.rpt _ _ _ _)
    | exact Eq.refl (AV.fn _ _)
    | exact Eq.refl (AV.tup _)
    | exact Eq.refl AV.top))
    | (apply q_as; (first
    | exact Eq.refl (AV.d _)
    | exact Eq.refl (AV.osl _ _ _ _)
    | exact Eq.refl (AV.opt _ _)
    | exact Eq.refl (AV.agg _)
    | exact Eq.refl (AV.fpt _ _ _ _)
    | exact Eq.refl (AV.rpt _ _ _ _)
    | exact Eq.refl (AV.fn _ _)
    | exact Eq.refl (AV.tup _)
    | exact Eq.refl AV.top))
    | (apply q_ld_boxF; exact rfl; exact rfl; exact rfl; exact rfl)
    | (apply q_not; exact rfl)
    | (apply (q_pickT (u := .d _)); exact rfl; exact rfl)))
  | (apply W.ed; (apply e_boxF; exact rfl; exact rfl; exact rfl; kernel_rfl; kernel_rfl))
  | (refine W.gOff _ _ rfl rfl (by intro h; cases h) ?_)
  | (apply AWP.seq)
  | (apply ACont_normal)
  | (apply W.region; kernel_rfl)
  | (apply Walk.nil)
  | (apply AWP.ret)
  | (apply ACont_ret)
  | (apply W.condT; exact rfl)))
      all_goals exact ⟨.inl rfl, [], [bV true], rfl, rfl, ⟨rfl, trivial⟩, AVle.of_eq rfl, rfl⟩
    · rw [h1] at hsm
      rw [h2, if_neg (by decide)] at hw
      (repeat' (first
  | (apply W.gOn; exact rfl; exact rfl)
  | (apply W.qd; (first
    | (apply (q_callC (hsan)); exact rfl; exact rfl; kernel_rfl; kernel_rfl; kernel_rfl)
    | (apply (q_callC (hsm)); exact rfl; exact rfl; kernel_rfl; kernel_rfl; kernel_rfl)
    | (apply (q_callC (hw)); exact rfl; exact rfl; kernel_rfl; kernel_rfl; kernel_rfl)
    | (apply q_mv; (first
    | exact Eq.refl (AV.d _)
    | exact Eq.refl (AV.osl _ _ _ _)
    | exact Eq.refl (AV.opt _ _)
    | exact Eq.refl (AV.agg _)
    | exact Eq.refl (AV.fpt _ _ _ _)
    | exact Eq.refl (AV.rpt _ _ _ _)
    | exact Eq.refl (AV.fn _ _)
    | exact Eq.refl (AV.tup _)
    | exact Eq.refl AV.top))
    | (apply q_as; (first
    | exact Eq.refl (AV.d _)
    | exact Eq.refl (AV.osl _ _ _ _)
    | exact Eq.refl (AV.opt _ _)
    | exact Eq.refl (AV.agg _)
    | exact Eq.refl (AV.fpt _ _ _ _)
    | exact Eq.refl (AV.rpt _ _ _ _)
    | exact Eq.refl (AV.fn _ _)
    | exact Eq.refl (AV.tup _)
    | exact Eq.refl AV.top))
    | (apply q_ld_boxF; exact rfl; exact rfl; exact rfl; exact rfl)
    | (apply q_eql; exact rfl; exact rfl)
    | (apply q_not; exact rfl)
    | (apply (q_pickT (u := .d _)); exact rfl; exact rfl)
    | (apply (q_pickF (u := .d _)); exact rfl; exact rfl)))
  | (apply W.ed; (apply e_boxF; exact rfl; exact rfl; exact rfl; kernel_rfl; kernel_rfl))
  | (refine W.gOff _ _ rfl rfl (by intro h; cases h) ?_)
  | (apply AWP.seq)
  | (apply ACont_normal)
  | (apply W.region; kernel_rfl)
  | (apply Walk.nil)
  | (apply AWP.ret)
  | (apply ACont_ret)
  | (apply W.condT; exact rfl)))
      all_goals exact ⟨.inl rfl, [], [bV true], rfl, rfl, ⟨rfl, trivial⟩, AVle.of_eq rfl, rfl⟩
    · rw [h1] at hsm
      rw [h2, if_pos rfl] at hw
      (repeat' (first
  | (apply W.gOn; exact rfl; exact rfl)
  | (apply W.qd; (first
    | (apply (q_callC (hsan)); exact rfl; exact rfl; kernel_rfl; kernel_rfl; kernel_rfl)
    | (apply (q_callC (hsm)); exact rfl; exact rfl; kernel_rfl; kernel_rfl; kernel_rfl)
    | (apply (q_callC (hw)); exact rfl; exact rfl; kernel_rfl; kernel_rfl; kernel_rfl)
    | (apply q_mv; (first
    | exact Eq.refl (AV.d _)
    | exact Eq.refl (AV.osl _ _ _ _)
    | exact Eq.refl (AV.opt _ _)
    | exact Eq.refl (AV.agg _)
    | exact Eq.refl (AV.fpt _ _ _ _)
    | exact Eq.refl (AV.rpt _ _ _ _)
    | exact Eq.refl (AV.fn _ _)
    | exact Eq.refl (AV.tup _)
    | exact Eq.refl AV.top))
    | (apply q_as; (first
    | exact Eq.refl (AV.d _)
    | exact Eq.refl (AV.osl _ _ _ _)
    | exact Eq.refl (AV.opt _ _)
    | exact Eq.refl (AV.agg _)
    | exact Eq.refl (AV.fpt _ _ _ _)
    | exact Eq.refl (AV.rpt _ _ _ _)
    | exact Eq.refl (AV.fn _ _)
    | exact Eq.refl (AV.tup _)
    | exact Eq.refl AV.top))
    | (apply q_ld_boxF; exact rfl; exact rfl; exact rfl; exact rfl)
    | (apply q_eql; exact rfl; exact rfl)
    | (apply q_neq; exact rfl; exact rfl)
    | (apply q_not; exact rfl)
    | (apply q_len_sl; exact rfl; exact rfl)
    | (apply (q_pickT (u := .d _)); exact rfl; exact rfl)
    | (apply (q_pickF (u := .d _)); exact rfl; exact rfl)))
  | (apply W.ed; (apply e_boxF; exact rfl; exact rfl; exact rfl; kernel_rfl; kernel_rfl))
  | (refine W.gOff _ _ rfl rfl (by intro h; cases h) ?_)
  | (apply AWP.seq)
  | (apply ACont_normal)
  | (apply W.region; kernel_rfl)
  | (apply Walk.nil)
  | (apply AWP.ret)
  | (apply ACont_ret)
  | (apply W.condT; exact rfl)
  | (refine W.gF _ _ rfl rfl (fun hb => ?_) (fun hb => ?_) <;> ((try simp only [hb, Bool.not_true, Bool.not_false]) <;> (try simp only [decide_eq_true_eq, decide_eq_false_iff_not, Bool.not_eq_true', Bool.not_eq_false', Int.not_lt, Int.not_le, List.length_map, not_true_eq_false] at hb) <;> (try (exfalso; omega))))
  | (refine W.cond _ rfl (fun hb => ?_) (fun hb => ?_) <;> ((try simp only [hb, Bool.not_true, Bool.not_false]) <;> (try simp only [decide_eq_true_eq, decide_eq_false_iff_not, Bool.not_eq_true', Bool.not_eq_false', Int.not_lt, Int.not_le, List.length_map, not_true_eq_false] at hb) <;> (try (exfalso; omega))))))
      all_goals exact ⟨.inl rfl, [], [bV true], rfl, rfl, ⟨rfl, trivial⟩, AVle.of_eq rfl, rfl⟩
end Go.Proofs.YtjaipchlnnjaeaaDoor
end
