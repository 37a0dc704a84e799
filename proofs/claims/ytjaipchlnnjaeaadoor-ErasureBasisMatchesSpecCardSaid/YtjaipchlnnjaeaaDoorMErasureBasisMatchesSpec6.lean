import Derived.Test.YtjaipchlnnjaeaaDoorMErasureBasisMatchesSpec5
/- Joined texts: Lw9. -/
set_option linter.unusedVariables false
set_option linter.unusedSimpArgs false
section
/- The law ErasureBasisMatchesSpec: the walk. -/
namespace Go.Proofs.YtjaipchlnnjaeaaDoor
open Go.RowKit
set_option maxHeartbeats 4000000
set_option maxRecDepth 100000
attribute [local irreducible] Quiet Eff OpOk AWPG ACont ABlock ACalls AGoto
theorem A_r8decod_bad {M D : Int} {par : List (List Int)} {hv : List Bool} (hD : D ≤ 1000000) (hP : par.length ≤ 1000000) (h : ¬ (validC M D par = true ∧ (hv.length : Int) = D + (par.length : Int))) : ACalls Tryd.prog 35 [cdA M D par, bools hv] [] (bV false) [] := by
  refine acalls_of_bodyO Tryd.func35 rfl (Nat.le_of_ble_eq_true rfl) ?_
  have hw := A_r8width (M := M) hD hP
  have hmh : (hv.map tD).length = hv.length := List.length_map _
  cases hv0 : validC M D par with
  | false =>
    rw [hv0, if_neg (by decide)] at hw
    (repeat' (first
  | (apply W.qd; (first
    | (apply (q_callC (hw)); exact rfl; exact rfl; kernel_rfl; kernel_rfl; kernel_rfl)|(apply q_mv; (first|exact vD|exact vO|exact vP|exact vA|exact vF|exact vR|exact vN|exact vY|exact vT|exact vX))|(apply q_as; (first|exact vD|exact vO|exact vP|exact vA|exact vF|exact vR|exact vN|exact vY|exact vT|exact vX))|(apply q_ld_boxF; exact rfl; exact rfl; exact rfl; exact rfl)|(apply q_eql; exact rfl; exact rfl)
    | (apply (q_pickT (u := .d _)); exact rfl; exact rfl)))|(apply W.ed; (apply e_boxF; exact rfl; exact rfl; exact rfl; kernel_rfl; kernel_rfl))|(refine W.gOff _ _ rfl rfl (by intro h; cases h) ?_)|(apply AWP.seq)|(apply ACont_normal)|(apply W.region; kernel_rfl)|(apply Walk.nil)|(apply AWP.ret)|(apply ACont_ret)
  | (apply W.condT; exact rfl)))
    all_goals exact ⟨.inl rfl, [], [bV false], rfl, rfl, ⟨rfl, trivial⟩, AVle.of_eq rfl, rfl⟩
  | true =>
    rw [hv0, if_pos rfl] at hw
    have hne : ¬ (hv.length : Int) = D + (par.length : Int) := fun e => h ⟨hv0, e⟩
    (repeat' (first
  | (apply W.gOn; exact rfl; exact rfl)
  | (apply W.qd; (first
    | (apply (q_callC (hw)); exact rfl; exact rfl; kernel_rfl; kernel_rfl; kernel_rfl)|(apply q_mv; (first|exact vD|exact vO|exact vP|exact vA|exact vF|exact vR|exact vN|exact vY|exact vT|exact vX))|(apply q_as; (first|exact vD|exact vO|exact vP|exact vA|exact vF|exact vR|exact vN|exact vY|exact vT|exact vX))|(apply q_ld_boxF; exact rfl; exact rfl; exact rfl; exact rfl)|(apply q_eql; exact rfl; exact rfl)|(apply q_neq; exact rfl; exact rfl)|(apply q_len_sl; exact rfl; exact rfl)|(apply (q_pickT (u := .d _)); exact rfl; exact rfl)
    | (apply (q_pickF (u := .d _)); exact rfl; exact rfl)))|(apply W.ed; (apply e_boxF; exact rfl; exact rfl; exact rfl; kernel_rfl; kernel_rfl))|(refine W.gOff _ _ rfl rfl (by intro h; cases h) ?_)|(apply AWP.seq)|(apply ACont_normal)|(apply W.region; kernel_rfl)|(apply Walk.nil)|(apply AWP.ret)|(apply ACont_ret)|(apply W.condT; exact rfl)|(refine W.gF _ _ rfl rfl (fun hb => ?_) (fun hb => ?_) <;> ((try simp only [hb, Bool.not_true, Bool.not_false]) <;> (try simp only [decide_eq_true_eq, decide_eq_false_iff_not, Bool.not_eq_true', Bool.not_eq_false', Int.not_lt, Int.not_le, List.length_map, not_true_eq_false] at hb) <;> (try (exfalso; omega))))
  | (refine W.cond _ rfl (fun hb => ?_) (fun hb => ?_) <;> ((try simp only [hb, Bool.not_true, Bool.not_false]) <;> (try simp only [decide_eq_true_eq, decide_eq_false_iff_not, Bool.not_eq_true', Bool.not_eq_false', Int.not_lt, Int.not_le, List.length_map, not_true_eq_false] at hb) <;> (try (exfalso; omega))))))
    all_goals exact ⟨.inl rfl, [], [bV false], rfl, rfl, ⟨rfl, trivial⟩, AVle.of_eq rfl, rfl⟩
theorem A_edecod_bad {M D : Int} {par : List (List Int)} {hv : List Bool} (hp : CodeIn par) (h : ¬ (validC M D par = true ∧ (hv.length : Int) = D + (par.length : Int))) : ACalls Tryd.prog 30 [cdA M D par, bools hv] [] (bV false) [] := by
  refine acalls_of_bodyO Tryd.func30 rfl (Nat.le_of_ble_eq_true rfl) ?_
  have hb := A_ebasis_bad hp h
  (repeat' (first
  | (apply W.qd; (first
    | (apply (q_callC (hb)); exact rfl; exact rfl; kernel_rfl; kernel_rfl; kernel_rfl)|(apply q_mv; (first|exact vD|exact vO|exact vP|exact vA|exact vF|exact vR|exact vN|exact vY|exact vT|exact vX))|(apply q_as; (first|exact vD|exact vO|exact vP|exact vA|exact vF|exact vR|exact vN|exact vY|exact vT|exact vX))|(apply q_ld_boxF; exact rfl; exact rfl; exact rfl; exact rfl)|(apply q_eql; exact rfl; exact rfl)|(apply q_extract; exact rfl; exact rfl)
    | (apply (q_pickF (u := .d _)); exact rfl; exact rfl)))|(apply W.ed; (apply e_boxF; exact rfl; exact rfl; exact rfl; kernel_rfl; kernel_rfl))|(refine W.gOff _ _ rfl rfl (by intro h; cases h) ?_)|(apply AWP.seq)|(apply ACont_normal)|(apply W.region; kernel_rfl)|(apply Walk.nil)
  | (apply AWP.ret)))
  all_goals exact ⟨.inl rfl, [], [bV false], rfl, rfl, ⟨rfl, trivial⟩, AVle.of_eq rfl, rfl⟩
theorem A_r8decod {M D : Nat} {ps : List (List Nat)} {hv : List Bool} (h : CodeOk M D ps) (hl : hv.length = D + ps.length) : ACalls Tryd.prog 35 [cdN M D ps, bools hv] [] (bV (decide ((basisN M D ps hv).length = D))) [] := by
  refine acalls_of_bodyO Tryd.func35 rfl (Nat.le_of_ble_eq_true rfl) ?_
  have h1 := h.d
  have h2 := h.w
  have hw := A_r8widthN h
  rw [← hl] at hw
  have hmh : (hv.map tD).length = hv.length := List.length_map _
  have hfull := full_iff_rec h hl
  have hrec : ∀ i, i < hv.length → ACalls Tryd.prog 34 [cdN M D ps, bools hv, iV i] [] (bV (combN M D ps hv i).isSome) [] := fun i hi => by
    have hc := A_r8comb h hl (u := i) (by omega)
    rw [cdN_A] at hc ⊢
    cases hc2 : combN M D ps hv i with
    | none => rw [hc2] at hc; exact A_r8recov (l := []) (e := 11) hc
    | some l => rw [hc2] at hc; exact A_r8recov (l := l) (e := 0) hc
  rw [← hl] at hfull
  generalize combN M D ps hv = C at *
  generalize (basisN M D ps hv).length = BL at *
  (repeat' (first
  | (apply W.gOn; exact rfl; exact rfl)
  | (apply W.qd; (first
    | (apply (q_callC (hw)); exact rfl; exact rfl; kernel_rfl; kernel_rfl; kernel_rfl)|(apply q_mv; (first|exact vD|exact vO|exact vP|exact vA|exact vF|exact vR|exact vN|exact vY|exact vT|exact vX))|(apply q_as; (first|exact vD|exact vO|exact vP|exact vA|exact vF|exact vR|exact vN|exact vY|exact vT|exact vX))|(apply q_ld_boxF; exact rfl; exact rfl; exact rfl; exact rfl)|(apply q_eql; exact rfl; exact rfl)|(apply q_neq; exact rfl; exact rfl)|(apply q_len_sl; exact rfl; exact rfl)
    | (apply (q_pickF (u := .d _)); exact rfl; exact rfl)))|(apply W.ed; (apply e_boxF; exact rfl; exact rfl; exact rfl; kernel_rfl; kernel_rfl))|(apply AWP.seq)|(apply ACont_normal)|(apply (W.regionS 5); exact rfl; kernel_rfl)|(apply Walk.nil)|(apply AWP.block)|(apply AWP.skip)|(refine W.gF _ _ rfl rfl (fun hb => ?_) (fun hb => ?_) <;> ((try simp only [hb, Bool.not_true, Bool.not_false]) <;> (try simp only [decide_eq_true_eq, decide_eq_false_iff_not, Bool.not_eq_true', Bool.not_eq_false', Int.not_lt, Int.not_le, List.length_map, not_true_eq_false] at hb) <;> (try (exfalso; omega))))
  | (refine W.cond _ rfl (fun hb => ?_) (fun hb => ?_) <;> ((try simp only [hb, Bool.not_true, Bool.not_false]) <;> (try simp only [decide_eq_true_eq, decide_eq_false_iff_not, Bool.not_eq_true', Bool.not_eq_false', Int.not_lt, Int.not_le, List.length_map, not_true_eq_false] at hb) <;> (try (exfalso; omega))))))
  refine AWP.loopW (α := Nat) (fun k => k ≤ hv.length ∧ ∀ i, i < k → (C i).isSome = true) (fun k => ⟨[(6, iV k), (5, iV hv.length), (1, bools hv), (2, .opt 0 0)], [.box [.d .any, iV M, iV D, rowsN ps, .d .any]]⟩) (fun k => hv.length - k) 0 ⟨Nat.zero_le _, fun i hi => by omega⟩ ⟨[0], rfl, rfl, rfl, by (repeat (first | exact trivial | refine ⟨rfl, ?_⟩))⟩ fun k hk => ?_
  by_cases hkl : k < hv.length
  · have hr := hrec k hkl
    clear hrec
    cases hC : (C k).isSome with
    | true =>
      rw [hC] at hr
      (repeat' (first
  | (apply W.qd; (first
    | (apply (q_callC (hr)); exact rfl; exact rfl; kernel_rfl; kernel_rfl; kernel_rfl)|(apply q_mv; (first|exact vD|exact vO|exact vP|exact vA|exact vF|exact vR|exact vN|exact vY|exact vT|exact vX))|(apply q_as; (first|exact vD|exact vO|exact vP|exact vA|exact vF|exact vR|exact vN|exact vY|exact vT|exact vX))|(apply q_ld_boxF; exact rfl; exact rfl; exact rfl; exact rfl)|(apply q_lss; exact rfl; exact rfl)|(apply q_not; exact rfl)
    | (apply q_add; exact rfl; exact rfl; omega)))|(apply AWP.seq)|(apply ACont_normal)|(apply W.region; kernel_rfl)|(apply Walk.nil)|(apply AWP.block)|(apply AWP.skip)|(apply ABlock_normal)|(apply W.condF; exact rfl)
  | (refine W.cond _ rfl (fun hb => ?_) (fun hb => ?_) <;> ((try simp only [hb, Bool.not_true, Bool.not_false]) <;> (try simp only [decide_eq_true_eq, decide_eq_false_iff_not, Bool.not_eq_true', Bool.not_eq_false', Int.not_lt, Int.not_le, List.length_map, not_true_eq_false] at hb) <;> (try (exfalso; omega))))))
      exact ⟨k + 1, ⟨by omega, fun i hi => by
        by_cases e : i = k
        · rw [e]; exact hC
        · exact hk.2 i (by omega)⟩, by omega, [0], rfl, rfl, rfl, iV_eq (by omega), rfl, rfl, rfl, trivial⟩
    | false =>
      rw [hC] at hr
      have hne : ¬ BL = D := fun e => by
        have := hfull.1 e k hkl
        rw [hC] at this; cases this
      rw [decide_eq_false hne]
      (repeat' (first
  | (apply W.qd; (first
    | (apply (q_callC (hr)); exact rfl; exact rfl; kernel_rfl; kernel_rfl; kernel_rfl)|(apply q_mv; (first|exact vD|exact vO|exact vP|exact vA|exact vF|exact vR|exact vN|exact vY|exact vT|exact vX))|(apply q_as; (first|exact vD|exact vO|exact vP|exact vA|exact vF|exact vR|exact vN|exact vY|exact vT|exact vX))|(apply q_ld_boxF; exact rfl; exact rfl; exact rfl; exact rfl)|(apply q_lss; exact rfl; exact rfl)
    | (apply q_not; exact rfl)))|(apply AWP.seq)|(apply ACont_normal)|(apply W.region; kernel_rfl)|(apply Walk.nil)|(apply AWP.block)|(apply AWP.skip)|(apply AWP.ret)|(apply ACont_ret)|(apply ABlock_ret)|(apply W.condT; exact rfl)
  | (refine W.cond _ rfl (fun hb => ?_) (fun hb => ?_) <;> ((try simp only [hb, Bool.not_true, Bool.not_false]) <;> (try simp only [decide_eq_true_eq, decide_eq_false_iff_not, Bool.not_eq_true', Bool.not_eq_false', Int.not_lt, Int.not_le, List.length_map, not_true_eq_false] at hb) <;> (try (exfalso; omega))))))
      exact ⟨.inl rfl, [], [bV false], rfl, rfl, ⟨rfl, trivial⟩, AVle.of_eq rfl, rfl⟩
  · have hB : BL = D := hfull.2 fun u hu => hk.2 u (by omega)
    rw [decide_eq_true hB]
    clear hrec
    (repeat' (first
  | (apply W.qd; (first
    | (apply q_mv; (first|exact vD|exact vO|exact vP|exact vA|exact vF|exact vR|exact vN|exact vY|exact vT|exact vX))|(apply q_as; (first|exact vD|exact vO|exact vP|exact vA|exact vF|exact vR|exact vN|exact vY|exact vT|exact vX))
    | (apply q_lss; exact rfl; exact rfl)))|(apply AWP.seq)|(apply ACont_normal)|(apply W.region; kernel_rfl)|(apply Walk.nil)|(apply AWP.exit)|(apply AWP.ret)|(apply ACont_exit)|(apply ABlock_exit)
  | (refine W.cond _ rfl (fun hb => ?_) (fun hb => ?_) <;> ((try simp only [hb, Bool.not_true, Bool.not_false]) <;> (try simp only [decide_eq_true_eq, decide_eq_false_iff_not, Bool.not_eq_true', Bool.not_eq_false', Int.not_lt, Int.not_le, List.length_map, not_true_eq_false] at hb) <;> (try (exfalso; omega))))))
    exact ⟨.inl rfl, [], [bV true], rfl, rfl, ⟨rfl, trivial⟩, AVle.of_eq rfl, rfl⟩
theorem decod2 {M D : Int} {par : List (List Int)} {hv : List Bool} (hp : CodeIn par) (hD : D ≤ 1000000) (hP : par.length ≤ 1000000) : ∃ x : Bool, ACalls Tryd.prog 30 [cdA M D par, bools hv] [] (bV x) [] ∧ ACalls Tryd.prog 35 [cdA M D par, bools hv] [] (bV x) [] := by
  by_cases hg : validC M D par = true ∧ (hv.length : Int) = D + (par.length : Int)
  · obtain ⟨g2, g3⟩ := hg
    obtain ⟨m, d, ps, rfl, rfl, rfl, hok⟩ := ok_valid g2
    have hpl : (toZ ps).length = ps.length := List.length_map _
    rw [hpl] at g3
    have hl : hv.length = d + ps.length := by omega
    have h1 := A_decodable hok hl
    have h2 := A_r8decod hok hl
    rw [cdN_A] at h1 h2
    exact ⟨_, h1, h2⟩
  · exact ⟨false, A_edecod_bad hp hg, A_r8decod_bad hD hP hg⟩
theorem same_nats8 {a : List Nat} (ha : a.length ≤ 1000000) : ACalls Tryd.prog 18 [nats a, nats a] [] (bV true) [] := by
  have s := A_same_ints (a := a.map fun n : Nat => (n : Int)) (b := a.map fun n : Nat => (n : Int)) (by rw [List.length_map]; exact ha) (by rw [List.length_map]; exact ha)
  rw [← nats_ints, decide_eq_true rfl] at s
  exact s
theorem A_basisMatches {M D u : Int} {par : List (List Int)} {hv : List Bool} (hpar : ∀ r ∈ par, ∀ x ∈ r, x < 9223372036854775808) (_hu : -9223372036854775808 ≤ u ∧ u < 9223372036854775808) :
    ACalls Tryd.prog 8 [cdA M D par, bools hv, iV u] [] (bV true) [] := by
  refine acalls_of_body Tryd.func8 rfl (Nat.le_of_ble_eq_true rfl) ?_
  have hca : CodeIn par := ⟨hpar⟩
  have hsan := A_sanity
  have hsm := A_small (M := M) (D := D) (par := par)
  have hmh : (hv.map tD).length = hv.length := List.length_map _
  cases hS : smallB D par <;> rw [hS] at hsm
  · (repeat' (first
  | (apply W.qd; (first
    | (apply (q_callC (hsan)); exact rfl; exact rfl; kernel_rfl; kernel_rfl; kernel_rfl)|(apply (q_callC (hsm)); exact rfl; exact rfl; kernel_rfl; kernel_rfl; kernel_rfl)|(apply q_mv; (first|exact vD|exact vO|exact vP|exact vA|exact vF|exact vR|exact vN|exact vY|exact vT|exact vX))|(apply q_as; (first|exact vD|exact vO|exact vP|exact vA|exact vF|exact vR|exact vN|exact vY|exact vT|exact vX))|(apply q_ld_boxF; exact rfl; exact rfl; exact rfl; exact rfl)|(apply q_not; exact rfl)
    | (apply (q_pickT (u := .d _)); exact rfl; exact rfl)))|(apply W.ed; (apply e_boxF; exact rfl; exact rfl; exact rfl; kernel_rfl; kernel_rfl))|(refine W.gOff _ _ rfl rfl (by intro h; cases h) ?_)|(apply AWP.seq)|(apply ACont_normal)|(apply W.region; kernel_rfl)|(apply Walk.nil)|(apply AWP.ret)|(apply ACont_ret)
  | (apply W.condT; exact rfl)))
    all_goals exact Ends.b rfl rfl
  · unfold smallB at hS
    simp only [Bool.and_eq_true, decide_eq_true_eq, List.all_eq_true] at hS
    by_cases h24 : hv.length ≤ 24
    · obtain ⟨b, e, hb, b1, b2⟩ := basis2 (M := M) (D := D) (hv := hv) hca (by omega) (by omega)
      obtain ⟨l, f, hl, c1, c2⟩ := comb2 (M := M) (D := D) (u := u) (hv := hv) hca (by omega) (by omega)
      obtain ⟨x, d1, d2⟩ := decod2 (M := M) (D := D) (hv := hv) hca (by omega) (by omega)
      have r1 := A_erecov c1
      have r2 := A_r8recov c2
      have s1 := same_nats8 (a := b) (by omega)
      have s2 := A_same_terms (a := l.map fun t => ((t.1 : Int), (t.2 : Int))) (b := l.map fun t => ((t.1 : Int), (t.2 : Int))) (by simp; omega) (by simp; omega)
      rw [← tms_tmsZ, decide_eq_true rfl] at s2
      (repeat' (first
  | (apply W.gOn; exact rfl; exact rfl)
  | (apply W.qd; (first
    | (apply (q_callC (hsan)); exact rfl; exact rfl; kernel_rfl; kernel_rfl; kernel_rfl)|(apply (q_callC (hsm)); exact rfl; exact rfl; kernel_rfl; kernel_rfl; kernel_rfl)|(apply (q_callC (b1)); exact rfl; exact rfl; kernel_rfl; kernel_rfl; kernel_rfl)|(apply (q_callC (b2)); exact rfl; exact rfl; kernel_rfl; kernel_rfl; kernel_rfl)|(apply (q_callC (c1)); exact rfl; exact rfl; kernel_rfl; kernel_rfl; kernel_rfl)|(apply (q_callC (c2)); exact rfl; exact rfl; kernel_rfl; kernel_rfl; kernel_rfl)|(apply (q_callC (d1)); exact rfl; exact rfl; kernel_rfl; kernel_rfl; kernel_rfl)|(apply (q_callC (d2)); exact rfl; exact rfl; kernel_rfl; kernel_rfl; kernel_rfl)|(apply (q_callC (r1)); exact rfl; exact rfl; kernel_rfl; kernel_rfl; kernel_rfl)|(apply (q_callC (r2)); exact rfl; exact rfl; kernel_rfl; kernel_rfl; kernel_rfl)|(apply (q_callC (s1)); exact rfl; exact rfl; kernel_rfl; kernel_rfl; kernel_rfl)|(apply (q_callC (s2)); exact rfl; exact rfl; kernel_rfl; kernel_rfl; kernel_rfl)|(apply q_mv; (first|exact vD|exact vO|exact vP|exact vA|exact vF|exact vR|exact vN|exact vY|exact vT|exact vX))|(apply q_as; (first|exact vD|exact vO|exact vP|exact vA|exact vF|exact vR|exact vN|exact vY|exact vT|exact vX))|(apply q_ld_boxF; exact rfl; exact rfl; exact rfl; exact rfl)|(apply q_gtr; exact rfl; exact rfl)|(apply q_neq; exact rfl; exact rfl)|(apply q_not; exact rfl)|(apply q_extract; exact rfl; exact rfl)|(apply q_len_sl; exact rfl; exact rfl)|(apply (q_pickT (u := .d _)); exact rfl; exact rfl)|(apply (q_pickF (u := .d _)); exact rfl; exact rfl)
    | (apply q_eqlB; exact rfl; exact rfl; exact rfl)))|(apply W.ed; (apply e_boxF; exact rfl; exact rfl; exact rfl; kernel_rfl; kernel_rfl))|(refine W.gOff _ _ rfl rfl (by intro h; cases h) ?_)|(apply AWP.seq)|(apply ACont_normal)|(apply W.region; kernel_rfl)|(apply W.regionD; exact rfl; kernel_rfl)|(apply Walk.nil)|(apply W.chk; kernel_rfl)|(apply AWP.skip)|(apply AWP.ret)|(apply W.condF; exact rfl)|(refine W.gT _ _ rfl rfl (fun hb => ?_) (fun hb => ?_) <;> ((try simp only [hb, Bool.not_true, Bool.not_false]) <;> (try simp only [decide_eq_true_eq, decide_eq_false_iff_not, Bool.not_eq_true', Bool.not_eq_false', Int.not_lt, Int.not_le, List.length_map, not_true_eq_false] at hb) <;> (try (exfalso; omega))))|(refine W.gF _ _ rfl rfl (fun hb => ?_) (fun hb => ?_) <;> ((try simp only [hb, Bool.not_true, Bool.not_false]) <;> (try simp only [decide_eq_true_eq, decide_eq_false_iff_not, Bool.not_eq_true', Bool.not_eq_false', Int.not_lt, Int.not_le, List.length_map, not_true_eq_false] at hb) <;> (try (exfalso; omega))))
  | (refine W.cond _ rfl (fun hb => ?_) (fun hb => ?_) <;> ((try simp only [hb, Bool.not_true, Bool.not_false]) <;> (try simp only [decide_eq_true_eq, decide_eq_false_iff_not, Bool.not_eq_true', Bool.not_eq_false', Int.not_lt, Int.not_le, List.length_map, not_true_eq_false] at hb) <;> (try (exfalso; omega))))))
      all_goals first
        | (exfalso; simp at hb; done)
        | exact Ends.b rfl (by first | rfl | (simp; done))
    · (repeat' (first
  | (apply W.gOn; exact rfl; exact rfl)
  | (apply W.qd; (first
    | (apply (q_callC (hsan)); exact rfl; exact rfl; kernel_rfl; kernel_rfl; kernel_rfl)|(apply (q_callC (hsm)); exact rfl; exact rfl; kernel_rfl; kernel_rfl; kernel_rfl)|(apply q_mv; (first|exact vD|exact vO|exact vP|exact vA|exact vF|exact vR|exact vN|exact vY|exact vT|exact vX))|(apply q_as; (first|exact vD|exact vO|exact vP|exact vA|exact vF|exact vR|exact vN|exact vY|exact vT|exact vX))|(apply q_ld_boxF; exact rfl; exact rfl; exact rfl; exact rfl)|(apply q_gtr; exact rfl; exact rfl)|(apply q_not; exact rfl)|(apply q_len_sl; exact rfl; exact rfl)
    | (apply (q_pickF (u := .d _)); exact rfl; exact rfl)))|(apply W.ed; (apply e_boxF; exact rfl; exact rfl; exact rfl; kernel_rfl; kernel_rfl))|(apply AWP.seq)|(apply ACont_normal)|(apply W.region; kernel_rfl)|(apply Walk.nil)|(apply AWP.ret)|(apply ACont_ret)
  | (refine W.cond _ rfl (fun hb => ?_) (fun hb => ?_) <;> ((try simp only [hb, Bool.not_true, Bool.not_false]) <;> (try simp only [decide_eq_true_eq, decide_eq_false_iff_not, Bool.not_eq_true', Bool.not_eq_false', Int.not_lt, Int.not_le, List.length_map, not_true_eq_false] at hb) <;> (try (exfalso; omega))))))
      all_goals exact Ends.b rfl rfl
end Go.Proofs.YtjaipchlnnjaeaaDoor
end
