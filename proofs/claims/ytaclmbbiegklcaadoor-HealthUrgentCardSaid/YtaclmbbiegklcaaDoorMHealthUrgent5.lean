import Derived.Test.YtaclmbbiegklcaaDoorMHealthUrgent4
import Derived.Lib.SliceRun
/- Joined texts: St8H Kern44 He1 He2 Kern45 He3 He4 He6. -/
set_option linter.unusedVariables false
set_option linter.unusedSimpArgs false
section
/- slices.SortStableFunc at solvent/api.Health. -/
namespace Go.Proofs.YtaclmbbiegklcaaDoor
open Go.RowKit
set_option maxHeartbeats 4000000
set_option maxRecDepth 100000
attribute [local irreducible] Quiet Eff OpOk AWPG ACont ABlock ACalls AGoto
section
variable {B : Ent} {cf : FuncId} {caps : List AV} {c : Hl → Hl → Int} {ver : Nat}
theorem A_stableH {n : Nat} {X R : List Hl} (hc : CmpH cf caps B c) (hn : X.length = n) (hL : (X ++ R).length ≤ 1000000) :
    ACalls Tryd.prog 94 [.osl 1 ver 0 n, iV n, .fn cf caps] (srtH B ver (X ++ R)) (.tup []) (srtH B ver (sortN (ltH c) X ++ R)) := by
  have hw := hc.weak
  obtain ⟨T, hT⟩ : ∃ T, (X ++ R).length = T := ⟨_, rfl⟩
  have hT2 : n + R.length = T := by rw [← hT, List.length_append, hn]
  rw [hT] at hL
  refine acalls_of_bodyS Tryd.func94 rfl (Nat.le_of_ble_eq_true rfl) ?_
  (repeat' (first
  | (apply W.qd; (first
    | (apply q_mv; (first|exact vD|exact vO|exact vP|exact vA|exact vF|exact vR|exact vN|exact vY|exact vT|exact vM|exact vL|exact vX))
    | (apply q_as; (first|exact vD|exact vO|exact vP|exact vA|exact vF|exact vR|exact vN|exact vY|exact vT|exact vM|exact vL|exact vX))))|(apply AWP.seq)|(apply ACont_normal)|(apply W.region; kernel_rfl)|(apply Walk.nil)
  | (apply AWP.block)))
  refine AWP.loopE (α := List Hl × Nat) (fun p => p.2 ≤ n ∧ (∃ k, p.2 = k * 20) ∧ ∃ Q : List Hl, Q.length = p.2 ∧ p.1 = Q ++ (X.drop p.2 ++ R) ∧ Stb (ltH c) (X.take p.2) Q ∧ Blk (ltH c) 20 Q) (fun p => ⟨[(7, iV p.2), (8, iV ((p.2 : Int) + 20)), (6, iV 20), (0, .osl 1 ver 0 n), (1, iV n), (2, .fn cf caps)], srtH B ver p.1⟩) (fun p => n + 1 - p.2) (X ++ R, 0) ⟨Nat.zero_le _, ⟨0, rfl⟩, [], rfl, by simp, Stb.refl _, blk_nil _ _⟩ ⟨rfl, by (repeat (first | exact trivial | refine ⟨rfl, ?_⟩))⟩ fun p hp => ?_
  obtain ⟨K, a⟩ := p
  obtain ⟨h1, ⟨k, h2⟩, Q, h3, h4, h5, h6⟩ := hp
  dsimp only at h1 h2 h3 h4 h5 ⊢
  by_cases hab : a + 20 ≤ n
  · have eX : X.drop a = (X.drop a).take 20 ++ X.drop (a + 20) := by rw [← List.drop_drop, List.take_append_drop]
    have el : ((X.drop a).take 20).length = 20 := by rw [List.length_take, List.length_drop]; omega
    have eK : Q ++ ((X.drop a).take 20 ++ (X.drop (a + 20) ++ R)) = K := by rw [h4, ← List.append_assoc ((X.drop a).take 20), ← eX]
    have hKl : K.length = T := by rw [h4]; simp; omega
    have hins := A_insSortH (ver := ver) (N := n) (a := a) (b := a + 20) (P := Q) (S := (X.drop a).take 20) (R := X.drop (a + 20) ++ R) hc (by rw [eK]; omega) (by rw [eK]; omega) h3 (by rw [el]) hab
    rw [eK] at hins
    have e20 : iV ((a + 20 : Nat) : Int) = iV ((a : Int) + 20) := iV_eq (by omega)
    rw [e20] at hins
    obtain ⟨k1, k2⟩ := sortN_spec hw ((X.drop a).take 20)
    have hpre : a + 20 ≤ n ∧ (∃ k, a + 20 = k * 20) ∧ ∃ Q' : List Hl, Q'.length = a + 20 ∧ Q ++ (sortN (ltH c) ((X.drop a).take 20) ++ (X.drop (a + 20) ++ R)) = Q' ++ (X.drop (a + 20) ++ R) ∧ Stb (ltH c) (X.take (a + 20)) Q' ∧ Blk (ltH c) 20 Q' := by
      refine ⟨hab, ⟨k + 1, by omega⟩, Q ++ sortN (ltH c) ((X.drop a).take 20), by rw [List.length_append, sortN_len, el, h3], by simp, ?_, blk_app h6 (h3.trans h2) (by rw [sortN_len, el]; omega) k1⟩
      rw [List.take_add]
      exact h5.app k2
    generalize Q ++ (sortN (ltH c) ((X.drop a).take 20) ++ (X.drop (a + 20) ++ R)) = K' at hins hpre
    clear eX el eK h5 h6 h4 k1 k2
    (repeat' (first
  | (apply W.qd; (first
    | (apply q_mv; (first|exact vD|exact vO|exact vP|exact vA|exact vF|exact vR|exact vN|exact vY|exact vT|exact vM|exact vL|exact vX))|(apply q_as; (first|exact vD|exact vO|exact vP|exact vA|exact vF|exact vR|exact vN|exact vY|exact vT|exact vM|exact vL|exact vX))|(apply q_leq; exact rfl; exact rfl)
    | (apply q_add; exact rfl; exact rfl; omega)))|(apply W.ed; ((exact e_callA hins rfl rfl rfl)))|(apply AWP.seq)|(apply ACont_normal)|(apply W.region; kernel_rfl)|(apply Walk.nil)|(apply AWP.block)|(apply AWP.skip)|(apply ABlock_normal)
  | (refine W.cond _ rfl (fun hb => ?_) (fun hb => ?_) <;> ((try simp only [hb, Bool.not_true, Bool.not_false]) <;> (try simp only [decide_eq_true_eq, decide_eq_false_iff_not, Bool.not_eq_true', Bool.not_eq_false', Int.not_lt, Int.not_le, List.length_map, not_true_eq_false] at hb) <;> (try (exfalso; omega))))))
    exact ⟨(K', a + 20), hpre, by dsimp only; omega, rfl, iV_eq (by dsimp only; omega), iV_eq (by dsimp only; omega), rfl, rfl, rfl, rfl, trivial⟩
  · have hKl : K.length = T := by rw [h4]; simp; omega
    have hins := A_insSortH (ver := ver) (N := n) (a := a) (b := n) (P := Q) (S := X.drop a) (R := R) hc (by rw [← h4]; omega) (by rw [← h4]; omega) h3 (by rw [List.length_drop]; omega) (Nat.le_refl _)
    rw [← h4] at hins
    obtain ⟨k1, k2⟩ := sortN_spec hw (X.drop a)
    have hpre : 20 ≤ 20 ∧ 20 ≤ 4000000 ∧ ∃ Y : List Hl, Y.length = n ∧ Q ++ (sortN (ltH c) (X.drop a) ++ R) = Y ++ R ∧ Stb (ltH c) X Y ∧ Blk (ltH c) 20 Y := by
      refine ⟨Nat.le_refl _, by omega, Q ++ sortN (ltH c) (X.drop a), by rw [List.length_append, sortN_len, List.length_drop]; omega, by simp, ?_, blk_app h6 (h3.trans h2) (by rw [sortN_len, List.length_drop]; omega) k1⟩
      have := h5.app k2
      rwa [List.take_append_drop] at this
    generalize Q ++ (sortN (ltH c) (X.drop a) ++ R) = K' at hins hpre
    clear h5 h6 h4 k1 k2
    (repeat' (first
  | (apply W.qd; (first
    | (apply q_mv; (first|exact vD|exact vO|exact vP|exact vA|exact vF|exact vR|exact vN|exact vY|exact vT|exact vM|exact vL|exact vX))
    | (apply q_leq; exact rfl; exact rfl)))|(apply W.ed; ((exact e_callA hins rfl rfl rfl)))|(apply AWP.seq)|(apply ACont_normal)|(apply W.region; kernel_rfl)|(apply Walk.nil)|(apply AWP.block)|(apply AWP.exit)|(apply ACont_exit)|(apply ABlock_exit)
  | (refine W.cond _ rfl (fun hb => ?_) (fun hb => ?_) <;> ((try simp only [hb, Bool.not_true, Bool.not_false]) <;> (try simp only [decide_eq_true_eq, decide_eq_false_iff_not, Bool.not_eq_true', Bool.not_eq_false', Int.not_lt, Int.not_le, List.length_map, not_true_eq_false] at hb) <;> (try (exfalso; omega))))))
    clear hins h3 h2
    refine AWP.loopE (α := List Hl × Nat) (fun p => 20 ≤ p.2 ∧ p.2 ≤ 4000000 ∧ ∃ Y : List Hl, Y.length = n ∧ p.1 = Y ++ R ∧ Stb (ltH c) X Y ∧ Blk (ltH c) p.2 Y) (fun p => ⟨[(6, iV p.2), (0, .osl 1 ver 0 n), (1, iV n), (2, .fn cf caps)], srtH B ver p.1⟩) (fun p => n - p.2) (K', 20) hpre ⟨rfl, by (repeat (first | exact trivial | refine ⟨rfl, ?_⟩))⟩ fun p hp => ?_
    clear hpre hKl hab h1
    obtain ⟨K1, s⟩ := p
    obtain ⟨g1, g2, Y, g3, g4, g5, g6⟩ := hp
    dsimp only at g1 g2 g3 g4 g5 g6 ⊢
    have hK1 : K1.length = T := by rw [g4, List.length_append]; omega
    by_cases hsn : s < n
    · (repeat' (first
  | (apply W.qd; (first
    | (apply q_mv; (first|exact vD|exact vO|exact vP|exact vA|exact vF|exact vR|exact vN|exact vY|exact vT|exact vM|exact vL|exact vX))|(apply q_as; (first|exact vD|exact vO|exact vP|exact vA|exact vF|exact vR|exact vN|exact vY|exact vT|exact vM|exact vL|exact vX))|(apply q_lss; exact rfl; exact rfl)
    | (apply q_mul; exact rfl; exact rfl; (first | omega | assumption))))|(apply AWP.seq)|(apply ACont_normal)|(apply W.region; kernel_rfl)|(apply Walk.nil)|(apply AWP.block)|(apply AWP.skip)
  | (refine W.cond _ rfl (fun hb => ?_) (fun hb => ?_) <;> ((try simp only [hb, Bool.not_true, Bool.not_false]) <;> (try simp only [decide_eq_true_eq, decide_eq_false_iff_not, Bool.not_eq_true', Bool.not_eq_false', Int.not_lt, Int.not_le, List.length_map, not_true_eq_false] at hb) <;> (try (exfalso; omega))))))
      refine AWP.loopE (α := List Hl × Nat) (fun p => p.2 ≤ n ∧ (∃ k, p.2 = k * (2 * s)) ∧ ∃ Q : List Hl, Q.length = p.2 ∧ p.1 = Q ++ (Y.drop p.2 ++ R) ∧ Stb (ltH c) (Y.take p.2) Q ∧ Blk (ltH c) (2 * s) Q) (fun p => ⟨[(7, iV p.2), (8, iV ((p.2 : Int) + 2 * (s : Int))), (6, iV s), (0, .osl 1 ver 0 n), (1, iV n), (2, .fn cf caps)], srtH B ver p.1⟩) (fun p => n + 1 - p.2) (K1, 0) ⟨Nat.zero_le _, ⟨0, by simp⟩, [], rfl, by simpa using g4, Stb.refl _, blk_nil _ _⟩ ⟨rfl, rfl, iV_eq (by dsimp only; omega), rfl, rfl, rfl, rfl, trivial⟩ fun p hp => ?_
      obtain ⟨K2, a⟩ := p
      obtain ⟨q1, ⟨k, q2⟩, Q, q3, q4, q5, q6⟩ := hp
      dsimp only at q1 q2 q3 q4 q5 ⊢
      have hK2 : K2.length = T := by rw [q4]; simp; omega
      have e1 : (2 * k) * s = a := by rw [q2, Nat.mul_comm 2 k, Nat.mul_assoc]
      have e2 : (2 * k + 1) * s = a + s := by rw [Nat.add_mul, Nat.one_mul, e1]
      have e3 : (k + 1) * (2 * s) = a + 2 * s := by rw [Nat.succ_mul, q2]
      have b1 := g6 (2 * k)
      have b2 := g6 (2 * k + 1)
      rw [e1] at b1
      rw [e2] at b2
      by_cases hab : a + 2 * s ≤ n
      · have l1 : ((Y.drop a).take s).length = s := by rw [List.length_take, List.length_drop]; omega
        have l2 : ((Y.drop (a + s)).take s).length = s := by rw [List.length_take, List.length_drop]; omega
        have eY2 : (Y.drop a).take s ++ (Y.drop (a + s)).take s = (Y.drop a).take (2 * s) := by
          rw [show 2 * s = s + s by omega, List.take_add, List.drop_drop]
        have eY : Y.drop a = (Y.drop a).take (2 * s) ++ Y.drop (a + 2 * s) := by rw [← List.drop_drop, List.take_append_drop]
        have eK : Q ++ (((Y.drop a).take s ++ (Y.drop (a + s)).take s) ++ (Y.drop (a + 2 * s) ++ R)) = K2 := by rw [eY2, q4, ← List.append_assoc ((Y.drop a).take (2 * s)), ← eY]
        have hsy := A_symH (ver := ver) (N := n) hc T hL (by omega) _ Q _ _ (Y.drop (a + 2 * s) ++ R) (by rw [eK]; exact hK2) (Nat.le_refl _) (by omega) (by omega) (by omega) b1 b2
        unfold SymH at hsy
        rw [eK, q3, l1, l2, eY2] at hsy
        have ea1 : iV ((a + s : Nat) : Int) = iV ((a : Int) + (s : Int)) := iV_eq (by omega)
        have ea2 : iV ((a + s + s : Nat) : Int) = iV ((a : Int) + 2 * (s : Int)) := iV_eq (by omega)
        rw [ea1, ea2] at hsy
        obtain ⟨k1, k2⟩ := sortN_spec hw ((Y.drop a).take (2 * s))
        have l3 : ((Y.drop a).take (2 * s)).length = 2 * s := by rw [List.length_take, List.length_drop]; omega
        have hpre : a + 2 * s ≤ n ∧ (∃ k, a + 2 * s = k * (2 * s)) ∧ ∃ Q' : List Hl, Q'.length = a + 2 * s ∧ Q ++ (sortN (ltH c) ((Y.drop a).take (2 * s)) ++ (Y.drop (a + 2 * s) ++ R)) = Q' ++ (Y.drop (a + 2 * s) ++ R) ∧ Stb (ltH c) (Y.take (a + 2 * s)) Q' ∧ Blk (ltH c) (2 * s) Q' := by
          refine ⟨hab, ⟨k + 1, e3.symm⟩, Q ++ sortN (ltH c) ((Y.drop a).take (2 * s)), by rw [List.length_append, sortN_len, l3, q3], by simp, ?_, blk_app q6 (q3.trans q2) (by rw [sortN_len, l3]; omega) k1⟩
          rw [List.take_add]
          exact q5.app k2
        generalize Q ++ (sortN (ltH c) ((Y.drop a).take (2 * s)) ++ (Y.drop (a + 2 * s) ++ R)) = K' at hsy hpre
        clear eY eY2 l1 l2 l3 eK q4 q5 q6 k1 k2 b1 b2 g4 g5 g6 e1 e2 e3
        (repeat' (first
  | (apply W.qd; (first
    | (apply q_mv; (first|exact vD|exact vO|exact vP|exact vA|exact vF|exact vR|exact vN|exact vY|exact vT|exact vM|exact vL|exact vX))|(apply q_as; (first|exact vD|exact vO|exact vP|exact vA|exact vF|exact vR|exact vN|exact vY|exact vT|exact vM|exact vL|exact vX))|(apply q_leq; exact rfl; exact rfl)|(apply q_add; exact rfl; exact rfl; omega)
    | (apply q_mul; exact rfl; exact rfl; (first | omega | assumption))))|(apply W.ed; ((exact e_callA hsy rfl rfl rfl)))|(apply AWP.seq)|(apply ACont_normal)|(apply W.region; kernel_rfl)|(apply Walk.nil)|(apply AWP.block)|(apply AWP.skip)|(apply ABlock_normal)
  | (refine W.cond _ rfl (fun hb => ?_) (fun hb => ?_) <;> ((try simp only [hb, Bool.not_true, Bool.not_false]) <;> (try simp only [decide_eq_true_eq, decide_eq_false_iff_not, Bool.not_eq_true', Bool.not_eq_false', Int.not_lt, Int.not_le, List.length_map, not_true_eq_false] at hb) <;> (try (exfalso; omega))))))
        exact ⟨(K', a + 2 * s), hpre, by dsimp only; omega, rfl, iV_eq (by dsimp only; omega), iV_eq (by dsimp only; omega), rfl, rfl, rfl, rfl, trivial⟩
      · obtain ⟨k1, k2⟩ := sortN_spec hw (Y.drop a)
        have hpre : 20 ≤ 2 * s ∧ 2 * s ≤ 4000000 ∧ ∃ Y' : List Hl, Y'.length = n ∧ Q ++ (sortN (ltH c) (Y.drop a) ++ R) = Y' ++ R ∧ Stb (ltH c) X Y' ∧ Blk (ltH c) (2 * s) Y' := by
          refine ⟨by omega, by omega, Q ++ sortN (ltH c) (Y.drop a), by rw [List.length_append, sortN_len, List.length_drop]; omega, by simp, ?_, blk_app q6 (q3.trans q2) (by rw [sortN_len, List.length_drop]; omega) k1⟩
          have := q5.app k2
          rw [List.take_append_drop] at this
          exact g5.trans this
        by_cases hms : a + s < n
        · have l1 : ((Y.drop a).take s).length = s := by rw [List.length_take, List.length_drop]; omega
          rw [List.take_of_length_le (by rw [List.length_drop]; omega)] at b2
          have eY : (Y.drop a).take s ++ Y.drop (a + s) = Y.drop a := by rw [← List.drop_drop, List.take_append_drop]
          have hsy := A_symH (ver := ver) (N := n) hc T hL (by omega) _ Q _ _ R (by rw [eY, ← q4]; exact hK2) (Nat.le_refl _) (by omega) (by rw [List.length_drop]; omega) (by rw [List.length_drop]; omega) b1 b2
          unfold SymH at hsy
          rw [eY, ← q4, q3, l1, show a + s + (Y.drop (a + s)).length = n by rw [List.length_drop]; omega] at hsy
          have ea1 : iV ((a + s : Nat) : Int) = iV ((a : Int) + (s : Int)) := iV_eq (by omega)
          rw [ea1] at hsy
          generalize Q ++ (sortN (ltH c) (Y.drop a) ++ R) = K' at hsy hpre
          clear eY l1 q4 q5 q6 k1 k2 b1 b2 g4 g5 g6 e1 e2 e3
          (repeat' (first
  | (apply W.qd; (first
    | (apply q_mv; (first|exact vD|exact vO|exact vP|exact vA|exact vF|exact vR|exact vN|exact vY|exact vT|exact vM|exact vL|exact vX))|(apply q_as; (first|exact vD|exact vO|exact vP|exact vA|exact vF|exact vR|exact vN|exact vY|exact vT|exact vM|exact vL|exact vX))|(apply q_lss; exact rfl; exact rfl)|(apply q_leq; exact rfl; exact rfl)|(apply q_add; exact rfl; exact rfl; omega)
    | (apply q_mul; exact rfl; exact rfl; (first | omega | assumption))))|(apply W.ed; ((exact e_callA hsy rfl rfl rfl)))|(apply AWP.seq)|(apply ACont_normal)|(apply W.region; kernel_rfl)|(apply Walk.nil)|(apply AWP.exit)|(apply ACont_exit)|(apply ABlock_normal)|(apply ABlock_exit)
  | (refine W.cond _ rfl (fun hb => ?_) (fun hb => ?_) <;> ((try simp only [hb, Bool.not_true, Bool.not_false]) <;> (try simp only [decide_eq_true_eq, decide_eq_false_iff_not, Bool.not_eq_true', Bool.not_eq_false', Int.not_lt, Int.not_le, List.length_map, not_true_eq_false] at hb) <;> (try (exfalso; omega))))))
          exact ⟨(K', 2 * s), hpre, by dsimp only; omega, rfl, iV_eq (by dsimp only; omega), rfl, rfl, rfl, trivial⟩
        · rw [List.take_of_length_le (by rw [List.length_drop]; omega)] at b1
          rw [sortN_self hw b1, ← q4] at hpre
          clear q4 q5 q6 k1 k2 b1 b2 g4 g5 g6 e1 e2 e3
          (repeat' (first
  | (apply W.qd; (first
    | (apply q_mv; (first|exact vD|exact vO|exact vP|exact vA|exact vF|exact vR|exact vN|exact vY|exact vT|exact vM|exact vL|exact vX))|(apply q_as; (first|exact vD|exact vO|exact vP|exact vA|exact vF|exact vR|exact vN|exact vY|exact vT|exact vM|exact vL|exact vX))|(apply q_lss; exact rfl; exact rfl)|(apply q_leq; exact rfl; exact rfl)|(apply q_add; exact rfl; exact rfl; omega)
    | (apply q_mul; exact rfl; exact rfl; (first | omega | assumption))))|(apply AWP.seq)|(apply ACont_normal)|(apply W.region; kernel_rfl)|(apply Walk.nil)|(apply AWP.skip)|(apply AWP.exit)|(apply ACont_exit)|(apply ABlock_normal)|(apply ABlock_exit)
  | (refine W.cond _ rfl (fun hb => ?_) (fun hb => ?_) <;> ((try simp only [hb, Bool.not_true, Bool.not_false]) <;> (try simp only [decide_eq_true_eq, decide_eq_false_iff_not, Bool.not_eq_true', Bool.not_eq_false', Int.not_lt, Int.not_le, List.length_map, not_true_eq_false] at hb) <;> (try (exfalso; omega))))))
          exact ⟨(K2, 2 * s), hpre, by dsimp only; omega, rfl, iV_eq (by dsimp only; omega), rfl, rfl, rfl, trivial⟩
    · have e := sortN_eq hw (blk_whole g6 (by omega)) g5
      rw [e] at g4
      rw [← g4]
      clear g4 g5 g6
      (repeat' (first
  | (apply W.qd; (first
    | (apply q_mv; (first|exact vD|exact vO|exact vP|exact vA|exact vF|exact vR|exact vN|exact vY|exact vT|exact vM|exact vL|exact vX))
    | (apply q_lss; exact rfl; exact rfl)))|(apply AWP.seq)|(apply ACont_normal)|(apply W.region; kernel_rfl)|(apply Walk.nil)|(apply AWP.exit)|(apply ACont_exit)|(apply ABlock_exit)
  | (refine W.cond _ rfl (fun hb => ?_) (fun hb => ?_) <;> ((try simp only [hb, Bool.not_true, Bool.not_false]) <;> (try simp only [decide_eq_true_eq, decide_eq_false_iff_not, Bool.not_eq_true', Bool.not_eq_false', Int.not_lt, Int.not_le, List.length_map, not_true_eq_false] at hb) <;> (try (exfalso; omega))))))
      exact ⟨.inr rfl, [], trivial, AVle.of_eq rfl, rfl⟩
theorem A_sortStableH {n : Nat} {X R : List Hl} (hc : CmpH cf caps B c) (hn : X.length = n) (hL : (X ++ R).length ≤ 1000000) :
    ACalls Tryd.prog 59 [.osl 1 ver 0 n, .fn cf caps] (srtH B ver (X ++ R)) (.tup []) (srtH B ver (sortN (ltH c) X ++ R)) := by
  have h := A_stableH (ver := ver) hc hn hL
  refine acalls_of_bodyS Tryd.func59 rfl (Nat.le_of_ble_eq_true rfl) ?_
  (repeat' (first
  | (apply W.qd; (first
    | (apply q_mv; (first|exact vD|exact vO|exact vP|exact vA|exact vF|exact vR|exact vN|exact vY|exact vT|exact vM|exact vL|exact vX))
    | (apply q_len_osl; exact rfl; exact rfl; exact rfl)))|(apply W.ed; ((exact e_callA h rfl rfl rfl)))|(apply W.region; kernel_rfl)
  | (apply Walk.nil)))
  exact ⟨.inr rfl, [], trivial, AVle.of_eq rfl, rfl⟩
end
end Go.Proofs.YtaclmbbiegklcaaDoor
end
section
/- A slice of data without elements: it may be nil or not. No program in sight. -/
namespace Go.Proofs.YtaclmbbiegklcaaDoor
open Go.RowKit
theorem acalls_empty {P : Program} {f : FuncId} {sz : Nat} {args : List AV} {r : AV} {own own' : List Ent} (h : ∀ (A : Option Addr) (c : Nat), c ≤ maxLen → ACalls P f (.d (.v (.slice A 0 c)) :: args) own r own') : ACalls P f (.d (.sl sz []) :: args) own r own' := fun F κ w vs ho hsat => by
  cases vs with
  | nil => simp [AV.satL] at hsat
  | cons v vs =>
    rw [AV.satL] at hsat
    obtain ⟨h1, h2⟩ := hsat
    rw [AV.sat, Dat.sat] at h1
    obtain ⟨A, c, rfl, _, h4, _⟩ := h1
    exact h A c h4 F κ w _ ho (by rw [AV.satL]; exact ⟨sat_v.2 rfl, h2⟩)
theorem AVle.empty {A : Option Addr} {c : Nat} (h : c ≤ maxLen) (sz : Nat) : AVle (.d (.v (.slice A 0 c))) (.d (.sl sz [])) := fun F own κ w u hs => by
  rw [sat_v] at hs
  subst hs
  rw [AV.sat, Dat.sat]
  exact ⟨A, c, rfl, Nat.zero_le _, h, fun h => by simp at h⟩
section
variable {P : Program} {m : Nat} {env : List (Nat × AV)} {own : List Ent} {dst : Option Tmp} {ty : TypeId} {pos : String} {af : Array Edge} {gd : Option (Nat × Bool)}
theorem q_eqnilV {t t' : TypeId} {x y : Operand} {A : Option Addr} {n c : Nat} (hx : lookO env x = .d (.v (.slice A n c))) (hy : lookO env y = .d (.v (.slice none 0 0))) (ht : isSl P t = true) :
    Quiet P m ⟨dst, .binOp .eql t x y t', ty, pos, af, gd⟩ env own [] (bV A.isNone) := q_bin hx hy fun w => by
  obtain ⟨e, he⟩ := isSl_spec ht
  have h6 := Go.Lib.run_eql_slice_nil (P := P) w t e A n c 0 0 he
  have h5 : (eqGuard .eql t x y (.slice A n c) (.slice none 0 0)).run P w = .ok () w := by simp [eqGuard]
  simp only [Sem.run_bind, h5, Result.andThen_ok, h6]
theorem e_clearm {t e e' : TypeId} {by' sz : Nat} {z : Value} {x : Operand} {p ver q n : Nat} {l l' : List (List Dat)} {own' : List Ent} (zs : List Dat) (hx : lookO env x = .osl p ver q n) (hp : own[p]? = some (.row ver sz e l)) (ht : slInfo P t = some (e', sz, by', z)) (hz : z.cells.size = sz) (hz1 : z.cells.toList = zs.map fun d => match d with | .v u => u | _ => undef) (hz2 : zs.all (fun d => match d with | .v u => u.oneCell' | _ => false) = true) (hqn : q + n ≤ l.length) (hl : l.take q ++ List.replicate n zs ++ l.drop (q + n) = l') (ho' : setF own p (.row ver sz e l') = some own') :
    Eff P m ⟨dst, .call ⟨.builtin .clear, #[x], #[t]⟩, ty, pos, af, gd⟩ env own [p] (.tup []) own' := by
  subst hl
  exact e_clear hx hp ht hz hz1 hz2 hqn ho'
end
theorem frz_rowT {own : List Ent} {js : List Nat} {i ver n sz : Nat} {e : TypeId} {l : List (List Dat)} (ho : own[i]? = some (.row ver sz e l)) (hj : plc js i = none) : AV.frz own js (.osl i ver 0 n) = .d (.sl sz (l.take n)) := by
  simp [AV.frz, frzSl, ho, hj]
end Go.Proofs.YtaclmbbiegklcaaDoor
end
section
/- Layer 36 over the machine of abstract values: the order of stripes, Clone, DeleteFunc. -/
namespace Go.Proofs.YtaclmbbiegklcaaDoor
open Go.RowKit
set_option maxHeartbeats 4000000
set_option maxRecDepth 100000
def lostH (h : Hl) : Int := if h.2.2.1 < 0 then 1 else 0
def cmpH (a b : Hl) : Int := orI [cmpI (lostH a) (lostH b), cmpI a.2.2.1 b.2.2.1, cmpI b.2.2.2 a.2.2.2, cmpI a.1 b.1, cmpI a.2.1 b.2.1]
theorem cmpI_lt (x y : Int) : cmpI x y < 0 ↔ x < y := by unfold cmpI; split <;> (try split) <;> omega
theorem cmpI_eq (x y : Int) : cmpI x y = 0 ↔ x = y := by unfold cmpI; split <;> (try split) <;> omega
theorem orI_lt (x : Int) (l : List Int) : orI (x :: l) < 0 ↔ x < 0 ∨ (x = 0 ∧ orI l < 0) := by
  show (if x ≠ 0 then x else orI l) < 0 ↔ _
  split
  · omega
  · omega
theorem ltH_iff (a b : Hl) : ltH cmpH a b = true ↔ lostH a < lostH b ∨ (lostH a = lostH b ∧ (a.2.2.1 < b.2.2.1 ∨ (a.2.2.1 = b.2.2.1 ∧ (b.2.2.2 < a.2.2.2 ∨ (b.2.2.2 = a.2.2.2 ∧ (a.1 < b.1 ∨ (a.1 = b.1 ∧ a.2.1 < b.2.1))))))) := by
  unfold ltH cmpH
  rw [decide_eq_true_eq, orI_lt, orI_lt, orI_lt, orI_lt, orI_lt, cmpI_lt, cmpI_lt, cmpI_lt, cmpI_lt, cmpI_lt, cmpI_eq, cmpI_eq, cmpI_eq, cmpI_eq, cmpI_eq]
  have : ¬ (orI [] < 0) := by show ¬ ((0 : Int) < 0); omega
  simp only [this, and_false, or_false]
theorem weakH : Weak (ltH cmpH) where
  irr a := by
    rw [Bool.eq_false_iff, Ne, ltH_iff]
    omega
  trans a b c h1 h2 := by
    rw [ltH_iff] at *
    generalize lostH a = la at *
    generalize lostH b = lb at *
    generalize lostH c = lc at *
    omega
  neg a b c h1 := by
    rw [ltH_iff] at *
    rw [ltH_iff]
    generalize lostH a = la at *
    generalize lostH b = lb at *
    generalize lostH c = lc at *
    omega
def keepH (h : Hl) : Bool := decide (0 < h.2.2.2)
attribute [local irreducible] Quiet Eff OpOk AWPG ACont ABlock ACalls AGoto
theorem A_lostH (h : Hl) : ACalls Tryd.prog 95 [.agg ((hlD h).map .d)] [] (iV (lostH h)) [] := by
  refine acalls_of_body Tryd.func95 rfl (Nat.le_of_ble_eq_true rfl) ?_
  unfold lostH
  by_cases hb0 : h.2.2.1 < 0
  · rw [if_pos hb0]
    (repeat' (first
  | (apply W.qd; (first
    | (apply q_as; (first|exact vD|exact vO|exact vP|exact vA|exact vF|exact vR|exact vN|exact vY|exact vT|exact vM|exact vL|exact vX))|(apply q_fld_optF; exact rfl; exact rfl; exact rfl)|(apply q_ld_box; exact rfl; exact rfl; exact rfl; exact rfl)
    | (apply q_lss; exact rfl; exact rfl)))|(apply W.ed; (apply e_boxF; exact rfl; exact rfl; exact rfl; kernel_rfl; kernel_rfl))|(apply AWP.seq)|(apply ACont_normal)|(apply W.region; kernel_rfl)|(apply Walk.nil)|(apply AWP.ret)|(apply ACont_ret)
  | (refine W.cond _ rfl (fun hb => ?_) (fun hb => ?_) <;> ((try simp only [hb, Bool.not_true, Bool.not_false]) <;> (try simp only [decide_eq_true_eq, decide_eq_false_iff_not, Bool.not_eq_true', Bool.not_eq_false', Int.not_lt, Int.not_le, List.length_map, not_true_eq_false] at hb) <;> (try (exfalso; omega))))))
    exact Ends.i rfl rfl
  · rw [if_neg hb0]
    (repeat' (first
  | (apply W.qd; (first
    | (apply q_as; (first|exact vD|exact vO|exact vP|exact vA|exact vF|exact vR|exact vN|exact vY|exact vT|exact vM|exact vL|exact vX))|(apply q_fld_optF; exact rfl; exact rfl; exact rfl)|(apply q_ld_box; exact rfl; exact rfl; exact rfl; exact rfl)
    | (apply q_lss; exact rfl; exact rfl)))|(apply W.ed; (apply e_boxF; exact rfl; exact rfl; exact rfl; kernel_rfl; kernel_rfl))|(apply AWP.seq)|(apply ACont_normal)|(apply W.region; kernel_rfl)|(apply Walk.nil)|(apply AWP.skip)|(apply AWP.ret)
  | (refine W.cond _ rfl (fun hb => ?_) (fun hb => ?_) <;> ((try simp only [hb, Bool.not_true, Bool.not_false]) <;> (try simp only [decide_eq_true_eq, decide_eq_false_iff_not, Bool.not_eq_true', Bool.not_eq_false', Int.not_lt, Int.not_le, List.length_map, not_true_eq_false] at hb) <;> (try (exfalso; omega))))))
    exact Ends.i rfl rfl
abbrev lossB : Ent := .box [.fn 95 []]
theorem A_cmpH : CmpH 96 [.opt 0 0] lossB cmpH where
  isf := by kernel_rfl
  weak := weakH
  call x y ver rows := by
    refine acalls_of_bodyO Tryd.func96 rfl (Nat.le_of_ble_eq_true rfl) ?_
    have hl := A_lostH
    have hc := A_cmp
    have ho := A_or [cmpI (lostH x) (lostH y), cmpI x.2.2.1 y.2.2.1, cmpI y.2.2.2 x.2.2.2, cmpI x.1 y.1, cmpI x.2.1 y.2.1] (by simp)
    (repeat' (first
  | (apply W.qd; (first
    | (apply (q_callC (hl x)); exact rfl; exact rfl; kernel_rfl; kernel_rfl; kernel_rfl)|(apply (q_callC (hl y)); exact rfl; exact rfl; kernel_rfl; kernel_rfl; kernel_rfl)|(apply (q_callC (hc _ _)); exact rfl; exact rfl; kernel_rfl; kernel_rfl; kernel_rfl)|(apply (q_callC (ho)); exact rfl; exact rfl; kernel_rfl; kernel_rfl; kernel_rfl)|(apply q_as; (first|exact vD|exact vO|exact vP|exact vA|exact vF|exact vR|exact vN|exact vY|exact vT|exact vM|exact vL|exact vX))|(apply q_fld_optF; exact rfl; exact rfl; exact rfl)|(apply q_ld_box; exact rfl; exact rfl; exact rfl; exact rfl)|(apply q_ld_boxF; exact rfl; exact rfl; exact rfl; exact rfl)
    | (apply q_litF; exact rfl; exact rfl; exact rfl; exact rfl; exact rfl; kernel_rfl; kernel_rfl; exact rfl)))|(apply W.ed; (apply e_boxF; exact rfl; exact rfl; exact rfl; kernel_rfl; kernel_rfl))|(apply AWP.seq)|(apply ACont_normal)|(apply W.region; kernel_rfl)|(apply W.regionD; exact rfl; kernel_rfl)|(apply Walk.nil)|(apply W.chk; kernel_rfl)
  | (apply AWP.ret)))
    exact ⟨.inl rfl, [0, 1], [iV (cmpH x y)], rfl, rfl, ⟨rfl, trivial⟩, AVle.of_eq rfl, rfl⟩
theorem A_delH (h : Hl) : ACalls Tryd.prog 58 [.agg ((hlD h).map .d)] [] (bV (!keepH h)) [] := by
  refine acalls_of_body Tryd.func58 rfl (Nat.le_of_ble_eq_true rfl) ?_
  (repeat' (first
  | (apply W.qd; (first
    | (apply q_as; (first|exact vD|exact vO|exact vP|exact vA|exact vF|exact vR|exact vN|exact vY|exact vT|exact vM|exact vL|exact vX))|(apply q_fld_optF; exact rfl; exact rfl; exact rfl)|(apply q_ld_box; exact rfl; exact rfl; exact rfl; exact rfl)
    | (apply q_leq; exact rfl; exact rfl)))|(apply W.ed; (apply e_boxF; exact rfl; exact rfl; exact rfl; kernel_rfl; kernel_rfl))|(apply AWP.seq)|(apply ACont_normal)|(apply W.region; kernel_rfl)|(apply Walk.nil)
  | (apply AWP.ret)))
  refine Ends.b rfl ?_
  unfold keepH
  rw [Bool.eq_iff_iff]
  simp
theorem A_cloneH {l : List Hl} (h0 : 0 < l.length) (hl : l.length ≤ 1000000) : ACalls Tryd.prog 57 [hls l] [] (.osl 0 1 0 l.length) [.row 1 4 60 (l.map hlD)] := by
  refine acalls_of_bodyO Tryd.func57 rfl (Nat.le_of_ble_eq_true rfl) ?_
  have hm : (l.map hlD).length = l.length := List.length_map _
  (repeat' (first
  | (apply W.ed; (apply e_lit0F; exact rfl; exact rfl; exact rfl; exact rfl; exact rfl))
  | (apply W.qd; (first
    | (apply q_mv; (first|exact vD|exact vO|exact vP|exact vA|exact vF|exact vR|exact vN|exact vY|exact vT|exact vM|exact vL|exact vX))|(apply q_as; (first|exact vD|exact vO|exact vP|exact vA|exact vF|exact vR|exact vN|exact vY|exact vT|exact vM|exact vL|exact vX))
    | (apply q_eqnilm; exact rfl; exact rfl; exact rfl; (first | assumption | omega))))|(apply W.ed; (apply e_appF; exact rfl; exact rfl; exact rfl; exact rfl; exact rfl; exact rfl; exact rfl; exact rfl; (first | rfl | simp); (first | exact Nat.zero_lt_one | (focus (simp; done)) | omega); (first | (focus (simp; done)) | (focus (simp; omega)) | omega)))|(apply AWP.seq)|(apply ACont_normal)|(apply W.region; kernel_rfl)|(apply Walk.nil)|(apply AWP.skip)|(apply AWP.ret)
  | (apply W.condF; exact rfl)))
  refine ⟨.inl rfl, [0], [.osl 0 1 0 ((([] : List Nat).length) + (l.map hlD).length)], rfl, rfl, ⟨rfl, trivial⟩, AVle.of_eq ?_, rfl⟩
  show AV.osl 0 1 0 (0 + (l.map hlD).length) = .osl 0 1 0 l.length
  rw [hm, Nat.zero_add]
theorem A_cloneH0 : ACalls Tryd.prog 57 [hls []] [] (hls []) [] := by
  refine acalls_empty fun A c hc => ?_
  refine acalls_of_body Tryd.func57 rfl (Nat.le_of_ble_eq_true rfl) ?_
  (repeat' (first
  | (apply W.qd; (first
    | ((apply q_eqnilV; exact rfl; exact rfl; exact rfl))|(apply q_mv; (first|exact vD|exact vO|exact vP|exact vA|exact vF|exact vR|exact vN|exact vY|exact vT|exact vM|exact vL|exact vX))
    | (apply q_as; (first|exact vD|exact vO|exact vP|exact vA|exact vF|exact vR|exact vN|exact vY|exact vT|exact vM|exact vL|exact vX))))|(apply AWP.seq)|(apply ACont_normal)|(apply (W.regionS 3); exact rfl; kernel_rfl)|(apply Walk.nil)|(apply AWP.skip)|(apply AWP.ret)|(apply ACont_ret)
  | (refine W.cond _ rfl (fun hb => ?_) (fun hb => ?_) <;> ((try simp only [hb, Bool.not_true, Bool.not_false]) <;> (try simp only [decide_eq_true_eq, decide_eq_false_iff_not, Bool.not_eq_true', Bool.not_eq_false', Int.not_lt, Int.not_le, List.length_map, not_true_eq_false] at hb) <;> (try (exfalso; omega))))))
  · exact Ends.nil rfl rfl
  · refine AWP.le 0 (hls []) rfl (AVle.empty hc 4) ?_
    (repeat' (first
  | (apply W.ed; (apply e_lit0F; exact rfl; exact rfl; exact rfl; exact rfl; exact rfl))
  | (apply W.qd; (first
    | (apply q_mv; (first|exact vD|exact vO|exact vP|exact vA|exact vF|exact vR|exact vN|exact vY|exact vT|exact vM|exact vL|exact vX))|(apply q_as; (first|exact vD|exact vO|exact vP|exact vA|exact vF|exact vR|exact vN|exact vY|exact vT|exact vM|exact vL|exact vX))
    | (apply q_app0; exact rfl; exact rfl; exact rfl; exact rfl)))|(apply ACont_normal)|(apply W.region; kernel_rfl)|(apply Walk.nil)
  | (apply AWP.ret)))
    exact Ends.osl rfl rfl rfl rfl
theorem A_idxH (l : List Hl) (hl : l.length ≤ 1000000) : ACalls Tryd.prog 93 [hls l, .fn 58 []] [] (iV (idxA (fun h => !keepH h) l)) [] := by
  refine acalls_of_bodyS Tryd.func93 rfl (Nat.le_of_ble_eq_true rfl) ?_
  have hm : (l.map hlD).length = l.length := List.length_map _
  have hd := A_delH
  (repeat (first
  | (apply W.qd; (first
    | (apply q_mv; (first|exact vD|exact vO|exact vP|exact vA|exact vF|exact vR|exact vN|exact vY|exact vT|exact vM|exact vL|exact vX))|(apply q_as; (first|exact vD|exact vO|exact vP|exact vA|exact vF|exact vR|exact vN|exact vY|exact vT|exact vM|exact vL|exact vX))
    | (apply q_len_sl; exact rfl; exact rfl)))|(apply AWP.seq)|(apply ACont_normal)|(apply W.region; kernel_rfl)|(apply Walk.nil)
  | (apply AWP.block)))
  refine AWP.loopE (α := Nat) (fun k => k ≤ l.length ∧ ∀ x ∈ l.take k, (fun h => !keepH h) x = false) (fun k => ⟨[(8, iV k), (7, iV l.length), (0, hls l), (1, .fn 58 [])], []⟩) (fun k => l.length - k) 0 ⟨by omega, by simp⟩ ⟨rfl, rfl, iV_eq (by rw [hm]), rfl, rfl, trivial⟩ fun k hk => ?_
  by_cases hkl : k < l.length
  · have hx := hd l[k]
    (repeat' (first
  | (apply W.qd; (first
    | (apply (q_callC (hx)); exact rfl; exact rfl; kernel_rfl; kernel_rfl; kernel_rfl)|(apply q_mv; (first|exact vD|exact vO|exact vP|exact vA|exact vF|exact vR|exact vN|exact vY|exact vT|exact vM|exact vL|exact vX))|(apply q_as; (first|exact vD|exact vO|exact vP|exact vA|exact vF|exact vR|exact vN|exact vY|exact vT|exact vM|exact vL|exact vX))|(apply q_lss; exact rfl; exact rfl)|(apply q_add; exact rfl; exact rfl; omega)|(apply q_ld_maps; exact rfl; exact rfl; exact rfl; (first | omega | (focus (simp; done))))
    | (apply q_ix_slF; exact rfl; exact rfl; exact rfl; exact rfl; (first | (with_reducible exact rfl) | exact natI_spec rfl | assumption | exact (Int.toNat_of_nonneg (by omega)).symm); (first | omega | (focus (simp only [List.length_map]; omega)) | (focus (simp; done)) | (focus (simp; omega))))))|(apply AWP.seq)|(apply ACont_normal)|(apply W.region; kernel_rfl)|(apply Walk.nil)|(apply AWP.block)|(apply AWP.skip)|(apply AWP.ret)|(apply ACont_ret)|(apply ABlock_normal)|(apply ABlock_ret)
  | (refine W.cond _ rfl (fun hb => ?_) (fun hb => ?_) <;> ((try simp only [hb, Bool.not_true, Bool.not_false]) <;> (try simp only [decide_eq_true_eq, decide_eq_false_iff_not, Bool.not_eq_true', Bool.not_eq_false', Int.not_lt, Int.not_le, List.length_map, not_true_eq_false] at hb) <;> (try (exfalso; omega))))))
    · exact EndsS.i rfl (idxA_hit hkl (by simpa using hb) hk.2).symm
    · refine ⟨k + 1, ⟨by omega, fun x hx => ?_⟩, by omega, rfl, iV_eq (by omega), rfl, rfl, rfl, trivial⟩
      rw [List.take_succ_eq_append_getElem hkl] at hx
      rcases List.mem_append.1 hx with hx | hx
      · exact hk.2 x hx
      · rw [List.mem_singleton.1 hx]; simpa using hb
  · (repeat' (first
  | (apply W.qd; (first
    | (apply q_as; (first|exact vD|exact vO|exact vP|exact vA|exact vF|exact vR|exact vN|exact vY|exact vT|exact vM|exact vL|exact vX))
    | (apply q_lss; exact rfl; exact rfl)))|(apply AWP.seq)|(apply ACont_normal)|(apply W.region; kernel_rfl)|(apply Walk.nil)|(apply AWP.exit)|(apply AWP.ret)|(apply ACont_exit)|(apply ABlock_exit)
  | (refine W.cond _ rfl (fun hb => ?_) (fun hb => ?_) <;> ((try simp only [hb, Bool.not_true, Bool.not_false]) <;> (try simp only [decide_eq_true_eq, decide_eq_false_iff_not, Bool.not_eq_true', Bool.not_eq_false', Int.not_lt, Int.not_le, List.length_map, not_true_eq_false] at hb) <;> (try (exfalso; omega))))))
    refine EndsS.i rfl (idxA_miss fun x hx => hk.2 x ?_).symm
    rwa [List.take_of_length_le (by omega)]
end Go.Proofs.YtaclmbbiegklcaaDoor
end
section
/- Layer 36 over the machine of abstract values: Order. -/
namespace Go.Proofs.YtaclmbbiegklcaaDoor
open Go.RowKit
set_option maxHeartbeats 4000000
set_option maxRecDepth 100000
attribute [local irreducible] Quiet Eff OpOk AWPG ACont ABlock ACalls AGoto
theorem A_deleteH {l : List Hl} {v : Nat} (h0l : 0 < l.length) (hl : l.length ≤ 1000000) : ACalls Tryd.prog 56 [.osl 0 v 0 l.length, .fn 58 []] [.row v 4 60 (l.map hlD)] (.osl 0 v 0 (l.filter keepH).length) [.row v 4 60 ((l.filter keepH ++ List.replicate (l.length - (l.filter keepH).length) hl0).map hlD)] := by
  refine acalls_of_bodyO Tryd.func56 rfl (Nat.le_of_ble_eq_true rfl) ?_
  have hi := A_idxH l hl
  have hd := A_delH
  have hfz : ∀ own', same [0] [Ent.row v 4 60 (l.map hlD)] own' → AV.frzL own' [] [.osl 0 v 0 l.length, .fn 58 []] = [hls l, .fn 58 []] := fun own' hs => by
    have h0 := hs 0 (by simp)
    show [AV.frz own' [] (.osl 0 v 0 l.length), AV.frz own' [] (.fn 58 [])] = _
    rw [frz_rowJ (h0.trans rfl) rfl (by simp)]; rfl
  cases hf : l.findIdx? (fun h => !keepH h) with
  | none =>
    have e1 : idxA (fun h => !keepH h) l = -1 := by unfold idxA; rw [hf]
    have e2 : l.filter keepH = l := by
      rw [List.filter_eq_self]
      intro a ha
      have := (List.findIdx?_eq_none_iff.1 hf) a ha
      simpa using this
    rw [e1] at hi
    rw [e2]
    (repeat' (first
  | (apply W.qd; (first
    | ((apply (q_callF (js := [0]) hi); exact rfl; exact hfz; exact rfl; kernel_rfl))|(apply q_mv; (first|exact vD|exact vO|exact vP|exact vA|exact vF|exact vR|exact vN|exact vY|exact vT|exact vM|exact vL|exact vX))|(apply q_as; (first|exact vD|exact vO|exact vP|exact vA|exact vF|exact vR|exact vN|exact vY|exact vT|exact vM|exact vL|exact vX))
    | (apply q_eql; exact rfl; exact rfl)))|(apply AWP.seq)|(apply ACont_normal)|(apply W.region; kernel_rfl)|(apply Walk.nil)|(apply AWP.ret)|(apply ACont_ret)
  | (apply W.condT; exact rfl)))
    exact ⟨.inl rfl, [0], [.osl 0 v 0 l.length], rfl, rfl, ⟨rfl, trivial⟩, AVle.of_eq rfl, by simp; rfl⟩
  | some i0 =>
    obtain ⟨hi1, hi2, hi3⟩ := List.findIdx?_eq_some_iff_getElem.1 hf
    have e1 : idxA (fun h => !keepH h) l = (i0 : Int) := by unfold idxA; rw [hf]
    rw [e1] at hi
    have hk0 : (l.take (i0 + 1)).filter keepH = l.take i0 := by
      rw [List.take_succ_eq_append_getElem hi1, List.filter_append]
      have q1 : (l.take i0).filter keepH = l.take i0 := by
        rw [List.filter_eq_self]
        intro a ha
        obtain ⟨j, hj, rfl⟩ := List.getElem_of_mem ha
        rw [List.length_take] at hj
        have := hi3 j (by omega)
        rw [List.getElem_take]
        simpa using this
      have q2 : [l[i0]].filter keepH = [] := by
        have : keepH l[i0] = false := by simpa using hi2
        simp [this]
      rw [q1, q2, List.append_nil]
    (repeat' (first
  | (apply W.qd; (first
    | ((apply (q_callF (js := [0]) hi); exact rfl; exact hfz; exact rfl; kernel_rfl))|(apply q_mv; (first|exact vD|exact vO|exact vP|exact vA|exact vF|exact vR|exact vN|exact vY|exact vT|exact vM|exact vL|exact vX))|(apply q_as; (first|exact vD|exact vO|exact vP|exact vA|exact vF|exact vR|exact vN|exact vY|exact vT|exact vM|exact vL|exact vX))|(apply q_eql; exact rfl; exact rfl)
    | (apply q_add; exact rfl; exact rfl; omega)))|(apply AWP.seq)|(apply ACont_normal)|(apply W.region; kernel_rfl)|(apply Walk.nil)|(apply AWP.block)|(apply AWP.skip)
  | (apply W.condF; exact rfl)))
    clear hfz hi
    refine AWP.loopW (α := List Hl × Nat × Nat) (fun p => p.2.2 ≤ l.length ∧ p.1.length = l.length ∧ p.2.1 < p.2.2 ∧ ((l.take p.2.2).filter keepH).length = p.2.1 ∧ p.1.take p.2.1 = (l.take p.2.2).filter keepH ∧ p.1.drop p.2.2 = l.drop p.2.2) (fun p => ⟨[(5, iV p.2.1), (6, iV p.2.2), (0, .osl 0 v 0 l.length), (1, .fn 58 [])], [.row v 4 60 (p.1.map hlD)]⟩) (fun p => l.length - p.2.2) (l, i0, i0 + 1) ⟨by dsimp only; omega, rfl, by dsimp only; omega, by dsimp only; rw [hk0, List.length_take]; omega, hk0.symm, rfl⟩ ⟨[0], rfl, rfl, rfl, by (repeat (first | exact trivial | refine ⟨rfl, ?_⟩))⟩ fun p hp => ?_
    obtain ⟨K, i, j⟩ := p
    obtain ⟨h1, h2, h3, h4, h5, h6⟩ := hp
    dsimp only at h1 h2 h3 h4 h5 h6 ⊢
    by_cases hjn : j < l.length
    · have hKj : K[j] = l[j]'(by omega) := by
        have a1 := List.drop_eq_getElem_cons (l := K) (i := j) (by omega)
        have a2 := List.drop_eq_getElem_cons (l := l) (i := j) (by omega)
        rw [h6, a2] at a1
        injection a1 with a3 _
        exact a3.symm
      have hK1 : K.drop (j + 1) = l.drop (j + 1) := by
        have a1 := List.drop_eq_getElem_cons (l := K) (i := j) (by omega)
        have a2 := List.drop_eq_getElem_cons (l := l) (i := j) (by omega)
        rw [h6, a2] at a1
        injection a1 with _ a3
        exact a3.symm
      have hfl : (l.take (j + 1)).filter keepH = (l.take j).filter keepH ++ [l[j]'(by omega)].filter keepH := by rw [List.take_succ_eq_append_getElem (by omega), List.filter_append]
      have hx := hd K[j]
      clear h6
      cases hkp : keepH (K[j]) with
      | true =>
        rw [hkp] at hx
        rw [← hKj, show [K[j]].filter keepH = [K[j]] by simp [hkp]] at hfl
        (repeat' (first
  | (apply W.qd; (first
    | (apply (q_callC (hx)); exact rfl; exact rfl; kernel_rfl; kernel_rfl; kernel_rfl)|(apply q_mv; (first|exact vD|exact vO|exact vP|exact vA|exact vF|exact vR|exact vN|exact vY|exact vT|exact vM|exact vL|exact vX))|(apply q_as; (first|exact vD|exact vO|exact vP|exact vA|exact vF|exact vR|exact vN|exact vY|exact vT|exact vM|exact vL|exact vX))|(apply q_ld_boxF; exact rfl; exact rfl; exact rfl; exact rfl)|(apply q_lss; exact rfl; exact rfl)|(apply q_not; exact rfl)|(apply q_add; exact rfl; exact rfl; omega)|(apply q_len_osl; exact rfl; exact rfl; exact rfl)|(apply q_ix_osl0; exact rfl; exact rfl; exact rfl; exact rfl; (first | (with_reducible exact rfl) | exact natI_spec rfl | assumption | exact (Int.toNat_of_nonneg (by omega)).symm); (first | omega | (focus (simp only [List.length_map]; omega)) | (focus (simp; done)) | (focus (simp; omega))))
    | (apply q_ld_rptsm; exact rfl; exact rfl; exact rfl; exact rfl; (first | omega | (focus (simp only [List.length_map]; omega)) | (focus (simp; done)) | (focus (simp; omega))))))|(apply W.ed; (apply e_allocF; exact rfl; exact rfl; exact rfl; kernel_rfl))|(apply W.ln; (apply l_st_box; exact rfl; exact rfl; exact rfl; exact rfl; exact rfl; exact rfl; kernel_rfl; kernel_rfl; kernel_rfl))|(apply W.en; ((apply (e_st_rptM K[j]); exact rfl; exact rfl; exact rfl; exact rfl; exact rfl; exact rfl; exact rfl; exact rfl; exact rfl)))|(apply AWP.seq)|(apply ACont_normal)|(apply W.region; kernel_rfl)|(apply Walk.nil)|(apply AWP.block)|(apply AWP.skip)|(apply ABlock_normal)|(apply W.condT; exact rfl)
  | (refine W.cond _ rfl (fun hb => ?_) (fun hb => ?_) <;> ((try simp only [hb, Bool.not_true, Bool.not_false]) <;> (try simp only [decide_eq_true_eq, decide_eq_false_iff_not, Bool.not_eq_true', Bool.not_eq_false', Int.not_lt, Int.not_le, List.length_map, not_true_eq_false] at hb) <;> (try (exfalso; omega))))))
        refine ⟨(K.set i K[j], i + 1, j + 1), ⟨by dsimp only; omega, by simp [h2], by dsimp only; omega, by dsimp only; rw [hfl]; simp [h4], ?_, ?_⟩, by dsimp only; omega, [0], rfl, rfl, rfl, iV_eq (by dsimp only; omega), iV_eq (by dsimp only; omega), rfl, rfl, trivial⟩
        · dsimp only
          rw [hfl, ← h5, List.take_succ_eq_append_getElem (by simp; omega), List.getElem_set_self, List.take_set_of_le (Nat.le_refl _)]
        · dsimp only
          rw [List.drop_set_of_lt (by omega)]; exact hK1
      | false =>
        rw [hkp] at hx
        rw [← hKj, show [K[j]].filter keepH = [] by simp [hkp], List.append_nil] at hfl
        (repeat' (first
  | (apply W.qd; (first
    | (apply (q_callC (hx)); exact rfl; exact rfl; kernel_rfl; kernel_rfl; kernel_rfl)|(apply q_mv; (first|exact vD|exact vO|exact vP|exact vA|exact vF|exact vR|exact vN|exact vY|exact vT|exact vM|exact vL|exact vX))|(apply q_as; (first|exact vD|exact vO|exact vP|exact vA|exact vF|exact vR|exact vN|exact vY|exact vT|exact vM|exact vL|exact vX))|(apply q_ld_boxF; exact rfl; exact rfl; exact rfl; exact rfl)|(apply q_lss; exact rfl; exact rfl)|(apply q_not; exact rfl)|(apply q_add; exact rfl; exact rfl; omega)|(apply q_len_osl; exact rfl; exact rfl; exact rfl)|(apply q_ix_osl0; exact rfl; exact rfl; exact rfl; exact rfl; (first | (with_reducible exact rfl) | exact natI_spec rfl | assumption | exact (Int.toNat_of_nonneg (by omega)).symm); (first | omega | (focus (simp only [List.length_map]; omega)) | (focus (simp; done)) | (focus (simp; omega))))
    | (apply q_ld_rptsm; exact rfl; exact rfl; exact rfl; exact rfl; (first | omega | (focus (simp only [List.length_map]; omega)) | (focus (simp; done)) | (focus (simp; omega))))))|(apply W.ed; (apply e_allocF; exact rfl; exact rfl; exact rfl; kernel_rfl))|(apply W.ln; (apply l_st_box; exact rfl; exact rfl; exact rfl; exact rfl; exact rfl; exact rfl; kernel_rfl; kernel_rfl; kernel_rfl))|(apply AWP.seq)|(apply ACont_normal)|(apply W.region; kernel_rfl)|(apply Walk.nil)|(apply AWP.block)|(apply AWP.skip)|(apply ABlock_normal)|(apply W.condF; exact rfl)
  | (refine W.cond _ rfl (fun hb => ?_) (fun hb => ?_) <;> ((try simp only [hb, Bool.not_true, Bool.not_false]) <;> (try simp only [decide_eq_true_eq, decide_eq_false_iff_not, Bool.not_eq_true', Bool.not_eq_false', Int.not_lt, Int.not_le, List.length_map, not_true_eq_false] at hb) <;> (try (exfalso; omega))))))
        exact ⟨(K, i, j + 1), ⟨by dsimp only; omega, h2, by dsimp only; omega, by dsimp only; rw [hfl]; exact h4, by dsimp only; rw [hfl]; exact h5, hK1⟩, by dsimp only; omega, [0], rfl, rfl, rfl, rfl, iV_eq (by dsimp only; omega), rfl, rfl, trivial⟩
    · have ej : j = l.length := by omega
      subst ej
      rw [List.take_length] at h4 h5
      have hfin : (K.map hlD).take (0 + i) ++ List.replicate (l.length - i) (hlD hl0) ++ (K.map hlD).drop (0 + i + (l.length - i)) = (l.filter keepH ++ List.replicate (l.length - i) hl0).map hlD := by
        rw [Nat.zero_add, ← List.map_take, h5, List.drop_eq_nil_of_le (by simp; omega), List.append_nil, List.map_append, List.map_replicate]
      rw [h4]
      (repeat' (first
  | (apply W.qd; (first
    | (apply q_mv; (first|exact vD|exact vO|exact vP|exact vA|exact vF|exact vR|exact vN|exact vY|exact vT|exact vM|exact vL|exact vX))|(apply q_as; (first|exact vD|exact vO|exact vP|exact vA|exact vF|exact vR|exact vN|exact vY|exact vT|exact vM|exact vL|exact vX))|(apply q_lss; exact rfl; exact rfl)|(apply q_len_osl; exact rfl; exact rfl; exact rfl)
    | (apply q_slc_osl; exact rfl; exact rfl; exact rfl; (first | exact ⟨_, _, rfl, rfl⟩ | exact ⟨_, _, rfl, natI_spec rfl⟩ | exact ⟨_, _, rfl, (Int.toNat_of_nonneg (by omega)).symm⟩ | exact rfl); (first | exact ⟨_, _, rfl, rfl⟩ | exact ⟨_, _, rfl, natI_spec rfl⟩ | exact ⟨_, _, rfl, (Int.toNat_of_nonneg (by omega)).symm⟩ | exact rfl); omega; omega)))|(apply W.en; ((apply (e_clearm (hlD hl0)); exact rfl; exact rfl; exact rfl; exact rfl; exact rfl; exact rfl; (simp; omega); exact hfin; exact rfl)))|(apply AWP.seq)|(apply ACont_normal)|(apply W.region; kernel_rfl)|(apply Walk.nil)|(apply AWP.exit)|(apply AWP.ret)|(apply ACont_exit)|(apply ABlock_exit)
  | (refine W.cond _ rfl (fun hb => ?_) (fun hb => ?_) <;> ((try simp only [hb, Bool.not_true, Bool.not_false]) <;> (try simp only [decide_eq_true_eq, decide_eq_false_iff_not, Bool.not_eq_true', Bool.not_eq_false', Int.not_lt, Int.not_le, List.length_map, not_true_eq_false] at hb) <;> (try (exfalso; omega))))))
      refine ⟨.inl rfl, [0], [.osl 0 v (0 + 0) (i - 0)], rfl, rfl, ⟨rfl, trivial⟩, AVle.of_eq rfl, rfl⟩
theorem A_deleteH0 : ACalls Tryd.prog 56 [hls [], .fn 58 []] [] (hls []) [] := by
  refine acalls_of_body Tryd.func56 rfl (Nat.le_of_ble_eq_true rfl) ?_
  have hi := A_idxH [] (by simp)
  rw [show idxA (fun h => !keepH h) [] = -1 from rfl] at hi
  (repeat' (first
  | (apply W.qd; (first
    | (apply (q_callC (hi)); exact rfl; exact rfl; kernel_rfl; kernel_rfl; kernel_rfl)|(apply q_mv; (first|exact vD|exact vO|exact vP|exact vA|exact vF|exact vR|exact vN|exact vY|exact vT|exact vM|exact vL|exact vX))|(apply q_as; (first|exact vD|exact vO|exact vP|exact vA|exact vF|exact vR|exact vN|exact vY|exact vT|exact vM|exact vL|exact vX))
    | (apply q_eql; exact rfl; exact rfl)))|(apply AWP.seq)|(apply ACont_normal)|(apply W.region; kernel_rfl)|(apply Walk.nil)|(apply AWP.ret)|(apply ACont_ret)
  | (apply W.condT; exact rfl)))
  exact Ends.sl rfl rfl
theorem A_byLoss : ACalls Tryd.prog 60 [] [] (.agg [.fn 96 [.opt 0 0]]) [lossB] := by
  refine acalls_of_bodyO Tryd.func60 rfl (Nat.le_of_ble_eq_true rfl) ?_
  (repeat' (first
  | (apply W.qd; (first
    | (apply q_buildF; exact rfl; exact rfl; kernel_rfl)
    | (apply q_makeFunc)))|(apply W.ed; (apply e_allocF; exact rfl; exact rfl; exact rfl; kernel_rfl))|(apply W.ln; (apply l_st_box; exact rfl; exact rfl; exact rfl; exact rfl; exact rfl; exact rfl; kernel_rfl; kernel_rfl; kernel_rfl))|(apply AWP.seq)|(apply ACont_normal)|(apply W.region; kernel_rfl)|(apply Walk.nil)
  | (apply AWP.ret)))
  exact ⟨.inl rfl, [1], [.agg [.fn 96 [.opt 1 0]]], rfl, rfl, ⟨⟨0, [.fn 96 [.opt 1 0]], true, rfl, rfl, rfl, rfl⟩, trivial⟩, AVle.of_eq rfl, rfl⟩
theorem A_insSortH0 {O : List Ent} {cf : FuncId} {caps : List AV} : ACalls Tryd.prog 130 [hls [], iV 0, iV 0, .fn cf caps] O (.tup []) O := by
  refine acalls_of_bodyS Tryd.func130 rfl (Nat.le_of_ble_eq_true rfl) ?_
  (repeat' (first
  | (apply W.qd; (first
    | (apply q_mv; (first|exact vD|exact vO|exact vP|exact vA|exact vF|exact vR|exact vN|exact vY|exact vT|exact vM|exact vL|exact vX))|(apply q_as; (first|exact vD|exact vO|exact vP|exact vA|exact vF|exact vR|exact vN|exact vY|exact vT|exact vM|exact vL|exact vX))
    | (apply q_add; exact rfl; exact rfl; omega)))|(apply AWP.seq)|(apply ACont_normal)|(apply W.region; kernel_rfl)|(apply Walk.nil)
  | (apply AWP.block)))
  refine AWP.loopE (α := Unit) (fun _ => True) (fun _ => ⟨[(8, iV 1), (2, iV 0)], O⟩) (fun _ => 0) () trivial ⟨rfl, by (repeat (first | exact trivial | refine ⟨rfl, ?_⟩))⟩ fun _ _ => ?_
  (repeat' (first
  | (apply W.qd; (first
    | (apply q_mv; (first|exact vD|exact vO|exact vP|exact vA|exact vF|exact vR|exact vN|exact vY|exact vT|exact vM|exact vL|exact vX))
    | (apply q_lss; exact rfl; exact rfl)))|(apply AWP.seq)|(apply ACont_normal)|(apply W.region; kernel_rfl)|(apply Walk.nil)|(apply AWP.exit)|(apply ACont_exit)|(apply ABlock_exit)
  | (apply W.condF; exact rfl)))
  exact ⟨.inr rfl, [], trivial, AVle.of_eq rfl, rfl⟩
theorem A_stableH0 {O : List Ent} {cf : FuncId} {caps : List AV} : ACalls Tryd.prog 94 [hls [], iV 0, .fn cf caps] O (.tup []) O := by
  have h := A_insSortH0 (O := O) (cf := cf) (caps := caps)
  refine acalls_of_bodyS Tryd.func94 rfl (Nat.le_of_ble_eq_true rfl) ?_
  (repeat' (first
  | (apply W.qd; (first
    | (apply q_mv; (first|exact vD|exact vO|exact vP|exact vA|exact vF|exact vR|exact vN|exact vY|exact vT|exact vM|exact vL|exact vX))
    | (apply q_as; (first|exact vD|exact vO|exact vP|exact vA|exact vF|exact vR|exact vN|exact vY|exact vT|exact vM|exact vL|exact vX))))|(apply AWP.seq)|(apply ACont_normal)|(apply W.region; kernel_rfl)|(apply Walk.nil)
  | (apply AWP.block)))
  refine AWP.loopE (α := Unit) (fun _ => True) (fun _ => ⟨[(8, iV 20), (7, iV 0), (6, iV 20), (0, hls []), (1, iV 0), (2, .fn cf caps)], O⟩) (fun _ => 0) () trivial ⟨rfl, by (repeat (first | exact trivial | refine ⟨rfl, ?_⟩))⟩ fun _ _ => ?_
  (repeat' (first
  | (apply W.qd; (first
    | (apply q_mv; (first|exact vD|exact vO|exact vP|exact vA|exact vF|exact vR|exact vN|exact vY|exact vT|exact vM|exact vL|exact vX))
    | (apply q_leq; exact rfl; exact rfl)))|(apply W.ed; (apply (e_callS (h)); exact rfl; exact rfl; (first | assumption | kernel_rfl)))|(apply AWP.seq)|(apply ACont_normal)|(apply W.region; kernel_rfl)|(apply Walk.nil)|(apply AWP.block)|(apply AWP.exit)|(apply ACont_exit)|(apply ABlock_exit)
  | (apply W.condF; exact rfl)))
  refine AWP.loopE (α := Unit) (fun _ => True) (fun _ => ⟨[(6, iV 20), (1, iV 0)], O⟩) (fun _ => 0) () trivial ⟨rfl, by (repeat (first | exact trivial | refine ⟨rfl, ?_⟩))⟩ fun _ _ => ?_
  (repeat' (first
  | (apply W.qd; (first
    | (apply q_mv; (first|exact vD|exact vO|exact vP|exact vA|exact vF|exact vR|exact vN|exact vY|exact vT|exact vM|exact vL|exact vX))
    | (apply q_lss; exact rfl; exact rfl)))|(apply AWP.seq)|(apply ACont_normal)|(apply W.region; kernel_rfl)|(apply Walk.nil)|(apply AWP.exit)|(apply ACont_exit)|(apply ABlock_exit)
  | (apply W.condF; exact rfl)))
  exact ⟨.inr rfl, [], trivial, AVle.of_eq rfl, rfl⟩
theorem A_sortStableH0 {O : List Ent} {cf : FuncId} {caps : List AV} : ACalls Tryd.prog 59 [hls [], .fn cf caps] O (.tup []) O := by
  have h := A_stableH0 (O := O) (cf := cf) (caps := caps)
  refine acalls_of_bodyS Tryd.func59 rfl (Nat.le_of_ble_eq_true rfl) ?_
  (repeat' (first
  | (apply W.qd; (first
    | (apply q_mv; (first|exact vD|exact vO|exact vP|exact vA|exact vF|exact vR|exact vN|exact vY|exact vT|exact vM|exact vL|exact vX))
    | (apply q_len_sl; exact rfl; exact rfl)))|(apply W.ed; (apply (e_callS (h)); exact rfl; exact rfl; (first | assumption | kernel_rfl)))|(apply W.region; kernel_rfl)
  | (apply Walk.nil)))
  exact ⟨.inr rfl, [], trivial, AVle.of_eq rfl, rfl⟩
def orderN (l : List Hl) : List Hl := sortN (ltH cmpH) (l.filter keepH)
theorem A_order {l : List Hl} (hl : l.length ≤ 1000000) : ACalls Tryd.prog 29 [hls l] [] (hls (orderN l)) [] := by
  refine acalls_of_body Tryd.func29 rfl (Nat.le_of_ble_eq_true rfl) ?_
  have hb := A_byLoss
  rcases Nat.eq_zero_or_pos l.length with h0 | h0
  · obtain rfl := List.eq_nil_of_length_eq_zero h0
    have hc := A_cloneH0
    have hd := A_deleteH0
    have hs := A_sortStableH0 (O := [lossB]) (cf := 96) (caps := [.opt 0 0])
    (repeat' (first
  | (apply W.qd; (first
    | (apply (q_callC (hc)); exact rfl; exact rfl; kernel_rfl; kernel_rfl; kernel_rfl)|(apply (q_callC (hd)); exact rfl; exact rfl; kernel_rfl; kernel_rfl; kernel_rfl)|(apply q_mv; (first|exact vD|exact vO|exact vP|exact vA|exact vF|exact vR|exact vN|exact vY|exact vT|exact vM|exact vL|exact vX))|(apply q_as; (first|exact vD|exact vO|exact vP|exact vA|exact vF|exact vR|exact vN|exact vY|exact vT|exact vM|exact vL|exact vX))
    | (apply q_field; exact rfl; exact rfl; exact rfl; exact rfl)))
  | (apply W.ed; (first
    | (apply (e_callJ (js := []) (hb)); exact rfl; exact rfl; exact rfl; exact rfl; exact rfl; kernel_rfl; kernel_rfl)
    | (apply (e_callJ (js := [0]) (hs)); exact rfl; exact rfl; exact rfl; exact rfl; exact rfl; kernel_rfl; kernel_rfl)))|(apply AWP.seq)|(apply ACont_normal)|(apply W.region; kernel_rfl)|(apply Walk.nil)
  | (apply AWP.ret)))
    exact Ends.sl rfl rfl
  · have hc := A_cloneH h0 hl
    have hd := A_deleteH (v := 1) h0 hl
    have hlf : (l.filter keepH).length ≤ l.length := List.length_filter_le _ _
    have hs := A_sortStableH (ver := 1) (R := List.replicate (l.length - (l.filter keepH).length) hl0) A_cmpH (X := l.filter keepH) rfl (by simp; omega)
    have hfin : AV.d (.sl 4 (((sortN (ltH cmpH) (l.filter keepH) ++ List.replicate (l.length - (l.filter keepH).length) hl0).map hlD).take (l.filter keepH).length)) = hls (orderN l) := by
      rw [← List.map_take, List.take_append_of_le_length (by rw [sortN_len]; omega), List.take_of_length_le (by rw [sortN_len]; omega)]; rfl
    generalize hls (orderN l) = G at *
    generalize sortN (ltH cmpH) (l.filter keepH) ++ List.replicate (l.length - (l.filter keepH).length) hl0 = S at *
    generalize l.filter keepH ++ List.replicate (l.length - (l.filter keepH).length) hl0 = D at *
    generalize (l.filter keepH).length = k at *
    (repeat' (first
  | (apply W.qd; (first
    | (apply q_mv; (first|exact vD|exact vO|exact vP|exact vA|exact vF|exact vR|exact vN|exact vY|exact vT|exact vM|exact vL|exact vX))|(apply q_as; (first|exact vD|exact vO|exact vP|exact vA|exact vF|exact vR|exact vN|exact vY|exact vT|exact vM|exact vL|exact vX))
    | (apply q_field; exact rfl; exact rfl; exact rfl; exact rfl)))
  | (apply W.ed; (first
    | (apply (e_callJ (js := []) (hc)); exact rfl; exact rfl; exact rfl; exact rfl; exact rfl; kernel_rfl; kernel_rfl)|(apply (e_callJ (js := [0]) (hd)); exact rfl; exact rfl; exact rfl; exact rfl; exact rfl; kernel_rfl; kernel_rfl)|(apply (e_callJ (js := []) (hb)); exact rfl; exact rfl; exact rfl; exact rfl; exact rfl; kernel_rfl; kernel_rfl)
    | (apply (e_callJ (js := [1, 0]) (hs)); exact rfl; exact rfl; exact rfl; exact rfl; exact rfl; kernel_rfl; kernel_rfl)))|(apply AWP.seq)|(apply ACont_normal)|(apply W.region; kernel_rfl)|(apply Walk.nil)
  | (apply AWP.ret)))
    exact ⟨.inl rfl, [], [.osl 0 1 0 k], rfl, ⟨rfl, trivial⟩, AVle.of_eq ((frz_rowT rfl rfl).trans hfin), rfl⟩
end Go.Proofs.YtaclmbbiegklcaaDoor
end
section
/- Structs of numbers and texts, and of structs of such, compared. No program in sight. -/
namespace Go.Proofs.YtaclmbbiegklcaaDoor
open Go.RowKit
inductive Lf where
  | i (o : Nat)
  | s (o : Nat)
def fldsD (P : Program) : Nat → Nat → Nat → List Field → Option (List Lf)
  | 0, _, _, _ => none
  | n + 1, off, sz, [] => some []
  | n + 1, off, sz, f :: fs =>
    if f.name = "_" then none else
    match fldsD P n off sz fs with
    | none => none
    | some rest =>
      match P.underlying f.type with
      | some (.int _) => if f.offset < sz then some (.i (off + f.offset) :: rest) else none
      | some .string => if f.offset < sz then some (.s (off + f.offset) :: rest) else none
      | some (.struct fs2) => if P.stoodInHeld f.type then none else
        match P.info? f.type with
        | none => none
        | some inf => if f.offset + inf.size ≤ sz then (match fldsD P n (off + f.offset) inf.size fs2.toList with | some l => some (l ++ rest) | none => none) else none
      | _ => none
def eqLf (xs ys : Array Value) : List Lf → Option Bool
  | [] => some true
  | .i o :: os => match xs[o]?, ys[o]?, eqLf xs ys os with
    | some (.int k a), some (.int k' b), some r => if k = k' then some (decide (a = b) && r) else none
    | _, _, _ => none
  | .s o :: os => match xs[o]?, ys[o]?, eqLf xs ys os with
    | some (.string a), some (.string b), some r => some ((a.toList == b.toList) && r)
    | _, _, _ => none
theorem eqLf_app {xs ys : Array Value} : ∀ {A B : List Lf} {b : Bool}, eqLf xs ys (A ++ B) = some b → ∃ b1 b2, eqLf xs ys A = some b1 ∧ eqLf xs ys B = some b2 ∧ b = (b1 && b2)
  | [], B, b, h => ⟨true, b, rfl, h, by simp⟩
  | .i o :: A, B, b, h => by
    simp only [List.cons_append, eqLf] at h ⊢
    split at h
    · rename_i k a k' a' r h1 h2 h3
      split at h
      · rename_i hk
        obtain ⟨b1, b2, e1, e2, rfl⟩ := eqLf_app h3
        rw [h1, h2, e1]
        simp only [Option.some.injEq] at h
        exact ⟨decide (a = a') && b1, b2, by simp [hk], e2, by rw [← h, Bool.and_assoc]⟩
      · cases h
    · cases h
  | .s o :: A, B, b, h => by
    simp only [List.cons_append, eqLf] at h ⊢
    split at h
    · rename_i a a' r h1 h2 h3
      obtain ⟨b1, b2, e1, e2, rfl⟩ := eqLf_app h3
      rw [h1, h2, e1]
      simp only [Option.some.injEq] at h
      exact ⟨(a.toList == a'.toList) && b1, b2, rfl, e2, by rw [← h, Bool.and_assoc]⟩
    · cases h
theorem run_eqD {P : Program} {w : World} : ∀ (n d off sz : Nat) (fs : List Field) (os : List Lf) (xs ys X Y : Array Value) (b : Bool), fldsD P n off sz fs = some os → (∀ i, i < sz → X[i]? = xs[off + i]?) → (∀ i, i < sz → Y[i]? = ys[off + i]?) → eqLf xs ys os = some b → (Op.eqFields (d + n) X Y fs).run P w = .ok b w
  | 0, d, off, sz, fs, os, xs, ys, X, Y, b, h, hX, hY, hb => by simp [fldsD] at h
  | n + 1, d, off, sz, [], os, xs, ys, X, Y, b, h, hX, hY, hb => by
    simp only [fldsD, Option.some.injEq] at h
    subst h
    simp only [eqLf, Option.some.injEq] at hb
    subst hb
    rfl
  | n + 1, d, off, sz, f :: fs, os, xs, ys, X, Y, b, h, hX, hY, hb => by
    simp only [fldsD] at h
    split at h
    · cases h
    · rename_i hne
      split at h
      · cases h
      · rename_i rest hrest
        have tail : ∀ r, eqLf xs ys rest = some r → (Op.eqFields (d + (n + 1)) X Y fs).run P w = .ok r w := fun r hr => by
          have := run_eqD (w := w) n (d + 1) off sz fs rest xs ys X Y r hrest hX hY hr
          rwa [show d + 1 + n = d + (n + 1) by omega] at this
        have fin : ∀ (a c : Value) (q r : Bool), (part f.type X f.offset).run P w = .ok a w → (part f.type Y f.offset).run P w = .ok c w → (Op.equalIn (d + (n + 1)) f.type a c).run P w = .ok q w → eqLf xs ys rest = some r → (Op.eqFields (d + (n + 1)) X Y (f :: fs)).run P w = .ok (q && r) w := fun a c q r e1 e2 e3 hr => by
          simp only [Op.eqFields, hne, ne_eq, not_false_eq_true, if_true, Sem.run_bind, e1, e2, e3, Result.andThen_ok, Sem.run_ite]
          cases q with
          | true => simpa using tail r hr
          | false => simp
        split at h
        · rename_i k hk
          split at h
          · rename_i hlt
            obtain rfl : Lf.i (off + f.offset) :: rest = os := by simpa using h
            simp only [eqLf] at hb
            split at hb
            · rename_i k1 a k2 c r h1 h2 h3
              split at hb
              · rename_i hkk
                subst hkk
                obtain rfl : (decide (a = c) && r) = b := by simpa using hb
                have hia : (isAgg f.type).run P w = .ok false w := by simp [isAgg, run_underlying hk]
                refine fin (.int k1 a) (.int k1 c) (decide (a = c)) r (by simp [part, hia, hX _ hlt, h1]) (by simp [part, hia, hY _ hlt, h2]) ?_ h3
                rw [show d + (n + 1) = (d + n) + 1 by omega, run_equalIn_int w (d + n) f.type k1 k a c hk]
                congr 1
              · cases hb
            · cases hb
          · cases h
        · rename_i hk
          split at h
          · rename_i hlt
            obtain rfl : Lf.s (off + f.offset) :: rest = os := by simpa using h
            simp only [eqLf] at hb
            split at hb
            · rename_i a c r h1 h2 h3
              obtain rfl : ((a.toList == c.toList) && r) = b := by simpa using hb
              have hia : (isAgg f.type).run P w = .ok false w := by simp [isAgg, run_underlying hk]
              refine fin (.string a) (.string c) (a.toList == c.toList) r (by simp [part, hia, hX _ hlt, h1]) (by simp [part, hia, hY _ hlt, h2]) ?_ h3
              rw [show d + (n + 1) = (d + n) + 1 by omega, run_equalIn_string w (d + n) f.type a c hk]
            · cases hb
          · cases h
        · rename_i fs2 hk
          split at h
          · cases h
          · rename_i hst
            split at h
            · cases h
            · rename_i inf hi
              split at h
              · rename_i hfit
                split at h
                · rename_i l hl
                  obtain rfl : l ++ rest = os := by simpa using h
                  obtain ⟨b1, b2, g1, g2, rfl⟩ := eqLf_app hb
                  have hia : (isAgg f.type).run P w = .ok true w := by simp [isAgg, run_underlying hk]
                  have hsz : (sizeOf f.type).run P w = .ok inf.size w := by simp [sizeOf, typeInfo, hi]
                  have hfo : P.fieldsOf f.type = fs2 := by simp [Program.fieldsOf, hk]
                  refine fin (.agg (X.extract f.offset (f.offset + inf.size))) (.agg (Y.extract f.offset (f.offset + inf.size))) b1 b2 (by simp [part, hia, hsz]) (by simp [part, hia, hsz]) ?_ g2
                  rw [show d + (n + 1) = (d + n) + 1 by omega, run_equalIn_struct w (d + n) f.type _ _ (by rw [hfo]; exact hk) (by simpa using hst), hfo]
                  refine run_eqD n d (off + f.offset) inf.size fs2.toList l xs ys _ _ b1 hl (fun i hi => ?_) (fun i hi => ?_) g1
                  · have := hX (f.offset + i) (by omega)
                    rw [show off + f.offset + i = off + (f.offset + i) by omega, ← this, Array.getElem?_extract]
                    split
                    · rfl
                    · rename_i hne2
                      rw [Array.getElem?_eq_none (by omega)]
                  · have := hY (f.offset + i) (by omega)
                    rw [show off + f.offset + i = off + (f.offset + i) by omega, ← this, Array.getElem?_extract]
                    split
                    · rfl
                    · rename_i hne2
                      rw [Array.getElem?_eq_none (by omega)]
                · cases h
              · cases h
        · cases h
def fldsT (P : Program) (t : TypeId) : Option (List Lf) :=
  match P.underlying t, P.info? t with
  | some (.struct fs), some inf => if P.stoodInHeld t || P.eqGuardType P.depth t then none else fldsD P 30 0 inf.size fs.toList
  | _, _ => none
theorem run_eqT {P : Program} {t : TypeId} {os : List Lf} (h : fldsT P t = some os) {xs ys : Array Value} {b : Bool} (hb : eqLf xs ys os = some b) (x y : Operand) (w : World) :
    (do eqGuard .eql t x y (.agg xs) (.agg ys); binOp .eql t (.agg xs) (.agg ys) : Sem Value).run P w = .ok (.bool b) w ∧ (do eqGuard .neq t x y (.agg xs) (.agg ys); binOp .neq t (.agg xs) (.agg ys) : Sem Value).run P w = .ok (.bool (!b)) w := by
  unfold fldsT at h
  split at h
  · rename_i fs inf hu hi
    split at h
    · cases h
    · rename_i hc
      simp only [Bool.or_eq_true, not_or, Bool.not_eq_true] at hc
      have hfo : P.fieldsOf t = fs := by simp [Program.fieldsOf, hu]
      have e := run_eqD (P := P) (w := w) 30 9969 0 inf.size fs.toList os xs ys xs ys b h (fun i _ => by rw [Nat.zero_add]) (fun i _ => by rw [Nat.zero_add]) hb
      have e2 : (Op.equalIn 10000 t (.agg xs) (.agg ys)).run P w = .ok b w := by
        rw [run_equalIn_struct w 9999 t xs ys (by rw [hfo]; exact hu) hc.1, hfo]; exact e
      constructor
      · rw [Sem.run_bind, run_eqGuard_agg _ _ _ _ _ _ _ hc.2, Result.andThen_ok, run_eql_struct, e2]; rfl
      · rw [Sem.run_bind, run_eqGuard_agg _ _ _ _ _ _ _ hc.2, Result.andThen_ok, run_neq_struct, e2]; rfl
  · cases h
section
variable {P : Program} {m : Nat} {dst : Option Tmp} {ty : TypeId} {pos : String} {af : Array Edge} {env : List (Nat × AV)} {own : List Ent} {gd : Option (Nat × Bool)}
theorem q_eqT {t t' : TypeId} {os : List Lf} {x y : Operand} {l1 l2 : List AV} {vs1 vs2 : List Value} {b b' : Bool} (hf : fldsT P t = some os) (hx : lookO env x = .agg l1) (hy : lookO env y = .agg l2) (h1 : l1.mapM valA = some vs1) (h2 : l2.mapM valA = some vs2) (hb : eqLf vs1.toArray vs2.toArray os = some b) (he : b = b') :
    Quiet P m ⟨dst, .binOp .eql t x y t', ty, pos, af, gd⟩ env own [] (bV b') := Quiet.val fun F own' κ a w hs _ _ _ => by
  subst he
  have g1 := hs x (by simp [Op.operands]); rw [hx] at g1
  have g2 := hs y (by simp [Op.operands]); rw [hy] at g2
  refine ⟨.bool b, exec_v ?_, sat_v.2 rfl⟩
  rw [valL_eq h1 g1, valL_eq h2 g2]; exact (run_eqT hf hb x y w).1
theorem q_neT {t t' : TypeId} {os : List Lf} {x y : Operand} {l1 l2 : List AV} {vs1 vs2 : List Value} {b b' : Bool} (hf : fldsT P t = some os) (hx : lookO env x = .agg l1) (hy : lookO env y = .agg l2) (h1 : l1.mapM valA = some vs1) (h2 : l2.mapM valA = some vs2) (hb : eqLf vs1.toArray vs2.toArray os = some b) (he : (!b) = b') :
    Quiet P m ⟨dst, .binOp .neq t x y t', ty, pos, af, gd⟩ env own [] (bV b') := Quiet.val fun F own' κ a w hs _ _ _ => by
  subst he
  have g1 := hs x (by simp [Op.operands]); rw [hx] at g1
  have g2 := hs y (by simp [Op.operands]); rw [hy] at g2
  refine ⟨.bool (!b), exec_v ?_, sat_v.2 rfl⟩
  rw [valL_eq h1 g1, valL_eq h2 g2]; exact (run_eqT hf hb x y w).2
end
end Go.Proofs.YtaclmbbiegklcaaDoor
end
section
/- Layer 36 over the machine of abstract values: Have, Left, Full, Worst; the statements' own small functions. -/
namespace Go.Proofs.YtaclmbbiegklcaaDoor
open Go.RowKit
set_option maxHeartbeats 4000000
set_option maxRecDepth 100000
def haveN (l : List Int) : List Bool := l.map fun s => decide (s = 1)
theorem haveN_len (l : List Int) : (haveN l).length = l.length := by unfold haveN; simp
def havK (l : List Int) (k : Nat) : List Bool := haveN (l.take k) ++ List.replicate (l.length - k) false
theorem havK_len (l : List Int) (k : Nat) (h : k ≤ l.length) : (havK l k).length = l.length := by unfold havK; rw [List.length_append, haveN_len, List.length_take, List.length_replicate]; omega
theorem havK_step (l : List Int) (k : Nat) (h : k < l.length) : (havK l k).set k (decide (l[k] = 1)) = havK l (k + 1) := by
  unfold havK
  have e1 : l.length - k = (l.length - (k + 1)) + 1 := by omega
  have e2 : (haveN (l.take k)).length = k := by rw [haveN_len, List.length_take]; omega
  rw [e1, List.replicate_succ]
  have := set_mid (haveN (l.take k)) (List.replicate (l.length - (k + 1)) false) false (decide (l[k] = 1))
  rw [e2] at this
  rw [this, List.take_succ_eq_append_getElem h]
  unfold haveN
  rw [List.map_append]
  simp only [List.map_cons, List.map_nil, List.append_assoc, List.cons_append, List.nil_append]
theorem havK_all (l : List Int) : havK l l.length = haveN l := by unfold havK; simp
def worstK (l : List Hl) : Nat → Int
  | 0 => 4
  | k + 1 => if k = 0 ∨ (l.getD k hl0).2.2.1 < worstK l k then (l.getD k hl0).2.2.1 else worstK l k
def worstN (l : List Hl) : Int := worstK l l.length
theorem eqHl (x y : Hl) : (decide (x.1 = y.1) && (decide (x.2.1 = y.2.1) && (decide (x.2.2.1 = y.2.2.1) && (decide (x.2.2.2 = y.2.2.2) && true)))) = decide (x = y) := by
  obtain ⟨a, b, c, d⟩ := x
  obtain ⟨a', b', c', d'⟩ := y
  rw [Bool.eq_iff_iff]
  simp
theorem fi_health : fldsT Tryd.prog 60 = some [.i 0, .i 1, .i 2, .i 3] := by kernel_rfl
attribute [local irreducible] Quiet Eff OpOk AWPG ACont ABlock ACalls AGoto
theorem A_have {l : List Int} (hl : l.length ≤ 1000000) : ACalls Tryd.prog 28 [ints l] [] (bools (haveN l)) [] := by
  refine acalls_of_body Tryd.func28 rfl (Nat.le_of_ble_eq_true rfl) ?_
  have hm : (l.map iD).length = l.length := List.length_map _
  (repeat' (first
  | (apply W.qd; (first
    | (apply q_mv; (first|exact vD|exact vO|exact vP|exact vA|exact vF|exact vR|exact vN|exact vY|exact vT|exact vM|exact vL|exact vX))|(apply q_as; (first|exact vD|exact vO|exact vP|exact vA|exact vF|exact vR|exact vN|exact vY|exact vT|exact vM|exact vL|exact vX))
    | (apply q_len_sl; exact rfl; exact rfl)))|(apply W.ed; ((apply (e_makeG (f := tD) false); exact rfl; exact rfl; exact rfl; exact rfl; exact rfl; exact rfl; exact rfl; exact rfl; exact rfl; exact rfl; omega)))|(apply AWP.seq)|(apply ACont_normal)|(apply W.region; kernel_rfl)|(apply Walk.nil)
  | (apply AWP.block)))
  refine AWP.loopW (α := Nat) (fun k => k ≤ l.length) (fun k => ⟨[(11, iV k), (10, iV l.length), (9, ints l), (3, .osl 0 0 0 l.length)], [.row 0 1 4 ((havK l k).map tD)]⟩) (fun k => l.length - k) 0 (Nat.zero_le _) ?wk0 fun k hk => ?_
  case wk0 =>
    have e : havK l 0 = List.replicate l.length false := by unfold havK; simp [haveN]
    rw [e, ← hm]
    exact ⟨[0], rfl, rfl, rfl, rfl, rfl, rfl, rfl, trivial⟩
  have hkl0 := havK_len l k hk
  by_cases hkl : k < l.length
  · have hs := Lib.hid (havK_step l k hkl)
    generalize havK l k = A at *
    (repeat' (first
  | (apply W.qd; (first
    | (apply q_mv; (first|exact vD|exact vO|exact vP|exact vA|exact vF|exact vR|exact vN|exact vY|exact vT|exact vM|exact vL|exact vX))|(apply q_as; (first|exact vD|exact vO|exact vP|exact vA|exact vF|exact vR|exact vN|exact vY|exact vT|exact vM|exact vL|exact vX))|(apply q_lss; exact rfl; exact rfl)|(apply q_eql; exact rfl; exact rfl)|(apply q_add; exact rfl; exact rfl; omega)|(apply q_ld_map; exact rfl; exact rfl; exact rfl; (first | omega | (focus (simp; done))))|(apply q_ix_slF; exact rfl; exact rfl; exact rfl; exact rfl; (first | (with_reducible exact rfl) | exact natI_spec rfl | assumption | exact (Int.toNat_of_nonneg (by omega)).symm); (first | omega | (focus (simp only [List.length_map]; omega)) | (focus (simp; done)) | (focus (simp; omega))))
    | (apply q_ix_osl0; exact rfl; exact rfl; exact rfl; exact rfl; (first | (with_reducible exact rfl) | exact natI_spec rfl | assumption | exact (Int.toNat_of_nonneg (by omega)).symm); (first | omega | (focus (simp only [List.length_map]; omega)) | (focus (simp; done)) | (focus (simp; omega))))))|(apply W.ln; (apply l_st_rpt; exact rfl; exact rfl; exact rfl; exact rfl; exact rfl; exact rfl; exact rfl; exact fun _ => rfl; (first | omega | (focus (simp only [List.length_map]; omega)) | (focus (simp; omega)))))|(apply AWP.seq)|(apply ACont_normal)|(apply W.region; kernel_rfl)|(apply Walk.nil)|(apply AWP.block)|(apply AWP.skip)|(apply ABlock_normal)
  | (refine W.cond _ rfl (fun hb => ?_) (fun hb => ?_) <;> ((try simp only [hb, Bool.not_true, Bool.not_false]) <;> (try simp only [decide_eq_true_eq, decide_eq_false_iff_not, Bool.not_eq_true', Bool.not_eq_false', Int.not_lt, Int.not_le, List.length_map, not_true_eq_false] at hb) <;> (try (exfalso; omega))))))
    refine ⟨k + 1, by omega, by omega, ?_⟩
    rw [← hs.out]
    exact ⟨[0], rfl, rfl, rfl, iV_eq (by omega), rfl, rfl, rfl, trivial⟩
  · have e : k = l.length := by omega
    subst e
    rw [havK_all] at *
    (repeat' (first
  | (apply W.qd; (first
    | (apply q_mv; (first|exact vD|exact vO|exact vP|exact vA|exact vF|exact vR|exact vN|exact vY|exact vT|exact vM|exact vL|exact vX))|(apply q_as; (first|exact vD|exact vO|exact vP|exact vA|exact vF|exact vR|exact vN|exact vY|exact vT|exact vM|exact vL|exact vX))
    | (apply q_lss; exact rfl; exact rfl)))|(apply AWP.seq)|(apply ACont_normal)|(apply W.region; kernel_rfl)|(apply Walk.nil)|(apply AWP.exit)|(apply AWP.ret)|(apply ACont_exit)|(apply ABlock_exit)
  | (refine W.cond _ rfl (fun hb => ?_) (fun hb => ?_) <;> ((try simp only [hb, Bool.not_true, Bool.not_false]) <;> (try simp only [decide_eq_true_eq, decide_eq_false_iff_not, Bool.not_eq_true', Bool.not_eq_false', Int.not_lt, Int.not_le, List.length_map, not_true_eq_false] at hb) <;> (try (exfalso; omega))))))
    exact Ends.osl rfl rfl (by rw [List.length_map]; exact hkl0.symm) rfl
theorem A_hleft {nm : List Nat} {M D dom : Int} {par : List (List Int)} {l : List Int} (h : FIn nm D par) (hl : l.length ≤ 1000000) : ACalls Tryd.prog 27 [cdF nm M D par dom, ints l] [] (iV (leftC nm M D par dom (haveN l))) [] := by
  refine acalls_of_body Tryd.func27 rfl (Nat.le_of_ble_eq_true rfl) ?_
  have h1 := A_have hl
  have h2 := A_left (M := M) (dom := dom) (hv := haveN l) h (by rw [haveN_len]; omega)
  (repeat' (first
  | (apply W.qd; (first
    | (apply (q_callC (h1)); exact rfl; exact rfl; kernel_rfl; kernel_rfl; kernel_rfl)|(apply (q_callC (h2)); exact rfl; exact rfl; kernel_rfl; kernel_rfl; kernel_rfl)|(apply q_mv; (first|exact vD|exact vO|exact vP|exact vA|exact vF|exact vR|exact vN|exact vY|exact vT|exact vM|exact vL|exact vX))|(apply q_as; (first|exact vD|exact vO|exact vP|exact vA|exact vF|exact vR|exact vN|exact vY|exact vT|exact vM|exact vL|exact vX))
    | (apply q_ld_boxF; exact rfl; exact rfl; exact rfl; exact rfl)))|(apply W.ed; (apply e_boxF; exact rfl; exact rfl; exact rfl; kernel_rfl; kernel_rfl))|(apply AWP.seq)|(apply ACont_normal)|(apply W.region; kernel_rfl)|(apply W.regionD; exact rfl; kernel_rfl)|(apply Walk.nil)|(apply W.chk; kernel_rfl)
  | (apply AWP.ret)))
  exact Ends.i rfl rfl
theorem A_full1 (x : Int) : ACalls Tryd.prog 71 [iV x] [] (bV (decide (x ≠ 1))) [] := by
  refine acalls_of_body Tryd.func71 rfl (Nat.le_of_ble_eq_true rfl) ?_
  (repeat' (first
  | (apply W.qd; (first
    | (apply q_mv; (first|exact vD|exact vO|exact vP|exact vA|exact vF|exact vR|exact vN|exact vY|exact vT|exact vM|exact vL|exact vX))|(apply q_as; (first|exact vD|exact vO|exact vP|exact vA|exact vF|exact vR|exact vN|exact vY|exact vT|exact vM|exact vL|exact vX))
    | (apply q_neq; exact rfl; exact rfl)))|(apply AWP.seq)|(apply ACont_normal)|(apply W.region; kernel_rfl)|(apply Walk.nil)
  | (apply AWP.ret)))
  exact Ends.b rfl (by simp)
def fullN (nm : List Nat) (M D : Int) (par : List (List Int)) (dom : Int) (l : List Int) : Bool := !(l.any fun x => decide (x ≠ 1)) && decide (0 ≤ leftC nm M D par dom (haveN l))
theorem A_full {nm : List Nat} {M D dom : Int} {par : List (List Int)} {l : List Int} (h : FIn nm D par) (hl : l.length ≤ 1000000) : ACalls Tryd.prog 35 [cdF nm M D par dom, ints l] [] (bV (fullN nm M D par dom l)) [] := by
  refine acalls_of_body Tryd.func35 rfl (Nat.le_of_ble_eq_true rfl) ?_
  have h1 := A_contains_int (O := []) (caps := []) (fun x => decide (x ≠ 1)) l (by omega) (by kernel_rfl) (fun x _ => A_full1 x)
  have h2 := A_hleft (M := M) (dom := dom) h hl
  unfold fullN
  cases hq : l.any fun x => decide (x ≠ 1) with
  | false =>
    rw [hq] at h1
    (repeat' (first
  | (apply W.gOn; exact rfl; exact rfl)
  | (apply W.qd; (first
    | (apply (q_callC (h1)); exact rfl; exact rfl; kernel_rfl; kernel_rfl; kernel_rfl)|(apply (q_callC (h2)); exact rfl; exact rfl; kernel_rfl; kernel_rfl; kernel_rfl)|(apply q_mv; (first|exact vD|exact vO|exact vP|exact vA|exact vF|exact vR|exact vN|exact vY|exact vT|exact vM|exact vL|exact vX))|(apply q_as; (first|exact vD|exact vO|exact vP|exact vA|exact vF|exact vR|exact vN|exact vY|exact vT|exact vM|exact vL|exact vX))|(apply q_ld_boxF; exact rfl; exact rfl; exact rfl; exact rfl)|(apply q_geq; exact rfl; exact rfl)|(apply q_not; exact rfl)
    | (apply (q_pickT (u := .d _)); exact rfl; exact rfl)))|(apply W.ed; (apply e_boxF; exact rfl; exact rfl; exact rfl; kernel_rfl; kernel_rfl))|(apply AWP.seq)|(apply ACont_normal)|(apply W.region; kernel_rfl)|(apply Walk.nil)
  | (apply AWP.ret)))
    all_goals exact Ends.b rfl (by simp)
  | true =>
    rw [hq] at h1
    (repeat' (first
  | (apply W.qd; (first
    | (apply (q_callC (h1)); exact rfl; exact rfl; kernel_rfl; kernel_rfl; kernel_rfl)|(apply q_mv; (first|exact vD|exact vO|exact vP|exact vA|exact vF|exact vR|exact vN|exact vY|exact vT|exact vM|exact vL|exact vX))|(apply q_as; (first|exact vD|exact vO|exact vP|exact vA|exact vF|exact vR|exact vN|exact vY|exact vT|exact vM|exact vL|exact vX))|(apply q_not; exact rfl)
    | (apply (q_pickF (u := .d _)); exact rfl; exact rfl)))|(apply W.ed; (apply e_boxF; exact rfl; exact rfl; exact rfl; kernel_rfl; kernel_rfl))|(refine W.gOff _ _ rfl rfl (by intro h; cases h) ?_)|(apply AWP.seq)|(apply ACont_normal)|(apply W.region; kernel_rfl)|(apply Walk.nil)
  | (apply AWP.ret)))
    all_goals exact Ends.b rfl (by simp)
theorem A_worst {l : List Hl} (hl : l.length ≤ 9223372036854775807) : ACalls Tryd.prog 31 [hls l] [] (iV (worstN l)) [] := by
  refine acalls_of_body Tryd.func31 rfl (Nat.le_of_ble_eq_true rfl) ?_
  have hm : (l.map hlD).length = l.length := List.length_map _
  (repeat' (first
  | (apply W.qd; (first
    | (apply q_mv; (first|exact vD|exact vO|exact vP|exact vA|exact vF|exact vR|exact vN|exact vY|exact vT|exact vM|exact vL|exact vX))|(apply q_as; (first|exact vD|exact vO|exact vP|exact vA|exact vF|exact vR|exact vN|exact vY|exact vT|exact vM|exact vL|exact vX))
    | (apply q_len_sl; exact rfl; exact rfl)))|(apply AWP.seq)|(apply ACont_normal)|(apply W.region; kernel_rfl)|(apply Walk.nil)
  | (apply AWP.block)))
  refine AWP.loopW (α := Nat) (fun k => k ≤ l.length) (fun k => ⟨[(8, iV k), (7, iV l.length), (6, hls l), (3, iV (worstK l k))], []⟩) (fun k => l.length - k) 0 (Nat.zero_le _) ?wk0 fun k hk => ?_
  case wk0 => exact ⟨[], rfl, rfl, rfl, rfl, iV_eq (by rw [hm]), rfl, rfl, trivial⟩
  by_cases hkl : k < l.length
  · have eg : l.getD k hl0 = l[k] := by rw [List.getD_eq_getElem?_getD, List.getElem?_eq_getElem hkl]; rfl
    have hs : worstK l (k + 1) = if k = 0 ∨ l[k].2.2.1 < worstK l k then l[k].2.2.1 else worstK l k := by
      show (if k = 0 ∨ (l.getD k hl0).2.2.1 < worstK l k then (l.getD k hl0).2.2.1 else worstK l k) = _
      rw [eg]
    replace hs := Lib.hid hs
    generalize worstK l k = A at *
    (repeat' (first
  | (apply W.gOn; exact rfl; exact rfl)
  | (apply W.qd; (first
    | (apply q_mv; (first|exact vD|exact vO|exact vP|exact vA|exact vF|exact vR|exact vN|exact vY|exact vT|exact vM|exact vL|exact vX))|(apply q_as; (first|exact vD|exact vO|exact vP|exact vA|exact vF|exact vR|exact vN|exact vY|exact vT|exact vM|exact vL|exact vX))|(apply q_fld_optF; exact rfl; exact rfl; exact rfl)|(apply q_ld_box; exact rfl; exact rfl; exact rfl; exact rfl)|(apply q_lss; exact rfl; exact rfl)|(apply q_eql; exact rfl; exact rfl)|(apply q_add; exact rfl; exact rfl; omega)|(apply q_ld_maps; exact rfl; exact rfl; exact rfl; (first | omega | (focus (simp; done))))|(apply q_ix_slF; exact rfl; exact rfl; exact rfl; exact rfl; (first | (with_reducible exact rfl) | exact natI_spec rfl | assumption | exact (Int.toNat_of_nonneg (by omega)).symm); (first | omega | (focus (simp only [List.length_map]; omega)) | (focus (simp; done)) | (focus (simp; omega))))|(apply (q_pickT (u := .d _)); exact rfl; exact rfl)
    | (apply (q_pickF (u := .d _)); exact rfl; exact rfl)))|(apply W.ed; (apply e_allocF; exact rfl; exact rfl; exact rfl; kernel_rfl))|(apply W.ln; (apply l_st_box; exact rfl; exact rfl; exact rfl; exact rfl; exact rfl; exact rfl; kernel_rfl; kernel_rfl; kernel_rfl))|(refine W.gOff _ _ rfl rfl (by intro h; cases h) ?_)|(apply AWP.seq)|(apply ACont_normal)|(apply W.region; kernel_rfl)|(apply Walk.nil)|(apply AWP.block)|(apply AWP.skip)|(apply ABlock_normal)|(apply W.condT; exact rfl)|(refine W.gF _ _ rfl rfl (fun hb => ?_) (fun hb => ?_) <;> ((try simp only [hb, Bool.not_true, Bool.not_false]) <;> (try simp only [decide_eq_true_eq, decide_eq_false_iff_not, Bool.not_eq_true', Bool.not_eq_false', Int.not_lt, Int.not_le, List.length_map, not_true_eq_false] at hb) <;> (try (exfalso; omega))))
  | (refine W.cond _ rfl (fun hb => ?_) (fun hb => ?_) <;> ((try simp only [hb, Bool.not_true, Bool.not_false]) <;> (try simp only [decide_eq_true_eq, decide_eq_false_iff_not, Bool.not_eq_true', Bool.not_eq_false', Int.not_lt, Int.not_le, List.length_map, not_true_eq_false] at hb) <;> (try (exfalso; omega))))))
    all_goals refine ⟨k + 1, by omega, by omega, ?_⟩
    all_goals rw [hs.out]
    all_goals first
      | (rw [if_pos (by omega)]; exact ⟨[], rfl, rfl, rfl, iV_eq (by omega), rfl, rfl, rfl, trivial⟩)
      | (rw [if_neg (by omega)]; exact ⟨[], rfl, rfl, rfl, iV_eq (by omega), rfl, rfl, rfl, trivial⟩)
  · have e : k = l.length := by omega
    subst e
    (repeat' (first
  | (apply W.qd; (first
    | (apply q_mv; (first|exact vD|exact vO|exact vP|exact vA|exact vF|exact vR|exact vN|exact vY|exact vT|exact vM|exact vL|exact vX))|(apply q_as; (first|exact vD|exact vO|exact vP|exact vA|exact vF|exact vR|exact vN|exact vY|exact vT|exact vM|exact vL|exact vX))
    | (apply q_lss; exact rfl; exact rfl)))|(apply AWP.seq)|(apply ACont_normal)|(apply W.region; kernel_rfl)|(apply Walk.nil)|(apply AWP.exit)|(apply AWP.ret)|(apply ACont_exit)|(apply ABlock_exit)
  | (refine W.cond _ rfl (fun hb => ?_) (fun hb => ?_) <;> ((try simp only [hb, Bool.not_true, Bool.not_false]) <;> (try simp only [decide_eq_true_eq, decide_eq_false_iff_not, Bool.not_eq_true', Bool.not_eq_false', Int.not_lt, Int.not_le, List.length_map, not_true_eq_false] at hb) <;> (try (exfalso; omega))))))
    exact Ends.i rfl rfl
theorem A_list36 {a b : List Hl} (ha : a.length ≤ 1000000) (hb : b.length ≤ 1000000) : ACalls Tryd.prog 54 [hls a, hls b] [] (bV (decide (a = b))) [] := by
  refine acalls_of_body Tryd.func54 rfl (Nat.le_of_ble_eq_true rfl) ?_
  have hma : (a.map hlD).length = a.length := List.length_map _
  have hmb : (b.map hlD).length = b.length := List.length_map _
  by_cases hl : a.length = b.length
  · (repeat' (first
  | (apply W.qd; (first
    | (apply q_mv; (first|exact vD|exact vO|exact vP|exact vA|exact vF|exact vR|exact vN|exact vY|exact vT|exact vM|exact vL|exact vX))|(apply q_as; (first|exact vD|exact vO|exact vP|exact vA|exact vF|exact vR|exact vN|exact vY|exact vT|exact vM|exact vL|exact vX))|(apply q_neq; exact rfl; exact rfl)
    | (apply q_len_sl; exact rfl; exact rfl)))|(apply AWP.seq)|(apply ACont_normal)|(apply W.region; kernel_rfl)|(apply Walk.nil)|(apply AWP.block)|(apply AWP.skip)
  | (refine W.cond _ rfl (fun hb => ?_) (fun hb => ?_) <;> ((try simp only [hb, Bool.not_true, Bool.not_false]) <;> (try simp only [decide_eq_true_eq, decide_eq_false_iff_not, Bool.not_eq_true', Bool.not_eq_false', Int.not_lt, Int.not_le, List.length_map, not_true_eq_false] at hb) <;> (try (exfalso; omega))))))
    refine AWP.loopW (α := Nat) (fun k => k ≤ a.length ∧ a.take k = b.take k) (fun k => ⟨[(5, iV k), (0, hls a), (1, hls b)], []⟩) (fun k => a.length - k) 0 ⟨Nat.zero_le _, rfl⟩ ⟨[], rfl, rfl, rfl, by (repeat (first | exact trivial | refine ⟨rfl, ?_⟩))⟩ fun k hk => ?_
    by_cases hka : k < a.length
    · have hkb : k < b.length := by omega
      by_cases he : a[k] = b[k]
      · have hd : decide (a[k] = b[k]) = true := decide_eq_true he
        have hnext : a.take (k + 1) = b.take (k + 1) := by rw [List.take_succ_eq_append_getElem hka, List.take_succ_eq_append_getElem hkb, hk.2, he]
        have h2 := eqHl a[k] b[k]
        rw [hd] at h2
        clear he hd
        (repeat' (first
  | (apply W.qd; (first
    | ((apply (q_neT fi_health); exact rfl; exact rfl; exact rfl; exact rfl; exact rfl; exact congrArg not h2))|(apply q_mv; (first|exact vD|exact vO|exact vP|exact vA|exact vF|exact vR|exact vN|exact vY|exact vT|exact vM|exact vL|exact vX))|(apply q_as; (first|exact vD|exact vO|exact vP|exact vA|exact vF|exact vR|exact vN|exact vY|exact vT|exact vM|exact vL|exact vX))|(apply q_lss; exact rfl; exact rfl)|(apply q_add; exact rfl; exact rfl; omega)|(apply q_len_sl; exact rfl; exact rfl)|(apply q_ld_maps; exact rfl; exact rfl; exact rfl; (first | omega | (focus (simp; done))))
    | (apply q_ix_slF; exact rfl; exact rfl; exact rfl; exact rfl; (first | (with_reducible exact rfl) | exact natI_spec rfl | assumption | exact (Int.toNat_of_nonneg (by omega)).symm); (first | omega | (focus (simp only [List.length_map]; omega)) | (focus (simp; done)) | (focus (simp; omega))))))|(apply AWP.seq)|(apply ACont_normal)|(apply W.region; kernel_rfl)|(apply W.regionD; exact rfl; kernel_rfl)|(apply Walk.nil)|(apply W.chk; kernel_rfl)|(apply AWP.block)|(apply AWP.skip)|(apply ABlock_normal)|(apply W.condF; exact rfl)
  | (refine W.cond _ rfl (fun hb => ?_) (fun hb => ?_) <;> ((try simp only [hb, Bool.not_true, Bool.not_false]) <;> (try simp only [decide_eq_true_eq, decide_eq_false_iff_not, Bool.not_eq_true', Bool.not_eq_false', Int.not_lt, Int.not_le, List.length_map, not_true_eq_false] at hb) <;> (try (exfalso; omega))))))
        exact ⟨k + 1, ⟨by omega, hnext⟩, by omega, [], rfl, rfl, rfl, iV_eq (by omega), rfl, rfl, trivial⟩
      · have hd : decide (a[k] = b[k]) = false := decide_eq_false he
        have h2 := eqHl a[k] b[k]
        rw [hd] at h2
        have hne : decide (a = b) = false := decide_eq_false fun e => he (by subst e; rfl)
        rw [hne]
        clear he hd
        (repeat' (first
  | (apply W.qd; (first
    | ((apply (q_neT fi_health); exact rfl; exact rfl; exact rfl; exact rfl; exact rfl; exact congrArg not h2))|(apply q_mv; (first|exact vD|exact vO|exact vP|exact vA|exact vF|exact vR|exact vN|exact vY|exact vT|exact vM|exact vL|exact vX))|(apply q_as; (first|exact vD|exact vO|exact vP|exact vA|exact vF|exact vR|exact vN|exact vY|exact vT|exact vM|exact vL|exact vX))|(apply q_lss; exact rfl; exact rfl)|(apply q_len_sl; exact rfl; exact rfl)|(apply q_ld_maps; exact rfl; exact rfl; exact rfl; (first | omega | (focus (simp; done))))
    | (apply q_ix_slF; exact rfl; exact rfl; exact rfl; exact rfl; (first | (with_reducible exact rfl) | exact natI_spec rfl | assumption | exact (Int.toNat_of_nonneg (by omega)).symm); (first | omega | (focus (simp only [List.length_map]; omega)) | (focus (simp; done)) | (focus (simp; omega))))))|(apply AWP.seq)|(apply ACont_normal)|(apply W.region; kernel_rfl)|(apply W.regionD; exact rfl; kernel_rfl)|(apply Walk.nil)|(apply W.chk; kernel_rfl)|(apply AWP.block)|(apply AWP.skip)|(apply AWP.ret)|(apply ACont_ret)|(apply ABlock_ret)|(apply W.condT; exact rfl)
  | (refine W.cond _ rfl (fun hb => ?_) (fun hb => ?_) <;> ((try simp only [hb, Bool.not_true, Bool.not_false]) <;> (try simp only [decide_eq_true_eq, decide_eq_false_iff_not, Bool.not_eq_true', Bool.not_eq_false', Int.not_lt, Int.not_le, List.length_map, not_true_eq_false] at hb) <;> (try (exfalso; omega))))))
        exact Ends.b rfl rfl
    · have e : a = b := by
        have := hk.2
        rwa [List.take_of_length_le (by omega), List.take_of_length_le (by omega)] at this
      rw [decide_eq_true e]
      (repeat' (first
  | (apply W.qd; (first
    | (apply q_mv; (first|exact vD|exact vO|exact vP|exact vA|exact vF|exact vR|exact vN|exact vY|exact vT|exact vM|exact vL|exact vX))|(apply q_as; (first|exact vD|exact vO|exact vP|exact vA|exact vF|exact vR|exact vN|exact vY|exact vT|exact vM|exact vL|exact vX))|(apply q_lss; exact rfl; exact rfl)
    | (apply q_len_sl; exact rfl; exact rfl)))|(apply AWP.seq)|(apply ACont_normal)|(apply W.region; kernel_rfl)|(apply Walk.nil)|(apply AWP.exit)|(apply AWP.ret)|(apply ACont_exit)|(apply ABlock_exit)
  | (refine W.cond _ rfl (fun hb => ?_) (fun hb => ?_) <;> ((try simp only [hb, Bool.not_true, Bool.not_false]) <;> (try simp only [decide_eq_true_eq, decide_eq_false_iff_not, Bool.not_eq_true', Bool.not_eq_false', Int.not_lt, Int.not_le, List.length_map, not_true_eq_false] at hb) <;> (try (exfalso; omega))))))
      exact Ends.b rfl rfl
  · rw [decide_eq_false fun e => hl (by rw [e])]
    (repeat' (first
  | (apply W.qd; (first
    | (apply q_mv; (first|exact vD|exact vO|exact vP|exact vA|exact vF|exact vR|exact vN|exact vY|exact vT|exact vM|exact vL|exact vX))|(apply q_as; (first|exact vD|exact vO|exact vP|exact vA|exact vF|exact vR|exact vN|exact vY|exact vT|exact vM|exact vL|exact vX))|(apply q_neq; exact rfl; exact rfl)
    | (apply q_len_sl; exact rfl; exact rfl)))|(apply AWP.seq)|(apply ACont_normal)|(apply W.region; kernel_rfl)|(apply Walk.nil)|(apply AWP.ret)|(apply ACont_ret)
  | (refine W.cond _ rfl (fun hb => ?_) (fun hb => ?_) <;> ((try simp only [hb, Bool.not_true, Bool.not_false]) <;> (try simp only [decide_eq_true_eq, decide_eq_false_iff_not, Bool.not_eq_true', Bool.not_eq_false', Int.not_lt, Int.not_le, List.length_map, not_true_eq_false] at hb) <;> (try (exfalso; omega))))))
    exact Ends.b rfl rfl
theorem A_at36 (r l b : Int) : ACalls Tryd.prog 53 [iV r, iV l, iV b] [] (.agg [iV r, iV 0, iV l, iV b]) [] := by
  refine acalls_of_body Tryd.func53 rfl (Nat.le_of_ble_eq_true rfl) ?_
  (repeat' (first
  | (apply W.qd; (first
    | (apply q_mv; (first|exact vD|exact vO|exact vP|exact vA|exact vF|exact vR|exact vN|exact vY|exact vT|exact vM|exact vL|exact vX))
    | (apply q_buildF; exact rfl; exact rfl; kernel_rfl)))|(apply W.ed; (apply e_allocF; exact rfl; exact rfl; exact rfl; kernel_rfl))|(apply W.ln; (apply l_st_box; exact rfl; exact rfl; exact rfl; exact rfl; exact rfl; exact rfl; kernel_rfl; kernel_rfl; kernel_rfl))|(apply AWP.seq)|(apply ACont_normal)|(apply W.region; kernel_rfl)|(apply Walk.nil)
  | (apply AWP.ret)))
  exact ⟨.inl rfl, [], [.agg [iV r, iV 0, iV l, iV b]], rfl, ⟨⟨0, [iV r, iV 0, iV l, iV b], true, rfl, rfl, rfl, rfl⟩, trivial⟩, AVle.of_eq rfl, rfl⟩
theorem A_par36 : ACalls Tryd.prog 52 [] [] (cdF [112, 97, 114] 8 2 [[1, 1]] 3) [] := by
  refine acalls_of_body Tryd.func52 rfl (Nat.le_of_ble_eq_true rfl) ?_
  (repeat' (first
  | (apply W.qd; (first
    | (apply q_buildF; exact rfl; exact rfl; kernel_rfl)
    | (apply q_litF; exact rfl; exact rfl; exact rfl; exact rfl; exact rfl; kernel_rfl; kernel_rfl; exact rfl)))|(apply W.ed; (apply e_allocF; exact rfl; exact rfl; exact rfl; kernel_rfl))|(apply W.ln; (apply l_st_box; exact rfl; exact rfl; exact rfl; exact rfl; exact rfl; exact rfl; kernel_rfl; kernel_rfl; kernel_rfl))|(apply AWP.seq)|(apply ACont_normal)|(apply W.region; kernel_rfl)|(apply Walk.nil)
  | (apply AWP.ret)))
  exact ⟨.inl rfl, [], [cdF [112, 97, 114] 8 2 [[1, 1]] 3], rfl, ⟨⟨0, [bS [112, 97, 114], iV 8, iV 2, rowsA [[1, 1]], iV 3], true, rfl, rfl, rfl, rfl⟩, trivial⟩, AVle.of_eq rfl, rfl⟩
end Go.Proofs.YtaclmbbiegklcaaDoor
end
section
/- Layer 36: the statements' sanity, small. -/
namespace Go.Proofs.YtaclmbbiegklcaaDoor
open Go.RowKit
set_option maxHeartbeats 4000000
set_option maxRecDepth 100000
theorem left36a : leftC [112, 97, 114] 8 2 [[1, 1]] 3 (haveN [1, 1, 1]) = 1 := by kernel_rfl
theorem left36b : leftC [112, 97, 114] 8 2 [[1, 1]] 3 (haveN [1, 2, 1]) = 0 := by kernel_rfl
theorem left36c : leftC [112, 97, 114] 8 2 [[1, 1]] 3 (haveN [3, 2, 1]) = -1 := by kernel_rfl
theorem full36a : fullN [112, 97, 114] 8 2 [[1, 1]] 3 [1, 1, 1] = true := by kernel_rfl
theorem full36b : fullN [112, 97, 114] 8 2 [[1, 1]] 3 [1, 1] = false := by kernel_rfl
theorem order36 : orderN [(0, 0, 1, 1), (1, 0, 0, 1), (2, 0, -1, 2), (3, 0, 0, 0)] = [(1, 0, 0, 1), (0, 0, 1, 1), (2, 0, -1, 2)] := by kernel_rfl
theorem fin36 : FIn [112, 97, 114] 2 [[1, 1]] := ⟨by unfold isB; decide, by decide, by decide, by decide⟩
attribute [local irreducible] Quiet Eff OpOk AWPG ACont ABlock ACalls AGoto
theorem A_sanity36 : ACalls Tryd.prog 26 [] [] (bV true) [] := by
  refine acalls_of_body Tryd.func26 rfl (Nat.le_of_ble_eq_true rfl) ?_
  have hp := A_par36
  have ha := A_at36
  have ho := A_order (l := [(0, 0, 1, 1), (1, 0, 0, 1), (2, 0, -1, 2), (3, 0, 0, 0)]) (by decide)
  rw [order36] at ho
  have h1 := A_hleft (M := 8) (dom := 3) (l := [1, 1, 1]) fin36 (by decide)
  rw [left36a] at h1
  have h2 := A_hleft (M := 8) (dom := 3) (l := [1, 2, 1]) fin36 (by decide)
  rw [left36b] at h2
  have h3 := A_hleft (M := 8) (dom := 3) (l := [3, 2, 1]) fin36 (by decide)
  rw [left36c] at h3
  have hl := A_list36 (a := [(1, 0, 0, 1), (0, 0, 1, 1), (2, 0, -1, 2)]) (b := [(1, 0, 0, 1), (0, 0, 1, 1), (2, 0, -1, 2)]) (by decide) (by decide)
  rw [decide_eq_true rfl] at hl
  have hw := (A_worst (l := []) (by decide)).le (args' := [.d (.v (.slice none 0 0))]) fun F κ w vs hs => AVleL.sat (xs := [.d (.v (.slice none 0 0))]) (ys := [hls []]) ⟨AVle.nil 4, trivial⟩ F _ κ w vs hs
  have f1 := A_full (M := 8) (dom := 3) (l := [1, 1, 1]) fin36 (by decide)
  rw [full36a] at f1
  have f2 := A_full (M := 8) (dom := 3) (l := [1, 1]) fin36 (by decide)
  rw [full36b] at f2
  (repeat' (first
  | (apply W.gOn; exact rfl; exact rfl)
  | (apply W.qd; (first
    | (apply (q_callC (hp)); exact rfl; exact rfl; kernel_rfl; kernel_rfl; kernel_rfl)|(apply (q_callC (ha _ _ _)); exact rfl; exact rfl; kernel_rfl; kernel_rfl; kernel_rfl)|(apply (q_callC (ho)); exact rfl; exact rfl; kernel_rfl; kernel_rfl; kernel_rfl)|(apply (q_callC (h1)); exact rfl; exact rfl; kernel_rfl; kernel_rfl; kernel_rfl)|(apply (q_callC (h2)); exact rfl; exact rfl; kernel_rfl; kernel_rfl; kernel_rfl)|(apply (q_callC (h3)); exact rfl; exact rfl; kernel_rfl; kernel_rfl; kernel_rfl)|(apply (q_callC (hl)); exact rfl; exact rfl; kernel_rfl; kernel_rfl; kernel_rfl)|(apply (q_callC (hw)); exact rfl; exact rfl; kernel_rfl; kernel_rfl; kernel_rfl)|(apply (q_callC (f1)); exact rfl; exact rfl; kernel_rfl; kernel_rfl; kernel_rfl)|(apply (q_callC (f2)); exact rfl; exact rfl; kernel_rfl; kernel_rfl; kernel_rfl)
    | ((apply (q_slc_map (f := iD) (l := [1, 1, 1]) 0 2); exact rfl; exact rfl; exact rfl; exact ⟨_, _, rfl, rfl⟩; decide; decide; exact Or.inl rfl))|(apply q_mv; (first|exact vD|exact vO|exact vP|exact vA|exact vF|exact vR|exact vN|exact vY|exact vT|exact vM|exact vL|exact vX))|(apply q_as; (first|exact vD|exact vO|exact vP|exact vA|exact vF|exact vR|exact vN|exact vY|exact vT|exact vM|exact vL|exact vX))|(apply q_ld_boxF; exact rfl; exact rfl; exact rfl; exact rfl)|(apply q_eql; exact rfl; exact rfl)|(apply q_not; exact rfl)|(apply q_litF; exact rfl; exact rfl; exact rfl; exact rfl; exact rfl; kernel_rfl; kernel_rfl; exact rfl)
    | (apply (q_pickT (u := .d _)); exact rfl; exact rfl)))|(apply W.ed; (apply e_allocF; exact rfl; exact rfl; exact rfl; kernel_rfl))|(apply W.ln; (apply l_st_box; exact rfl; exact rfl; exact rfl; exact rfl; exact rfl; exact rfl; kernel_rfl; kernel_rfl; kernel_rfl))|(apply AWP.seq)|(apply ACont_normal)|(apply W.region; kernel_rfl)|(apply W.regionD; exact rfl; kernel_rfl)|(apply Walk.nil)|(apply W.chk; kernel_rfl)
  | (apply AWP.ret)))
  exact Ends.b rfl rfl
end Go.Proofs.YtaclmbbiegklcaaDoor
end
section
/- Layer 36: the statements HealthSteps and HealthUrgent over the machine of abstract values. -/
namespace Go.Proofs.YtaclmbbiegklcaaDoor
open Go.RowKit
set_option maxHeartbeats 4000000
set_option maxRecDepth 100000
attribute [local irreducible] Quiet Eff OpOk AWPG ACont ABlock ACalls AGoto
def cntH (l : List Hl) (x : Hl) (k : Nat) : Nat := (l.take k).count x
theorem cntH_succ {l : List Hl} {x : Hl} {k : Nat} (h : k < l.length) : cntH l x (k + 1) = cntH l x k + (if l[k] = x then 1 else 0) := by
  unfold cntH
  rw [List.take_succ_eq_append_getElem h, List.count_append, List.count_singleton]
  congr 1
  by_cases e : l[k] = x
  · rw [if_pos e]; simp [e]
  · rw [if_neg e]; simp [e]
theorem cntH_le (l : List Hl) (x : Hl) (k : Nat) : cntH l x k ≤ k := Nat.le_trans List.count_le_length (by simp; omega)
theorem A_count36 {l : List Hl} {x : Hl} (hl : l.length ≤ 1000000) : ACalls Tryd.prog 30 [hls l, .agg ((hlD x).map .d)] [] (iV (l.count x : Nat)) [] := by
  refine acalls_of_body Tryd.func30 rfl (Nat.le_of_ble_eq_true rfl) ?_
  have hm : (l.map hlD).length = l.length := List.length_map _
  (repeat' (first
  | (apply W.qd; (apply q_as; (first|exact vD|exact vO|exact vP|exact vA|exact vF|exact vR|exact vN|exact vY|exact vT|exact vM|exact vL|exact vX)))|(apply W.ed; (apply e_boxF; exact rfl; exact rfl; exact rfl; kernel_rfl; kernel_rfl))|(apply AWP.seq)|(apply ACont_normal)|(apply W.region; kernel_rfl)|(apply Walk.nil)
  | (apply AWP.block)))
  refine AWP.loopW (α := Nat) (fun k => k ≤ l.length) (fun k => ⟨[(6, iV k), (5, iV (cntH l x k)), (0, hls l), (3, .opt 0 0)], [.box ((hlD x).map .d)]⟩) (fun k => l.length - k) 0 (Nat.zero_le _) ⟨[0], rfl, rfl, rfl, by (repeat (first | exact trivial | refine ⟨rfl, ?_⟩))⟩ fun k hk => ?_
  have hle := cntH_le l x k
  by_cases hkl : k < l.length
  · have hst := Lib.hid (cntH_succ (x := x) hkl)
    have he := eqHl l[k] x
    generalize cntH l x k = A at *
    (repeat' (first
  | (apply W.qd; (first
    | ((apply (q_eqT fi_health); exact rfl; exact rfl; exact rfl; exact rfl; exact rfl; exact he))|(apply q_mv; (first|exact vD|exact vO|exact vP|exact vA|exact vF|exact vR|exact vN|exact vY|exact vT|exact vM|exact vL|exact vX))|(apply q_as; (first|exact vD|exact vO|exact vP|exact vA|exact vF|exact vR|exact vN|exact vY|exact vT|exact vM|exact vL|exact vX))|(apply q_ld_boxF; exact rfl; exact rfl; exact rfl; exact rfl)|(apply q_lss; exact rfl; exact rfl)|(apply q_add; exact rfl; exact rfl; omega)|(apply q_len_sl; exact rfl; exact rfl)|(apply q_ld_maps; exact rfl; exact rfl; exact rfl; (first | omega | (focus (simp; done))))
    | (apply q_ix_slF; exact rfl; exact rfl; exact rfl; exact rfl; (first | (with_reducible exact rfl) | exact natI_spec rfl | assumption | exact (Int.toNat_of_nonneg (by omega)).symm); (first | omega | (focus (simp only [List.length_map]; omega)) | (focus (simp; done)) | (focus (simp; omega))))))|(apply AWP.seq)|(apply ACont_normal)|(apply W.region; kernel_rfl)|(apply W.regionD; exact rfl; kernel_rfl)|(apply Walk.nil)|(apply W.chk; kernel_rfl)|(apply AWP.block)|(apply AWP.skip)|(apply ABlock_normal)
  | (refine W.cond _ rfl (fun hb => ?_) (fun hb => ?_) <;> ((try simp only [hb, Bool.not_true, Bool.not_false]) <;> (try simp only [decide_eq_true_eq, decide_eq_false_iff_not, Bool.not_eq_true', Bool.not_eq_false', Int.not_lt, Int.not_le, List.length_map, not_true_eq_false] at hb) <;> (try (exfalso; omega))))))
    all_goals refine ⟨k + 1, by omega, by omega, ?_⟩
    all_goals rw [hst.out]
    all_goals first
      | (rw [if_pos (by first | assumption | simpa using hb)]; exact ⟨[0], rfl, rfl, rfl, iV_eq (by omega), iV_eq (by omega), rfl, rfl, trivial⟩)
      | (rw [if_neg (by first | assumption | simpa using hb)]; exact ⟨[0], rfl, rfl, rfl, iV_eq (by omega), iV_eq (by omega), rfl, rfl, trivial⟩)
  · have e : k = l.length := by omega
    subst e
    have e2 : cntH l x l.length = l.count x := by unfold cntH; rw [List.take_length]
    rw [e2]
    (repeat' (first
  | (apply W.qd; (first
    | (apply q_mv; (first|exact vD|exact vO|exact vP|exact vA|exact vF|exact vR|exact vN|exact vY|exact vT|exact vM|exact vL|exact vX))|(apply q_as; (first|exact vD|exact vO|exact vP|exact vA|exact vF|exact vR|exact vN|exact vY|exact vT|exact vM|exact vL|exact vX))|(apply q_lss; exact rfl; exact rfl)
    | (apply q_len_sl; exact rfl; exact rfl)))|(apply AWP.seq)|(apply ACont_normal)|(apply W.region; kernel_rfl)|(apply Walk.nil)|(apply AWP.exit)|(apply AWP.ret)|(apply ACont_exit)|(apply ABlock_exit)
  | (refine W.cond _ rfl (fun hb => ?_) (fun hb => ?_) <;> ((try simp only [hb, Bool.not_true, Bool.not_false]) <;> (try simp only [decide_eq_true_eq, decide_eq_false_iff_not, Bool.not_eq_true', Bool.not_eq_false', Int.not_lt, Int.not_le, List.length_map, not_true_eq_false] at hb) <;> (try (exfalso; omega))))))
    exact Ends.i rfl rfl
theorem urgent {l : List Hl} : (orderN l).length = (l.filter keepH).length ∧ (∀ x ∈ orderN l, 0 < x.2.2.2 ∧ (orderN l).count x = l.count x) ∧ ∀ (i : Nat), i + 1 < (orderN l).length → ¬ (0 ≤ ((orderN l).getD (i + 1) hl0).2.2.1 ∧ (((orderN l).getD (i + 1) hl0).2.2.1 < ((orderN l).getD i hl0).2.2.1 ∨ ((orderN l).getD i hl0).2.2.1 < 0)) := by
  obtain ⟨h1, h2⟩ := sortN_spec weakH (l.filter keepH)
  refine ⟨sortN_len _, fun x hx => ?_, fun i h => ?_⟩
  · have hm := (h2.mem weakH x).1 hx
    obtain ⟨m1, m2⟩ := List.mem_filter.1 hm
    refine ⟨by unfold keepH at m2; simpa using m2, ?_⟩
    show (sortN (ltH cmpH) (l.filter keepH)).count x = l.count x
    rw [← List.count_filter (l := sortN (ltH cmpH) (l.filter keepH)) (eqv_self weakH x), h2 x, List.count_filter (eqv_self weakH x), List.count_filter m2]
  · have h3 := List.pairwise_iff_getElem.1 h1 i (i + 1) (by show i < (orderN l).length; omega) h (by omega)
    have h3 : ltH cmpH ((orderN l)[i + 1]) ((orderN l)[i]'(by omega)) = false := h3
    have g1 : (orderN l).getD (i + 1) hl0 = (orderN l)[i + 1] := by rw [List.getD_eq_getElem?_getD, List.getElem?_eq_getElem h]; rfl
    have g2 : (orderN l).getD i hl0 = (orderN l)[i]'(by omega) := by rw [List.getD_eq_getElem?_getD, List.getElem?_eq_getElem (show i < (orderN l).length by omega)]; rfl
    rw [g1, g2]
    rw [Bool.eq_false_iff, Ne, ltH_iff] at h3
    unfold lostH at h3
    intro h4
    apply h3
    split <;> split <;> omega
theorem filtK_succ {l : List Hl} {k : Nat} (h : k < l.length) : ((l.take (k + 1)).filter keepH).length = ((l.take k).filter keepH).length + (if 0 < l[k].2.2.2 then 1 else 0) := by
  rw [List.take_succ_eq_append_getElem h, List.filter_append, List.length_append]
  congr 1
  unfold keepH
  by_cases e : 0 < l[k].2.2.2
  · rw [if_pos e]; simp [e]
  · rw [if_neg e]; simp [e]
theorem A_healthUrgent {l : List Hl} : ACalls Tryd.prog 8 [hls l] [] (bV true) [] := by
  refine acalls_of_body Tryd.func8 rfl (Nat.le_of_ble_eq_true rfl) ?_
  have hm : (l.map hlD).length = l.length := List.length_map _
  have hs := A_sanity36
  by_cases hl : l.length ≤ 60
  case neg =>
    (repeat' (first
  | (apply W.qd; (first
    | (apply (q_callC (hs)); exact rfl; exact rfl; kernel_rfl; kernel_rfl; kernel_rfl)|(apply q_mv; (first|exact vD|exact vO|exact vP|exact vA|exact vF|exact vR|exact vN|exact vY|exact vT|exact vM|exact vL|exact vX))|(apply q_as; (first|exact vD|exact vO|exact vP|exact vA|exact vF|exact vR|exact vN|exact vY|exact vT|exact vM|exact vL|exact vX))|(apply q_gtr; exact rfl; exact rfl)
    | (apply q_len_sl; exact rfl; exact rfl)))|(apply AWP.seq)|(apply ACont_normal)|(apply W.region; kernel_rfl)|(apply Walk.nil)|(apply AWP.ret)|(apply ACont_ret)
  | (refine W.cond _ rfl (fun hb => ?_) (fun hb => ?_) <;> ((try simp only [hb, Bool.not_true, Bool.not_false]) <;> (try simp only [decide_eq_true_eq, decide_eq_false_iff_not, Bool.not_eq_true', Bool.not_eq_false', Int.not_lt, Int.not_le, List.length_map, not_true_eq_false] at hb) <;> (try (exfalso; omega))))))
    all_goals exact Ends.b rfl rfl
  have ho := A_order (l := l) (by omega)
  obtain ⟨u1, u2, u3⟩ := urgent (l := l)
  have u4 : (l.filter keepH).length ≤ l.length := List.length_filter_le _ _
  have hcl := fun x => A_count36 (l := l) (x := x) (by omega)
  have hco := fun x => A_count36 (l := orderN l) (x := x) (by omega)
  generalize orderN l = O at *
  have hmo : (O.map hlD).length = O.length := List.length_map _
  (repeat' (first
  | (apply W.qd; (first
    | (apply (q_callC (ho)); exact rfl; exact rfl; kernel_rfl; kernel_rfl; kernel_rfl)|(apply q_mv; (first|exact vD|exact vO|exact vP|exact vA|exact vF|exact vR|exact vN|exact vY|exact vT|exact vM|exact vL|exact vX))|(apply q_as; (first|exact vD|exact vO|exact vP|exact vA|exact vF|exact vR|exact vN|exact vY|exact vT|exact vM|exact vL|exact vX))|(apply q_gtr; exact rfl; exact rfl)
    | (apply q_len_sl; exact rfl; exact rfl)))|(apply AWP.seq)|(apply ACont_normal)|(apply W.region; kernel_rfl)|(apply Walk.nil)|(apply AWP.block)|(apply AWP.skip)
  | (refine W.cond _ rfl (fun hb => ?_) (fun hb => ?_) <;> ((try simp only [hb, Bool.not_true, Bool.not_false]) <;> (try simp only [decide_eq_true_eq, decide_eq_false_iff_not, Bool.not_eq_true', Bool.not_eq_false', Int.not_lt, Int.not_le, List.length_map, not_true_eq_false] at hb) <;> (try (exfalso; omega))))))
  refine AWP.loopW (α := Nat) (fun k => k ≤ l.length) (fun k => ⟨[(5, iV k), (4, iV ((l.take k).filter keepH).length), (3, hls O), (0, hls l)], []⟩) (fun k => l.length - k) 0 (Nat.zero_le _) ⟨[], rfl, rfl, rfl, by (repeat (first | exact trivial | refine ⟨rfl, ?_⟩))⟩ fun k hk => ?_
  have hkf : ((l.take k).filter keepH).length ≤ k := Nat.le_trans (List.length_filter_le _ _) (by simp; omega)
  by_cases hkl : k < l.length
  · have hst := Lib.hid (filtK_succ hkl)
    generalize ((l.take k).filter keepH).length = A at *
    (repeat' (first
  | (apply W.qd; (first
    | (apply q_mv; (first|exact vD|exact vO|exact vP|exact vA|exact vF|exact vR|exact vN|exact vY|exact vT|exact vM|exact vL|exact vX))|(apply q_as; (first|exact vD|exact vO|exact vP|exact vA|exact vF|exact vR|exact vN|exact vY|exact vT|exact vM|exact vL|exact vX))|(apply q_lss; exact rfl; exact rfl)|(apply q_gtr; exact rfl; exact rfl)|(apply q_add; exact rfl; exact rfl; omega)|(apply q_len_sl; exact rfl; exact rfl)|(apply q_ld_map; exact rfl; exact rfl; exact rfl; (first | omega | (focus (simp; done))))|(apply q_fld_fptF; exact rfl; exact rfl; exact rfl)
    | (apply q_ix_slF; exact rfl; exact rfl; exact rfl; exact rfl; (first | (with_reducible exact rfl) | exact natI_spec rfl | assumption | exact (Int.toNat_of_nonneg (by omega)).symm); (first | omega | (focus (simp only [List.length_map]; omega)) | (focus (simp; done)) | (focus (simp; omega))))))|(apply AWP.seq)|(apply ACont_normal)|(apply W.region; kernel_rfl)|(apply Walk.nil)|(apply AWP.block)|(apply AWP.skip)|(apply ABlock_normal)
  | (refine W.cond _ rfl (fun hb => ?_) (fun hb => ?_) <;> ((try simp only [hb, Bool.not_true, Bool.not_false]) <;> (try simp only [decide_eq_true_eq, decide_eq_false_iff_not, Bool.not_eq_true', Bool.not_eq_false', Int.not_lt, Int.not_le, List.length_map, not_true_eq_false] at hb) <;> (try (exfalso; omega))))))
    all_goals refine ⟨k + 1, by omega, by omega, ?_⟩
    all_goals rw [hst.out]
    all_goals first
      | (rw [if_pos (by omega)]; exact ⟨[], rfl, rfl, rfl, iV_eq (by omega), iV_eq (by omega), rfl, rfl, trivial⟩)
      | (rw [if_neg (by omega)]; exact ⟨[], rfl, rfl, rfl, iV_eq (by omega), iV_eq (by omega), rfl, rfl, trivial⟩)
  · have e : k = l.length := by omega
    subst e
    rw [List.take_length, ← u1]
    (repeat' (first
  | (apply W.qd; (first
    | (apply q_mv; (first|exact vD|exact vO|exact vP|exact vA|exact vF|exact vR|exact vN|exact vY|exact vT|exact vM|exact vL|exact vX))|(apply q_as; (first|exact vD|exact vO|exact vP|exact vA|exact vF|exact vR|exact vN|exact vY|exact vT|exact vM|exact vL|exact vX))|(apply q_lss; exact rfl; exact rfl)|(apply q_neq; exact rfl; exact rfl)
    | (apply q_len_sl; exact rfl; exact rfl)))|(apply AWP.seq)|(apply ACont_normal)|(apply W.region; kernel_rfl)|(apply Walk.nil)|(apply AWP.block)|(apply AWP.skip)|(apply AWP.exit)|(apply ACont_exit)|(apply ABlock_exit)
  | (refine W.cond _ rfl (fun hb => ?_) (fun hb => ?_) <;> ((try simp only [hb, Bool.not_true, Bool.not_false]) <;> (try simp only [decide_eq_true_eq, decide_eq_false_iff_not, Bool.not_eq_true', Bool.not_eq_false', Int.not_lt, Int.not_le, List.length_map, not_true_eq_false] at hb) <;> (try (exfalso; omega))))))
    refine AWP.loopW (α := Nat) (fun i => i ≤ O.length) (fun i => ⟨[(6, iV i), (3, hls O), (0, hls l)], []⟩) (fun i => O.length - i) 0 (Nat.zero_le _) ⟨[], rfl, rfl, rfl, by (repeat (first | exact trivial | refine ⟨rfl, ?_⟩))⟩ fun i hi => ?_
    by_cases hil : i < O.length
    · obtain ⟨v1, v2⟩ := u2 O[i] (List.getElem_mem hil)
      have c1 := hcl O[i]
      have c2 := hco O[i]
      rw [v2] at c2
      rcases Nat.eq_zero_or_pos i with hi0 | hi0
      · subst hi0
        clear u3 u2 hcl hco
        (repeat' (first
  | (apply W.gOn; exact rfl; exact rfl)
  | (apply W.qd; (first
    | (apply (q_callC (c1)); exact rfl; exact rfl; kernel_rfl; kernel_rfl; kernel_rfl)|(apply (q_callC (c2)); exact rfl; exact rfl; kernel_rfl; kernel_rfl; kernel_rfl)|(apply q_mv; (first|exact vD|exact vO|exact vP|exact vA|exact vF|exact vR|exact vN|exact vY|exact vT|exact vM|exact vL|exact vX))|(apply q_as; (first|exact vD|exact vO|exact vP|exact vA|exact vF|exact vR|exact vN|exact vY|exact vT|exact vM|exact vL|exact vX))|(apply q_lss; exact rfl; exact rfl)|(apply q_leq; exact rfl; exact rfl)|(apply q_gtr; exact rfl; exact rfl)|(apply q_neq; exact rfl; exact rfl)|(apply q_add; exact rfl; exact rfl; omega)|(apply q_len_sl; exact rfl; exact rfl)|(apply q_ld_map; exact rfl; exact rfl; exact rfl; (first | omega | (focus (simp; done))))|(apply q_ld_maps; exact rfl; exact rfl; exact rfl; (first | omega | (focus (simp; done))))|(apply q_fld_fptF; exact rfl; exact rfl; exact rfl)|(apply q_ix_slF; exact rfl; exact rfl; exact rfl; exact rfl; (first | (with_reducible exact rfl) | exact natI_spec rfl | assumption | exact (Int.toNat_of_nonneg (by omega)).symm); (first | omega | (focus (simp only [List.length_map]; omega)) | (focus (simp; done)) | (focus (simp; omega))))
    | (apply (q_pickF (u := .d _)); exact rfl; exact rfl)))|(refine W.gOff _ _ rfl rfl (by intro h; cases h) ?_)|(apply AWP.seq)|(apply ACont_normal)|(apply W.region; kernel_rfl)|(apply W.regionD; exact rfl; kernel_rfl)|(apply Walk.nil)|(apply W.chk; kernel_rfl)|(apply AWP.block)|(apply AWP.skip)|(apply ABlock_normal)|(apply W.condF; exact rfl)|(refine W.gF _ _ rfl rfl (fun hb => ?_) (fun hb => ?_) <;> ((try simp only [hb, Bool.not_true, Bool.not_false]) <;> (try simp only [decide_eq_true_eq, decide_eq_false_iff_not, Bool.not_eq_true', Bool.not_eq_false', Int.not_lt, Int.not_le, List.length_map, not_true_eq_false] at hb) <;> (try (exfalso; omega))))
  | (refine W.cond _ rfl (fun hb => ?_) (fun hb => ?_) <;> ((try simp only [hb, Bool.not_true, Bool.not_false]) <;> (try simp only [decide_eq_true_eq, decide_eq_false_iff_not, Bool.not_eq_true', Bool.not_eq_false', Int.not_lt, Int.not_le, List.length_map, not_true_eq_false] at hb) <;> (try (exfalso; omega))))))
        all_goals exact ⟨1, by omega, by omega, ⟨[], rfl, rfl, rfl, by (repeat (first | exact trivial | refine ⟨rfl, ?_⟩))⟩⟩
      · obtain ⟨j, rfl⟩ : ∃ j, i = j + 1 := ⟨i - 1, by omega⟩
        have v3 := u3 j hil
        have g1 : O.getD (j + 1) hl0 = O[j + 1] := by rw [List.getD_eq_getElem?_getD, List.getElem?_eq_getElem hil]; rfl
        have g2 : O.getD j hl0 = O[j]'(by omega) := by rw [List.getD_eq_getElem?_getD, List.getElem?_eq_getElem (show j < O.length by omega)]; rfl
        rw [g1, g2] at v3
        clear g1 g2
        have ej : ((j + 1 : Nat) : Int) - 1 = (j : Int) := by omega
        clear u3 u2 hcl hco
        (repeat' (first
  | (apply W.gOn; exact rfl; exact rfl)
  | (apply W.qd; (first
    | (apply (q_callC (c1)); exact rfl; exact rfl; kernel_rfl; kernel_rfl; kernel_rfl)|(apply (q_callC (c2)); exact rfl; exact rfl; kernel_rfl; kernel_rfl; kernel_rfl)|(apply q_mv; (first|exact vD|exact vO|exact vP|exact vA|exact vF|exact vR|exact vN|exact vY|exact vT|exact vM|exact vL|exact vX))|(apply q_as; (first|exact vD|exact vO|exact vP|exact vA|exact vF|exact vR|exact vN|exact vY|exact vT|exact vM|exact vL|exact vX))|(apply q_lss; exact rfl; exact rfl)|(apply q_leq; exact rfl; exact rfl)|(apply q_gtr; exact rfl; exact rfl)|(apply q_geq; exact rfl; exact rfl)|(apply q_neq; exact rfl; exact rfl)|(apply q_add; exact rfl; exact rfl; omega)|(apply q_sub; exact rfl; exact rfl; omega)|(apply q_len_sl; exact rfl; exact rfl)|(apply q_ld_map; exact rfl; exact rfl; exact rfl; (first | omega | (focus (simp; done))))|(apply q_ld_maps; exact rfl; exact rfl; exact rfl; (first | omega | (focus (simp; done))))|(apply q_fld_fptF; exact rfl; exact rfl; exact rfl)|(apply q_ix_slF; exact rfl; exact rfl; exact rfl; exact rfl; (first | (with_reducible exact rfl) | exact natI_spec rfl | assumption | exact (Int.toNat_of_nonneg (by omega)).symm); (first | omega | (focus (simp only [List.length_map]; omega)) | (focus (simp; done)) | (focus (simp; omega))))|(apply (q_pickT (u := .d _)); exact rfl; exact rfl)
    | (apply (q_pickF (u := .d _)); exact rfl; exact rfl)))|(refine W.gOff _ _ rfl rfl (by intro h; cases h) ?_)|(apply AWP.seq)|(apply ACont_normal)|(apply W.region; kernel_rfl)|(apply W.regionD; exact rfl; kernel_rfl)|(apply Walk.nil)|(apply W.chk; kernel_rfl)|(apply AWP.block)|(apply AWP.skip)|(apply ABlock_normal)|(apply W.condF; exact rfl)|(refine W.gT _ _ rfl rfl (fun hb => ?_) (fun hb => ?_) <;> ((try simp only [hb, Bool.not_true, Bool.not_false]) <;> (try simp only [decide_eq_true_eq, decide_eq_false_iff_not, Bool.not_eq_true', Bool.not_eq_false', Int.not_lt, Int.not_le, List.length_map, not_true_eq_false] at hb) <;> (try (exfalso; omega))))|(refine W.gF _ _ rfl rfl (fun hb => ?_) (fun hb => ?_) <;> ((try simp only [hb, Bool.not_true, Bool.not_false]) <;> (try simp only [decide_eq_true_eq, decide_eq_false_iff_not, Bool.not_eq_true', Bool.not_eq_false', Int.not_lt, Int.not_le, List.length_map, not_true_eq_false] at hb) <;> (try (exfalso; omega))))
  | (refine W.cond _ rfl (fun hb => ?_) (fun hb => ?_) <;> ((try simp only [hb, Bool.not_true, Bool.not_false]) <;> (try simp only [decide_eq_true_eq, decide_eq_false_iff_not, Bool.not_eq_true', Bool.not_eq_false', Int.not_lt, Int.not_le, List.length_map, not_true_eq_false] at hb) <;> (try (exfalso; omega))))))
        all_goals exact ⟨j + 1 + 1, by omega, by omega, [], rfl, rfl, rfl, iV_eq (by omega), rfl, rfl, trivial⟩
    · (repeat' (first
  | (apply W.qd; (first
    | (apply (q_callC (hs)); exact rfl; exact rfl; kernel_rfl; kernel_rfl; kernel_rfl)|(apply q_mv; (first|exact vD|exact vO|exact vP|exact vA|exact vF|exact vR|exact vN|exact vY|exact vT|exact vM|exact vL|exact vX))|(apply q_as; (first|exact vD|exact vO|exact vP|exact vA|exact vF|exact vR|exact vN|exact vY|exact vT|exact vM|exact vL|exact vX))|(apply q_lss; exact rfl; exact rfl)
    | (apply q_len_sl; exact rfl; exact rfl)))|(apply AWP.seq)|(apply ACont_normal)|(apply W.region; kernel_rfl)|(apply Walk.nil)|(apply AWP.exit)|(apply AWP.ret)|(apply ACont_exit)|(apply ABlock_exit)
  | (refine W.cond _ rfl (fun hb => ?_) (fun hb => ?_) <;> ((try simp only [hb, Bool.not_true, Bool.not_false]) <;> (try simp only [decide_eq_true_eq, decide_eq_false_iff_not, Bool.not_eq_true', Bool.not_eq_false', Int.not_lt, Int.not_le, List.length_map, not_true_eq_false] at hb) <;> (try (exfalso; omega))))))
      exact Ends.b rfl rfl
end Go.Proofs.YtaclmbbiegklcaaDoor
end
