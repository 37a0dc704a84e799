import Derived.Test.YtcljokdiblnhiaaGreatDoorMHealRebuilds5
/- Joined texts: St4S St5S St6S St7S St8S Hl2 Hl3 Hl4 Hl5 Hl6 Hl7 Hl9 Hl10. -/
set_option linter.unusedVariables false
set_option linter.unusedSimpArgs false
section
namespace Go.Proofs.YtcljokdiblnhiaaGreatDoor
open Go.RowKit
set_option maxHeartbeats 4000000
set_option maxRecDepth 100000
attribute [local irreducible] Quiet Eff OpOk AWPG ACont ABlock ACalls AGoto
section
variable {B : Ent} {cf : FuncId} {caps : List AV} {c : Se → Se → Int} {ver N : Nat}
theorem A_insSortS {a b : Nat} {P S R : List Se} (hc : CmpS cf caps B c) (hN : N ≤ (P ++ (S ++ R)).length) (hL : (P ++ (S ++ R)).length ≤ 1000000) (ha : P.length = a) (hb : a + S.length = b) (hbN : b ≤ N) :
    ACalls Tryz.prog 179 [.osl 1 ver 0 N, iV a, iV b, .fn cf caps] (srtS B ver (P ++ (S ++ R))) (.tup []) (srtS B ver (P ++ (sortN (ltS c) S ++ R))) := by
  refine acalls_of_bodyS Tryz.func179 rfl (Nat.le_of_ble_eq_true rfl) ?_
  have hw := hc.weak
  have hgf := hc.isf
  have hcl := hc.call
  generalize hT : (P ++ (S ++ R)).length = T at *
  (repeat' (first
  | (apply W.qd; (first
    | (apply q_mv; (conv => lhs; whnf))|(apply q_as; (conv => lhs; whnf))
    | (apply q_add; exact rfl; exact rfl; omega)))|(apply yA)|(apply yB)|(apply yC; kernel_rfl)|(apply yE)
  | (apply yG)))
  refine AWP.loopE (α := List Se × Nat) (fun p => p.1.length = T ∧ a + 1 ≤ p.2 ∧ p.2 ≤ b + 1 ∧ p.1 = P ++ (sortN (ltS c) (S.take (p.2 - a)) ++ (S.drop (p.2 - a) ++ R))) (fun p => ⟨[(8, iV p.2), (0, .osl 1 ver 0 N), (1, iV a), (2, iV b), (3, .fn cf caps)], srtS B ver p.1⟩) (fun p => b + 1 - p.2) (P ++ (S ++ R), a + 1) ⟨hT, Nat.le_refl _, by dsimp only; omega, ?i0⟩ ?w0 fun p hp => ?_
  case i0 =>
    dsimp only
    rw [Nat.add_sub_cancel_left]
    have e : sortN (ltS c) (S.take 1) = S.take 1 := by cases S <;> rfl
    rw [e, ← List.append_assoc (S.take 1), List.take_append_drop]
  case w0 => exact ⟨rfl, iV_eq (by dsimp only; omega), rfl, rfl, rfl, rfl, trivial⟩
  obtain ⟨K, i⟩ := p
  obtain ⟨h1, h2, h3, h4⟩ := hp
  dsimp only at h1 h2 h3 h4 ⊢
  by_cases hib : i < b
  · have hia : i - a < S.length := by omega
    obtain ⟨x, hx⟩ : ∃ x, x = S[i - a] := ⟨_, rfl⟩
    have hdrop : S.drop (i - a) = x :: S.drop (i - a + 1) := by rw [hx]; exact List.drop_eq_getElem_cons hia
    have htake : S.take (i - a + 1) = S.take (i - a) ++ [x] := by rw [hx]; exact List.take_succ_eq_append_getElem hia
    obtain ⟨k1, k2⟩ := sortN_spec hw (S.take (i - a))
    have hkl : (sortN (ltS c) (S.take (i - a))).length = i - a := by rw [sortN_len, List.length_take]; omega
    have hfin : ∀ A Bq : List Se, Srt (ltS c) (A ++ Bq) → (∀ b ∈ Bq, ltS c x b = true) → Stb (ltS c) (S.take (i - a) ++ [x]) (A ++ x :: Bq) → (∀ A' u, A = A' ++ [u] → ltS c x u = false) → P ++ (A ++ x :: (Bq ++ (S.drop (i - a + 1) ++ R))) = P ++ (sortN (ltS c) (S.take (i + 1 - a)) ++ (S.drop (i + 1 - a) ++ R)) := fun A Bq q1 q2 q3 q4 => by
      have q5 : Srt (ltS c) (A ++ x :: Bq) := srt_insert hw q1 (fun y hy => by
        rcases List.eq_nil_or_concat A with rfl | ⟨A', u, rfl⟩
        · simp at hy
        · rw [List.concat_eq_append] at hy q1 q4
          exact hw.le_trans (q1.left.last hw hy) (q4 A' u rfl)) (fun y hy => hw.asymm (q2 y hy))
      have q6 := sortN_eq hw q5 q3
      rw [← htake] at q6
      rw [show i + 1 - a = i - a + 1 by omega, ← q6]
      simp
    clear hdrop htake
    have h4 : K = P ++ (sortN (ltS c) (S.take (i - a)) ++ x :: ([] ++ (S.drop (i - a + 1) ++ R))) := by
      rw [h4, show S.drop (i - a) = x :: S.drop (i - a + 1) by rw [hx]; exact List.drop_eq_getElem_cons hia]; simp
    generalize sortN (ltS c) (S.take (i - a)) = Z at *
    (repeat' (first
  | (apply W.qd; (first
    | (apply q_mv; (conv => lhs; whnf))|(apply q_as; (conv => lhs; whnf))
    | (apply q_lss; exact rfl; exact rfl)))|(apply yA)|(apply yB)|(apply yC; kernel_rfl)|(apply yE)|(apply yG)|(apply yH)
  | (refine W.cond _ rfl (fun hb => ?_) (fun hb => ?_) <;> ((try simp only [hb, zA, zB]) <;> (try simp only [zC, zD, zE, zF, zG, zH, zI, zJ] at hb) <;> (try (exfalso; omega))))))
    refine AWP.loopE (α := List Se × Nat) (fun p => p.1.length = T ∧ p.2 ≤ i ∧ ∃ A Bq : List Se, p.1 = P ++ (A ++ x :: (Bq ++ (S.drop (i - a + 1) ++ R))) ∧ P.length + A.length = p.2 ∧ Srt (ltS c) (A ++ Bq) ∧ (∀ b ∈ Bq, ltS c x b = true) ∧ Stb (ltS c) (S.take (i - a) ++ [x]) (A ++ x :: Bq)) (fun p => ⟨[(9, iV p.2), (8, iV i), (0, .osl 1 ver 0 N), (1, iV a), (2, iV b), (3, .fn cf caps)], srtS B ver p.1⟩) (fun p => p.2) (K, i) ⟨h1, Nat.le_refl _, Z, [], h4, by dsimp only; omega, by rw [List.append_nil]; exact k1, by simp, k2.app (Stb.refl [x])⟩ ⟨rfl, by (repeat (first | exact trivial | refine ⟨rfl, ?_⟩))⟩ fun p hp => ?_
    obtain ⟨K', j⟩ := p
    obtain ⟨g1, g2, A, Bq, g3, g4, g5, g6, g7⟩ := hp
    dsimp only at g1 g2 g3 g4 ⊢
    clear h4 h1 k1 k2 hkl
    by_cases hja : a < j
    · rcases List.eq_nil_or_concat A with rfl | ⟨A', u, rfl⟩
      · simp only [List.length_nil] at g4; omega
      · rw [List.concat_eq_append] at g3 g4 g5 g7
        have hl1 : A'.length + 1 = (A' ++ [u]).length := by simp
        have hj1 : j < K'.length := by omega
        have ej : (j : Int) - 1 = ((j - 1 : Nat) : Int) := by omega
        have gK : K' = (P ++ A') ++ u :: x :: (Bq ++ (S.drop (i - a + 1) ++ R)) := by rw [g3]; simp
        have el : (P ++ A').length = j - 1 := by rw [List.length_append]; omega
        have ed1 : K'.getD (j - 1) se0 = u := by rw [gK, ← el]; exact getD_mid _ _ _ _
        have ed2 : K'.getD j se0 = x := by
          have := getD_mid se0 ((P ++ A') ++ [u]) (Bq ++ (S.drop (i - a + 1) ++ R)) x
          rw [List.length_append, el, List.length_singleton, show j - 1 + 1 = j by omega] at this
          rw [gK]; simpa using this
        have eg1 : K'[j - 1]'(by omega) = u := by rw [← ed1, List.getD_eq_getElem?_getD, List.getElem?_eq_getElem (by omega)]; rfl
        have eg2 : K'[j] = x := by rw [← ed2, List.getD_eq_getElem?_getD, List.getElem?_eq_getElem (by omega)]; rfl
        have hcall := hcl (K'[j]) (K'[j - 1]'(by omega)) ver (K'.map seD)
        by_cases hlt : c (K'[j]) (K'[j - 1]'(by omega)) < 0
        · have hswp := swp_adj' se0 (P ++ A') (Bq ++ (S.drop (i - a + 1) ++ R)) u x
          rw [← gK, el, show j - 1 + 1 = j by omega] at hswp
          unfold swpN at hswp
          have hux : ltS c x u = true := by unfold ltS; rw [← eg1, ← eg2]; exact decide_eq_true hlt
          rw [ed1, ed2, ← eg1, ← eg2] at hswp
          clear hfin hcl
          (repeat' (first
  | (apply yFb; exact rfl; exact rfl)
  | (apply W.qd; (first
    | (apply q_mv; (conv => lhs; whnf))|(apply q_as; (conv => lhs; whnf))|(apply q_lss; exact rfl; exact rfl)|(apply q_gtr; exact rfl; exact rfl)|(apply q_sub; exact rfl; exact rfl; omega)|(apply (yEb (u := .d _)); exact rfl; exact rfl)|(apply q_ix_osl0; (iterate 4 exact rfl); (first | (with_reducible exact rfl) | exact natI_spec rfl | assumption | exact (Int.toNat_of_nonneg (by omega)).symm); (first | omega | (focus (simp only [List.length_map]; omega)) | (focus (simp; done)) | (focus (simp; omega))))
    | (apply q_ld_rptsm; (iterate 4 exact rfl); (first | omega | (focus (simp only [List.length_map]; omega)) | (focus (simp; done)) | (focus (simp; omega))))))|(apply W.ed; (apply (e_callS (hcall)); exact rfl; exact rfl; (first | assumption | kernel_rfl)))|(apply W.en; ((apply (e_st_rptM _); (iterate 9 exact rfl))))|(apply yA)|(apply yB)|(apply yC; kernel_rfl)|(apply yD; exact rfl; kernel_rfl)|(apply yE)|(apply yF; kernel_rfl)|(apply yG)|(apply yH)|(apply yL)|(refine W.gT _ _ rfl rfl (fun hb => ?_) (fun hb => ?_) <;> ((try simp only [hb, zA, zB]) <;> (try simp only [zC, zD, zE, zF, zG, zH, zI, zJ] at hb) <;> (try (exfalso; omega))))
  | (refine W.cond _ rfl (fun hb => ?_) (fun hb => ?_) <;> ((try simp only [hb, zA, zB]) <;> (try simp only [zC, zD, zE, zF, zG, zH, zI, zJ] at hb) <;> (try (exfalso; omega))))))
          refine ⟨(_, j - 1), ⟨by simp [g1], by dsimp only; omega, A', u :: Bq, hswp.trans ?_, by dsimp only; omega, by simpa using g5, fun y hy => ?_, Stb.trans g7 ?_⟩, by dsimp only; omega, rfl, iV_eq (by dsimp only; omega), rfl, rfl, rfl, rfl, rfl, trivial⟩
          · rw [eg1, eg2]; simp
          · rcases List.mem_cons.1 hy with rfl | hy
            · exact hux
            · exact g6 y hy
          · have := ((Stb.refl A').app (Stb.swap (lt := ltS c) hw (U := [u]) (X := [x]) fun y hy z hz => by rw [List.mem_singleton.1 hy, List.mem_singleton.1 hz]; exact hux)).app (Stb.refl Bq)
            simpa using this
        · have hux : ltS c x u = false := by unfold ltS; rw [← eg1, ← eg2]; exact decide_eq_false hlt
          have hK := hfin (A' ++ [u]) Bq g5 g6 g7 fun A2 u2 e => by
            obtain ⟨_, rfl⟩ := List.append_inj' e rfl |>.imp id (fun h => by simpa using h)
            exact hux
          rw [← g3] at hK
          clear hfin hcl
          (repeat' (first
  | (apply yFb; exact rfl; exact rfl)
  | (apply W.qd; (first
    | (apply q_mv; (conv => lhs; whnf))|(apply q_as; (conv => lhs; whnf))|(apply q_lss; exact rfl; exact rfl)|(apply q_gtr; exact rfl; exact rfl)|(apply q_add; exact rfl; exact rfl; omega)|(apply q_sub; exact rfl; exact rfl; omega)|(apply (yEb (u := .d _)); exact rfl; exact rfl)|(apply q_ix_osl0; (iterate 4 exact rfl); (first | (with_reducible exact rfl) | exact natI_spec rfl | assumption | exact (Int.toNat_of_nonneg (by omega)).symm); (first | omega | (focus (simp only [List.length_map]; omega)) | (focus (simp; done)) | (focus (simp; omega))))
    | (apply q_ld_rptsm; (iterate 4 exact rfl); (first | omega | (focus (simp only [List.length_map]; omega)) | (focus (simp; done)) | (focus (simp; omega))))))|(apply W.ed; (apply (e_callS (hcall)); exact rfl; exact rfl; (first | assumption | kernel_rfl)))|(apply yA)|(apply yB)|(apply yC; kernel_rfl)|(apply yD; exact rfl; kernel_rfl)|(apply yE)|(apply yF; kernel_rfl)|(apply yI)|(apply yK)|(apply yL)|(apply yM)|(refine W.gT _ _ rfl rfl (fun hb => ?_) (fun hb => ?_) <;> ((try simp only [hb, zA, zB]) <;> (try simp only [zC, zD, zE, zF, zG, zH, zI, zJ] at hb) <;> (try (exfalso; omega))))
  | (refine W.cond _ rfl (fun hb => ?_) (fun hb => ?_) <;> ((try simp only [hb, zA, zB]) <;> (try simp only [zC, zD, zE, zF, zG, zH, zI, zJ] at hb) <;> (try (exfalso; omega))))))
          exact ⟨(K', i + 1), ⟨g1, by dsimp only; omega, by dsimp only; omega, hK⟩, by dsimp only; omega, rfl, iV_eq (by dsimp only; omega), rfl, rfl, rfl, rfl, trivial⟩
    · have hA : A = [] := List.eq_nil_of_length_eq_zero (by omega)
      subst hA
      have hK := hfin [] Bq g5 g6 g7 fun A2 u2 e => by simp at e
      rw [← g3] at hK
      clear hfin hcl
      (repeat' (first
  | (apply W.qd; (first
    | (apply q_mv; (conv => lhs; whnf))|(apply q_as; (conv => lhs; whnf))|(apply q_gtr; exact rfl; exact rfl)|(apply q_add; exact rfl; exact rfl; omega)
    | (apply (yDb (u := .d _)); exact rfl; exact rfl)))|(refine W.gOff _ _ rfl rfl (by intro h; cases h) ?_)|(apply yA)|(apply yB)|(apply yC; kernel_rfl)|(apply yD; exact rfl; kernel_rfl)|(apply yE)|(apply yF; kernel_rfl)|(apply yI)|(apply yK)|(apply yL)|(apply yM)|(apply yR; exact rfl)
  | (refine W.gT _ _ rfl rfl (fun hb => ?_) (fun hb => ?_) <;> ((try simp only [hb, zA, zB]) <;> (try simp only [zC, zD, zE, zF, zG, zH, zI, zJ] at hb) <;> (try (exfalso; omega))))))
      exact ⟨(K', i + 1), ⟨g1, by dsimp only; omega, by dsimp only; omega, hK⟩, by dsimp only; omega, rfl, iV_eq (by dsimp only; omega), rfl, rfl, rfl, rfl, trivial⟩
  · have e1 : S.take (i - a) = S := List.take_of_length_le (by omega)
    have e2 : S.drop (i - a) = [] := List.drop_eq_nil_of_le (by omega)
    rw [e1, e2, List.nil_append] at h4
    rw [← h4]
    clear hcl
    (repeat' (first
  | (apply W.qd; (first
    | (apply q_mv; (conv => lhs; whnf))
    | (apply q_lss; exact rfl; exact rfl)))|(apply yA)|(apply yB)|(apply yC; kernel_rfl)|(apply yE)|(apply yI)|(apply yK)|(apply yM)
  | (refine W.cond _ rfl (fun hb => ?_) (fun hb => ?_) <;> ((try simp only [hb, zA, zB]) <;> (try simp only [zC, zD, zE, zF, zG, zH, zI, zJ] at hb) <;> (try (exfalso; omega))))))
    exact ⟨.inr rfl, [], trivial, AVle.of_eq rfl, rfl⟩
end
end Go.Proofs.YtcljokdiblnhiaaGreatDoor
end
section
namespace Go.Proofs.YtcljokdiblnhiaaGreatDoor
open Go.RowKit
set_option maxHeartbeats 4000000
set_option maxRecDepth 100000
attribute [local irreducible] Quiet Eff OpOk AWPG ACont ABlock ACalls AGoto
section
variable {B : Ent} {cf : FuncId} {caps : List AV} {c : Se → Se → Int} {ver N : Nat}
theorem halfS (i j : Nat) : ((i + j) >>> 1) = (i + j) / 2 := by rw [Nat.shiftRight_eq_div_pow]
theorem A_mergeLS {a m b : Nat} {P R : List Se} {x : Se} {Y : List Se} (hc : CmpS cf caps B c) (hN : N ≤ (P ++ (([x] ++ Y) ++ R)).length) (hL : (P ++ (([x] ++ Y) ++ R)).length ≤ 1000000) (ha : P.length = a) (hm : a + 1 = m) (hb : m + Y.length = b) (hbN : b ≤ N) (hY : Srt (ltS c) Y) :
    ACalls Tryz.prog 180 [.osl 1 ver 0 N, iV a, iV m, iV b, .fn cf caps] (srtS B ver (P ++ (([x] ++ Y) ++ R))) (.tup []) (srtS B ver (P ++ (sortN (ltS c) ([x] ++ Y) ++ R))) := by
  refine acalls_of_bodyS Tryz.func180 rfl (Nat.le_of_ble_eq_true rfl) ?_
  have hw := hc.weak
  have hgf := hc.isf
  have hcl := hc.call
  obtain ⟨K, hK⟩ : ∃ K, K = P ++ (([x] ++ Y) ++ R) := ⟨_, rfl⟩
  rw [← hK] at hN hL ⊢
  have hKl : K.length = P.length + 1 + Y.length + R.length := by rw [hK]; simp; omega
  have hga : ∀ (h : a < K.length), K[a] = x := fun h => by
    have h0 : K[a]? = some x := by rw [hK, ← ha, List.getElem?_append_right (Nat.le_refl _), Nat.sub_self]; rfl
    rw [List.getElem?_eq_getElem h] at h0
    exact Option.some.inj h0
  have hgm : ∀ (t : Nat) (h : t < Y.length) (h2 : m + t < K.length), K[m + t] = Y[t] := fun t h h2 => by
    have e : K = (P ++ [x]) ++ (Y ++ R) := by rw [hK]; simp
    have e2 : (P ++ [x]).length = m := by simp; omega
    simp only [e]
    rw [List.getElem_append_right (by omega), List.getElem_append_left (by omega)]
    congr 1
    omega
  let p : Nat → Bool := fun h => !(ltS c (K.getD h se0) x)
  have hp : ∀ (h : Nat) (hh : h < K.length), p h = !(ltS c K[h] x) := fun h hh => by
    show (!(ltS c (K.getD h se0) x)) = _
    rw [List.getD_eq_getElem?_getD, List.getElem?_eq_getElem hh]; rfl
  generalize hQ : p = Q at hp
  clear hQ
  obtain ⟨b1, b2, b3, b4⟩ := bs_spec Q (b - m) m b (Nat.le_refl _) (by omega)
  generalize hI : bsN Q m b = I at *
  have hfin : P ++ ((Y.take (I - m) ++ x :: Y.drop (I - m)) ++ R) = P ++ (sortN (ltS c) ([x] ++ Y) ++ R) := by
    have q0 : Y.take (I - m) ++ Y.drop (I - m) = Y := List.take_append_drop _ _
    have q1 : ∀ y ∈ Y.take (I - m), ltS c y x = true := fun y hy => by
      by_cases h0 : m < I
      · have := b3 h0
        rw [hp _ (by omega)] at this
        have e : K[I - 1]'(by omega) = Y[I - m - 1]'(by omega) := by
          have := hgm (I - m - 1) (by omega) (by omega)
          rw [← this]; congr 1; omega
        rw [e] at this
        have h5 : ltS c (Y[I - m - 1]'(by omega)) x = true := by simpa using this
        have h6 : Y.take (I - m) = Y.take (I - m - 1) ++ [Y[I - m - 1]'(by omega)] := by
          have := List.take_succ_eq_append_getElem (l := Y) (i := I - m - 1) (by omega)
          rwa [show I - m - 1 + 1 = I - m by omega] at this
        have h7 : Srt (ltS c) (Y.take (I - m - 1) ++ [Y[I - m - 1]'(by omega)]) := by
          rw [← h6]
          rw [← q0] at hY
          exact hY.left
        rw [h6] at hy
        exact hw.le_lt (h7.last hw hy) h5
      · rw [show I - m = 0 by omega] at hy; simp at hy
    have q2 : ∀ y ∈ Y.drop (I - m), ltS c y x = false := fun y hy => by
      by_cases h0 : I < b
      · have := b4 h0
        rw [hp _ (by omega)] at this
        have e : K[I]'(by omega) = Y[I - m]'(by omega) := by
          have := hgm (I - m) (by omega) (by omega)
          rw [← this]; congr 1; omega
        rw [e] at this
        have h5 : ltS c (Y[I - m]'(by omega)) x = false := by simpa using this
        have h6 : Y.drop (I - m) = Y[I - m]'(by omega) :: Y.drop (I - m + 1) := List.drop_eq_getElem_cons (by omega)
        have h7 : Srt (ltS c) (Y[I - m]'(by omega) :: Y.drop (I - m + 1)) := by
          rw [← h6]
          rw [← q0] at hY
          exact hY.right
        rw [h6] at hy
        exact hw.le_trans h5 (h7.head hw hy)
      · rw [List.drop_eq_nil_of_le (by omega)] at hy; simp at hy
    have q3 : Srt (ltS c) (Y.take (I - m) ++ x :: Y.drop (I - m)) := srt_insert hw (by rw [q0]; exact hY) (fun y hy => hw.asymm (q1 y hy)) q2
    have q4 : Stb (ltS c) ([x] ++ Y) (Y.take (I - m) ++ x :: Y.drop (I - m)) := by
      have := (Stb.swap (lt := ltS c) hw (U := [x]) (X := Y.take (I - m)) fun y hy u hu => by rw [List.mem_singleton.1 hu]; exact q1 y hy).app (Stb.refl (Y.drop (I - m)))
      rw [List.append_assoc, q0] at this
      simpa using this
    rw [sortN_eq hw q3 q4]
  clear hY b3 b4 hgm
  (repeat' (first
  | (apply W.qd; (first
    | (apply q_mv; (conv => lhs; whnf))|(apply q_as; (conv => lhs; whnf))|(apply q_eql; exact rfl; exact rfl)
    | (apply q_sub; exact rfl; exact rfl; omega)))|(apply yA)|(apply yB)|(apply yC; kernel_rfl)|(apply yE)|(apply yG)
  | (refine W.cond _ rfl (fun hb => ?_) (fun hb => ?_) <;> ((try simp only [hb, zA, zB]) <;> (try simp only [zC, zD, zE, zF, zG, zH, zI, zJ] at hb) <;> (try (exfalso; omega))))))
  refine AWP.loopE (α := Nat × Nat) (fun q => m ≤ q.1 ∧ q.1 ≤ q.2 ∧ q.2 ≤ b ∧ bsN Q q.1 q.2 = I) (fun q => ⟨[(10, iV q.1), (11, iV q.2), (0, .osl 1 ver 0 N), (1, iV a), (2, iV m), (3, iV b), (4, .fn cf caps)], srtS B ver K⟩) (fun q => q.2 - q.1) (m, b) ⟨Nat.le_refl _, by dsimp only; omega, Nat.le_refl _, hI⟩ ⟨rfl, by (repeat (first | exact trivial | refine ⟨rfl, ?_⟩))⟩ fun q hq => ?_
  obtain ⟨i, j⟩ := q
  obtain ⟨h1, h2, h3, h4⟩ := hq
  dsimp only at h1 h2 h3 h4 ⊢
  clear hI
  by_cases hij : i < j
  · have eh := halfS i j
    have eij : (i : Int) + (j : Int) = ((i + j : Nat) : Int) := by omega
    have hh : (i + j) >>> 1 < K.length := by omega
    have hcall := hcl (K[(i + j) >>> 1]) (K[a]'(by omega)) ver (K.map seD)
    have hQh : Q ((i + j) / 2) = !(ltS c K[(i + j) >>> 1] x) := by rw [← eh]; exact hp _ hh
    have hx0 := hga (by omega)
    by_cases hlt : c (K[(i + j) >>> 1]) (K[a]'(by omega)) < 0
    · have hlt' : ltS c (K[(i + j) >>> 1]) x = true := by unfold ltS; rw [← hx0]; exact decide_eq_true hlt
      rw [hlt'] at hQh
      rw [bs_right hij hQh] at h4
      clear hcl hfin hp
      (repeat' (first
  | (apply W.qd; (first
    | ((apply q_convU; (iterate 3 exact rfl); assumption; omega))|(apply q_mv; (conv => lhs; whnf))|(apply q_as; (conv => lhs; whnf))|(apply q_lss; exact rfl; exact rfl)|(apply q_add; exact rfl; exact rfl; omega)|(apply q_convI; (iterate 3 exact rfl); omega)|(apply q_shrN; exact rfl; exact rfl; (first | (with_reducible exact rfl) | exact natI_spec rfl | assumption | exact (Int.toNat_of_nonneg (by omega)).symm); (first | (with_reducible exact rfl) | exact natI_spec rfl | assumption | exact (Int.toNat_of_nonneg (by omega)).symm); focus (show _ ≤ 64; omega))|(apply q_ix_osl0; (iterate 4 exact rfl); (first | (with_reducible exact rfl) | exact natI_spec rfl | assumption | exact (Int.toNat_of_nonneg (by omega)).symm); (first | omega | (focus (simp only [List.length_map]; omega)) | (focus (simp; done)) | (focus (simp; omega))))
    | (apply q_ld_rptsm; (iterate 4 exact rfl); (first | omega | (focus (simp only [List.length_map]; omega)) | (focus (simp; done)) | (focus (simp; omega))))))|(apply W.ed; (apply (e_callS (hcall)); exact rfl; exact rfl; (first | assumption | kernel_rfl)))|(apply yA)|(apply yB)|(apply yC; kernel_rfl)|(apply yD; exact rfl; kernel_rfl)|(apply yE)|(apply yF; kernel_rfl)|(apply yG)|(apply yH)|(apply yL)
  | (refine W.cond _ rfl (fun hb => ?_) (fun hb => ?_) <;> ((try simp only [hb, zA, zB]) <;> (try simp only [zC, zD, zE, zF, zG, zH, zI, zJ] at hb) <;> (try (exfalso; omega))))))
      exact ⟨((i + j) / 2 + 1, j), ⟨by dsimp only; omega, by dsimp only; omega, h3, h4⟩, by dsimp only; omega, rfl, iV_eq (by dsimp only; omega), rfl, rfl, rfl, rfl, rfl, rfl, trivial⟩
    · have hlt' : ltS c (K[(i + j) >>> 1]) x = false := by unfold ltS; rw [← hx0]; exact decide_eq_false hlt
      rw [hlt'] at hQh
      rw [bs_left hij hQh] at h4
      clear hcl hfin hp
      (repeat' (first
  | (apply W.qd; (first
    | ((apply q_convU; (iterate 3 exact rfl); assumption; omega))|(apply q_mv; (conv => lhs; whnf))|(apply q_as; (conv => lhs; whnf))|(apply q_lss; exact rfl; exact rfl)|(apply q_add; exact rfl; exact rfl; omega)|(apply q_convI; (iterate 3 exact rfl); omega)|(apply q_shrN; exact rfl; exact rfl; (first | (with_reducible exact rfl) | exact natI_spec rfl | assumption | exact (Int.toNat_of_nonneg (by omega)).symm); (first | (with_reducible exact rfl) | exact natI_spec rfl | assumption | exact (Int.toNat_of_nonneg (by omega)).symm); focus (show _ ≤ 64; omega))|(apply q_ix_osl0; (iterate 4 exact rfl); (first | (with_reducible exact rfl) | exact natI_spec rfl | assumption | exact (Int.toNat_of_nonneg (by omega)).symm); (first | omega | (focus (simp only [List.length_map]; omega)) | (focus (simp; done)) | (focus (simp; omega))))
    | (apply q_ld_rptsm; (iterate 4 exact rfl); (first | omega | (focus (simp only [List.length_map]; omega)) | (focus (simp; done)) | (focus (simp; omega))))))|(apply W.ed; (apply (e_callS (hcall)); exact rfl; exact rfl; (first | assumption | kernel_rfl)))|(apply yA)|(apply yB)|(apply yC; kernel_rfl)|(apply yD; exact rfl; kernel_rfl)|(apply yE)|(apply yF; kernel_rfl)|(apply yG)|(apply yH)|(apply yL)
  | (refine W.cond _ rfl (fun hb => ?_) (fun hb => ?_) <;> ((try simp only [hb, zA, zB]) <;> (try simp only [zC, zD, zE, zF, zG, zH, zI, zJ] at hb) <;> (try (exfalso; omega))))))
      exact ⟨(i, (i + j) / 2), ⟨h1, by dsimp only; omega, by dsimp only; omega, h4⟩, by dsimp only; omega, rfl, rfl, iV_eq (by dsimp only; omega), rfl, rfl, rfl, rfl, rfl, trivial⟩
  · rw [bs_done Q hij] at h4
    subst h4
    clear hcl hp
    (repeat' (first
  | (apply W.qd; (first
    | (apply q_mv; (conv => lhs; whnf))|(apply q_as; (conv => lhs; whnf))
    | (apply q_lss; exact rfl; exact rfl)))|(apply yA)|(apply yB)|(apply yC; kernel_rfl)|(apply yE)|(apply yG)|(apply yI)|(apply yK)|(apply yM)
  | (refine W.cond _ rfl (fun hb => ?_) (fun hb => ?_) <;> ((try simp only [hb, zA, zB]) <;> (try simp only [zC, zD, zE, zF, zG, zH, zI, zJ] at hb) <;> (try (exfalso; omega))))))
    refine AWP.loopE (α := List Se × Nat) (fun q => a ≤ q.2 ∧ q.2 < i ∧ q.1 = P ++ ((Y.take (q.2 - a) ++ x :: Y.drop (q.2 - a)) ++ R)) (fun q => ⟨[(13, iV q.2), (10, iV i), (0, .osl 1 ver 0 N)], srtS B ver q.1⟩) (fun q => i - q.2) (K, a) ⟨Nat.le_refl _, by dsimp only; omega, by dsimp only; rw [Nat.sub_self, hK]; simp⟩ ⟨rfl, by (repeat (first | exact trivial | refine ⟨rfl, ?_⟩))⟩ fun q hq => ?_
    obtain ⟨K', k⟩ := q
    obtain ⟨g1, g2, g3⟩ := hq
    dsimp only at g1 g2 g3 ⊢
    by_cases hk : k < i - 1
    · have hka : k - a < Y.length := by omega
      have gl : K'.length = K.length := by rw [g3, hK]; simp; omega
      obtain ⟨yk, hyk⟩ : ∃ yk, yk = Y[k - a] := ⟨_, rfl⟩
      have hyd : Y.drop (k - a) = yk :: Y.drop (k - a + 1) := by rw [hyk]; exact List.drop_eq_getElem_cons hka
      have hyt : Y.take (k - a + 1) = Y.take (k - a) ++ [yk] := by rw [hyk]; exact List.take_succ_eq_append_getElem hka
      have gK : K' = (P ++ Y.take (k - a)) ++ x :: yk :: (Y.drop (k - a + 1) ++ R) := by rw [g3, hyd]; simp
      have el : (P ++ Y.take (k - a)).length = k := by rw [List.length_append, List.length_take]; omega
      have hswp := swp_adj se0 (P ++ Y.take (k - a)) (Y.drop (k - a + 1) ++ R) x yk
      rw [← gK, el] at hswp
      have et : (P ++ Y.take (k - a)) ++ yk :: x :: (Y.drop (k - a + 1) ++ R) = P ++ ((Y.take (k + 1 - a) ++ x :: Y.drop (k + 1 - a)) ++ R) := by
        rw [show k + 1 - a = k - a + 1 by omega, hyt]; simp
      rw [et] at hswp
      unfold swpN at hswp
      have e1 : K'.getD k se0 = K'[k]'(by omega) := by rw [List.getD_eq_getElem?_getD, List.getElem?_eq_getElem (by omega)]; rfl
      have e2 : K'.getD (k + 1) se0 = K'[k + 1]'(by omega) := by rw [List.getD_eq_getElem?_getD, List.getElem?_eq_getElem (by omega)]; rfl
      rw [e1, e2] at hswp
      clear hfin
      (repeat' (first
  | (apply W.qd; (first
    | (apply q_mv; (conv => lhs; whnf))|(apply q_as; (conv => lhs; whnf))|(apply q_lss; exact rfl; exact rfl)|(apply q_add; exact rfl; exact rfl; omega)|(apply q_sub; exact rfl; exact rfl; omega)|(apply q_ix_osl0; (iterate 4 exact rfl); (first | (with_reducible exact rfl) | exact natI_spec rfl | assumption | exact (Int.toNat_of_nonneg (by omega)).symm); (first | omega | (focus (simp only [List.length_map]; omega)) | (focus (simp; done)) | (focus (simp; omega))))
    | (apply q_ld_rptsm; (iterate 4 exact rfl); (first | omega | (focus (simp only [List.length_map]; omega)) | (focus (simp; done)) | (focus (simp; omega))))))|(apply W.en; ((apply (e_st_rptM _); (iterate 9 exact rfl))))|(apply yA)|(apply yB)|(apply yC; kernel_rfl)|(apply yD; exact rfl; kernel_rfl)|(apply yE)|(apply yF; kernel_rfl)|(apply yG)|(apply yH)|(apply yL)
  | (refine W.cond _ rfl (fun hb => ?_) (fun hb => ?_) <;> ((try simp only [hb, zA, zB]) <;> (try simp only [zC, zD, zE, zF, zG, zH, zI, zJ] at hb) <;> (try (exfalso; omega))))))
      exact ⟨(_, k + 1), ⟨by dsimp only; omega, by dsimp only; omega, hswp⟩, by dsimp only; omega, rfl, iV_eq (by dsimp only; omega), rfl, rfl, trivial⟩
    · have ek : k = i - 1 := by omega
      subst ek
      rw [show i - 1 - a = i - m by omega, hfin] at g3
      subst g3
      (repeat' (first
  | (apply W.qd; (first
    | (apply q_mv; (conv => lhs; whnf))|(apply q_lss; exact rfl; exact rfl)
    | (apply q_sub; exact rfl; exact rfl; omega)))|(apply yA)|(apply yB)|(apply yC; kernel_rfl)|(apply yE)|(apply yI)|(apply yJ)|(apply yK)|(apply yP)|(apply yM)
  | (refine W.cond _ rfl (fun hb => ?_) (fun hb => ?_) <;> ((try simp only [hb, zA, zB]) <;> (try simp only [zC, zD, zE, zF, zG, zH, zI, zJ] at hb) <;> (try (exfalso; omega))))))
      exact ⟨.inl rfl, [], trivial, AVle.of_eq rfl, rfl⟩
end
end Go.Proofs.YtcljokdiblnhiaaGreatDoor
end
section
namespace Go.Proofs.YtcljokdiblnhiaaGreatDoor
open Go.RowKit
set_option maxHeartbeats 4000000
set_option maxRecDepth 100000
attribute [local irreducible] Quiet Eff OpOk AWPG ACont ABlock ACalls AGoto
section
variable {B : Ent} {cf : FuncId} {caps : List AV} {c : Se → Se → Int} {ver N : Nat}
theorem A_mergeRS {a m b : Nat} {P R : List Se} {y : Se} {X : List Se} (hc : CmpS cf caps B c) (hN : N ≤ (P ++ ((X ++ [y]) ++ R)).length) (hL : (P ++ ((X ++ [y]) ++ R)).length ≤ 1000000) (ha : P.length = a) (hm : a + X.length = m) (hb : m + 1 = b) (hbN : b ≤ N) (hX : Srt (ltS c) X) (hX2 : 2 ≤ X.length) :
    ACalls Tryz.prog 180 [.osl 1 ver 0 N, iV a, iV m, iV b, .fn cf caps] (srtS B ver (P ++ ((X ++ [y]) ++ R))) (.tup []) (srtS B ver (P ++ (sortN (ltS c) (X ++ [y]) ++ R))) := by
  refine acalls_of_bodyS Tryz.func180 rfl (Nat.le_of_ble_eq_true rfl) ?_
  have hw := hc.weak
  have hgf := hc.isf
  have hcl := hc.call
  obtain ⟨K, hK⟩ : ∃ K, K = P ++ ((X ++ [y]) ++ R) := ⟨_, rfl⟩
  rw [← hK] at hN hL ⊢
  have hKl : K.length = P.length + X.length + 1 + R.length := by rw [hK]; simp; omega
  have hgy : ∀ (h : m < K.length), K[m] = y := fun h => by
    have h0 : K[m]? = some y := by
      have e : K = (P ++ X) ++ (y :: R) := by rw [hK]; simp
      rw [e, List.getElem?_append_right (by simp; omega), show m - (P ++ X).length = 0 by simp; omega]; rfl
    rw [List.getElem?_eq_getElem h] at h0
    exact Option.some.inj h0
  have hgx : ∀ (t : Nat) (h : t < X.length) (h2 : a + t < K.length), K[a + t] = X[t] := fun t h h2 => by
    have e : K = P ++ (X ++ (y :: R)) := by rw [hK]; simp
    simp only [e]
    rw [List.getElem_append_right (by omega), List.getElem_append_left (by omega)]
    congr 1
    omega
  let p : Nat → Bool := fun h => ltS c y (K.getD h se0)
  have hp : ∀ (h : Nat) (hh : h < K.length), p h = ltS c y K[h] := fun h hh => by
    show ltS c y (K.getD h se0) = _
    rw [List.getD_eq_getElem?_getD, List.getElem?_eq_getElem hh]; rfl
  generalize hQ : p = Q at hp
  clear hQ
  obtain ⟨b1, b2, b3, b4⟩ := bs_spec Q (m - a) a m (Nat.le_refl _) (by omega)
  generalize hI : bsN Q a m = I at *
  have hfin : P ++ ((X.take (I - a) ++ y :: X.drop (I - a)) ++ R) = P ++ (sortN (ltS c) (X ++ [y]) ++ R) := by
    have q0 : X.take (I - a) ++ X.drop (I - a) = X := List.take_append_drop _ _
    have q1 : ∀ x ∈ X.take (I - a), ltS c y x = false := fun x hx => by
      by_cases h0 : a < I
      · have := b3 h0
        rw [hp _ (by omega)] at this
        have e : K[I - 1]'(by omega) = X[I - a - 1]'(by omega) := by
          have := hgx (I - a - 1) (by omega) (by omega)
          rw [← this]; congr 1; omega
        rw [e] at this
        have h6 : X.take (I - a) = X.take (I - a - 1) ++ [X[I - a - 1]'(by omega)] := by
          have := List.take_succ_eq_append_getElem (l := X) (i := I - a - 1) (by omega)
          rwa [show I - a - 1 + 1 = I - a by omega] at this
        have h7 : Srt (ltS c) (X.take (I - a - 1) ++ [X[I - a - 1]'(by omega)]) := by
          rw [← h6]
          rw [← q0] at hX
          exact hX.left
        rw [h6] at hx
        exact hw.le_trans (h7.last hw hx) this
      · rw [show I - a = 0 by omega] at hx; simp at hx
    have q2 : ∀ x ∈ X.drop (I - a), ltS c y x = true := fun x hx => by
      by_cases h0 : I < m
      · have := b4 h0
        rw [hp _ (by omega)] at this
        have e : K[I]'(by omega) = X[I - a]'(by omega) := by
          have := hgx (I - a) (by omega) (by omega)
          rw [← this]; congr 1; omega
        rw [e] at this
        have h6 : X.drop (I - a) = X[I - a]'(by omega) :: X.drop (I - a + 1) := List.drop_eq_getElem_cons (by omega)
        have h7 : Srt (ltS c) (X[I - a]'(by omega) :: X.drop (I - a + 1)) := by
          rw [← h6]
          rw [← q0] at hX
          exact hX.right
        rw [h6] at hx
        exact hw.lt_le this (h7.head hw hx)
      · rw [List.drop_eq_nil_of_le (by omega)] at hx; simp at hx
    have q3 : Srt (ltS c) (X.take (I - a) ++ y :: X.drop (I - a)) := srt_insert hw (by rw [q0]; exact hX) q1 (fun x hx => hw.asymm (q2 x hx))
    have q4 : Stb (ltS c) (X ++ [y]) (X.take (I - a) ++ y :: X.drop (I - a)) := by
      have := (Stb.refl (X.take (I - a))).app (Stb.swap (lt := ltS c) hw (U := X.drop (I - a)) (X := [y]) fun z hz u hu => by rw [List.mem_singleton.1 hz]; exact q2 u hu)
      rw [← List.append_assoc, q0] at this
      simpa using this
    rw [sortN_eq hw q3 q4]
  clear hX b3 b4 hgx
  (repeat' (first
  | (apply W.qd; (first
    | (apply q_mv; (conv => lhs; whnf))|(apply q_as; (conv => lhs; whnf))|(apply q_eql; exact rfl; exact rfl)
    | (apply q_sub; exact rfl; exact rfl; omega)))|(apply yA)|(apply yB)|(apply yC; kernel_rfl)|(apply yE)|(apply yG)|(apply yH)
  | (refine W.cond _ rfl (fun hb => ?_) (fun hb => ?_) <;> ((try simp only [hb, zA, zB]) <;> (try simp only [zC, zD, zE, zF, zG, zH, zI, zJ] at hb) <;> (try (exfalso; omega))))))
  refine AWP.loopE (α := Nat × Nat) (fun q => a ≤ q.1 ∧ q.1 ≤ q.2 ∧ q.2 ≤ m ∧ bsN Q q.1 q.2 = I) (fun q => ⟨[(14, iV q.1), (15, iV q.2), (0, .osl 1 ver 0 N), (1, iV a), (2, iV m), (3, iV b), (4, .fn cf caps)], srtS B ver K⟩) (fun q => q.2 - q.1) (a, m) ⟨Nat.le_refl _, by dsimp only; omega, Nat.le_refl _, hI⟩ ⟨rfl, by (repeat (first | exact trivial | refine ⟨rfl, ?_⟩))⟩ fun q hq => ?_
  obtain ⟨i, j⟩ := q
  obtain ⟨h1, h2, h3, h4⟩ := hq
  dsimp only at h1 h2 h3 h4 ⊢
  clear hI
  by_cases hij : i < j
  · have eh := halfS i j
    have eij : (i : Int) + (j : Int) = ((i + j : Nat) : Int) := by omega
    have hh : (i + j) >>> 1 < K.length := by omega
    have hcall := hcl (K[m]'(by omega)) (K[(i + j) >>> 1]) ver (K.map seD)
    have hQh : Q ((i + j) / 2) = ltS c y K[(i + j) >>> 1] := by rw [← eh]; exact hp _ hh
    have hy0 := hgy (by omega)
    by_cases hlt : c (K[m]'(by omega)) (K[(i + j) >>> 1]) < 0
    · have hlt' : ltS c y (K[(i + j) >>> 1]) = true := by unfold ltS; rw [← hy0]; exact decide_eq_true hlt
      rw [hlt'] at hQh
      rw [bs_left hij hQh] at h4
      clear hcl hfin hp
      (repeat' (first
  | (apply W.qd; (first
    | ((apply q_convU; (iterate 3 exact rfl); assumption; omega))|(apply q_mv; (conv => lhs; whnf))|(apply q_as; (conv => lhs; whnf))|(apply q_lss; exact rfl; exact rfl)|(apply q_not; exact rfl)|(apply q_add; exact rfl; exact rfl; omega)|(apply q_convI; (iterate 3 exact rfl); omega)|(apply q_shrN; exact rfl; exact rfl; (first | (with_reducible exact rfl) | exact natI_spec rfl | assumption | exact (Int.toNat_of_nonneg (by omega)).symm); (first | (with_reducible exact rfl) | exact natI_spec rfl | assumption | exact (Int.toNat_of_nonneg (by omega)).symm); focus (show _ ≤ 64; omega))|(apply q_ix_osl0; (iterate 4 exact rfl); (first | (with_reducible exact rfl) | exact natI_spec rfl | assumption | exact (Int.toNat_of_nonneg (by omega)).symm); (first | omega | (focus (simp only [List.length_map]; omega)) | (focus (simp; done)) | (focus (simp; omega))))
    | (apply q_ld_rptsm; (iterate 4 exact rfl); (first | omega | (focus (simp only [List.length_map]; omega)) | (focus (simp; done)) | (focus (simp; omega))))))|(apply W.ed; (apply (e_callS (hcall)); exact rfl; exact rfl; (first | assumption | kernel_rfl)))|(apply yA)|(apply yB)|(apply yC; kernel_rfl)|(apply yD; exact rfl; kernel_rfl)|(apply yE)|(apply yF; kernel_rfl)|(apply yG)|(apply yH)|(apply yL)
  | (refine W.cond _ rfl (fun hb => ?_) (fun hb => ?_) <;> ((try simp only [hb, zA, zB]) <;> (try simp only [zC, zD, zE, zF, zG, zH, zI, zJ] at hb) <;> (try (exfalso; omega))))))
      exact ⟨(i, (i + j) / 2), ⟨h1, by dsimp only; omega, by dsimp only; omega, h4⟩, by dsimp only; omega, rfl, rfl, iV_eq (by dsimp only; omega), rfl, rfl, rfl, rfl, rfl, trivial⟩
    · have hlt' : ltS c y (K[(i + j) >>> 1]) = false := by unfold ltS; rw [← hy0]; exact decide_eq_false hlt
      rw [hlt'] at hQh
      rw [bs_right hij hQh] at h4
      clear hcl hfin hp
      (repeat' (first
  | (apply W.qd; (first
    | ((apply q_convU; (iterate 3 exact rfl); assumption; omega))|(apply q_mv; (conv => lhs; whnf))|(apply q_as; (conv => lhs; whnf))|(apply q_lss; exact rfl; exact rfl)|(apply q_not; exact rfl)|(apply q_add; exact rfl; exact rfl; omega)|(apply q_convI; (iterate 3 exact rfl); omega)|(apply q_shrN; exact rfl; exact rfl; (first | (with_reducible exact rfl) | exact natI_spec rfl | assumption | exact (Int.toNat_of_nonneg (by omega)).symm); (first | (with_reducible exact rfl) | exact natI_spec rfl | assumption | exact (Int.toNat_of_nonneg (by omega)).symm); focus (show _ ≤ 64; omega))|(apply q_ix_osl0; (iterate 4 exact rfl); (first | (with_reducible exact rfl) | exact natI_spec rfl | assumption | exact (Int.toNat_of_nonneg (by omega)).symm); (first | omega | (focus (simp only [List.length_map]; omega)) | (focus (simp; done)) | (focus (simp; omega))))
    | (apply q_ld_rptsm; (iterate 4 exact rfl); (first | omega | (focus (simp only [List.length_map]; omega)) | (focus (simp; done)) | (focus (simp; omega))))))|(apply W.ed; (apply (e_callS (hcall)); exact rfl; exact rfl; (first | assumption | kernel_rfl)))|(apply yA)|(apply yB)|(apply yC; kernel_rfl)|(apply yD; exact rfl; kernel_rfl)|(apply yE)|(apply yF; kernel_rfl)|(apply yG)|(apply yH)|(apply yL)
  | (refine W.cond _ rfl (fun hb => ?_) (fun hb => ?_) <;> ((try simp only [hb, zA, zB]) <;> (try simp only [zC, zD, zE, zF, zG, zH, zI, zJ] at hb) <;> (try (exfalso; omega))))))
      exact ⟨((i + j) / 2 + 1, j), ⟨by dsimp only; omega, by dsimp only; omega, h3, h4⟩, by dsimp only; omega, rfl, iV_eq (by dsimp only; omega), rfl, rfl, rfl, rfl, rfl, rfl, trivial⟩
  · rw [bs_done Q hij] at h4
    subst h4
    clear hcl hp
    (repeat' (first
  | (apply W.qd; (first
    | (apply q_mv; (conv => lhs; whnf))|(apply q_as; (conv => lhs; whnf))
    | (apply q_lss; exact rfl; exact rfl)))|(apply yA)|(apply yB)|(apply yC; kernel_rfl)|(apply yE)|(apply yG)|(apply yI)|(apply yK)|(apply yM)
  | (refine W.cond _ rfl (fun hb => ?_) (fun hb => ?_) <;> ((try simp only [hb, zA, zB]) <;> (try simp only [zC, zD, zE, zF, zG, zH, zI, zJ] at hb) <;> (try (exfalso; omega))))))
    refine AWP.loopE (α := List Se × Nat) (fun q => i ≤ q.2 ∧ q.2 ≤ m ∧ q.1 = P ++ ((X.take (q.2 - a) ++ y :: X.drop (q.2 - a)) ++ R)) (fun q => ⟨[(17, iV q.2), (14, iV i), (0, .osl 1 ver 0 N)], srtS B ver q.1⟩) (fun q => q.2) (K, m) ⟨by dsimp only; omega, Nat.le_refl _, ?kk⟩ ⟨rfl, by (repeat (first | exact trivial | refine ⟨rfl, ?_⟩))⟩ fun q hq => ?_
    case kk =>
      dsimp only
      rw [show m - a = X.length by omega, List.take_length, List.drop_length, hK]
    obtain ⟨K', k⟩ := q
    obtain ⟨g1, g2, g3⟩ := hq
    dsimp only at g1 g2 g3 ⊢
    by_cases hk : i < k
    · have hka : k - 1 - a < X.length := by omega
      have gl : K'.length = K.length := by rw [g3, hK]; simp; omega
      obtain ⟨u, hu⟩ : ∃ u, u = X[k - 1 - a] := ⟨_, rfl⟩
      have hyd : X.drop (k - 1 - a) = u :: X.drop (k - a) := by rw [hu, show k - a = k - 1 - a + 1 by omega]; exact List.drop_eq_getElem_cons hka
      have hyt : X.take (k - a) = X.take (k - 1 - a) ++ [u] := by rw [hu, show k - a = k - 1 - a + 1 by omega]; exact List.take_succ_eq_append_getElem hka
      have gK : K' = (P ++ X.take (k - 1 - a)) ++ u :: y :: (X.drop (k - a) ++ R) := by rw [g3, hyt]; simp
      have el : (P ++ X.take (k - 1 - a)).length = k - 1 := by rw [List.length_append, List.length_take]; omega
      have hswp := swp_adj' se0 (P ++ X.take (k - 1 - a)) (X.drop (k - a) ++ R) u y
      rw [← gK, el, show k - 1 + 1 = k by omega] at hswp
      have et : (P ++ X.take (k - 1 - a)) ++ y :: u :: (X.drop (k - a) ++ R) = P ++ ((X.take (k - 1 - a) ++ y :: X.drop (k - 1 - a)) ++ R) := by
        rw [hyd]; simp
      rw [et] at hswp
      unfold swpN at hswp
      have e1 : K'.getD k se0 = K'[k]'(by omega) := by rw [List.getD_eq_getElem?_getD, List.getElem?_eq_getElem (by omega)]; rfl
      have e2 : K'.getD (k - 1) se0 = K'[k - 1]'(by omega) := by rw [List.getD_eq_getElem?_getD, List.getElem?_eq_getElem (by omega)]; rfl
      rw [e1, e2] at hswp
      have ek : (k : Int) - 1 = ((k - 1 : Nat) : Int) := by omega
      clear hfin
      (repeat' (first
  | (apply W.qd; (first
    | (apply q_mv; (conv => lhs; whnf))|(apply q_as; (conv => lhs; whnf))|(apply q_gtr; exact rfl; exact rfl)|(apply q_sub; exact rfl; exact rfl; omega)|(apply q_ix_osl0; (iterate 4 exact rfl); (first | (with_reducible exact rfl) | exact natI_spec rfl | assumption | exact (Int.toNat_of_nonneg (by omega)).symm); (first | omega | (focus (simp only [List.length_map]; omega)) | (focus (simp; done)) | (focus (simp; omega))))
    | (apply q_ld_rptsm; (iterate 4 exact rfl); (first | omega | (focus (simp only [List.length_map]; omega)) | (focus (simp; done)) | (focus (simp; omega))))))|(apply W.en; ((apply (e_st_rptM _); (iterate 9 exact rfl))))|(apply yA)|(apply yB)|(apply yC; kernel_rfl)|(apply yD; exact rfl; kernel_rfl)|(apply yE)|(apply yF; kernel_rfl)|(apply yG)|(apply yH)|(apply yL)
  | (refine W.cond _ rfl (fun hb => ?_) (fun hb => ?_) <;> ((try simp only [hb, zA, zB]) <;> (try simp only [zC, zD, zE, zF, zG, zH, zI, zJ] at hb) <;> (try (exfalso; omega))))))
      exact ⟨(_, k - 1), ⟨by dsimp only; omega, by dsimp only; omega, hswp⟩, by dsimp only; omega, rfl, iV_eq (by dsimp only; omega), rfl, rfl, trivial⟩
    · have ek : k = i := by omega
      subst ek
      rw [hfin] at g3
      subst g3
      (repeat' (first
  | (apply W.qd; (first
    | (apply q_mv; (conv => lhs; whnf))
    | (apply q_gtr; exact rfl; exact rfl)))|(apply yA)|(apply yB)|(apply yC; kernel_rfl)|(apply yE)|(apply yI)|(apply yJ)|(apply yK)|(apply yP)|(apply yM)
  | (refine W.cond _ rfl (fun hb => ?_) (fun hb => ?_) <;> ((try simp only [hb, zA, zB]) <;> (try simp only [zC, zD, zE, zF, zG, zH, zI, zJ] at hb) <;> (try (exfalso; omega))))))
      exact ⟨.inl rfl, [], trivial, AVle.of_eq rfl, rfl⟩
def SymS (c : Se → Se → Int) (cf : FuncId) (caps : List AV) (B : Ent) (ver N : Nat) (P X Y R : List Se) : Prop :=
  ACalls Tryz.prog 180 [.osl 1 ver 0 N, iV P.length, iV (P.length + X.length : Nat), iV (P.length + X.length + Y.length : Nat), .fn cf caps] (srtS B ver (P ++ ((X ++ Y) ++ R))) (.tup []) (srtS B ver (P ++ (sortN (ltS c) (X ++ Y) ++ R)))
end
end Go.Proofs.YtcljokdiblnhiaaGreatDoor
end
section
namespace Go.Proofs.YtcljokdiblnhiaaGreatDoor
open Go.RowKit
set_option maxHeartbeats 4000000
set_option maxRecDepth 100000
attribute [local irreducible] Quiet Eff OpOk AWPG ACont ABlock ACalls AGoto
section
variable {B : Ent} {cf : FuncId} {caps : List AV} {c : Se → Se → Int} {ver N : Nat}
theorem getE_midS {P S : List Se} {k : Nat} {x : Se} {K : List Se} (hK : K = P ++ x :: S) (hk : P.length = k) (h : k < K.length) : K[k] = x := by
  have h0 : K[k]? = some x := by rw [hK, ← hk, List.getElem?_append_right (Nat.le_refl _), Nat.sub_self]; rfl
  rw [List.getElem?_eq_getElem h] at h0
  exact Option.some.inj h0
theorem A_symStepS {P X Y R : List Se} (hc : CmpS cf caps B c) (hN : N ≤ (P ++ ((X ++ Y) ++ R)).length) (hL : (P ++ ((X ++ Y) ++ R)).length ≤ 1000000) (hbN : P.length + X.length + Y.length ≤ N) (hX2 : 2 ≤ X.length) (hY2 : 2 ≤ Y.length) (sX : Srt (ltS c) X) (sY : Srt (ltS c) Y)
    (ih : ∀ P' X' Y' R' : List Se, (P' ++ ((X' ++ Y') ++ R')).length = (P ++ ((X ++ Y) ++ R)).length → X'.length + Y'.length < X.length + Y.length → 0 < X'.length → 0 < Y'.length → P'.length + X'.length + Y'.length ≤ N → Srt (ltS c) X' → Srt (ltS c) Y' → SymS c cf caps B ver N P' X' Y' R') :
    SymS c cf caps B ver N P X Y R := by
  unfold SymS at ih ⊢
  have hw := hc.weak
  have hgf := hc.isf
  have hcl := hc.call
  obtain ⟨a, ha⟩ : ∃ a, P.length = a := ⟨_, rfl⟩
  obtain ⟨m, hm⟩ : ∃ m, a + X.length = m := ⟨_, rfl⟩
  obtain ⟨b, hb⟩ : ∃ b, m + Y.length = b := ⟨_, rfl⟩
  rw [ha, hm, hb] at hbN ⊢
  obtain ⟨K, hK⟩ : ∃ K, P ++ ((X ++ Y) ++ R) = K := ⟨_, rfl⟩
  rw [hK] at hN hL ih ⊢
  have hKl : K.length = a + X.length + Y.length + R.length := by rw [← hK]; simp; omega
  obtain ⟨mid, hmid⟩ : ∃ mid, mid = (a + b) >>> 1 := ⟨_, rfl⟩
  have ehm := halfS a b
  have eab : (a : Int) + (b : Int) = ((a + b : Nat) : Int) := by omega
  obtain ⟨s0, r0, hlo, hhi⟩ : ∃ s0 r0 : Nat, (mid < m → s0 = mid + m - b ∧ r0 = mid) ∧ (m ≤ mid → s0 = a ∧ r0 = m) := by
    by_cases h : mid < m
    · exact ⟨mid + m - b, mid, fun _ => ⟨rfl, rfl⟩, fun h2 => by omega⟩
    · exact ⟨a, m, fun h2 => by omega, fun _ => ⟨rfl, rfl⟩⟩
  let p : Nat → Bool := fun h => ltS c (K.getD (mid + m - 1 - h) se0) (K.getD h se0)
  have hp : ∀ (h : Nat) (hh : h < K.length) (h2 : mid + m - 1 - h < K.length), p h = ltS c K[mid + m - 1 - h] K[h] := fun h hh h2 => by
    show ltS c (K.getD (mid + m - 1 - h) se0) (K.getD h se0) = _
    have q1 : K.getD h se0 = K[h] := by rw [List.getD_eq_getElem?_getD, List.getElem?_eq_getElem hh]; rfl
    have q2 : K.getD (mid + m - 1 - h) se0 = K[mid + m - 1 - h] := by rw [List.getD_eq_getElem?_getD, List.getElem?_eq_getElem h2]; rfl
    rw [q1, q2]
  generalize hQ : p = Q at hp
  clear hQ
  have hsr : s0 ≤ r0 := by omega
  obtain ⟨b1, b2, b3, b4⟩ := bs_spec Q (r0 - s0) s0 r0 (Nat.le_refl _) hsr
  generalize hI : bsN Q s0 r0 = I at *
  obtain ⟨e, he⟩ : ∃ e, e + I = mid + m := ⟨mid + m - I, by omega⟩
  have r_a : a ≤ I := by omega
  have r_m : I ≤ m := by omega
  have r_e : m ≤ e := by omega
  have r_b : e ≤ b := by omega
  obtain ⟨X1, hX1⟩ : ∃ l, l = X.take (I - a) := ⟨_, rfl⟩
  obtain ⟨X2, hX2'⟩ : ∃ l, l = X.drop (I - a) := ⟨_, rfl⟩
  obtain ⟨Y1, hY1⟩ : ∃ l, l = Y.take (e - m) := ⟨_, rfl⟩
  obtain ⟨Y2, hY2'⟩ : ∃ l, l = Y.drop (e - m) := ⟨_, rfl⟩
  have eX : X = X1 ++ X2 := by rw [hX1, hX2', List.take_append_drop]
  have eY : Y = Y1 ++ Y2 := by rw [hY1, hY2', List.take_append_drop]
  have lX1 : X1.length = I - a := by rw [hX1, List.length_take]; omega
  have lX2 : X2.length = m - I := by rw [hX2', List.length_drop]; omega
  have lY1 : Y1.length = e - m := by rw [hY1, List.length_take]; omega
  have lY2 : Y2.length = b - e := by rw [hY2', List.length_drop]; omega
  have lX : X.length = m - a := by omega
  have lY : Y.length = b - m := by omega
  clear hX1 hX2' hY1 hY2'
  subst eX eY
  have eK : K = P ++ (X1 ++ (X2 ++ (Y1 ++ (Y2 ++ R)))) := by rw [← hK]; simp
  have f1 : ∀ y ∈ Y1, ∀ x ∈ X2, ltS c y x = true := fun y hy x hx => by
    rcases List.eq_nil_or_concat Y1 with h0 | ⟨Y1', v, h0⟩
    · rw [h0] at hy; simp at hy
    rcases X2 with _ | ⟨u, X2'⟩
    · simp at hx
    rw [List.concat_eq_append] at h0
    subst h0
    have hIr : I < r0 := by
      have : 0 < (u :: X2').length := by simp
      have : 0 < (Y1' ++ [v]).length := by simp
      omega
    have := b4 hIr
    rw [hp I (by omega) (by omega)] at this
    rw [getE_midS (k := I) (P := P ++ X1) (S := X2' ++ ((Y1' ++ [v]) ++ (Y2 ++ R))) (x := u) (by rw [eK]; simp) (by simp; omega), getE_midS (k := mid + m - 1 - I) (P := P ++ (X1 ++ ((u :: X2') ++ Y1'))) (S := Y2 ++ R) (x := v) (by rw [eK]; simp) (by simp at lX2 lY1 ⊢; omega)] at this
    exact hw.lt_le (hw.le_lt (sY.left.last hw hy) this) (sX.right.head hw hx)
  have f2 : ∀ x ∈ X1, ∀ y ∈ Y2, ltS c y x = false := fun x hx y hy => by
    rcases List.eq_nil_or_concat X1 with h0 | ⟨X1', u, h0⟩
    · rw [h0] at hx; simp at hx
    rcases Y2 with _ | ⟨v, Y2'⟩
    · simp at hy
    rw [List.concat_eq_append] at h0
    subst h0
    have hIr : s0 < I := by
      have : 0 < (v :: Y2').length := by simp
      have : 0 < (X1' ++ [u]).length := by simp
      omega
    have := b3 hIr
    rw [hp (I - 1) (by omega) (by omega)] at this
    rw [getE_midS (k := I - 1) (P := P ++ X1') (S := X2 ++ (Y1 ++ ((v :: Y2') ++ R))) (x := u) (by rw [eK]; simp) (by simp at lX1 ⊢; omega), getE_midS (k := mid + m - 1 - (I - 1)) (P := P ++ ((X1' ++ [u]) ++ (X2 ++ Y1))) (S := Y2' ++ R) (x := v) (by rw [eK]; simp) (by simp at lX1 lY2 ⊢; omega)] at this
    exact hw.le_trans (hw.le_trans (sX.left.last hw hx) this) (sY.right.head hw hy)
  obtain ⟨z1, z2⟩ := sortN_spec hw (X1 ++ Y1)
  obtain ⟨z3, z4⟩ := sortN_spec hw (X2 ++ Y2)
  obtain ⟨z5, z6⟩ := merge_cut hw sX sY f1 f2 z1 z3 z2 z4
  have z7 := sortN_eq hw z5 z6
  obtain ⟨K2, hK2⟩ : ∃ K2, P ++ ((X1 ++ Y1) ++ ((X2 ++ Y2) ++ R)) = K2 := ⟨_, rfl⟩
  obtain ⟨K3, hK3⟩ : ∃ K3, P ++ (sortN (ltS c) (X1 ++ Y1) ++ ((X2 ++ Y2) ++ R)) = K3 := ⟨_, rfl⟩
  obtain ⟨K4, hK4⟩ : ∃ K4, P ++ (sortN (ltS c) ((X1 ++ X2) ++ (Y1 ++ Y2)) ++ R) = K4 := ⟨_, rfl⟩
  have hK4' : (P ++ sortN (ltS c) (X1 ++ Y1)) ++ (sortN (ltS c) (X2 ++ Y2) ++ R) = K4 := by rw [← hK4, ← z7]; simp
  rw [hK4]
  have r1 : ((I < m ∧ m < e) ∧ ACalls Tryz.prog 213 [.osl 1 ver 0 N, iV I, iV m, iV e, .fn cf caps] (srtS B ver K) (.tup []) (srtS B ver K2)) ∨ (¬ (I < m ∧ m < e) ∧ K = K2) := by
    by_cases c1 : I < m ∧ m < e
    · left
      refine ⟨c1, ?_⟩
      have := A_rotateS (B := B) (ver := ver) (N := N) (cf := cf) (caps := caps) (a := I) (m := m) (b := e) (P := P ++ X1) (U := X2) (V := Y1) (S := Y2 ++ R) (by rw [show (P ++ X1) ++ (X2 ++ (Y1 ++ (Y2 ++ R))) = K by rw [eK]; simp]; exact hN) (by rw [show (P ++ X1) ++ (X2 ++ (Y1 ++ (Y2 ++ R))) = K by rw [eK]; simp]; exact hL) (by simp; omega) (by simp; omega) (by omega) (by omega) (by omega) (by omega)
      rw [show (P ++ X1) ++ (X2 ++ (Y1 ++ (Y2 ++ R))) = K by rw [eK]; simp, show (P ++ X1) ++ (Y1 ++ (X2 ++ (Y2 ++ R))) = K2 by rw [← hK2]; simp] at this
      exact this
    · right
      refine ⟨c1, ?_⟩
      rw [eK, ← hK2]
      by_cases h0 : I < m
      · have : Y1 = [] := List.eq_nil_of_length_eq_zero (by omega)
        subst this; simp
      · have : X2 = [] := List.eq_nil_of_length_eq_zero (by omega)
        subst this; simp
  have hl2 : K2.length = K.length := by rw [← hK2, eK]; simp; omega
  have hl3 : K3.length = K.length := by rw [← hK3, eK]; simp [sortN_len]; omega
  have r2 : ((a < I ∧ I < mid) ∧ ACalls Tryz.prog 180 [.osl 1 ver 0 N, iV a, iV I, iV mid, .fn cf caps] (srtS B ver K2) (.tup []) (srtS B ver K3)) ∨ (¬ (a < I ∧ I < mid) ∧ K2 = K3) := by
    by_cases c2 : a < I ∧ I < mid
    · left
      refine ⟨c2, ?_⟩
      have := ih P X1 Y1 ((X2 ++ Y2) ++ R) (by rw [hK2]; exact hl2) (by omega) (by omega) (by omega) (by omega) sX.left sY.left
      rw [ha, show a + X1.length = I by omega, show I + Y1.length = mid by omega, hK2, hK3] at this
      exact this
    · right
      refine ⟨c2, ?_⟩
      rw [← hK2, ← hK3]
      by_cases h0 : a < I
      · have : Y1 = [] := List.eq_nil_of_length_eq_zero (by omega)
        subst this
        rw [List.append_nil, sortN_self hw sX.left]
      · have : X1 = [] := List.eq_nil_of_length_eq_zero (by omega)
        subst this
        rw [List.nil_append, sortN_self hw sY.left]
  have r3 : ((mid < e ∧ e < b) ∧ ACalls Tryz.prog 180 [.osl 1 ver 0 N, iV mid, iV e, iV b, .fn cf caps] (srtS B ver K3) (.tup []) (srtS B ver K4)) ∨ (¬ (mid < e ∧ e < b) ∧ K3 = K4) := by
    have lP : (P ++ sortN (ltS c) (X1 ++ Y1)).length = mid := by simp [sortN_len]; omega
    by_cases c3 : mid < e ∧ e < b
    · left
      refine ⟨c3, ?_⟩
      have e3 : (P ++ sortN (ltS c) (X1 ++ Y1)) ++ ((X2 ++ Y2) ++ R) = K3 := by rw [← hK3]; simp
      have := ih (P ++ sortN (ltS c) (X1 ++ Y1)) X2 Y2 R (by rw [e3]; exact hl3) (by omega) (by omega) (by omega) (by omega) sX.right sY.right
      rw [lP, show mid + X2.length = e by omega, show e + Y2.length = b by omega, e3, hK4'] at this
      exact this
    · right
      refine ⟨c3, ?_⟩
      rw [← hK3, ← hK4']
      by_cases h0 : mid < e
      · have : Y2 = [] := List.eq_nil_of_length_eq_zero (by omega)
        subst this
        rw [List.append_nil, sortN_self hw sX.right]; simp
      · have : X2 = [] := List.eq_nil_of_length_eq_zero (by omega)
        subst this
        rw [List.nil_append, sortN_self hw sY.right]; simp
  clear ih f1 f2 b3 b4 z1 z2 z3 z4 z5 z6 z7 hK hK2 hK3 hK4 hK4' eK sX sY lX1 lX2 lY1 lY2 hl2 hl3
  have hXl : 2 ≤ m - a := by omega
  have hYl : 2 ≤ b - m := by omega
  refine acalls_of_bodyS Tryz.func180 rfl (Nat.le_of_ble_eq_true rfl) ?_
  (repeat' (first
  | (apply W.qd; (first
    | ((apply q_convU; (iterate 3 exact rfl); assumption; omega))|(apply q_mv; (conv => lhs; whnf))|(apply q_as; (conv => lhs; whnf))|(apply q_gtr; exact rfl; exact rfl)|(apply q_eql; exact rfl; exact rfl)|(apply q_add; exact rfl; exact rfl; omega)|(apply q_sub; exact rfl; exact rfl; omega)|(apply q_convI; (iterate 3 exact rfl); omega)
    | (apply q_shrN; exact rfl; exact rfl; (first | (with_reducible exact rfl) | exact natI_spec rfl | assumption | exact (Int.toNat_of_nonneg (by omega)).symm); (first | (with_reducible exact rfl) | exact natI_spec rfl | assumption | exact (Int.toNat_of_nonneg (by omega)).symm); focus (show _ ≤ 64; omega))))|(apply yA)|(apply yB)|(apply (W.regionS 32); exact rfl; kernel_rfl)|(apply yE)|(apply yH)
  | (refine W.cond _ rfl (fun hb => ?_) (fun hb => ?_) <;> ((try simp only [hb, zA, zB]) <;> (try simp only [zC, zD, zE, zF, zG, zH, zI, zJ] at hb) <;> (try (exfalso; omega))))))
  all_goals
    refine AWP.wkE ⟨[(20, iV s0), (21, iV r0), (18, iV mid), (19, iV (mid + m : Nat)), (0, .osl 1 ver 0 N), (1, iV a), (2, iV m), (3, iV b), (4, .fn cf caps)], srtS B ver K⟩ ⟨rfl, iV_eq (by omega), iV_eq (by omega), iV_eq (by omega), iV_eq (by omega), rfl, rfl, rfl, rfl, rfl, trivial⟩ ?_
    clear hb
    (repeat' (first
  | (apply W.qd; (first
    | (apply q_mv; (conv => lhs; whnf))|(apply q_as; (conv => lhs; whnf))
    | (apply q_sub; exact rfl; exact rfl; omega)))|(apply yA)|(apply yB)|(apply yC; kernel_rfl)|(apply yE)
  | (apply yG)))
    refine AWP.loopE (α := Nat × Nat) (fun q => s0 ≤ q.1 ∧ q.1 ≤ q.2 ∧ q.2 ≤ r0 ∧ bsN Q q.1 q.2 = I) (fun q => ⟨[(20, iV q.1), (21, iV q.2), (22, iV (mid + m - 1 : Nat)), (18, iV mid), (19, iV (mid + m : Nat)), (0, .osl 1 ver 0 N), (1, iV a), (2, iV m), (3, iV b), (4, .fn cf caps)], srtS B ver K⟩) (fun q => q.2 - q.1) (s0, r0) ⟨Nat.le_refl _, hsr, Nat.le_refl _, hI⟩ ⟨rfl, rfl, rfl, iV_eq (by omega), rfl, rfl, rfl, rfl, rfl, rfl, rfl, trivial⟩ fun q hq => ?_
    obtain ⟨i, j⟩ := q
    obtain ⟨h1, h2, h3, h4⟩ := hq
    dsimp only at h1 h2 h3 h4 ⊢
    clear hI
    by_cases hij : i < j
    · have eh := halfS i j
      have eij : (i : Int) + (j : Int) = ((i + j : Nat) : Int) := by omega
      have hh : (i + j) >>> 1 < K.length := by omega
      have hh2 : mid + m - 1 - (i + j) >>> 1 < K.length := by omega
      have epc : ((mid + m - 1 : Nat) : Int) - (((i + j) >>> 1 : Nat) : Int) = ((mid + m - 1 - (i + j) >>> 1 : Nat) : Int) := by omega
      have hcall := hcl (K[mid + m - 1 - (i + j) >>> 1]) (K[(i + j) >>> 1]) ver (K.map seD)
      have hQh : Q ((i + j) / 2) = ltS c (K[mid + m - 1 - (i + j) >>> 1]) (K[(i + j) >>> 1]) := by rw [← eh]; exact hp _ hh hh2
      by_cases hlt : c (K[mid + m - 1 - (i + j) >>> 1]) (K[(i + j) >>> 1]) < 0
      · have hlt' : ltS c (K[mid + m - 1 - (i + j) >>> 1]) (K[(i + j) >>> 1]) = true := decide_eq_true hlt
        rw [hlt'] at hQh
        rw [bs_left hij hQh] at h4
        clear hcl hp r1 r2 r3
        (repeat' (first
  | (apply W.qd; (first
    | ((apply q_convU; (iterate 3 exact rfl); assumption; omega))|(apply q_mv; (conv => lhs; whnf))|(apply q_as; (conv => lhs; whnf))|(apply q_lss; exact rfl; exact rfl)|(apply q_not; exact rfl)|(apply q_add; exact rfl; exact rfl; omega)|(apply q_sub; exact rfl; exact rfl; omega)|(apply q_convI; (iterate 3 exact rfl); omega)|(apply q_shrN; exact rfl; exact rfl; (first | (with_reducible exact rfl) | exact natI_spec rfl | assumption | exact (Int.toNat_of_nonneg (by omega)).symm); (first | (with_reducible exact rfl) | exact natI_spec rfl | assumption | exact (Int.toNat_of_nonneg (by omega)).symm); focus (show _ ≤ 64; omega))|(apply q_ix_osl0; (iterate 4 exact rfl); (first | (with_reducible exact rfl) | exact natI_spec rfl | assumption | exact (Int.toNat_of_nonneg (by omega)).symm); (first | omega | (focus (simp only [List.length_map]; omega)) | (focus (simp; done)) | (focus (simp; omega))))
    | (apply q_ld_rptsm; (iterate 4 exact rfl); (first | omega | (focus (simp only [List.length_map]; omega)) | (focus (simp; done)) | (focus (simp; omega))))))|(apply W.ed; (apply (e_callS (hcall)); exact rfl; exact rfl; (first | assumption | kernel_rfl)))|(apply yA)|(apply yB)|(apply yC; kernel_rfl)|(apply yD; exact rfl; kernel_rfl)|(apply yE)|(apply yF; kernel_rfl)|(apply yG)|(apply yH)|(apply yL)
  | (refine W.cond _ rfl (fun hb => ?_) (fun hb => ?_) <;> ((try simp only [hb, zA, zB]) <;> (try simp only [zC, zD, zE, zF, zG, zH, zI, zJ] at hb) <;> (try (exfalso; omega))))))
        exact ⟨(i, (i + j) / 2), ⟨h1, by dsimp only; omega, by dsimp only; omega, h4⟩, by dsimp only; omega, rfl, rfl, iV_eq (by dsimp only; omega), rfl, rfl, rfl, rfl, rfl, rfl, rfl, rfl, trivial⟩
      · have hlt' : ltS c (K[mid + m - 1 - (i + j) >>> 1]) (K[(i + j) >>> 1]) = false := decide_eq_false hlt
        rw [hlt'] at hQh
        rw [bs_right hij hQh] at h4
        clear hcl hp r1 r2 r3
        (repeat' (first
  | (apply W.qd; (first
    | ((apply q_convU; (iterate 3 exact rfl); assumption; omega))|(apply q_mv; (conv => lhs; whnf))|(apply q_as; (conv => lhs; whnf))|(apply q_lss; exact rfl; exact rfl)|(apply q_not; exact rfl)|(apply q_add; exact rfl; exact rfl; omega)|(apply q_sub; exact rfl; exact rfl; omega)|(apply q_convI; (iterate 3 exact rfl); omega)|(apply q_shrN; exact rfl; exact rfl; (first | (with_reducible exact rfl) | exact natI_spec rfl | assumption | exact (Int.toNat_of_nonneg (by omega)).symm); (first | (with_reducible exact rfl) | exact natI_spec rfl | assumption | exact (Int.toNat_of_nonneg (by omega)).symm); focus (show _ ≤ 64; omega))|(apply q_ix_osl0; (iterate 4 exact rfl); (first | (with_reducible exact rfl) | exact natI_spec rfl | assumption | exact (Int.toNat_of_nonneg (by omega)).symm); (first | omega | (focus (simp only [List.length_map]; omega)) | (focus (simp; done)) | (focus (simp; omega))))
    | (apply q_ld_rptsm; (iterate 4 exact rfl); (first | omega | (focus (simp only [List.length_map]; omega)) | (focus (simp; done)) | (focus (simp; omega))))))|(apply W.ed; (apply (e_callS (hcall)); exact rfl; exact rfl; (first | assumption | kernel_rfl)))|(apply yA)|(apply yB)|(apply yC; kernel_rfl)|(apply yD; exact rfl; kernel_rfl)|(apply yE)|(apply yF; kernel_rfl)|(apply yG)|(apply yH)|(apply yL)
  | (refine W.cond _ rfl (fun hb => ?_) (fun hb => ?_) <;> ((try simp only [hb, zA, zB]) <;> (try simp only [zC, zD, zE, zF, zG, zH, zI, zJ] at hb) <;> (try (exfalso; omega))))))
        exact ⟨((i + j) / 2 + 1, j), ⟨by dsimp only; omega, by dsimp only; omega, h3, h4⟩, by dsimp only; omega, rfl, iV_eq (by dsimp only; omega), rfl, rfl, rfl, rfl, rfl, rfl, rfl, rfl, rfl, trivial⟩
    · rw [bs_done Q hij] at h4
      subst h4
      clear hcl hp
      (repeat' (first
  | (apply W.qd; (first
    | (apply q_mv; (conv => lhs; whnf))|(apply q_as; (conv => lhs; whnf))|(apply q_lss; exact rfl; exact rfl)
    | (apply q_sub; exact rfl; exact rfl; omega)))|(apply yA)|(apply yB)|(apply (W.regionS 39); exact rfl; kernel_rfl)|(apply yE)|(apply yI)|(apply yK)|(apply yM)
  | (refine W.cond _ rfl (fun hb => ?_) (fun hb => ?_) <;> ((try simp only [hb, zA, zB]) <;> (try simp only [zC, zD, zE, zF, zG, zH, zI, zJ] at hb) <;> (try (exfalso; omega))))))
      refine AWP.wkE ⟨[(24, iV e), (20, iV i), (18, iV mid), (0, .osl 1 ver 0 N), (1, iV a), (2, iV m), (3, iV b), (4, .fn cf caps)], srtS B ver K⟩ ⟨rfl, iV_eq (by omega), rfl, rfl, rfl, rfl, rfl, rfl, rfl, trivial⟩ ?_
      rcases r1 with ⟨c1, q1⟩ | ⟨c1, rfl⟩ <;> rcases r2 with ⟨c2, q2⟩ | ⟨c2, rfl⟩ <;> rcases r3 with ⟨c3, q3⟩ | ⟨c3, rfl⟩
      all_goals (
        (repeat' (first
  | (apply yFb; exact rfl; exact rfl)
  | (apply W.qd; (first
    | (apply q_mv; (conv => lhs; whnf))|(apply q_lss; exact rfl; exact rfl)|(apply (yEb (u := .d _)); exact rfl; exact rfl)
    | (apply (yDb (u := .d _)); exact rfl; exact rfl)))
  | (apply W.ed; (first
    | ((exact e_callA q1 rfl rfl rfl))
    | ((exact e_callA q2 rfl rfl rfl))
    | ((exact e_callA q3 rfl rfl rfl))))|(refine W.gOff _ _ rfl rfl (by intro h; cases h) ?_)|(apply yA)|(apply yB)|(apply yC; kernel_rfl)|(apply yE)|(apply yH)|(apply yR; exact rfl)|(refine W.gT _ _ rfl rfl (fun hb => ?_) (fun hb => ?_) <;> ((try simp only [hb, zA, zB]) <;> (try simp only [zC, zD, zE, zF, zG, zH, zI, zJ] at hb) <;> (try (exfalso; omega))))
  | (refine W.cond _ rfl (fun hb => ?_) (fun hb => ?_) <;> ((try simp only [hb, zA, zB]) <;> (try simp only [zC, zD, zE, zF, zG, zH, zI, zJ] at hb) <;> (try (exfalso; omega))))))
        all_goals exact ⟨.inr rfl, [], trivial, AVle.of_eq rfl, rfl⟩)
theorem A_symS (hc : CmpS cf caps B c) (T : Nat) (hT : T ≤ 1000000) (hN : N ≤ T) : ∀ (n : Nat) (P X Y R : List Se), (P ++ ((X ++ Y) ++ R)).length = T → X.length + Y.length ≤ n → 0 < X.length → 0 < Y.length → P.length + X.length + Y.length ≤ N → Srt (ltS c) X → Srt (ltS c) Y → SymS c cf caps B ver N P X Y R
  | 0, P, X, Y, R, hl, hn, h1, h2, hb, sX, sY => by omega
  | n + 1, P, X, Y, R, hl, hn, h1, h2, hb, sX, sY => by
    by_cases hx : X.length = 1
    · match X, hx with
      | [x], _ =>
        unfold SymS
        exact A_mergeLS hc (by omega) (by omega) rfl rfl rfl hb sY
    · by_cases hy : Y.length = 1
      · match Y, hy with
        | [y], _ =>
          unfold SymS
          exact A_mergeRS hc (by omega) (by omega) rfl rfl rfl hb sX (by omega)
      · exact A_symStepS hc (by omega) (by omega) hb (by omega) (by omega) sX sY fun P' X' Y' R' k1 k2 k3 k4 k5 k6 k7 => A_symS hc T hT hN n P' X' Y' R' (k1.trans hl) (by omega) k3 k4 k5 k6 k7
end
end Go.Proofs.YtcljokdiblnhiaaGreatDoor
end
section
namespace Go.Proofs.YtcljokdiblnhiaaGreatDoor
open Go.RowKit
set_option maxHeartbeats 4000000
set_option maxRecDepth 100000
attribute [local irreducible] Quiet Eff OpOk AWPG ACont ABlock ACalls AGoto
section
variable {B : Ent} {cf : FuncId} {caps : List AV} {c : Se → Se → Int} {ver : Nat}
theorem A_stableS {n : Nat} {X R : List Se} (hc : CmpS cf caps B c) (hn : X.length = n) (hL : (X ++ R).length ≤ 1000000) :
    ACalls Tryz.prog 129 [.osl 1 ver 0 n, iV n, .fn cf caps] (srtS B ver (X ++ R)) (.tup []) (srtS B ver (sortN (ltS c) X ++ R)) := by
  have hw := hc.weak
  obtain ⟨T, hT⟩ : ∃ T, (X ++ R).length = T := ⟨_, rfl⟩
  have hT2 : n + R.length = T := by rw [← hT, List.length_append, hn]
  rw [hT] at hL
  refine acalls_of_bodyS Tryz.func129 rfl (Nat.le_of_ble_eq_true rfl) ?_
  (repeat' (first
  | (apply W.qd; (first
    | (apply q_mv; (conv => lhs; whnf))
    | (apply q_as; (conv => lhs; whnf))))|(apply yA)|(apply yB)|(apply yC; kernel_rfl)|(apply yE)
  | (apply yG)))
  refine AWP.loopE (α := List Se × Nat) (fun p => p.2 ≤ n ∧ (∃ k, p.2 = k * 20) ∧ ∃ Q : List Se, Q.length = p.2 ∧ p.1 = Q ++ (X.drop p.2 ++ R) ∧ Stb (ltS c) (X.take p.2) Q ∧ Blk (ltS c) 20 Q) (fun p => ⟨[(7, iV p.2), (8, iV ((p.2 : Int) + 20)), (6, iV 20), (0, .osl 1 ver 0 n), (1, iV n), (2, .fn cf caps)], srtS B ver p.1⟩) (fun p => n + 1 - p.2) (X ++ R, 0) ⟨Nat.zero_le _, ⟨0, rfl⟩, [], rfl, by simp, Stb.refl _, blk_nil _ _⟩ ⟨rfl, by (repeat (first | exact trivial | refine ⟨rfl, ?_⟩))⟩ fun p hp => ?_
  obtain ⟨K, a⟩ := p
  obtain ⟨h1, ⟨k, h2⟩, Q, h3, h4, h5, h6⟩ := hp
  dsimp only at h1 h2 h3 h4 h5 ⊢
  by_cases hab : a + 20 ≤ n
  · have eX : X.drop a = (X.drop a).take 20 ++ X.drop (a + 20) := by rw [← List.drop_drop, List.take_append_drop]
    have el : ((X.drop a).take 20).length = 20 := by rw [List.length_take, List.length_drop]; omega
    have eK : Q ++ ((X.drop a).take 20 ++ (X.drop (a + 20) ++ R)) = K := by rw [h4, ← List.append_assoc ((X.drop a).take 20), ← eX]
    have hKl : K.length = T := by rw [h4]; simp; omega
    have hins := A_insSortS (ver := ver) (N := n) (a := a) (b := a + 20) (P := Q) (S := (X.drop a).take 20) (R := X.drop (a + 20) ++ R) hc (by rw [eK]; omega) (by rw [eK]; omega) h3 (by rw [el]) hab
    rw [eK] at hins
    have e20 : iV ((a + 20 : Nat) : Int) = iV ((a : Int) + 20) := iV_eq (by omega)
    rw [e20] at hins
    obtain ⟨k1, k2⟩ := sortN_spec hw ((X.drop a).take 20)
    have hpre : a + 20 ≤ n ∧ (∃ k, a + 20 = k * 20) ∧ ∃ Q' : List Se, Q'.length = a + 20 ∧ Q ++ (sortN (ltS c) ((X.drop a).take 20) ++ (X.drop (a + 20) ++ R)) = Q' ++ (X.drop (a + 20) ++ R) ∧ Stb (ltS c) (X.take (a + 20)) Q' ∧ Blk (ltS c) 20 Q' := by
      refine ⟨hab, ⟨k + 1, by omega⟩, Q ++ sortN (ltS c) ((X.drop a).take 20), by rw [List.length_append, sortN_len, el, h3], by simp, ?_, blk_app h6 (h3.trans h2) (by rw [sortN_len, el]; omega) k1⟩
      rw [List.take_add]
      exact h5.app k2
    generalize Q ++ (sortN (ltS c) ((X.drop a).take 20) ++ (X.drop (a + 20) ++ R)) = K' at hins hpre
    clear eX el eK h5 h6 h4 k1 k2
    (repeat' (first
  | (apply W.qd; (first
    | (apply q_mv; (conv => lhs; whnf))|(apply q_as; (conv => lhs; whnf))|(apply q_leq; exact rfl; exact rfl)
    | (apply q_add; exact rfl; exact rfl; omega)))|(apply W.ed; ((exact e_callA hins rfl rfl rfl)))|(apply yA)|(apply yB)|(apply yC; kernel_rfl)|(apply yE)|(apply yG)|(apply yH)|(apply yL)
  | (refine W.cond _ rfl (fun hb => ?_) (fun hb => ?_) <;> ((try simp only [hb, zA, zB]) <;> (try simp only [zC, zD, zE, zF, zG, zH, zI, zJ] at hb) <;> (try (exfalso; omega))))))
    exact ⟨(K', a + 20), hpre, by dsimp only; omega, rfl, iV_eq (by dsimp only; omega), iV_eq (by dsimp only; omega), rfl, rfl, rfl, rfl, trivial⟩
  · have hKl : K.length = T := by rw [h4]; simp; omega
    have hins := A_insSortS (ver := ver) (N := n) (a := a) (b := n) (P := Q) (S := X.drop a) (R := R) hc (by rw [← h4]; omega) (by rw [← h4]; omega) h3 (by rw [List.length_drop]; omega) (Nat.le_refl _)
    rw [← h4] at hins
    obtain ⟨k1, k2⟩ := sortN_spec hw (X.drop a)
    have hpre : 20 ≤ 20 ∧ 20 ≤ 4000000 ∧ ∃ Y : List Se, Y.length = n ∧ Q ++ (sortN (ltS c) (X.drop a) ++ R) = Y ++ R ∧ Stb (ltS c) X Y ∧ Blk (ltS c) 20 Y := by
      refine ⟨Nat.le_refl _, by omega, Q ++ sortN (ltS c) (X.drop a), by rw [List.length_append, sortN_len, List.length_drop]; omega, by simp, ?_, blk_app h6 (h3.trans h2) (by rw [sortN_len, List.length_drop]; omega) k1⟩
      have := h5.app k2
      rwa [List.take_append_drop] at this
    generalize Q ++ (sortN (ltS c) (X.drop a) ++ R) = K' at hins hpre
    clear h5 h6 h4 k1 k2
    (repeat' (first
  | (apply W.qd; (first
    | (apply q_mv; (conv => lhs; whnf))
    | (apply q_leq; exact rfl; exact rfl)))|(apply W.ed; ((exact e_callA hins rfl rfl rfl)))|(apply yA)|(apply yB)|(apply yC; kernel_rfl)|(apply yE)|(apply yG)|(apply yI)|(apply yK)|(apply yM)
  | (refine W.cond _ rfl (fun hb => ?_) (fun hb => ?_) <;> ((try simp only [hb, zA, zB]) <;> (try simp only [zC, zD, zE, zF, zG, zH, zI, zJ] at hb) <;> (try (exfalso; omega))))))
    clear hins h3 h2
    refine AWP.loopE (α := List Se × Nat) (fun p => 20 ≤ p.2 ∧ p.2 ≤ 4000000 ∧ ∃ Y : List Se, Y.length = n ∧ p.1 = Y ++ R ∧ Stb (ltS c) X Y ∧ Blk (ltS c) p.2 Y) (fun p => ⟨[(6, iV p.2), (0, .osl 1 ver 0 n), (1, iV n), (2, .fn cf caps)], srtS B ver p.1⟩) (fun p => n - p.2) (K', 20) hpre ⟨rfl, by (repeat (first | exact trivial | refine ⟨rfl, ?_⟩))⟩ fun p hp => ?_
    clear hpre hKl hab h1
    obtain ⟨K1, s⟩ := p
    obtain ⟨g1, g2, Y, g3, g4, g5, g6⟩ := hp
    dsimp only at g1 g2 g3 g4 g5 g6 ⊢
    have hK1 : K1.length = T := by rw [g4, List.length_append]; omega
    by_cases hsn : s < n
    · (repeat' (first
  | (apply W.qd; (first
    | (apply q_mv; (conv => lhs; whnf))|(apply q_as; (conv => lhs; whnf))|(apply q_lss; exact rfl; exact rfl)
    | (apply q_mul; exact rfl; exact rfl; (first | omega | assumption))))|(apply yA)|(apply yB)|(apply yC; kernel_rfl)|(apply yE)|(apply yG)|(apply yH)
  | (refine W.cond _ rfl (fun hb => ?_) (fun hb => ?_) <;> ((try simp only [hb, zA, zB]) <;> (try simp only [zC, zD, zE, zF, zG, zH, zI, zJ] at hb) <;> (try (exfalso; omega))))))
      refine AWP.loopE (α := List Se × Nat) (fun p => p.2 ≤ n ∧ (∃ k, p.2 = k * (2 * s)) ∧ ∃ Q : List Se, Q.length = p.2 ∧ p.1 = Q ++ (Y.drop p.2 ++ R) ∧ Stb (ltS c) (Y.take p.2) Q ∧ Blk (ltS c) (2 * s) Q) (fun p => ⟨[(7, iV p.2), (8, iV ((p.2 : Int) + 2 * (s : Int))), (6, iV s), (0, .osl 1 ver 0 n), (1, iV n), (2, .fn cf caps)], srtS B ver p.1⟩) (fun p => n + 1 - p.2) (K1, 0) ⟨Nat.zero_le _, ⟨0, by simp⟩, [], rfl, by simpa using g4, Stb.refl _, blk_nil _ _⟩ ⟨rfl, rfl, iV_eq (by dsimp only; omega), rfl, rfl, rfl, rfl, trivial⟩ fun p hp => ?_
      obtain ⟨K2, a⟩ := p
      obtain ⟨q1, ⟨k, q2⟩, Q, q3, q4, q5, q6⟩ := hp
      dsimp only at q1 q2 q3 q4 q5 ⊢
      have hK2 : K2.length = T := by rw [q4]; simp; omega
      have e1 : (2 * k) * s = a := by rw [q2, Nat.mul_comm 2 k, Nat.mul_assoc]
      have e2 : (2 * k + 1) * s = a + s := by rw [Nat.add_mul, Nat.one_mul, e1]
      have e3 : (k + 1) * (2 * s) = a + 2 * s := by rw [Nat.succ_mul, q2]
      have b1 := g6 (2 * k)
      have b2 := g6 (2 * k + 1)
      rw [e1] at b1
      rw [e2] at b2
      by_cases hab : a + 2 * s ≤ n
      · have l1 : ((Y.drop a).take s).length = s := by rw [List.length_take, List.length_drop]; omega
        have l2 : ((Y.drop (a + s)).take s).length = s := by rw [List.length_take, List.length_drop]; omega
        have eY2 : (Y.drop a).take s ++ (Y.drop (a + s)).take s = (Y.drop a).take (2 * s) := by
          rw [show 2 * s = s + s by omega, List.take_add, List.drop_drop]
        have eY : Y.drop a = (Y.drop a).take (2 * s) ++ Y.drop (a + 2 * s) := by rw [← List.drop_drop, List.take_append_drop]
        have eK : Q ++ (((Y.drop a).take s ++ (Y.drop (a + s)).take s) ++ (Y.drop (a + 2 * s) ++ R)) = K2 := by rw [eY2, q4, ← List.append_assoc ((Y.drop a).take (2 * s)), ← eY]
        have hsy := A_symS (ver := ver) (N := n) hc T hL (by omega) _ Q _ _ (Y.drop (a + 2 * s) ++ R) (by rw [eK]; exact hK2) (Nat.le_refl _) (by omega) (by omega) (by omega) b1 b2
        unfold SymS at hsy
        rw [eK, q3, l1, l2, eY2] at hsy
        have ea1 : iV ((a + s : Nat) : Int) = iV ((a : Int) + (s : Int)) := iV_eq (by omega)
        have ea2 : iV ((a + s + s : Nat) : Int) = iV ((a : Int) + 2 * (s : Int)) := iV_eq (by omega)
        rw [ea1, ea2] at hsy
        obtain ⟨k1, k2⟩ := sortN_spec hw ((Y.drop a).take (2 * s))
        have l3 : ((Y.drop a).take (2 * s)).length = 2 * s := by rw [List.length_take, List.length_drop]; omega
        have hpre : a + 2 * s ≤ n ∧ (∃ k, a + 2 * s = k * (2 * s)) ∧ ∃ Q' : List Se, Q'.length = a + 2 * s ∧ Q ++ (sortN (ltS c) ((Y.drop a).take (2 * s)) ++ (Y.drop (a + 2 * s) ++ R)) = Q' ++ (Y.drop (a + 2 * s) ++ R) ∧ Stb (ltS c) (Y.take (a + 2 * s)) Q' ∧ Blk (ltS c) (2 * s) Q' := by
          refine ⟨hab, ⟨k + 1, e3.symm⟩, Q ++ sortN (ltS c) ((Y.drop a).take (2 * s)), by rw [List.length_append, sortN_len, l3, q3], by simp, ?_, blk_app q6 (q3.trans q2) (by rw [sortN_len, l3]; omega) k1⟩
          rw [List.take_add]
          exact q5.app k2
        generalize Q ++ (sortN (ltS c) ((Y.drop a).take (2 * s)) ++ (Y.drop (a + 2 * s) ++ R)) = K' at hsy hpre
        clear eY eY2 l1 l2 l3 eK q4 q5 q6 k1 k2 b1 b2 g4 g5 g6 e1 e2 e3
        (repeat' (first
  | (apply W.qd; (first
    | (apply q_mv; (conv => lhs; whnf))|(apply q_as; (conv => lhs; whnf))|(apply q_leq; exact rfl; exact rfl)|(apply q_add; exact rfl; exact rfl; omega)
    | (apply q_mul; exact rfl; exact rfl; (first | omega | assumption))))|(apply W.ed; ((exact e_callA hsy rfl rfl rfl)))|(apply yA)|(apply yB)|(apply yC; kernel_rfl)|(apply yE)|(apply yG)|(apply yH)|(apply yL)
  | (refine W.cond _ rfl (fun hb => ?_) (fun hb => ?_) <;> ((try simp only [hb, zA, zB]) <;> (try simp only [zC, zD, zE, zF, zG, zH, zI, zJ] at hb) <;> (try (exfalso; omega))))))
        exact ⟨(K', a + 2 * s), hpre, by dsimp only; omega, rfl, iV_eq (by dsimp only; omega), iV_eq (by dsimp only; omega), rfl, rfl, rfl, rfl, trivial⟩
      · obtain ⟨k1, k2⟩ := sortN_spec hw (Y.drop a)
        have hpre : 20 ≤ 2 * s ∧ 2 * s ≤ 4000000 ∧ ∃ Y' : List Se, Y'.length = n ∧ Q ++ (sortN (ltS c) (Y.drop a) ++ R) = Y' ++ R ∧ Stb (ltS c) X Y' ∧ Blk (ltS c) (2 * s) Y' := by
          refine ⟨by omega, by omega, Q ++ sortN (ltS c) (Y.drop a), by rw [List.length_append, sortN_len, List.length_drop]; omega, by simp, ?_, blk_app q6 (q3.trans q2) (by rw [sortN_len, List.length_drop]; omega) k1⟩
          have := q5.app k2
          rw [List.take_append_drop] at this
          exact g5.trans this
        by_cases hms : a + s < n
        · have l1 : ((Y.drop a).take s).length = s := by rw [List.length_take, List.length_drop]; omega
          rw [List.take_of_length_le (by rw [List.length_drop]; omega)] at b2
          have eY : (Y.drop a).take s ++ Y.drop (a + s) = Y.drop a := by rw [← List.drop_drop, List.take_append_drop]
          have hsy := A_symS (ver := ver) (N := n) hc T hL (by omega) _ Q _ _ R (by rw [eY, ← q4]; exact hK2) (Nat.le_refl _) (by omega) (by rw [List.length_drop]; omega) (by rw [List.length_drop]; omega) b1 b2
          unfold SymS at hsy
          rw [eY, ← q4, q3, l1, show a + s + (Y.drop (a + s)).length = n by rw [List.length_drop]; omega] at hsy
          have ea1 : iV ((a + s : Nat) : Int) = iV ((a : Int) + (s : Int)) := iV_eq (by omega)
          rw [ea1] at hsy
          generalize Q ++ (sortN (ltS c) (Y.drop a) ++ R) = K' at hsy hpre
          clear eY l1 q4 q5 q6 k1 k2 b1 b2 g4 g5 g6 e1 e2 e3
          (repeat' (first
  | (apply W.qd; (first
    | (apply q_mv; (conv => lhs; whnf))|(apply q_as; (conv => lhs; whnf))|(apply q_lss; exact rfl; exact rfl)|(apply q_leq; exact rfl; exact rfl)|(apply q_add; exact rfl; exact rfl; omega)
    | (apply q_mul; exact rfl; exact rfl; (first | omega | assumption))))|(apply W.ed; ((exact e_callA hsy rfl rfl rfl)))|(apply yA)|(apply yB)|(apply yC; kernel_rfl)|(apply yE)|(apply yI)|(apply yK)|(apply yL)|(apply yM)
  | (refine W.cond _ rfl (fun hb => ?_) (fun hb => ?_) <;> ((try simp only [hb, zA, zB]) <;> (try simp only [zC, zD, zE, zF, zG, zH, zI, zJ] at hb) <;> (try (exfalso; omega))))))
          exact ⟨(K', 2 * s), hpre, by dsimp only; omega, rfl, iV_eq (by dsimp only; omega), rfl, rfl, rfl, trivial⟩
        · rw [List.take_of_length_le (by rw [List.length_drop]; omega)] at b1
          rw [sortN_self hw b1, ← q4] at hpre
          clear q4 q5 q6 k1 k2 b1 b2 g4 g5 g6 e1 e2 e3
          (repeat' (first
  | (apply W.qd; (first
    | (apply q_mv; (conv => lhs; whnf))|(apply q_as; (conv => lhs; whnf))|(apply q_lss; exact rfl; exact rfl)|(apply q_leq; exact rfl; exact rfl)|(apply q_add; exact rfl; exact rfl; omega)
    | (apply q_mul; exact rfl; exact rfl; (first | omega | assumption))))|(apply yA)|(apply yB)|(apply yC; kernel_rfl)|(apply yE)|(apply yH)|(apply yI)|(apply yK)|(apply yL)|(apply yM)
  | (refine W.cond _ rfl (fun hb => ?_) (fun hb => ?_) <;> ((try simp only [hb, zA, zB]) <;> (try simp only [zC, zD, zE, zF, zG, zH, zI, zJ] at hb) <;> (try (exfalso; omega))))))
          exact ⟨(K2, 2 * s), hpre, by dsimp only; omega, rfl, iV_eq (by dsimp only; omega), rfl, rfl, rfl, trivial⟩
    · have e := sortN_eq hw (blk_whole g6 (by omega)) g5
      rw [e] at g4
      rw [← g4]
      clear g4 g5 g6
      (repeat' (first
  | (apply W.qd; (first
    | (apply q_mv; (conv => lhs; whnf))
    | (apply q_lss; exact rfl; exact rfl)))|(apply yA)|(apply yB)|(apply yC; kernel_rfl)|(apply yE)|(apply yI)|(apply yK)|(apply yM)
  | (refine W.cond _ rfl (fun hb => ?_) (fun hb => ?_) <;> ((try simp only [hb, zA, zB]) <;> (try simp only [zC, zD, zE, zF, zG, zH, zI, zJ] at hb) <;> (try (exfalso; omega))))))
      exact ⟨.inr rfl, [], trivial, AVle.of_eq rfl, rfl⟩
theorem A_sortStableS {n : Nat} {X R : List Se} (hc : CmpS cf caps B c) (hn : X.length = n) (hL : (X ++ R).length ≤ 1000000) :
    ACalls Tryz.prog 67 [.osl 1 ver 0 n, .fn cf caps] (srtS B ver (X ++ R)) (.tup []) (srtS B ver (sortN (ltS c) X ++ R)) := by
  have h := A_stableS (ver := ver) hc hn hL
  refine acalls_of_bodyS Tryz.func67 rfl (Nat.le_of_ble_eq_true rfl) ?_
  (repeat' (first
  | (apply W.qd; (first
    | (apply q_mv; (conv => lhs; whnf))
    | (apply q_len_osl; (iterate 3 exact rfl))))|(apply W.ed; ((exact e_callA h rfl rfl rfl)))|(apply yC; kernel_rfl)
  | (apply yE)))
  exact ⟨.inr rfl, [], trivial, AVle.of_eq rfl, rfl⟩
end
end Go.Proofs.YtcljokdiblnhiaaGreatDoor
end
section
namespace Go.Proofs.YtcljokdiblnhiaaGreatDoor
open Go.RowKit
set_option maxHeartbeats 4000000
set_option maxRecDepth 100000
def cmpS (x y : Se) : Int := orI [cmpI x.1 y.1, cmpI x.2.1 y.2.1, cmpI x.2.2.1 y.2.2.1]
theorem ltS_iff (a b : Se) : ltS cmpS a b = true ↔ a.1 < b.1 ∨ (a.1 = b.1 ∧ (a.2.1 < b.2.1 ∨ (a.2.1 = b.2.1 ∧ a.2.2.1 < b.2.2.1))) := by
  unfold ltS cmpS
  rw [decide_eq_true_eq, orI_lt, orI_lt, orI_lt, cmpI_lt, cmpI_lt, cmpI_lt, cmpI_eq, cmpI_eq, cmpI_eq]
  have : ¬ (orI [] < 0) := by show ¬ ((0 : Int) < 0); omega
  simp only [this, and_false, or_false]
theorem weakS : Weak (ltS cmpS) where
  irr a := by
    rw [Bool.eq_false_iff, Ne, ltS_iff]
    omega
  trans a b c h1 h2 := by
    rw [ltS_iff] at *
    omega
  neg a b c h1 := by
    rw [ltS_iff] at *
    rw [ltS_iff]
    omega
def otherB (a g u : Int) (x : Se) : Bool := !atB a g u x
def homeB (L : List Int) (u dk : Int) : Bool := decide (0 ≤ u) && (decide (u < L.length) && decide (L.getD u.toNat 0 = dk))
def doneN (L : List Int) (mv : List Se) (a g u dk : Int) : List Se := sortN (ltS cmpS) (if homeB L u dk = true then mv.filter (otherB a g u) else mv.filter (otherB a g u) ++ [(a, g, u, dk)])
attribute [local irreducible] Quiet Eff OpOk AWPG ACont ABlock ACalls AGoto
theorem A_cmpS {a g u : Int} : CmpS 68 [] (.box [iV a, iV g, iV u]) cmpS where
  isf := by kernel_rfl
  weak := weakS
  call x y ver rows := by
    refine acalls_of_bodyO Tryz.func68 rfl (Nat.le_of_ble_eq_true rfl) ?_
    have hc := A_cmp
    have ho := A_or [cmpI x.1 y.1, cmpI x.2.1 y.2.1, cmpI x.2.2.1 y.2.2.1] (by simp)
    (repeat' (first
  | (apply W.qd; (apply q_as; (conv => lhs; whnf)))|(apply W.ed; (apply yBb; (iterate 3 exact rfl); kernel_rfl; kernel_rfl))|(apply yA)|(apply yB)|(apply (W.regionS 1); exact rfl; kernel_rfl)
  | (apply yE)))
    refine AWP.hole rfl ?_
    refine AWP.hole rfl ?_
    (repeat' (first
  | (apply W.qd; (first
    | (apply (yW (hc _ _)); exact rfl; exact rfl; (iterate 3 kernel_rfl))|(apply (yW (ho)); exact rfl; exact rfl; (iterate 3 kernel_rfl))|(apply q_as; (conv => lhs; whnf))|(apply yS; (iterate 3 exact rfl))|(apply yT; (iterate 4 exact rfl))|(apply yU; (iterate 4 exact rfl))
    | (apply q_litF; (iterate 5 exact rfl); kernel_rfl; kernel_rfl; exact rfl)))|(apply W.ld; (apply l_alloc; (iterate 3 exact rfl); kernel_rfl; kernel_rfl))|(apply W.ln; (apply l_st_box; (iterate 6 exact rfl); (iterate 3 kernel_rfl)))|(apply yA)|(apply yB)|(apply yD; exact rfl; kernel_rfl)|(apply yE)|(apply yF; kernel_rfl)
  | (apply yJ)))
    exact ⟨.inl rfl, [0, 1], [iV (cmpS x y)], rfl, rfl, ⟨rfl, trivial⟩, AVle.of_eq rfl, rfl⟩
theorem A_doneF (x : Se) {a g u : Int} : ACalls Tryz.prog 65 [seA x, .opt 0 0] (untO a g u) (bV (otherB a g u x)) (untO a g u) := by
  refine acalls_of_bodyO Tryz.func65 rfl (Nat.le_of_ble_eq_true rfl) ?_
  (repeat' (first
  | (apply W.qd; (first
    | ((apply (q_neT fi_unit); (iterate 5 exact rfl); exact (show _ = otherB a g u x by unfold otherB atB; rw [Bool.eq_iff_iff]; simp)))|(apply q_as; (conv => lhs; whnf))|(apply yS; (iterate 3 exact rfl))
    | (apply yU; (iterate 4 exact rfl))))|(apply W.ed; (apply yBb; (iterate 3 exact rfl); kernel_rfl; kernel_rfl))|(apply yA)|(apply yB)|(apply yC; kernel_rfl)|(apply yE)
  | (apply yJ)))
  exact ⟨.inl rfl, [0], [bV (otherB a g u x)], rfl, rfl, ⟨rfl, trivial⟩, AVle.of_eq rfl, rfl⟩
theorem A_filterDn {a g u : Int} {L : List Se} (hl : L.length ≤ 1000000) : ACalls Tryz.prog 64 [ses L, .fn 65 [.opt 0 0]] (untO a g u) (.osl 1 (L.filter (otherB a g u)).length 0 (L.filter (otherB a g u)).length) (untO a g u ++ [.row (L.filter (otherB a g u)).length 4 94 ((L.filter (otherB a g u)).map seD)]) := by
  refine acalls_of_bodyO Tryz.func64 rfl (Nat.le_of_ble_eq_true rfl) ?_
  have hc := fun x => A_doneF (a := a) (g := g) (u := u) x
  have hmL : (L.map seD).length = L.length := List.length_map _
  generalize otherB a g u = q at *
  (repeat' (first
  | (apply W.qd; (apply q_as; (conv => lhs; whnf)))|(apply yA)|(apply yB)|(apply (W.regionS 2); exact rfl; kernel_rfl)
  | (apply yE)))
  refine AWP.nilRow 5 4 94 rfl (by omega) ?_
  (repeat' (first
  | (apply W.qd; (first
    | (apply q_mv; (conv => lhs; whnf))
    | (apply yV; exact rfl; exact rfl)))|(apply yB)|(apply (W.regionS 3); exact rfl; kernel_rfl)|(apply yE)
  | (apply yG)))
  refine AWP.loopW (α := Nat) (fun k => k ≤ L.length) (fun k => ⟨[(10, iV k), (9, iV L.length), (8, ses L), (5, .osl 1 ((L.take k).filter q).length 0 ((L.take k).filter q).length), (1, .fn 65 [.opt 0 0])], untO a g u ++ [.row ((L.take k).filter q).length 4 94 (((L.take k).filter q).map seD)]⟩) (fun k => L.length - k) 0 (Nat.zero_le _) ?wkA fun k hk => ?_
  case wkA => exact ⟨[0, 1], rfl, rfl, rfl, rfl, iV_eq (by rw [hmL]), rfl, rfl, rfl, trivial⟩
  have hfl : ((L.take k).filter q).length ≤ k := Nat.le_trans (List.length_filter_le _ _) (by rw [List.length_take]; omega)
  by_cases hkl : k < L.length
  · have hx := hc L[k]
    have hst : (L.take (k + 1)).filter q = (L.take k).filter q ++ (if q L[k] = true then [L[k]] else []) := by
      rw [List.take_succ_eq_append_getElem hkl, List.filter_append]
      congr 1
      cases hq : q L[k] <;> simp [hq]
    generalize (L.take k).filter q = A at *
    cases hq : q L[k] with
    | false =>
      rw [hq] at hx hst
      rw [if_neg (by simp), List.append_nil] at hst
      (repeat' (first
  | (apply W.qd; (first
    | (apply q_mv; (conv => lhs; whnf))|(apply yU; (iterate 4 exact rfl))|(apply q_lss; exact rfl; exact rfl)|(apply q_add; exact rfl; exact rfl; omega)|(apply yY; (iterate 3 exact rfl); (first | omega | (focus (simp; done))))
    | (apply yGb; (iterate 4 exact rfl); (first | (with_reducible exact rfl) | exact natI_spec rfl | assumption | exact (Int.toNat_of_nonneg (by omega)).symm); (first | omega | (focus (simp only [List.length_map]; omega)) | (focus (simp; done)) | (focus (simp; omega))))))
  | (apply W.ed; (first
    | (apply (e_callJ (js := [0]) (hx)); (iterate 5 exact rfl); kernel_rfl; kernel_rfl)
    | (apply yCb; (iterate 3 exact rfl); kernel_rfl)))|(apply W.ln; (apply l_st_box; (iterate 6 exact rfl); (iterate 3 kernel_rfl)))|(apply yA)|(apply yB)|(apply yC; kernel_rfl)|(apply yE)|(apply yG)|(apply yH)|(apply yL)|(apply yR; exact rfl)
  | (refine W.cond _ rfl (fun hb => ?_) (fun hb => ?_) <;> ((try simp only [hb, zA, zB]) <;> (try simp only [zC, zD, zE, zF, zG, zH, zI, zJ] at hb) <;> (try (exfalso; omega))))))
      all_goals (refine ⟨k + 1, by omega, by omega, ?_⟩; rw [hst]; exact ⟨[0, 1], rfl, rfl, rfl, iV_eq (by omega), rfl, rfl, rfl, rfl, trivial⟩)
    | true =>
      rw [hq] at hx hst
      rw [if_pos rfl] at hst
      have el : (A ++ [L[k]]).length = A.length + 1 := by simp
      (repeat' (first
  | (apply W.qd; (first
    | (apply q_mv; (conv => lhs; whnf))|(apply q_as; (conv => lhs; whnf))|(apply yU; (iterate 4 exact rfl))|(apply q_lss; exact rfl; exact rfl)|(apply q_add; exact rfl; exact rfl; omega)|(apply yY; (iterate 3 exact rfl); (first | omega | (focus (simp; done))))|(apply q_litF; (iterate 5 exact rfl); kernel_rfl; kernel_rfl; exact rfl)
    | (apply yGb; (iterate 4 exact rfl); (first | (with_reducible exact rfl) | exact natI_spec rfl | assumption | exact (Int.toNat_of_nonneg (by omega)).symm); (first | omega | (focus (simp only [List.length_map]; omega)) | (focus (simp; done)) | (focus (simp; omega))))))|(apply W.ld; (apply l_app1; (iterate 8 exact rfl); (first | omega | (focus (simp; omega)) | (focus (simp; done)))))
  | (apply W.ed; (first
    | (apply (e_callJ (js := [0]) (hx)); (iterate 5 exact rfl); kernel_rfl; kernel_rfl)
    | (apply yCb; (iterate 3 exact rfl); kernel_rfl)))|(apply W.ln; (apply l_st_box; (iterate 6 exact rfl); (iterate 3 kernel_rfl)))|(apply yA)|(apply yB)|(apply yC; kernel_rfl)|(apply yE)|(apply yG)|(apply yH)|(apply yL)|(apply yQ; exact rfl)
  | (refine W.cond _ rfl (fun hb => ?_) (fun hb => ?_) <;> ((try simp only [hb, zA, zB]) <;> (try simp only [zC, zD, zE, zF, zG, zH, zI, zJ] at hb) <;> (try (exfalso; omega))))))
      all_goals (refine ⟨k + 1, by omega, by omega, ?_⟩; rw [hst, el]; exact ⟨[0, 1], rfl, rfl, rfl, iV_eq (by omega), rfl, rfl, congrArg (AV.osl 1 (A.length + 1) 0) (by simp), rfl, trivial⟩)
  · obtain rfl : k = L.length := by omega
    rw [List.take_length] at *
    generalize L.filter q = A at *
    (repeat' (first
  | (apply W.qd; (first
    | (apply q_mv; (conv => lhs; whnf))|(apply q_as; (conv => lhs; whnf))
    | (apply q_lss; exact rfl; exact rfl)))|(apply yA)|(apply yB)|(apply yC; kernel_rfl)|(apply yE)|(apply yI)|(apply yJ)|(apply yK)|(apply yM)
  | (refine W.cond _ rfl (fun hb => ?_) (fun hb => ?_) <;> ((try simp only [hb, zA, zB]) <;> (try simp only [zC, zD, zE, zF, zG, zH, zI, zJ] at hb) <;> (try (exfalso; omega))))))
    exact ⟨.inl rfl, [0, 1], [.osl 1 A.length 0 A.length], rfl, rfl, ⟨rfl, trivial⟩, AVle.of_eq rfl, rfl⟩
theorem A_done {d r n s l i wd a g u dk : Int} {mv : List Se} (hm : mv.length ≤ 900000) : ACalls Tryz.prog 29 [cfgA d r n s l i, iV wd, ses mv, .agg [iV a, iV g, iV u], iV dk] [] (ses (doneN (plcI d r n s l i a wd g) mv a g u dk)) [] := by
  have hat := A_lat d r n s l i wd a g u
  have hle := plcI_len d r n s l i a wd g
  generalize plcI d r n s l i a wd g = L at *
  have hf := A_filterDn (a := a) (g := g) (u := u) (L := mv) (by omega)
  have hfl : (mv.filter (otherB a g u)).length ≤ mv.length := List.length_filter_le _ _
  unfold doneN
  generalize mv.filter (otherB a g u) = X at *
  have hs1 := A_sortStableS (ver := X.length) (n := X.length) (X := X) (R := []) (A_cmpS (a := a) (g := g) (u := u)) rfl (by simp; omega)
  have hs2 := A_sortStableS (ver := X.length + 1) (n := (X ++ [((a, g, u, dk) : Se)]).length) (X := X ++ [(a, g, u, dk)]) (R := []) (A_cmpS (a := a) (g := g) (u := u)) rfl (by simp; omega)
  simp only [srtS, List.append_nil] at hs1 hs2
  have e1 := sortN_len (lt := ltS cmpS) X
  have e2 := sortN_len (lt := ltS cmpS) (X ++ [(a, g, u, dk)])
  refine acalls_of_body Tryz.func29 rfl (Nat.le_of_ble_eq_true rfl) ?_
  unfold atA at hat
  by_cases h1 : 0 ≤ u ∧ u < (L.length : Int)
  · rw [if_pos h1] at hat
    by_cases h2 : L.getD u.toNat 0 = dk
    · have hh : homeB L u dk = true := by unfold homeB; rw [decide_eq_true h1.1, decide_eq_true h1.2, decide_eq_true h2]; rfl
      rw [if_pos hh]
      rw [h2] at hat
      clear hs2 e2
      generalize sortN (ltS cmpS) X = S1 at *
      (repeat' (first
  | (apply yFb; exact rfl; exact rfl)
  | (apply W.qd; (first
    | (apply (yW (hat)); exact rfl; exact rfl; (iterate 3 kernel_rfl))|(apply q_mv; (conv => lhs; whnf))|(apply q_as; (conv => lhs; whnf))|(apply yS; (iterate 3 exact rfl))|(apply yT; (iterate 4 exact rfl))|(apply yU; (iterate 4 exact rfl))|(apply q_neq; exact rfl; exact rfl)|(apply yAb; exact rfl; exact rfl)|(apply q_makeFunc)
    | (apply (yDb (u := .d _)); exact rfl; exact rfl)))
  | (apply W.ed; (first
    | (apply (e_callJ (js := [1]) (hf)); (iterate 5 exact rfl); kernel_rfl; kernel_rfl)|(apply (e_callJ (js := [1, 2]) (hs1)); (iterate 5 exact rfl); kernel_rfl; kernel_rfl)|(apply yBb; (iterate 3 exact rfl); kernel_rfl; kernel_rfl)
    | (apply yCb; (iterate 3 exact rfl); kernel_rfl)))|(apply W.ln; (apply l_st_box; (iterate 6 exact rfl); (iterate 3 kernel_rfl)))|(apply yA)|(apply yB)|(apply yC; kernel_rfl)|(apply yE)|(apply yH)|(apply yJ)
  | (refine W.cond _ rfl (fun hb => ?_) (fun hb => ?_) <;> ((try simp only [hb, zA, zB]) <;> (try simp only [zC, zD, zE, zF, zG, zH, zI, zJ] at hb) <;> (try (exfalso; omega))))))
      all_goals first
        | (exfalso; omega)
        | exact ⟨.inl rfl, [], [.osl 2 X.length 0 X.length], rfl, ⟨rfl, trivial⟩, AVle.of_eq (frz_rowJ rfl rfl (by rw [List.length_map]; omega)), rfl⟩
    · have hh : ¬ (homeB L u dk = true) := by unfold homeB; rw [decide_eq_false h2]; simp
      rw [if_neg hh]
      generalize L.getD u.toNat 0 = hd at *
      clear hs1 e1
      generalize sortN (ltS cmpS) (X ++ [(a, g, u, dk)]) = S2 at *
      (repeat' (first
  | (apply yFb; exact rfl; exact rfl)
  | (apply W.qd; (first
    | (apply (yW (hat)); exact rfl; exact rfl; (iterate 3 kernel_rfl))|(apply q_mv; (conv => lhs; whnf))|(apply q_as; (conv => lhs; whnf))|(apply yS; (iterate 3 exact rfl))|(apply yT; (iterate 4 exact rfl))|(apply yU; (iterate 4 exact rfl))|(apply q_neq; exact rfl; exact rfl)|(apply yAb; exact rfl; exact rfl)|(apply yZ; exact rfl; exact rfl; kernel_rfl)|(apply q_makeFunc)|(apply q_litF; (iterate 5 exact rfl); kernel_rfl; kernel_rfl; exact rfl)
    | (apply (yDb (u := .d _)); exact rfl; exact rfl)))
  | (apply W.ed; (first
    | (apply (e_callJ (js := [1]) (hf)); (iterate 5 exact rfl); kernel_rfl; kernel_rfl)|(apply (e_callJ (js := [1, 2]) (hs2)); (iterate 5 exact rfl); kernel_rfl; kernel_rfl)
    | ((apply (e_app1F (f := seD) (a, g, u, dk)); (iterate 8 exact rfl); omega))|(apply yBb; (iterate 3 exact rfl); kernel_rfl; kernel_rfl)
    | (apply yCb; (iterate 3 exact rfl); kernel_rfl)))|(apply W.ln; (apply l_st_box; (iterate 6 exact rfl); (iterate 3 kernel_rfl)))|(apply yA)|(apply yB)|(apply yC; kernel_rfl)|(apply yE)|(apply yJ)
  | (refine W.cond _ rfl (fun hb => ?_) (fun hb => ?_) <;> ((try simp only [hb, zA, zB]) <;> (try simp only [zC, zD, zE, zF, zG, zH, zI, zJ] at hb) <;> (try (exfalso; omega))))))
      all_goals first
        | (exfalso; omega)
        | exact ⟨.inl rfl, [], [.osl 2 (X.length + 1) 0 (X ++ [((a, g, u, dk) : Se)]).length], rfl, ⟨rfl, trivial⟩, AVle.of_eq (frz_rowJ rfl rfl (by rw [List.length_map, e2])), rfl⟩
  · rw [if_neg h1] at hat
    have hh : ¬ (homeB L u dk = true) := by
      unfold homeB
      intro h
      simp only [Bool.and_eq_true, decide_eq_true_eq] at h
      exact h1 ⟨h.1, h.2.1⟩
    rw [if_neg hh]
    clear hs1 e1
    generalize sortN (ltS cmpS) (X ++ [(a, g, u, dk)]) = S2 at *
    (repeat' (first
  | (apply W.qd; (first
    | (apply (yW (hat)); exact rfl; exact rfl; (iterate 3 kernel_rfl))|(apply q_mv; (conv => lhs; whnf))|(apply q_as; (conv => lhs; whnf))|(apply yU; (iterate 4 exact rfl))|(apply q_neq; exact rfl; exact rfl)|(apply yAb; exact rfl; exact rfl)|(apply yZ; exact rfl; exact rfl; kernel_rfl)|(apply q_makeFunc)|(apply q_litF; (iterate 5 exact rfl); kernel_rfl; kernel_rfl; exact rfl)
    | (apply (yEb (u := .d _)); exact rfl; exact rfl)))
  | (apply W.ed; (first
    | (apply (e_callJ (js := [1]) (hf)); (iterate 5 exact rfl); kernel_rfl; kernel_rfl)|(apply (e_callJ (js := [1, 2]) (hs2)); (iterate 5 exact rfl); kernel_rfl; kernel_rfl)
    | ((apply (e_app1F (f := seD) (a, g, u, dk)); (iterate 8 exact rfl); omega))|(apply yBb; (iterate 3 exact rfl); kernel_rfl; kernel_rfl)
    | (apply yCb; (iterate 3 exact rfl); kernel_rfl)))|(apply W.ln; (apply l_st_box; (iterate 6 exact rfl); (iterate 3 kernel_rfl)))|(refine W.gOff _ _ rfl rfl (by intro h; cases h) ?_)|(apply yA)|(apply yB)|(apply yC; kernel_rfl)|(apply yE)|(apply yJ)
  | (apply yQ; exact rfl)))
    all_goals first
      | (exfalso; omega)
      | exact ⟨.inl rfl, [], [.osl 2 (X.length + 1) 0 (X ++ [((a, g, u, dk) : Se)]).length], rfl, ⟨rfl, trivial⟩, AVle.of_eq (frz_rowJ rfl rfl (by rw [List.length_map, e2])), rfl⟩
end Go.Proofs.YtcljokdiblnhiaaGreatDoor
end
section
namespace Go.Proofs.YtcljokdiblnhiaaGreatDoor
open Go.RowKit
set_option maxHeartbeats 4000000
set_option maxRecDepth 100000
abbrev Rb := Int × Int × Int × Int × List (Nat × Nat)
def rbD (r : Rb) : List Dat := [.v (.int .i64 r.1), .v (.int .i64 r.2.1), .v (.int .i64 r.2.2.1), .v (.int .i64 r.2.2.2.1), .sl 2 (r.2.2.2.2.map tmD)]
abbrev rbs (l : List Rb) : AV := .d (.sl 5 (l.map rbD))
abbrev rbA (r : Rb) : AV := .agg ((rbD r).map .d)
def ksR : List Int → List (Int × Value)
  | [] => []
  | a :: rs => setI (ksR rs) a (.int .i64 ((rs.count a : Nat) + 1))
theorem ksR_get (rs : List Int) (c : Int) : getV (ksR rs) c (.int .i64 0) = .int .i64 (rs.count c : Nat) := by
  induction rs with
  | nil => rfl
  | cons a rs ih =>
    unfold ksR
    rw [getV_setI]
    by_cases e : c = a
    · subst e
      rw [if_pos rfl, List.count_cons_self]; rfl
    · rw [if_neg e, ih, List.count_cons_of_ne (Ne.symm e)]
def onDisk (dk : Int) (x : Rb) : Bool := decide (x.2.2.2.1 = dk)
def leftB (out : List Rb) (dk : Int) : Bool := !decide (0 ≤ idxA (onDisk dk) out)
def minF (f : Int → Nat) (x : Int) (l : List Int) : Int := l.foldl (fun m y => if f y < f m then y else m) x
def pick38 (f : Int → Nat) : List Int → Int
  | [] => -1
  | x :: l => minF f x l
def tgtN38 (inn : List Bool) (spare : List Int) (r : Int) (rs : List Int) (out : List Rb) (se ho : Int) : Int :=
  if srvB inn se = true then se else if srvB inn ho = true then ho else pick38 (fun y => rs.count (y % r)) (spare.filter (leftB out))
theorem minF_snoc (f : Int → Nat) (x y : Int) (l : List Int) : minF f x (l ++ [y]) = if f y < f (minF f x l) then y else minF f x l := by
  unfold minF
  rw [List.foldl_append]; rfl
section
variable {P : Program} {m : Nat} {env : List (Nat × AV)} {own : List Ent} {dst : Option Tmp} {ty : TypeId} {pos : String} {af : Array Edge} {gd : Option (Nat × Bool)}
theorem q_lkupN {t : TypeId} {x y : Operand} {i : Nat} {l : List (Int × Value)} {a : Int} {z : Value} {b : Int} (hb : getV l a z = .int .i64 b) (hx : lookO env x = .mp i) (hi : own[i]? = some (.mp (mpI l))) (hy : lookO env y = iV a) (ht : mapI P t = some z) :
    Quiet P m ⟨dst, .lookup t x y false, ty, pos, af, gd⟩ env own [i] (iV b) := by
  have := q_lkup (P := P) (m := m) (dst := dst) (ty := ty) (pos := pos) (af := af) (gd := gd) hx hi hy ht
  rwa [hb] at this
end
attribute [local irreducible] Quiet Eff OpOk AWPG ACont ABlock ACalls AGoto
theorem A_diskF (x : Rb) {dk : Int} : ACalls Tryz.prog 78 [rbA x, .opt 0 0] [.box [iV dk]] (bV (onDisk dk x)) [.box [iV dk]] := by
  refine acalls_of_bodyO Tryz.func78 rfl (Nat.le_of_ble_eq_true rfl) ?_
  (repeat' (first
  | (apply W.qd; (first
    | (apply q_as; (conv => lhs; whnf))|(apply yS; (iterate 3 exact rfl))|(apply yT; (iterate 4 exact rfl))
    | (apply q_eql; exact rfl; exact rfl)))|(apply W.ed; (apply yBb; (iterate 3 exact rfl); kernel_rfl; kernel_rfl))|(apply yA)|(apply yB)|(apply yC; kernel_rfl)|(apply yE)
  | (apply yJ)))
  all_goals (refine ⟨.inl rfl, [0], [_], rfl, rfl, ⟨rfl, trivial⟩, AVle.of_eq (Eq.trans (b := bV _) rfl (bV_eq ?_)), rfl⟩; unfold onDisk; rfl)
abbrev outO (ver : Nat) (out : List Rb) (dk : Int) : List Ent := [.row ver 5 84 (out.map rbD), .box [iV dk]]
theorem A_ixR {ver : Nat} {out : List Rb} {dk : Int} (hl : out.length ≤ 1000000) : ACalls Tryz.prog 133 [.osl 0 ver 0 out.length, .fn 78 [.opt 1 0]] (outO ver out dk) (iV (idxA (onDisk dk) out)) (outO ver out dk) := by
  refine acalls_of_bodyO Tryz.func133 rfl (Nat.le_of_ble_eq_true rfl) ?_
  (repeat' (first
  | (apply W.qd; (first
    | (apply q_mv; (conv => lhs; whnf))|(apply q_as; (conv => lhs; whnf))
    | (apply q_len_osl; (iterate 3 exact rfl))))|(apply yA)|(apply yB)|(apply (W.regionS 2); exact rfl; kernel_rfl)|(apply yE)
  | (apply yG)))
  refine AWP.loopW (α := Nat) (fun k => k ≤ out.length ∧ ∀ x ∈ out.take k, onDisk dk x = false) (fun k => ⟨[(8, iV k), (7, iV out.length), (0, .osl 0 ver 0 out.length), (1, .fn 78 [.opt 1 0])], outO ver out dk⟩) (fun k => out.length - k) 0 ⟨by omega, by simp⟩ ?wkA fun k hk => ?_
  case wkA => exact ⟨[0, 1], rfl, rfl, rfl, rfl, rfl, rfl, rfl, trivial⟩
  by_cases hkl : k < out.length
  · have hx := A_diskF out[k] (dk := dk)
    have hmiss : onDisk dk out[k] = false → ∀ x ∈ out.take (k + 1), onDisk dk x = false := fun hb x hx => by
      rw [List.take_succ_eq_append_getElem hkl] at hx
      rcases List.mem_append.1 hx with hx | hx
      · exact hk.2 x hx
      · rw [List.mem_singleton.1 hx]; exact hb
    cases hq : onDisk dk out[k] with
    | true =>
      have hhit := idxA_hit hkl hq hk.2
      rw [hhit]
      rw [hq] at hx
      clear hk hmiss hhit
      (repeat' (first
  | (apply W.qd; (first
    | (apply q_mv; (conv => lhs; whnf))|(apply q_as; (conv => lhs; whnf))|(apply q_lss; exact rfl; exact rfl)|(apply q_ix_osl0; (iterate 4 exact rfl); (first | (with_reducible exact rfl) | exact natI_spec rfl | assumption | exact (Int.toNat_of_nonneg (by omega)).symm); (first | omega | (focus (simp only [List.length_map]; omega)) | (focus (simp; done)) | (focus (simp; omega))))
    | (apply q_ld_rptsm; (iterate 4 exact rfl); (first | omega | (focus (simp only [List.length_map]; omega)) | (focus (simp; done)) | (focus (simp; omega))))))|(apply W.ed; (apply (e_callJ (js := [1]) (hx)); (iterate 5 exact rfl); kernel_rfl; kernel_rfl))|(apply yA)|(apply yB)|(apply yC; kernel_rfl)|(apply yE)|(apply yG)|(apply yH)|(apply yJ)|(apply yP)|(apply yN)|(apply yQ; exact rfl)
  | (refine W.cond _ rfl (fun hb => ?_) (fun hb => ?_) <;> ((try simp only [hb, zA, zB]) <;> (try simp only [zC, zD, zE, zF, zG, zH, zI, zJ] at hb) <;> (try (exfalso; omega))))))
      all_goals exact ⟨.inl rfl, [0, 1], [iV k], rfl, rfl, ⟨rfl, trivial⟩, AVle.of_eq rfl, rfl⟩
    | false =>
      have hn := hmiss hq
      rw [hq] at hx
      clear hk hmiss
      (repeat' (first
  | (apply W.qd; (first
    | (apply q_mv; (conv => lhs; whnf))|(apply q_as; (conv => lhs; whnf))|(apply q_lss; exact rfl; exact rfl)|(apply q_add; exact rfl; exact rfl; omega)|(apply q_ix_osl0; (iterate 4 exact rfl); (first | (with_reducible exact rfl) | exact natI_spec rfl | assumption | exact (Int.toNat_of_nonneg (by omega)).symm); (first | omega | (focus (simp only [List.length_map]; omega)) | (focus (simp; done)) | (focus (simp; omega))))
    | (apply q_ld_rptsm; (iterate 4 exact rfl); (first | omega | (focus (simp only [List.length_map]; omega)) | (focus (simp; done)) | (focus (simp; omega))))))|(apply W.ed; (apply (e_callJ (js := [1]) (hx)); (iterate 5 exact rfl); kernel_rfl; kernel_rfl))|(apply yA)|(apply yB)|(apply yC; kernel_rfl)|(apply yE)|(apply yG)|(apply yH)|(apply yL)|(apply yR; exact rfl)
  | (refine W.cond _ rfl (fun hb => ?_) (fun hb => ?_) <;> ((try simp only [hb, zA, zB]) <;> (try simp only [zC, zD, zE, zF, zG, zH, zI, zJ] at hb) <;> (try (exfalso; omega))))))
      all_goals exact ⟨k + 1, ⟨by omega, hn⟩, by omega, [0, 1], rfl, rfl, rfl, iV_eq (by omega), rfl, rfl, rfl, trivial⟩
  · have hm : idxA (onDisk dk) out = -1 := idxA_miss fun x hx => hk.2 x (by rwa [List.take_of_length_le (by omega)])
    rw [hm]
    (repeat' (first
  | (apply W.qd; (first
    | (apply q_as; (conv => lhs; whnf))
    | (apply q_lss; exact rfl; exact rfl)))|(apply yA)|(apply yB)|(apply yC; kernel_rfl)|(apply yE)|(apply yI)|(apply yJ)|(apply yK)|(apply yM)
  | (refine W.cond _ rfl (fun hb => ?_) (fun hb => ?_) <;> ((try simp only [hb, zA, zB]) <;> (try simp only [zC, zD, zE, zF, zG, zH, zI, zJ] at hb) <;> (try (exfalso; omega))))))
    exact ⟨.inl rfl, [0, 1], [iV (-1)], rfl, rfl, ⟨rfl, trivial⟩, AVle.of_eq rfl, rfl⟩
theorem A_hasR {ver : Nat} {out : List Rb} {dk : Int} (hl : out.length ≤ 1000000) : ACalls Tryz.prog 77 [.osl 0 ver 0 out.length, .fn 78 [.opt 1 0]] (outO ver out dk) (bV (decide (0 ≤ idxA (onDisk dk) out))) (outO ver out dk) := by
  refine acalls_of_bodyO Tryz.func77 rfl (Nat.le_of_ble_eq_true rfl) ?_
  have hi := A_ixR (ver := ver) (dk := dk) hl
  (repeat' (first
  | (apply W.qd; (first
    | (apply q_mv; (conv => lhs; whnf))|(apply q_as; (conv => lhs; whnf))
    | (apply q_geq; exact rfl; exact rfl)))|(apply W.ed; (apply (e_callJ (js := [0, 1]) (hi)); (iterate 5 exact rfl); kernel_rfl; kernel_rfl))|(apply yA)|(apply yB)|(apply yC; kernel_rfl)|(apply yE)
  | (apply yJ)))
  exact ⟨.inl rfl, [0, 1], [bV (decide (0 ≤ idxA (onDisk dk) out))], rfl, rfl, ⟨rfl, trivial⟩, AVle.of_eq rfl, rfl⟩
abbrev freO (ver : Nat) (out : List Rb) : List Ent := [.box [.osl 1 ver 0 out.length], .row ver 5 84 (out.map rbD)]
theorem A_leftF {ver : Nat} {out : List Rb} (dk : Int) (hl : out.length ≤ 1000000) : ACalls Tryz.prog 76 [iV dk, .opt 0 0] (freO ver out) (bV (leftB out dk)) (freO ver out) := by
  have hh := A_hasR (ver := ver) (dk := dk) hl
  refine acalls_of_bodyO Tryz.func76 rfl (Nat.le_of_ble_eq_true rfl) ?_
  unfold leftB
  generalize decide (0 ≤ idxA (onDisk dk) out) = b at *
  (repeat' (first
  | (apply W.qd; (first
    | (apply q_as; (conv => lhs; whnf))|(apply yT; (iterate 4 exact rfl))|(apply q_not; exact rfl)
    | (apply q_makeFunc)))
  | (apply W.ed; (first
    | (apply (e_callJ (js := [1, 2]) (hh)); (iterate 5 exact rfl); kernel_rfl; kernel_rfl)
    | (apply yBb; (iterate 3 exact rfl); kernel_rfl; kernel_rfl)))|(apply yA)|(apply yB)|(apply yC; kernel_rfl)|(apply yE)
  | (apply yJ)))
  exact ⟨.inl rfl, [0, 1], [bV (!b)], rfl, rfl, ⟨rfl, trivial⟩, AVle.of_eq rfl, rfl⟩
theorem A_filterFr {ver : Nat} {out : List Rb} {L : List Int} (hl : L.length ≤ 1000000) (ho : out.length ≤ 1000000) : ACalls Tryz.prog 75 [ints L, .fn 76 [.opt 0 0]] (freO ver out) (ints (L.filter (leftB out))) (freO ver out) := by
  refine acalls_of_bodyO Tryz.func75 rfl (Nat.le_of_ble_eq_true rfl) ?_
  have hc := fun dk => A_leftF (ver := ver) (out := out) dk ho
  have hmL : (L.map iD).length = L.length := List.length_map _
  generalize leftB out = q at *
  (repeat' (first
  | (apply W.qd; (apply q_as; (conv => lhs; whnf)))|(apply yA)|(apply yB)|(apply (W.regionS 2); exact rfl; kernel_rfl)
  | (apply yE)))
  refine AWP.nilRow 5 1 3 rfl (by omega) ?_
  (repeat' (first
  | (apply W.qd; (first
    | (apply q_mv; (conv => lhs; whnf))
    | (apply yV; exact rfl; exact rfl)))|(apply yB)|(apply (W.regionS 3); exact rfl; kernel_rfl)|(apply yE)
  | (apply yG)))
  refine AWP.loopW (α := Nat) (fun k => k ≤ L.length) (fun k => ⟨[(10, iV k), (9, iV L.length), (8, ints L), (5, .osl 2 ((L.take k).filter q).length 0 ((L.take k).filter q).length), (1, .fn 76 [.opt 0 0])], freO ver out ++ [.row ((L.take k).filter q).length 1 3 (((L.take k).filter q).map iD)]⟩) (fun k => L.length - k) 0 (Nat.zero_le _) ?wkA fun k hk => ?_
  case wkA => exact ⟨[0, 1, 2], rfl, rfl, rfl, rfl, iV_eq (by rw [hmL]), rfl, rfl, rfl, trivial⟩
  have hfl : ((L.take k).filter q).length ≤ k := Nat.le_trans (List.length_filter_le _ _) (by rw [List.length_take]; omega)
  by_cases hkl : k < L.length
  · have hx := hc L[k]
    have hst : (L.take (k + 1)).filter q = (L.take k).filter q ++ (if q L[k] = true then [L[k]] else []) := by
      rw [List.take_succ_eq_append_getElem hkl, List.filter_append]
      congr 1
      cases hq : q L[k] <;> simp [hq]
    generalize (L.take k).filter q = A at *
    cases hq : q L[k] with
    | false =>
      rw [hq] at hx hst
      rw [if_neg (by simp), List.append_nil] at hst
      (repeat' (first
  | (apply W.qd; (first
    | (apply q_mv; (conv => lhs; whnf))|(apply q_as; (conv => lhs; whnf))|(apply q_lss; exact rfl; exact rfl)|(apply q_add; exact rfl; exact rfl; omega)|(apply yX; (iterate 3 exact rfl); (first | omega | (focus (simp; done))))
    | (apply yGb; (iterate 4 exact rfl); (first | (with_reducible exact rfl) | exact natI_spec rfl | assumption | exact (Int.toNat_of_nonneg (by omega)).symm); (first | omega | (focus (simp only [List.length_map]; omega)) | (focus (simp; done)) | (focus (simp; omega))))))|(apply W.ed; (apply (e_callJ (js := [0, 1]) (hx)); (iterate 5 exact rfl); kernel_rfl; kernel_rfl))|(apply yA)|(apply yB)|(apply yC; kernel_rfl)|(apply yE)|(apply yG)|(apply yH)|(apply yL)|(apply yR; exact rfl)
  | (refine W.cond _ rfl (fun hb => ?_) (fun hb => ?_) <;> ((try simp only [hb, zA, zB]) <;> (try simp only [zC, zD, zE, zF, zG, zH, zI, zJ] at hb) <;> (try (exfalso; omega))))))
      all_goals (refine ⟨k + 1, by omega, by omega, ?_⟩; rw [hst]; exact ⟨[0, 1, 2], rfl, rfl, rfl, iV_eq (by omega), rfl, rfl, rfl, rfl, trivial⟩)
    | true =>
      rw [hq] at hx hst
      rw [if_pos rfl] at hst
      have el : (A ++ [L[k]]).length = A.length + 1 := by simp
      (repeat' (first
  | (apply W.qd; (first
    | (apply q_mv; (conv => lhs; whnf))|(apply q_as; (conv => lhs; whnf))|(apply q_lss; exact rfl; exact rfl)|(apply q_add; exact rfl; exact rfl; omega)|(apply yX; (iterate 3 exact rfl); (first | omega | (focus (simp; done))))|(apply q_litF; (iterate 5 exact rfl); kernel_rfl; kernel_rfl; exact rfl)
    | (apply yGb; (iterate 4 exact rfl); (first | (with_reducible exact rfl) | exact natI_spec rfl | assumption | exact (Int.toNat_of_nonneg (by omega)).symm); (first | omega | (focus (simp only [List.length_map]; omega)) | (focus (simp; done)) | (focus (simp; omega))))))|(apply W.ld; (apply l_app1; (iterate 8 exact rfl); (first | omega | (focus (simp; omega)) | (focus (simp; done)))))|(apply W.ed; (apply (e_callJ (js := [0, 1]) (hx)); (iterate 5 exact rfl); kernel_rfl; kernel_rfl))|(apply yA)|(apply yB)|(apply yC; kernel_rfl)|(apply yE)|(apply yG)|(apply yH)|(apply yL)|(apply yQ; exact rfl)
  | (refine W.cond _ rfl (fun hb => ?_) (fun hb => ?_) <;> ((try simp only [hb, zA, zB]) <;> (try simp only [zC, zD, zE, zF, zG, zH, zI, zJ] at hb) <;> (try (exfalso; omega))))))
      all_goals (refine ⟨k + 1, by omega, by omega, ?_⟩; rw [hst, el]; exact ⟨[0, 1, 2], rfl, rfl, rfl, iV_eq (by omega), rfl, rfl, congrArg (AV.osl 2 (A.length + 1) 0) (by simp), rfl, trivial⟩)
  · obtain rfl : k = L.length := by omega
    rw [List.take_length] at *
    generalize L.filter q = A at *
    (repeat' (first
  | (apply W.qd; (first
    | (apply q_mv; (conv => lhs; whnf))|(apply q_as; (conv => lhs; whnf))
    | (apply q_lss; exact rfl; exact rfl)))|(apply yA)|(apply yB)|(apply yC; kernel_rfl)|(apply yE)|(apply yI)|(apply yJ)|(apply yK)|(apply yM)
  | (refine W.cond _ rfl (fun hb => ?_) (fun hb => ?_) <;> ((try simp only [hb, zA, zB]) <;> (try simp only [zC, zD, zE, zF, zG, zH, zI, zJ] at hb) <;> (try (exfalso; omega))))))
    exact ⟨.inl rfl, [0, 1], [.osl 2 A.length 0 A.length], rfl, rfl, ⟨rfl, trivial⟩, AVle.of_eq (frz_rowJ rfl rfl (by simp)), rfl⟩
abbrev crwO (d r n s l i : Int) (rs : List Int) : List Ent := [.box [.mp 2], .box [iV d, iV r, iV n, iV s, iV l, iV i], .mp (mpI (ksR rs))]
theorem A_crowdF {d r n s l i : Int} {rs : List Int} {a b : Int} (hr : 1 ≤ r) (ha : 0 ≤ a) (hb : 0 ≤ b) : ACalls Tryz.prog 80 [iV a, iV b, .opt 0 0, .opt 1 0] (crwO d r n s l i rs) (iV (cmpI (rs.count (a % r) : Nat) (rs.count (b % r) : Nat))) (crwO d r n s l i rs) := by
  have hc := A_cmp (rs.count (a % r) : Nat) (rs.count (b % r) : Nat)
  have hk := ksR_get rs
  have hk1 := hk (a % r)
  have hk2 := hk (b % r)
  generalize ((rs.count (a % r) : Nat) : Int) = c1 at *
  generalize ((rs.count (b % r) : Nat) : Int) = c2 at *
  refine acalls_of_bodyO Tryz.func80 rfl (Nat.le_of_ble_eq_true rfl) ?_
  (repeat' (first
  | (apply W.qd; (first
    | (apply (yW (hc)); exact rfl; exact rfl; (iterate 3 kernel_rfl))
    | ((apply (q_lkupN hk1); (iterate 4 exact rfl)))
    | ((apply (q_lkupN hk2); (iterate 4 exact rfl)))|(apply q_mv; (conv => lhs; whnf))|(apply q_as; (conv => lhs; whnf))|(apply yS; (iterate 3 exact rfl))|(apply yT; (iterate 4 exact rfl))
    | (apply q_rem; exact rfl; exact rfl; omega; omega)))|(apply yA)|(apply yB)|(apply yC; kernel_rfl)|(apply yD; exact rfl; kernel_rfl)|(apply yE)|(apply yF; kernel_rfl)
  | (apply yJ)))
  exact ⟨.inl rfl, [0, 1, 2], [iV (cmpI c1 c2)], rfl, rfl, ⟨rfl, trivial⟩, AVle.of_eq rfl, rfl⟩
theorem minF_mem (f : Int → Nat) : ∀ (l : List Int) (x : Int), minF f x l ∈ x :: l
  | [], x => by simp [minF]
  | y :: l, x => by
    have h := minF_mem f l (if f y < f x then y else x)
    have e : minF f x (y :: l) = minF f (if f y < f x then y else x) l := rfl
    rw [e]
    rcases List.mem_cons.1 h with h | h
    · rw [h]; split <;> simp
    · simp [h]
theorem A_minF {d r n s l i : Int} {rs : List Int} {x : Int} {L : List Int} (hr : 1 ≤ r) (h0 : ∀ y ∈ x :: L, 0 ≤ y) (hl : L.length ≤ 1000000) : ACalls Tryz.prog 79 [ints (x :: L), .fn 80 [.opt 0 0, .opt 1 0]] (crwO d r n s l i rs) (iV (minF (fun y => rs.count (y % r)) x L)) (crwO d r n s l i rs) := by
  refine acalls_of_bodyO Tryz.func79 rfl (Nat.le_of_ble_eq_true rfl) ?_
  have hml : ((x :: L).map iD).length = L.length + 1 := by simp
  have hml2 : (x :: L).length = L.length + 1 := rfl
  have hsn := fun y l => minF_snoc (fun y => rs.count (y % r)) x y l
  have hmm := fun l => minF_mem (fun y => rs.count (y % r)) l x
  have hcl := fun a b => A_crowdF (d := d) (n := n) (s := s) (l := l) (i := i) (rs := rs) (a := a) (b := b) hr
  generalize hF : minF (fun y => rs.count (y % r)) x = F at *
  have hF0 : F [] = x := by rw [← hF]; rfl
  (repeat' (first
  | (apply W.qd; (first
    | (apply q_mv; (conv => lhs; whnf))|(apply q_as; (conv => lhs; whnf))|(apply q_lss; exact rfl; exact rfl)|(apply yV; exact rfl; exact rfl)|(apply yX; (iterate 3 exact rfl); (first | omega | (focus (simp; done))))
    | (apply yGb; (iterate 4 exact rfl); (first | (with_reducible exact rfl) | exact natI_spec rfl | assumption | exact (Int.toNat_of_nonneg (by omega)).symm); (first | omega | (focus (simp only [List.length_map]; omega)) | (focus (simp; done)) | (focus (simp; omega))))))|(apply yA)|(apply yB)|(apply (W.regionS 5); exact rfl; kernel_rfl)|(apply yE)|(apply yG)|(apply yH)
  | (apply yR; exact rfl)))
  all_goals try (exfalso; omega)
  refine AWP.loopW (α := Nat) (fun k => k ≤ L.length) (fun k => ⟨[(6, iV (k + 1 : Nat)), (5, iV (F (L.take k))), (0, ints (x :: L)), (1, .fn 80 [.opt 0 0, .opt 1 0])], crwO d r n s l i rs⟩) (fun k => L.length - k) 0 (Nat.zero_le _) ?wkA fun k hk => ?_
  case wkA => exact ⟨[0, 1, 2], rfl, rfl, rfl, rfl, Eq.trans (congrArg (fun z : Int => iV z) (show F (L.take 0) = x by rw [List.take_zero, hF0])) rfl, rfl, rfl, trivial⟩
  by_cases hkl : k < L.length
  · have h1 := h0 L[k] (by simp)
    have h2 : 0 ≤ F (L.take k) := h0 _ (by
      rcases List.mem_cons.1 (hmm (L.take k)) with h | h
      · rw [h]; simp
      · exact List.mem_cons_of_mem _ (List.mem_of_mem_take h))
    have hst : F (L.take (k + 1)) = if rs.count (L[k] % r) < rs.count (F (L.take k) % r) then L[k] else F (L.take k) := by
      rw [List.take_succ_eq_append_getElem hkl, hsn]
    have hx := hcl L[k] (F (L.take k)) h1 h2
    have hge : (x :: L)[k + 1]'(by simp; omega) = L[k] := rfl
    generalize F (L.take k) = M at *
    clear hsn hmm hcl hF hF0 h0
    by_cases hlt : rs.count (L[k] % r) < rs.count (M % r)
    · rw [if_pos hlt] at hst
      have hcm : cmpI (rs.count (L[k] % r) : Nat) (rs.count (M % r) : Nat) = -1 := by unfold cmpI; rw [if_pos (by omega)]
      rw [hcm] at hx
      (repeat' (first
  | (apply W.qd; (first
    | (apply q_mv; (conv => lhs; whnf))|(apply q_as; (conv => lhs; whnf))|(apply q_lss; exact rfl; exact rfl)|(apply q_add; exact rfl; exact rfl; omega)|(apply yV; exact rfl; exact rfl)|(apply yX; (iterate 3 exact rfl); (first | omega | (focus (simp; done))))
    | (apply yGb; (iterate 4 exact rfl); (first | (with_reducible exact rfl) | exact natI_spec rfl | assumption | exact (Int.toNat_of_nonneg (by omega)).symm); (first | omega | (focus (simp only [List.length_map]; omega)) | (focus (simp; done)) | (focus (simp; omega))))))|(apply W.ed; (apply (e_callJ (js := [0, 1, 2]) (hx)); (iterate 5 exact rfl); kernel_rfl; kernel_rfl))|(apply yA)|(apply yB)|(apply yC; kernel_rfl)|(apply yE)|(apply yG)|(apply yH)|(apply yL)|(apply yQ; exact rfl)
  | (refine W.cond _ rfl (fun hb => ?_) (fun hb => ?_) <;> ((try simp only [hb, zA, zB]) <;> (try simp only [zC, zD, zE, zF, zG, zH, zI, zJ] at hb) <;> (try (exfalso; omega))))))
      all_goals first
        | (exfalso; omega)|(refine ⟨k + 1, by omega, by omega, ?_⟩; rw [hst]; exact ⟨[0, 1, 2], rfl, rfl, rfl, iV_eq (by omega), rfl, rfl, rfl, trivial⟩)
    · rw [if_neg hlt] at hst
      have hcm : ¬ (cmpI (rs.count (L[k] % r) : Nat) (rs.count (M % r) : Nat) < 0) := by
        unfold cmpI; rw [if_neg (by omega)]; split <;> omega
      generalize cmpI (rs.count (L[k] % r) : Nat) (rs.count (M % r) : Nat) = cc at *
      (repeat' (first
  | (apply W.qd; (first
    | (apply q_mv; (conv => lhs; whnf))|(apply q_as; (conv => lhs; whnf))|(apply q_lss; exact rfl; exact rfl)|(apply q_add; exact rfl; exact rfl; omega)|(apply yV; exact rfl; exact rfl)|(apply yX; (iterate 3 exact rfl); (first | omega | (focus (simp; done))))
    | (apply yGb; (iterate 4 exact rfl); (first | (with_reducible exact rfl) | exact natI_spec rfl | assumption | exact (Int.toNat_of_nonneg (by omega)).symm); (first | omega | (focus (simp only [List.length_map]; omega)) | (focus (simp; done)) | (focus (simp; omega))))))|(apply W.ed; (apply (e_callJ (js := [0, 1, 2]) (hx)); (iterate 5 exact rfl); kernel_rfl; kernel_rfl))|(apply yA)|(apply yB)|(apply yC; kernel_rfl)|(apply yE)|(apply yG)|(apply yH)|(apply yL)
  | (refine W.cond _ rfl (fun hb => ?_) (fun hb => ?_) <;> ((try simp only [hb, zA, zB]) <;> (try simp only [zC, zD, zE, zF, zG, zH, zI, zJ] at hb) <;> (try (exfalso; omega))))))
      all_goals first
        | (exfalso; omega)|(refine ⟨k + 1, by omega, by omega, ?_⟩; rw [hst]; exact ⟨[0, 1, 2], rfl, rfl, rfl, iV_eq (by omega), rfl, rfl, rfl, trivial⟩)
  · obtain rfl : k = L.length := by omega
    rw [List.take_length] at *
    (repeat' (first
  | (apply W.qd; (first
    | (apply q_mv; (conv => lhs; whnf))|(apply q_as; (conv => lhs; whnf))|(apply q_lss; exact rfl; exact rfl)
    | (apply yV; exact rfl; exact rfl)))|(apply yA)|(apply yB)|(apply yC; kernel_rfl)|(apply yE)|(apply yI)|(apply yJ)|(apply yK)|(apply yM)
  | (refine W.cond _ rfl (fun hb => ?_) (fun hb => ?_) <;> ((try simp only [hb, zA, zB]) <;> (try simp only [zC, zD, zE, zF, zG, zH, zI, zJ] at hb) <;> (try (exfalso; omega))))))
    all_goals first
      | (exfalso; omega)
      | exact ⟨.inl rfl, [0, 1, 2], [iV (F L)], rfl, rfl, ⟨rfl, trivial⟩, AVle.of_eq rfl, rfl⟩
end Go.Proofs.YtcljokdiblnhiaaGreatDoor
end
section
namespace Go.Proofs.YtcljokdiblnhiaaGreatDoor
open Go.RowKit
set_option maxHeartbeats 8000000
set_option maxRecDepth 100000
def grStep (st se : List Int) (d r : Int) (rs : List Int) (k : Nat) : List Int := if st.getD k 0 = 1 ∧ 0 ≤ se.getD k 0 ∧ se.getD k 0 < d then (se.getD k 0 % r) :: rs else rs
def grTo (st se : List Int) (d r : Int) (k : Nat) : List Int := (List.range k).foldl (grStep st se d r) []
theorem grTo_succ (st se : List Int) (d r : Int) (k : Nat) : grTo st se d r (k + 1) = grStep st se d r (grTo st se d r k) k := by
  unfold grTo; rw [List.range_succ, List.foldl_append]; rfl
theorem grTo_len (st se : List Int) (d r : Int) : ∀ k, (grTo st se d r k).length ≤ k
  | 0 => by simp [grTo]
  | k + 1 => by
    have := grTo_len st se d r k
    rw [grTo_succ]
    unfold grStep
    split
    · rw [List.length_cons]; omega
    · omega
structure PlCx where
  pl : Nat → Option (List (Nat × Nat))
  hv : List Bool
  inn : List Bool
  sp : List Int
  d : Int
  r : Int
  se : List Int
  ho : List Int
  a : Int
  g : Int
def PlCx.tgt (c : PlCx) (s : List Int × List Rb) (u : Nat) : Int := tgtN38 c.inn c.sp c.r s.1 s.2 (c.se.getD u 0) (c.ho.getD u 0)
def psStep (c : PlCx) (s : List Int × List Rb) (u : Nat) : List Int × List Rb :=
  if c.hv.getD u false = true then s else match c.pl u with
    | none => s
    | some l => if 0 ≤ c.tgt s u then (if c.tgt s u < c.d then (c.tgt s u % c.r) :: s.1 else s.1, s.2 ++ [(c.a, c.g, (u : Int), c.tgt s u, l)]) else s
def psTo (c : PlCx) (rs : List Int) (k : Nat) : List Int × List Rb := (List.range k).foldl (psStep c) (rs, [])
theorem psTo_succ (c : PlCx) (rs : List Int) (k : Nat) : psTo c rs (k + 1) = psStep c (psTo c rs k) k := by
  unfold psTo; rw [List.range_succ, List.foldl_append]; rfl
theorem psTo_len (c : PlCx) (rs : List Int) : ∀ k, (psTo c rs k).1.length ≤ rs.length + k ∧ (psTo c rs k).2.length ≤ k
  | 0 => by simp [psTo]
  | k + 1 => by
    have := psTo_len c rs k
    rw [psTo_succ]
    unfold psStep
    split
    · omega
    · split
      · omega
      · split
        · refine ⟨?_, by rw [List.length_append, List.length_singleton]; omega⟩
          dsimp only
          split
          · rw [List.length_cons]; omega
          · omega
        · omega
abbrev tgO (d r n s l i : Int) (se ho : List Int) (inn : List Bool) (sp : List Int) (rs : List Int) (ver : Nat) (out : List Rb) : List Ent :=
  [.box [ints se], .box [ints ho], .box [bools inn], .box [ints sp], .box [.osl 7 ver 0 out.length], .box [.mp 8], .box [iV d, iV r, iV n, iV s, iV l, iV i], .row ver 5 84 (out.map rbD), .mp (mpI (ksR rs))]
attribute [local irreducible] Quiet Eff OpOk AWPG ACont ABlock ACalls AGoto
theorem A_target38 {d r n s l i : Int} {se ho : List Int} {inn : List Bool} {sp rs : List Int} {ver : Nat} {out : List Rb} {u : Nat} (hr : 1 ≤ r) (hsp : ∀ y ∈ sp, 0 ≤ y) (hspl : sp.length ≤ 1000) (hol : out.length ≤ 1000) (hu1 : u < se.length) (hu2 : u < ho.length) :
    ACalls Tryz.prog 73 [iV u, .opt 0 0, .opt 1 0, .opt 2 0, .opt 3 0, .opt 4 0, .opt 5 0, .opt 6 0] (tgO d r n s l i se ho inn sp rs ver out) (iV (tgtN38 inn sp r rs out se[u] ho[u])) (tgO d r n s l i se ho inn sp rs ver out) := by
  refine acalls_of_bodyO Tryz.func73 rfl (Nat.le_of_ble_eq_true rfl) ?_
  have h1 := A_serves (inn := inn) (d := se[u])
  have h2 := A_serves (inn := inn) (d := ho[u])
  have hf := A_filterFr (ver := ver) (out := out) (L := sp) (by omega) (by omega)
  have hmm : ∀ x L, sp.filter (leftB out) = x :: L → ACalls Tryz.prog 79 [ints (x :: L), .fn 80 [.opt 0 0, .opt 1 0]] (crwO d r n s l i rs) (iV (minF (fun y => rs.count (y % r)) x L)) (crwO d r n s l i rs) := fun x L h => by
    refine A_minF hr (fun y hy => ?_) ?_
    · rw [← h] at hy
      exact hsp y (List.mem_filter.1 hy).1
    · have h3 := List.length_filter_le (leftB out) sp
      rw [h, List.length_cons] at h3
      omega
  unfold tgtN38
  generalize hA : se[u] = A at *
  generalize hB : ho[u] = B at *
  (repeat' (first
  | (apply W.qd; (first
    | (apply q_mv; (conv => lhs; whnf))|(apply q_as; (conv => lhs; whnf))|(apply yT; (iterate 4 exact rfl))|(apply yV; exact rfl; exact rfl)|(apply yX; (iterate 3 exact rfl); (first | omega | (focus (simp; done))))|(apply q_litF; (iterate 5 exact rfl); kernel_rfl; kernel_rfl; exact rfl)
    | (apply yGb; (iterate 4 exact rfl); (first | (with_reducible exact rfl) | exact natI_spec rfl | assumption | exact (Int.toNat_of_nonneg (by omega)).symm); (first | omega | (focus (simp only [List.length_map]; omega)) | (focus (simp; done)) | (focus (simp; omega))))))|(apply yA)|(apply yB)|(apply (W.regionS 2); exact rfl; kernel_rfl)|(apply (W.regionDS 2); exact rfl; exact rfl; kernel_rfl)|(apply yE)|(apply yF; kernel_rfl)
  | (apply yG)))
  refine AWP.loopW (α := Nat) (fun k => k ≤ 2 ∧ (0 < k → srvB inn A = false) ∧ (1 < k → srvB inn B = false)) (fun k => ⟨[(23, iV k), (22, iV 2), (21, ints [A, B]), (3, .opt 2 0), (4, .opt 3 0), (5, .opt 4 0), (6, .opt 5 0), (7, .opt 6 0)], tgO d r n s l i se ho inn sp rs ver out⟩) (fun k => 2 - k) 0 ⟨by omega, fun h => by omega, fun h => by omega⟩ ?wkA fun k hk => ?_
  case wkA => subst hA hB; exact ⟨[0, 1, 2, 3, 4, 5, 6, 7, 8], rfl, rfl, rfl, by (repeat (first | exact trivial | refine ⟨rfl, ?_⟩))⟩
  obtain ⟨hk0, hk1, hk2⟩ := hk
  have hkc : k = 0 ∨ k = 1 ∨ k = 2 := by omega
  rcases hkc with rfl | rfl | rfl
  · clear hmm hf h2 hk1 hk2
    cases hq : srvB inn A with
    | true =>
      rw [hq] at h1
      rw [if_pos rfl]
      (repeat' (first
  | (apply W.qd; (first
    | (apply (yW (h1)); exact rfl; exact rfl; (iterate 3 kernel_rfl))|(apply q_mv; (conv => lhs; whnf))|(apply q_as; (conv => lhs; whnf))|(apply yT; (iterate 4 exact rfl))|(apply q_lss; exact rfl; exact rfl)|(apply yX; (iterate 3 exact rfl); (first | omega | (focus (simp; done))))
    | (apply yGb; (iterate 4 exact rfl); (first | (with_reducible exact rfl) | exact natI_spec rfl | assumption | exact (Int.toNat_of_nonneg (by omega)).symm); (first | omega | (focus (simp only [List.length_map]; omega)) | (focus (simp; done)) | (focus (simp; omega))))))|(apply yA)|(apply yB)|(apply yC; kernel_rfl)|(apply yE)|(apply yG)|(apply yH)|(apply yJ)|(apply yP)|(apply yN)
  | (apply yQ; exact rfl)))
      all_goals exact ⟨.inl rfl, [0, 1, 2, 3, 4, 5, 6, 7, 8], [iV A], rfl, rfl, ⟨rfl, trivial⟩, AVle.of_eq rfl, rfl⟩
    | false =>
      rw [hq] at h1
      (repeat' (first
  | (apply W.qd; (first
    | (apply (yW (h1)); exact rfl; exact rfl; (iterate 3 kernel_rfl))|(apply q_mv; (conv => lhs; whnf))|(apply q_as; (conv => lhs; whnf))|(apply yT; (iterate 4 exact rfl))|(apply q_lss; exact rfl; exact rfl)|(apply q_add; exact rfl; exact rfl; omega)|(apply yX; (iterate 3 exact rfl); (first | omega | (focus (simp; done))))
    | (apply yGb; (iterate 4 exact rfl); (first | (with_reducible exact rfl) | exact natI_spec rfl | assumption | exact (Int.toNat_of_nonneg (by omega)).symm); (first | omega | (focus (simp only [List.length_map]; omega)) | (focus (simp; done)) | (focus (simp; omega))))))|(apply yA)|(apply yB)|(apply yC; kernel_rfl)|(apply yE)|(apply yG)|(apply yH)|(apply yL)|(apply yQ; exact rfl)
  | (apply yR; exact rfl)))
      all_goals exact ⟨1, ⟨by omega, fun _ => by first | exact hq | rfl, fun h => by omega⟩, by omega, [0, 1, 2, 3, 4, 5, 6, 7, 8], rfl, rfl, rfl, iV_eq (by omega), rfl, rfl, rfl, rfl, rfl, rfl, rfl, trivial⟩
  · have hq1 := hk1 (by omega)
    rw [hq1, if_neg (by simp)]
    clear hmm hf h1 hk1 hk2
    cases hq : srvB inn B with
    | true =>
      rw [hq] at h2
      rw [if_pos rfl]
      (repeat' (first
  | (apply W.qd; (first
    | (apply (yW (h2)); exact rfl; exact rfl; (iterate 3 kernel_rfl))|(apply q_mv; (conv => lhs; whnf))|(apply q_as; (conv => lhs; whnf))|(apply yT; (iterate 4 exact rfl))|(apply q_lss; exact rfl; exact rfl)|(apply yX; (iterate 3 exact rfl); (first | omega | (focus (simp; done))))
    | (apply yGb; (iterate 4 exact rfl); (first | (with_reducible exact rfl) | exact natI_spec rfl | assumption | exact (Int.toNat_of_nonneg (by omega)).symm); (first | omega | (focus (simp only [List.length_map]; omega)) | (focus (simp; done)) | (focus (simp; omega))))))|(apply yA)|(apply yB)|(apply yC; kernel_rfl)|(apply yE)|(apply yG)|(apply yH)|(apply yJ)|(apply yP)|(apply yN)
  | (apply yQ; exact rfl)))
      all_goals exact ⟨.inl rfl, [0, 1, 2, 3, 4, 5, 6, 7, 8], [iV B], rfl, rfl, ⟨rfl, trivial⟩, AVle.of_eq rfl, rfl⟩
    | false =>
      rw [hq] at h2
      (repeat' (first
  | (apply W.qd; (first
    | (apply (yW (h2)); exact rfl; exact rfl; (iterate 3 kernel_rfl))|(apply q_mv; (conv => lhs; whnf))|(apply q_as; (conv => lhs; whnf))|(apply yT; (iterate 4 exact rfl))|(apply q_lss; exact rfl; exact rfl)|(apply q_add; exact rfl; exact rfl; omega)|(apply yX; (iterate 3 exact rfl); (first | omega | (focus (simp; done))))
    | (apply yGb; (iterate 4 exact rfl); (first | (with_reducible exact rfl) | exact natI_spec rfl | assumption | exact (Int.toNat_of_nonneg (by omega)).symm); (first | omega | (focus (simp only [List.length_map]; omega)) | (focus (simp; done)) | (focus (simp; omega))))))|(apply yA)|(apply yB)|(apply yC; kernel_rfl)|(apply yE)|(apply yG)|(apply yH)|(apply yL)|(apply yQ; exact rfl)
  | (apply yR; exact rfl)))
      all_goals exact ⟨2, ⟨by omega, fun _ => by first | exact hq1 | rfl, fun _ => by first | exact hq | rfl⟩, by omega, [0, 1, 2, 3, 4, 5, 6, 7, 8], rfl, rfl, rfl, iV_eq (by omega), rfl, rfl, rfl, rfl, rfl, rfl, rfl, trivial⟩
  · have hq1 := hk1 (by omega)
    have hq2 := hk2 (by omega)
    rw [hq1, hq2, if_neg (by simp), if_neg (by simp)]
    clear hk1 hk2 h1 h2
    cases hfl : sp.filter (leftB out) with
    | nil =>
      rw [hfl] at hf
      (repeat' (first
  | (apply W.qd; (first
    | (apply q_mv; (conv => lhs; whnf))|(apply q_as; (conv => lhs; whnf))|(apply yT; (iterate 4 exact rfl))|(apply q_lss; exact rfl; exact rfl)|(apply q_eql; exact rfl; exact rfl)|(apply yV; exact rfl; exact rfl)
    | (apply q_makeFunc)))|(apply W.ed; (apply (e_callJ (js := [4, 7]) (hf)); (iterate 5 exact rfl); kernel_rfl; kernel_rfl))|(apply yA)|(apply yB)|(apply yC; kernel_rfl)|(apply yE)|(apply yI)|(apply yJ)|(apply yK)|(apply yP)|(apply yM)|(apply yQ; exact rfl)
  | (apply yR; exact rfl)))
      all_goals first
        | (exfalso; omega)
        | exact ⟨.inl rfl, [0, 1, 2, 3, 4, 5, 6, 7, 8], [iV (-1)], rfl, rfl, ⟨rfl, trivial⟩, AVle.of_eq rfl, rfl⟩
    | cons x L =>
      have hmx := hmm x L hfl
      rw [hfl] at hf
      have hml : ((x :: L).map iD).length = L.length + 1 := by simp
      have hml2 : (x :: L).length = L.length + 1 := rfl
      unfold pick38
      dsimp only
      generalize minF (fun y => rs.count (y % r)) x L = V at *
      (repeat' (first
  | (apply W.qd; (first
    | (apply q_mv; (conv => lhs; whnf))|(apply q_as; (conv => lhs; whnf))|(apply yT; (iterate 4 exact rfl))|(apply q_lss; exact rfl; exact rfl)|(apply q_eql; exact rfl; exact rfl)|(apply yV; exact rfl; exact rfl)
    | (apply q_makeFunc)))
  | (apply W.ed; (first
    | (apply (e_callJ (js := [4, 7]) (hf)); (iterate 5 exact rfl); kernel_rfl; kernel_rfl)
    | (apply (e_callJ (js := [5, 6, 8]) (hmx)); (iterate 5 exact rfl); kernel_rfl; kernel_rfl)))|(apply yA)|(apply yB)|(apply yC; kernel_rfl)|(apply yE)|(apply yH)|(apply yI)|(apply yJ)|(apply yK)|(apply yM)
  | (apply yR; exact rfl)))
      all_goals first
        | (exfalso; omega)
        | exact ⟨.inl rfl, [0, 1, 2, 3, 4, 5, 6, 7, 8], [iV V], rfl, rfl, ⟨rfl, trivial⟩, AVle.of_eq rfl, rfl⟩
end Go.Proofs.YtcljokdiblnhiaaGreatDoor
end
section
namespace Go.Proofs.YtcljokdiblnhiaaGreatDoor
open Go.RowKit
set_option maxHeartbeats 8000000
set_option maxRecDepth 100000
def goodB (st : List Int) : List Bool := st.map fun x => decide (x = 1)
def fillB (L : List Bool) (p : Nat) : List Bool := L.take p ++ List.replicate (L.length - p) false
theorem fillB_zero (L : List Bool) : fillB L 0 = List.replicate L.length false := by unfold fillB; simp
theorem fillB_all (L : List Bool) : fillB L L.length = L := by unfold fillB; simp
theorem fillB_len {L : List Bool} {p : Nat} (h : p ≤ L.length) : (fillB L p).length = L.length := by unfold fillB; simp; omega
theorem fillB_set {L : List Bool} {p : Nat} (h : p < L.length) : (fillB L p).set p L[p] = fillB L (p + 1) := by
  unfold fillB
  have h1 : (L.take p).length = p := by rw [List.length_take]; omega
  rw [List.set_append_right _ _ (by rw [h1]; omega), h1, Nat.sub_self, show L.length - p = (L.length - (p + 1)) + 1 by omega, List.replicate_succ, List.set_cons_zero, List.take_succ_eq_append_getElem h, List.append_assoc]
  rfl
def plCx (M D : Nat) (ps : List (List Nat)) (d r n s l i a g : Int) (mv : List Se) (st : List Int) (inn : List Bool) : PlCx :=
  { pl := planN M D ps (goodB st), hv := goodB st, inn := inn, sp := spareN (sprI d r n s l i a (D + ps.length : Nat)) mv inn a, d := d, r := r, se := seatsN (plcI d r n s l i a (D + ps.length : Nat) g) mv a g, ho := plcI d r n s l i a (D + ps.length : Nat) g, a := a, g := g }
def planH (c : PlCx) (st : List Int) (k : Nat) : List Rb := (psTo c (grTo st c.se c.d c.r st.length) k).2
theorem plc_ok {d r n s l i a w g : Int} (h : plcI d r n s l i a w g ≠ []) : OkL d r n s l i w ∧ (0 ≤ a ∧ a < n) ∧ (0 ≤ g ∧ g < grpI d r n s l i w) ∧ ((plcI d r n s l i a w g).length : Int) = w := by
  have h0 : 0 ≤ g ∧ g < grpI d r n s l i w := by
    unfold plcI at h
    split at h
    · assumption
    · exact absurd rfl h
  have hne : (ordI d r n s l i a).length ≠ 0 := fun e => by
    have e2 := List.eq_nil_of_length_eq_zero e
    unfold plcI at h
    rw [if_pos h0, e2] at h
    simp at h
  have hok := grpI_pos h0.1 h0.2
  have hrow : 0 ≤ a ∧ a < n := by
    rcases Classical.em (OkC d r n s l i ∧ 0 ≤ a ∧ a < n) with h1 | h1
    · exact h1.2
    · rw [ordI_no h1] at hne; exact absurd rfl hne
  have hb := plc_bd hne h0.1 h0.2
  refine ⟨hok, hrow, h0, ?_⟩
  unfold plcI
  rw [if_pos h0, List.length_take, List.length_drop]
  omega
theorem ordI_nn {d r n s l i a y : Int} (h : y ∈ ordI d r n s l i a) : 0 ≤ y := by
  unfold ordI at h
  split at h
  · unfold I at h
    obtain ⟨x, _, rfl⟩ := List.mem_map.1 h
    omega
  · simp at h
theorem spare_nn {d r n s l i a w y : Int} {mv : List Se} {inn : List Bool} (h : y ∈ spareN (sprI d r n s l i a w) mv inn a) : 0 ≤ y := by
  unfold spareN at h
  have h1 := (List.mem_filter.1 h).1
  unfold sprI at h1
  split at h1
  · exact ordI_nn (List.mem_of_mem_drop h1)
  · simp at h1
theorem spare_len (d r n s l i a w : Int) (mv : List Se) (inn : List Bool) : (spareN (sprI d r n s l i a w) mv inn a).length ≤ 64 := by
  unfold spareN
  exact Nat.le_trans (List.length_filter_le _ _) (sprI_len _ _ _ _ _ _ _ _)
attribute [local irreducible] Quiet Eff OpOk AWPG ACont ABlock ACalls AGoto
theorem A_hplan_bad {d r n s l i a g M D : Int} {par : List (List Int)} {mv : List Se} {st : List Int} {inn : List Bool} (hp : CodeIn par) (h : ¬ (validC M D par = true ∧ plcI d r n s l i a (D + (par.length : Int)) g ≠ [] ∧ (st.length : Int) = D + (par.length : Int))) :
    ACalls Tryz.prog 33 [cfgA d r n s l i, cdA M D par, .agg [iV a, iV g], ses mv, ints st, bools inn] [] (.tup [rbs [], iV 1]) [] := by
  have hw := A_ewidth (M := M) (D := D) hp
  have hms : (st.map iD).length = st.length := List.length_map _
  refine acalls_of_body Tryz.func33 rfl (Nat.le_of_ble_eq_true rfl) ?_
  cases hV : validC M D par with
  | false =>
    rw [hV, if_neg (by simp)] at hw
    have hpl := A_lplace d r n s l i a 0 g
    have hle := plcI_len d r n s l i a 0 g
    generalize plcI d r n s l i a 0 g = L at *
    (repeat' (first
  | (apply W.qd; (first
    | (apply (yW (hw)); exact rfl; exact rfl; (iterate 3 kernel_rfl))|(apply (yW (hpl)); exact rfl; exact rfl; (iterate 3 kernel_rfl))|(apply q_mv; (conv => lhs; whnf))|(apply q_as; (conv => lhs; whnf))|(apply yS; (iterate 3 exact rfl))|(apply yT; (iterate 4 exact rfl))|(apply yU; (iterate 4 exact rfl))|(apply q_eql; exact rfl; exact rfl)
    | (apply (yEb (u := .d _)); exact rfl; exact rfl)))
  | (apply W.ed; (first
    | (apply yBb; (iterate 3 exact rfl); kernel_rfl; kernel_rfl)
    | (apply yCb; (iterate 3 exact rfl); kernel_rfl)))|(apply W.ln; (apply l_st_box; (iterate 6 exact rfl); (iterate 3 kernel_rfl)))|(refine W.gOff _ _ rfl rfl (by intro h; cases h) ?_)|(apply yA)|(apply yB)|(apply (W.regionS 5); exact rfl; kernel_rfl)|(apply yE)|(apply yJ)|(apply yP)
  | (apply yQ; exact rfl)))
    all_goals first
      | (exfalso; omega)
      | exact ⟨.inl rfl, [], [.d (.v (.slice none 0 0)), iV 1], rfl, ⟨rfl, rfl, trivial⟩, AVle.tup2 (AVle.nil 5) (AVle.of_eq rfl), rfl⟩
  | true =>
    rw [hV, if_pos rfl] at hw
    have hpl := A_lplace d r n s l i a (D + (par.length : Int)) g
    have hle := plcI_len d r n s l i a (D + (par.length : Int)) g
    have h2 : (plcI d r n s l i a (D + (par.length : Int)) g).length = 0 ∨ (st.length : Int) ≠ D + (par.length : Int) := by
      rcases Nat.eq_zero_or_pos (plcI d r n s l i a (D + (par.length : Int)) g).length with h3 | h3
      · exact .inl h3
      · refine .inr fun h4 => h ⟨hV, fun h5 => ?_, h4⟩
        rw [h5] at h3; simp at h3
    generalize plcI d r n s l i a (D + (par.length : Int)) g = L at *
    generalize D + (par.length : Int) = wN at *
    clear h
    (repeat' (first
  | (apply yFb; exact rfl; exact rfl)
  | (apply W.qd; (first
    | (apply (yW (hw)); exact rfl; exact rfl; (iterate 3 kernel_rfl))|(apply (yW (hpl)); exact rfl; exact rfl; (iterate 3 kernel_rfl))|(apply q_mv; (conv => lhs; whnf))|(apply q_as; (conv => lhs; whnf))|(apply yS; (iterate 3 exact rfl))|(apply yT; (iterate 4 exact rfl))|(apply yU; (iterate 4 exact rfl))|(apply q_eql; exact rfl; exact rfl)|(apply q_neq; exact rfl; exact rfl)|(apply yV; exact rfl; exact rfl)|(apply (yEb (u := .d _)); exact rfl; exact rfl)
    | (apply (yDb (u := .d _)); exact rfl; exact rfl)))
  | (apply W.ed; (first
    | (apply yBb; (iterate 3 exact rfl); kernel_rfl; kernel_rfl)
    | (apply yCb; (iterate 3 exact rfl); kernel_rfl)))|(apply W.ln; (apply l_st_box; (iterate 6 exact rfl); (iterate 3 kernel_rfl)))|(refine W.gOff _ _ rfl rfl (by intro h; cases h) ?_)|(apply yA)|(apply yB)|(apply (W.regionS 5); exact rfl; kernel_rfl)|(apply yE)|(apply yJ)|(apply yP)|(apply yQ; exact rfl)|(refine W.gF _ _ rfl rfl (fun hb => ?_) (fun hb => ?_) <;> ((try simp only [hb, zA, zB]) <;> (try simp only [zC, zD, zE, zF, zG, zH, zI, zJ] at hb) <;> (try (exfalso; omega))))
  | (refine W.cond _ rfl (fun hb => ?_) (fun hb => ?_) <;> ((try simp only [hb, zA, zB]) <;> (try simp only [zC, zD, zE, zF, zG, zH, zI, zJ] at hb) <;> (try (exfalso; omega))))))
    all_goals first
      | (exfalso; omega)
      | exact ⟨.inl rfl, [], [.d (.v (.slice none 0 0)), iV 1], rfl, ⟨rfl, rfl, trivial⟩, AVle.tup2 (AVle.nil 5) (AVle.of_eq rfl), rfl⟩
theorem A_hplan {d r n s l i a g : Int} {M D : Nat} {ps : List (List Nat)} {mv : List Se} {st : List Int} {inn : List Bool} (h : CodeOk M D ps) (hm : mv.length ≤ 1000000) (hst : st.length = D + ps.length) (hne : plcI d r n s l i a (D + ps.length : Nat) g ≠ []) :
    ACalls Tryz.prog 33 [cfgA d r n s l i, cdN M D ps, .agg [iV a, iV g], ses mv, ints st, bools inn] [] (.tup [rbs (planH (plCx M D ps d r n s l i a g mv st inn) st st.length), iV 0]) [] := by
  have hw := A_ewidthN h
  have hD := h.d
  have hW := h.w
  have hms : (st.map iD).length = st.length := List.length_map _
  have hpl := A_lplace d r n s l i a (D + ps.length : Nat) g
  have hse := A_seats (d := d) (r := r) (n := n) (s := s) (l := l) (i := i) (wd := (D + ps.length : Nat)) (a := a) (g := g) hm
  have hsp := A_spare (d := d) (r := r) (n := n) (s := s) (l := l) (i := i) (wd := (D + ps.length : Nat)) (row := a) (mv := mv) (inn := inn) hm
  obtain ⟨hok, hrow, hg, hpl2⟩ := plc_ok hne
  obtain ⟨b1, b2, b3, b4, b5⟩ := hok.bd
  have hsn : ∀ y ∈ spareN (sprI d r n s l i a (D + ps.length : Nat)) mv inn a, 0 ≤ y := fun y hy => spare_nn hy
  have hsl := spare_len d r n s l i a (D + ps.length : Nat) mv inn
  have hgl : (goodB st).length = D + ps.length := by unfold goodB; rw [List.length_map]; exact hst
  have hpn := fun k (hk : k < D + ps.length) => A_plan (u := k) (hv := goodB st) h hgl hk
  have hcx : (plCx M D ps d r n s l i a g mv st inn) = ⟨planN M D ps (goodB st), goodB st, inn, spareN (sprI d r n s l i a (D + ps.length : Nat)) mv inn a, d, r, seatsN (plcI d r n s l i a (D + ps.length : Nat) g) mv a g, plcI d r n s l i a (D + ps.length : Nat) g, a, g⟩ := rfl
  have hsel := seatsN_len (plcI d r n s l i a (D + ps.length : Nat) g) mv a g
  rw [hcx]
  unfold planH
  dsimp only
  generalize spareN (sprI d r n s l i a (D + ps.length : Nat)) mv inn a = sp at *
  generalize seatsN (plcI d r n s l i a (D + ps.length : Nat) g) mv a g = se at *
  generalize plcI d r n s l i a (D + ps.length : Nat) g = ho at *
  generalize planN M D ps (goodB st) = pl at *
  clear hcx hne hok
  generalize hWe : D + ps.length = wN at *
  have hhl : ho.length = wN := by omega
  have hsl2 : se.length = wN := by omega
  have hmh : (ho.map iD).length = wN := by rw [List.length_map]; exact hhl
  rw [hst]
  clear hpl2
  refine acalls_of_body Tryz.func33 rfl (Nat.le_of_ble_eq_true rfl) ?_
  (repeat' (first
  | (apply yFb; exact rfl; exact rfl)
  | (apply W.qd; (first
    | (apply (yW (hw)); exact rfl; exact rfl; (iterate 3 kernel_rfl))|(apply (yW (hpl)); exact rfl; exact rfl; (iterate 3 kernel_rfl))|(apply (yW (hse)); exact rfl; exact rfl; (iterate 3 kernel_rfl))|(apply q_mv; (conv => lhs; whnf))|(apply q_as; (conv => lhs; whnf))|(apply yS; (iterate 3 exact rfl))|(apply yT; (iterate 4 exact rfl))|(apply yU; (iterate 4 exact rfl))|(apply q_eql; exact rfl; exact rfl)|(apply q_neq; exact rfl; exact rfl)|(apply yV; exact rfl; exact rfl)|(apply q_len_osl; (iterate 3 exact rfl))
    | (apply (yDb (u := .d _)); exact rfl; exact rfl)))
  | (apply W.ed; (first
    | (apply e_mkmap; exact rfl; exact rfl)|(apply yBb; (iterate 3 exact rfl); kernel_rfl; kernel_rfl)|(apply yCb; (iterate 3 exact rfl); kernel_rfl)
    | (apply e_makeF; exact rfl; exact rfl; (first | (with_reducible exact rfl) | exact natI_spec rfl | assumption | exact (Int.toNat_of_nonneg (by omega)).symm); (iterate 6 exact rfl); omega)))|(apply W.ln; (apply l_st_box; (iterate 6 exact rfl); (iterate 3 kernel_rfl)))|(apply yA)|(apply yB)|(apply (W.regionS 9); exact rfl; kernel_rfl)|(apply yE)|(apply yG)|(apply yH)|(refine W.gF _ _ rfl rfl (fun hb => ?_) (fun hb => ?_) <;> ((try simp only [hb, zA, zB]) <;> (try simp only [zC, zD, zE, zF, zG, zH, zI, zJ] at hb) <;> (try (exfalso; omega))))
  | (refine W.cond _ rfl (fun hb => ?_) (fun hb => ?_) <;> ((try simp only [hb, zA, zB]) <;> (try simp only [zC, zD, zE, zF, zG, zH, zI, zJ] at hb) <;> (try (exfalso; omega))))))
  all_goals try (exfalso; omega)
  have hf0 := fillB_zero (goodB st)
  rw [hgl] at hf0
  rw [show (List.replicate wN (Value.bool false)).map (fun z => [Dat.v z]) = (List.replicate wN false).map tD from by simp [tD]]
  have hgg : ∀ k (hk : k < wN), (goodB st)[k]'(by omega) = decide (st[k]'(by omega) = 1) := fun k hk => by unfold goodB; rw [List.getElem_map]
  refine AWP.loopW (α := Nat) (fun k => k ≤ wN) (fun k => ⟨[(60, iV k), (59, iV wN), (17, .osl 6 0 0 wN), (16, .opt 5 0), (4, ints st), (6, .opt 0 0), (18, .opt 8 0), (14, iV wN), (7, .opt 1 0), (8, .opt 2 0), (11, .opt 3 0), (15, .opt 4 0), (3, ses mv)], [.box [iV d, iV r, iV n, iV s, iV l, iV i], .box [.d .any, iV M, iV D, rowsN ps, .d .any], .box [iV a, iV g], .box [bools inn], .box [ints ho], .box [ints se], .row 0 1 4 ((fillB (goodB st) k).map tD), .mp (mpI (ksR (grTo st se d r k))), .box [.mp 7]]⟩) (fun k => wN - k) 0 (Nat.zero_le _) ?wkA fun k hk => ?_
  case wkA => rw [hf0]; exact ⟨[0, 1, 2, 3, 4, 5, 6, 7, 8], rfl, rfl, rfl, by (repeat (first | exact trivial | refine ⟨rfl, ?_⟩))⟩
  by_cases hkl : k < wN
  · have hkst : k < st.length := by omega
    have hkse : k < se.length := by omega
    have hgk : (goodB st)[k]'(by omega) = decide (st[k]'hkst = 1) := hgg k hkl
    have hs := fillB_set (show k < (goodB st).length by omega)
    rw [hgk] at hs
    have hgs := grTo_succ st se d r k
    have hgrl := grTo_len st se d r k
    have eS : st.getD k 0 = st[k]'hkst := by rw [List.getD_eq_getElem?_getD, List.getElem?_eq_getElem hkst]; rfl
    have eE : se.getD k 0 = se[k]'hkse := by rw [List.getD_eq_getElem?_getD, List.getElem?_eq_getElem hkse]; rfl
    unfold grStep at hgs
    rw [eS, eE] at hgs
    have hks := ksR_get (grTo st se d r k)
    clear hgg hgk hf0 eS eE hpn hsn
    generalize grTo st se d r k = rs at *
    have hzl : (fillB (goodB st) k).length = wN := by rw [fillB_len (by omega), hgl]
    generalize fillB (goodB st) k = Z at hs hzl ⊢
    have hkz : k < (Z.set k (decide (st[k] = 1))).length := by rw [List.length_set]; omega
    by_cases hg1 : st[k] = 1
    · have hz1 : (tD ((Z.set k (decide (st[k] = 1)))[k]'hkz))[0]? = some (.v (.bool true)) := by rw [List.getElem_set_self, decide_eq_true hg1]; rfl
      by_cases hin : 0 ≤ se[k] ∧ se[k] < d
      · rw [if_pos ⟨hg1, hin⟩] at hgs
        have hk1 := hks (se[k] % r)
        have hcb : rs.count (se[k] % r) ≤ rs.length := List.count_le_length
        obtain ⟨hin1, hin2⟩ := hin
        (repeat' (first
  | (apply yFb; exact rfl; exact rfl)
  | (apply W.qd; (first
    | ((apply (q_lkupN hk1); (iterate 4 exact rfl)))|(apply q_mv; (conv => lhs; whnf))|(apply q_as; (conv => lhs; whnf))|(apply yS; (iterate 3 exact rfl))|(apply yT; (iterate 4 exact rfl))|(apply q_lss; exact rfl; exact rfl)|(apply q_geq; exact rfl; exact rfl)|(apply q_eql; exact rfl; exact rfl)|(apply q_add; exact rfl; exact rfl; omega)|(apply q_rem; exact rfl; exact rfl; omega; omega)|(apply yX; (iterate 3 exact rfl); (first | omega | (focus (simp; done))))|(apply yGb; (iterate 4 exact rfl); (first | (with_reducible exact rfl) | exact natI_spec rfl | assumption | exact (Int.toNat_of_nonneg (by omega)).symm); (first | omega | (focus (simp only [List.length_map]; omega)) | (focus (simp; done)) | (focus (simp; omega))))|(apply (yEb (u := .d _)); exact rfl; exact rfl)|(apply (yDb (u := .d _)); exact rfl; exact rfl)|(apply q_ix_osl0; (iterate 4 exact rfl); (first | (with_reducible exact rfl) | exact natI_spec rfl | assumption | exact (Int.toNat_of_nonneg (by omega)).symm); (first | omega | (focus (simp only [List.length_map]; omega)) | (focus (simp; done)) | (focus (simp; omega))))
    | (apply q_ld_rptm; (iterate 4 exact rfl); (first | omega | (focus (simp only [List.length_map]; omega)) | (focus (simp; done)) | (focus (simp; omega))))))|(apply W.ln; (apply l_st_rpt; (iterate 7 exact rfl); exact fun _ => rfl; (first | omega | (focus (simp only [List.length_map]; omega)) | (focus (simp; omega)))))|(apply W.en; (apply e_mapset; (iterate 6 exact rfl)))|(refine W.gOff _ _ rfl rfl (by intro h; cases h) ?_)|(apply yA)|(apply yB)|(apply yC; kernel_rfl)|(apply yD; exact rfl; kernel_rfl)|(apply yE)|(apply yF; kernel_rfl)|(apply yG)|(apply yH)|(apply yL)|(apply yR; exact rfl)|(refine W.gT _ _ rfl rfl (fun hb => ?_) (fun hb => ?_) <;> ((try simp only [hb, zA, zB]) <;> (try simp only [zC, zD, zE, zF, zG, zH, zI, zJ] at hb) <;> (try (exfalso; omega))))
  | (refine W.cond _ rfl (fun hb => ?_) (fun hb => ?_) <;> ((try simp only [hb, zA, zB]) <;> (try simp only [zC, zD, zE, zF, zG, zH, zI, zJ] at hb) <;> (try (exfalso; omega))))))
        all_goals first
          | (exfalso; omega)
          | (exfalso; rw [List.getElem_set_self, decide_eq_true hg1] at hb; exact absurd hb (by decide))|(refine ⟨k + 1, by omega, by omega, ?_⟩; rw [hgs, ← hs]; exact ⟨[0, 1, 2, 3, 4, 5, 6, 7, 8], rfl, rfl, rfl, iV_eq (by omega), rfl, rfl, rfl, rfl, rfl, rfl, rfl, rfl, rfl, rfl, rfl, rfl, trivial⟩)
      · rw [if_neg (fun h => hin h.2)] at hgs
        have hin2 : se[k] < 0 ∨ d ≤ se[k] := by omega
        (repeat' (first
  | (apply yFb; exact rfl; exact rfl)
  | (apply W.qd; (first
    | (apply q_mv; (conv => lhs; whnf))|(apply q_as; (conv => lhs; whnf))|(apply yS; (iterate 3 exact rfl))|(apply yT; (iterate 4 exact rfl))|(apply q_lss; exact rfl; exact rfl)|(apply q_geq; exact rfl; exact rfl)|(apply q_eql; exact rfl; exact rfl)|(apply q_add; exact rfl; exact rfl; omega)|(apply yX; (iterate 3 exact rfl); (first | omega | (focus (simp; done))))|(apply yGb; (iterate 4 exact rfl); (first | (with_reducible exact rfl) | exact natI_spec rfl | assumption | exact (Int.toNat_of_nonneg (by omega)).symm); (first | omega | (focus (simp only [List.length_map]; omega)) | (focus (simp; done)) | (focus (simp; omega))))|(apply (yEb (u := .d _)); exact rfl; exact rfl)|(apply (yDb (u := .d _)); exact rfl; exact rfl)|(apply q_ix_osl0; (iterate 4 exact rfl); (first | (with_reducible exact rfl) | exact natI_spec rfl | assumption | exact (Int.toNat_of_nonneg (by omega)).symm); (first | omega | (focus (simp only [List.length_map]; omega)) | (focus (simp; done)) | (focus (simp; omega))))
    | (apply q_ld_rptm; (iterate 4 exact rfl); (first | omega | (focus (simp only [List.length_map]; omega)) | (focus (simp; done)) | (focus (simp; omega))))))|(apply W.ln; (apply l_st_rpt; (iterate 7 exact rfl); exact fun _ => rfl; (first | omega | (focus (simp only [List.length_map]; omega)) | (focus (simp; omega)))))|(refine W.gOff _ _ rfl rfl (by intro h; cases h) ?_)|(apply yA)|(apply yB)|(apply yC; kernel_rfl)|(apply yD; exact rfl; kernel_rfl)|(apply yE)|(apply yF; kernel_rfl)|(apply yG)|(apply yH)|(apply yL)|(apply yR; exact rfl)|(refine W.gT _ _ rfl rfl (fun hb => ?_) (fun hb => ?_) <;> ((try simp only [hb, zA, zB]) <;> (try simp only [zC, zD, zE, zF, zG, zH, zI, zJ] at hb) <;> (try (exfalso; omega))))
  | (refine W.cond _ rfl (fun hb => ?_) (fun hb => ?_) <;> ((try simp only [hb, zA, zB]) <;> (try simp only [zC, zD, zE, zF, zG, zH, zI, zJ] at hb) <;> (try (exfalso; omega))))))
        all_goals first
          | (exfalso; omega)
          | (exfalso; rw [List.getElem_set_self, decide_eq_true hg1] at hb; exact absurd hb (by decide))|(refine ⟨k + 1, by omega, by omega, ?_⟩; rw [hgs, ← hs]; exact ⟨[0, 1, 2, 3, 4, 5, 6, 7, 8], rfl, rfl, rfl, iV_eq (by omega), rfl, rfl, rfl, rfl, rfl, rfl, rfl, rfl, rfl, rfl, rfl, rfl, trivial⟩)
    · have hz1 : (tD ((Z.set k (decide (st[k] = 1)))[k]'hkz))[0]? = some (.v (.bool false)) := by rw [List.getElem_set_self, decide_eq_false hg1]; rfl
      rw [if_neg (fun h => hg1 h.1)] at hgs
      (repeat' (first
  | (apply yFb; exact rfl; exact rfl)
  | (apply W.qd; (first
    | (apply q_mv; (conv => lhs; whnf))|(apply q_as; (conv => lhs; whnf))|(apply yS; (iterate 3 exact rfl))|(apply yT; (iterate 4 exact rfl))|(apply q_lss; exact rfl; exact rfl)|(apply q_geq; exact rfl; exact rfl)|(apply q_eql; exact rfl; exact rfl)|(apply q_add; exact rfl; exact rfl; omega)|(apply q_rem; exact rfl; exact rfl; omega; omega)|(apply yX; (iterate 3 exact rfl); (first | omega | (focus (simp; done))))|(apply yGb; (iterate 4 exact rfl); (first | (with_reducible exact rfl) | exact natI_spec rfl | assumption | exact (Int.toNat_of_nonneg (by omega)).symm); (first | omega | (focus (simp only [List.length_map]; omega)) | (focus (simp; done)) | (focus (simp; omega))))|(apply (yEb (u := .d _)); exact rfl; exact rfl)|(apply (yDb (u := .d _)); exact rfl; exact rfl)|(apply q_ix_osl0; (iterate 4 exact rfl); (first | (with_reducible exact rfl) | exact natI_spec rfl | assumption | exact (Int.toNat_of_nonneg (by omega)).symm); (first | omega | (focus (simp only [List.length_map]; omega)) | (focus (simp; done)) | (focus (simp; omega))))|(apply q_ld_rptm; (iterate 4 exact rfl); (first | omega | (focus (simp only [List.length_map]; omega)) | (focus (simp; done)) | (focus (simp; omega))))
    | (apply q_lkup; (iterate 4 exact rfl))))|(apply W.ln; (apply l_st_rpt; (iterate 7 exact rfl); exact fun _ => rfl; (first | omega | (focus (simp only [List.length_map]; omega)) | (focus (simp; omega)))))|(refine W.gOff _ _ rfl rfl (by intro h; cases h) ?_)|(apply yA)|(apply yB)|(apply yC; kernel_rfl)|(apply yD; exact rfl; kernel_rfl)|(apply yE)|(apply yF; kernel_rfl)|(apply yG)|(apply yH)|(apply yL)|(apply yR; exact rfl)|(refine W.gT _ _ rfl rfl (fun hb => ?_) (fun hb => ?_) <;> ((try simp only [hb, zA, zB]) <;> (try simp only [zC, zD, zE, zF, zG, zH, zI, zJ] at hb) <;> (try (exfalso; omega))))
  | (refine W.cond _ rfl (fun hb => ?_) (fun hb => ?_) <;> ((try simp only [hb, zA, zB]) <;> (try simp only [zC, zD, zE, zF, zG, zH, zI, zJ] at hb) <;> (try (exfalso; omega))))))
      all_goals first
        | (exfalso; omega)
        | (exfalso; exact absurd (show (Z.set k (decide (st[k] = 1)))[k]'hkz = true by assumption) (by rw [List.getElem_set_self, decide_eq_false hg1]; decide))|(refine ⟨k + 1, by omega, by omega, ?_⟩; rw [hgs, ← hs]; exact ⟨[0, 1, 2, 3, 4, 5, 6, 7, 8], rfl, rfl, rfl, iV_eq (by omega), rfl, rfl, rfl, rfl, rfl, rfl, rfl, rfl, rfl, rfl, rfl, rfl, trivial⟩)
  obtain rfl : k = wN := by omega
  have hfa := fillB_all (goodB st)
  rw [hgl] at hfa
  rw [hfa]
  have hgrl := grTo_len st se d r k
  generalize grTo st se d r k = rs0 at *
  clear hf0 hgg hfa hk hw hpl hse
  (repeat' (first
  | (apply W.qd; (first
    | (apply (yW (hsp)); exact rfl; exact rfl; (iterate 3 kernel_rfl))|(apply q_mv; (conv => lhs; whnf))|(apply q_as; (conv => lhs; whnf))|(apply yS; (iterate 3 exact rfl))|(apply yT; (iterate 4 exact rfl))|(apply yU; (iterate 4 exact rfl))|(apply q_lss; exact rfl; exact rfl)|(apply q_len_osl; (iterate 3 exact rfl))
    | (apply q_makeFunc)))|(apply W.ed; (apply yCb; (iterate 3 exact rfl); kernel_rfl))|(apply W.ln; (apply l_st_box; (iterate 6 exact rfl); (iterate 3 kernel_rfl)))|(apply yA)|(apply yB)|(apply (W.regionS 19); exact rfl; kernel_rfl)|(apply yE)|(apply yG)|(apply yI)|(apply yK)|(apply yM)
  | (refine W.cond _ rfl (fun hb => ?_) (fun hb => ?_) <;> ((try simp only [hb, zA, zB]) <;> (try simp only [zC, zD, zE, zF, zG, zH, zI, zJ] at hb) <;> (try (exfalso; omega))))))
  all_goals try (exfalso; omega)
  refine AWP.nilBox (l' := [.osl 11 0 0 0]) 10 0 5 84 rfl rfl (by omega) rfl rfl rfl rfl ?_
  have hSl := psTo_len ⟨pl, goodB st, inn, sp, d, r, se, ho, a, g⟩ rs0
  have hSs := psTo_succ ⟨pl, goodB st, inn, sp, d, r, se, ho, a, g⟩ rs0
  have hS0 : psTo ⟨pl, goodB st, inn, sp, d, r, se, ho, a, g⟩ rs0 0 = (rs0, []) := rfl
  generalize hS : psTo ⟨pl, goodB st, inn, sp, d, r, se, ho, a, g⟩ rs0 = S at *
  have hmg : ((goodB st).map tD).length = k := by rw [List.length_map]; exact hgl
  obtain ⟨wN, rfl⟩ : ∃ wN, wN = k := ⟨_, rfl⟩
  refine AWP.loopW (α := Nat) (fun k => k ≤ wN) (fun k => ⟨[(112, iV k), (111, iV wN), (110, bools (goodB st)), (17, bools (goodB st)), (22, .fn 73 [.opt 5 0, .opt 4 0, .opt 3 0, .opt 8 0, .opt 9 0, .opt 7 0, .opt 0 0]), (7, .opt 1 0), (8, .opt 2 0), (21, .opt 9 0), (6, .opt 0 0), (18, .opt 7 0)], [.box [iV d, iV r, iV n, iV s, iV l, iV i], .box [.d .any, iV M, iV D, rowsN ps, .d .any], .box [iV a, iV g], .box [bools inn], .box [ints ho], .box [ints se], .mp (mpI (ksR (S k).1)), .box [.mp 6], .box [ints sp], .box [.osl 10 (S k).2.length 0 (S k).2.length], .row (S k).2.length 5 84 ((S k).2.map rbD)]⟩) (fun k => wN - k) 0 (Nat.zero_le _) ?wkB fun k hk => ?_
  case wkB =>
    rw [hS0]
    exact ⟨[0, 1, 2, 3, 4, 5, 7, 8, 9, 10, 11], rfl, rfl, rfl, rfl, rfl, (frz_rowJ (i := 6) (ver := 0) (n := wN) (l := (goodB st).map tD) rfl rfl hmg.symm).symm, (frz_rowJ (i := 6) (ver := 0) (n := wN) (l := (goodB st).map tD) rfl rfl hmg.symm).symm, rfl, rfl, rfl, rfl, rfl, rfl, trivial⟩
  by_cases hkl : k < wN
  · have hls := hSl k
    have hst2 := hSs k
    have ht := A_target38 (d := d) (r := r) (n := n) (s := s) (l := l) (i := i) (se := se) (ho := ho) (inn := inn) (sp := sp) (rs := (S k).1) (ver := (S k).2.length) (out := (S k).2) (u := k) (by omega) hsn (by omega) (by omega) (by omega) (by omega)
    have hpk := hpn k (by omega)
    have hks := ksR_get (S k).1
    have eE : se.getD k 0 = se[k]'(by omega) := by rw [List.getD_eq_getElem?_getD, List.getElem?_eq_getElem (by omega)]; rfl
    have eH : ho.getD k 0 = ho[k]'(by omega) := by rw [List.getD_eq_getElem?_getD, List.getElem?_eq_getElem (by omega)]; rfl
    have eG : (goodB st).getD k false = (goodB st)[k]'(by omega) := by rw [List.getD_eq_getElem?_getD, List.getElem?_eq_getElem (by omega)]; rfl
    unfold psStep PlCx.tgt at hst2
    dsimp only at hst2
    rw [eE, eH, eG] at hst2
    generalize tgtN38 inn sp r (S k).1 (S k).2 (se[k]'(by omega)) (ho[k]'(by omega)) = t at *
    clear hS hSl hSs hS0 hpn hsp hsn eE eH eG
    generalize S k = Sk at *
    obtain ⟨rs, out⟩ := Sk
    dsimp only at *
    have hkg : k < (goodB st).length := by omega
    cases hq : (goodB st)[k] with
    | true =>
      rw [hq, if_pos rfl] at hst2
      (repeat' (first
  | (apply W.qd; (first
    | (apply q_mv; (conv => lhs; whnf))|(apply q_as; (conv => lhs; whnf))|(apply yU; (iterate 4 exact rfl))|(apply q_lss; exact rfl; exact rfl)|(apply q_add; exact rfl; exact rfl; omega)|(apply yX; (iterate 3 exact rfl); (first | omega | (focus (simp; done))))
    | (apply yGb; (iterate 4 exact rfl); (first | (with_reducible exact rfl) | exact natI_spec rfl | assumption | exact (Int.toNat_of_nonneg (by omega)).symm); (first | omega | (focus (simp only [List.length_map]; omega)) | (focus (simp; done)) | (focus (simp; omega))))))|(apply yA)|(apply yB)|(apply yC; kernel_rfl)|(apply yE)|(apply yG)|(apply yH)|(apply yI)|(apply yK)|(apply yM)
  | (refine W.cond _ rfl (fun hb => ?_) (fun hb => ?_) <;> ((try simp only [hb, zA, zB]) <;> (try simp only [zC, zD, zE, zF, zG, zH, zI, zJ] at hb) <;> (try (exfalso; omega))))))
      all_goals first
        | (exfalso; rw [hq] at hb; exact absurd hb (by decide))
        | (exfalso; omega)|(refine ⟨k + 1, by omega, by omega, ?_⟩; rw [hst2]; exact ⟨[0, 1, 2, 3, 4, 5, 6, 7, 8, 9, 10], rfl, rfl, rfl, iV_eq (by omega), rfl, rfl, rfl, rfl, rfl, rfl, rfl, rfl, rfl, trivial⟩)
    | false =>
      rw [hq, if_neg (by simp)] at hst2
      cases hp9 : pl k with
      | none =>
        rw [hp9] at hpk hst2
        unfold planA at hpk
        dsimp only at hst2 hpk
        (repeat' (first
  | (apply W.qd; (first
    | (apply (yW (hpk)); exact rfl; exact rfl; (iterate 3 kernel_rfl))|(apply q_mv; (conv => lhs; whnf))|(apply q_as; (conv => lhs; whnf))|(apply yU; (iterate 4 exact rfl))|(apply q_lss; exact rfl; exact rfl)|(apply q_eql; exact rfl; exact rfl)|(apply q_add; exact rfl; exact rfl; omega)|(apply yAb; exact rfl; exact rfl)|(apply yX; (iterate 3 exact rfl); (first | omega | (focus (simp; done))))|(apply yGb; (iterate 4 exact rfl); (first | (with_reducible exact rfl) | exact natI_spec rfl | assumption | exact (Int.toNat_of_nonneg (by omega)).symm); (first | omega | (focus (simp only [List.length_map]; omega)) | (focus (simp; done)) | (focus (simp; omega))))
    | (apply (yDb (u := .d _)); exact rfl; exact rfl)))
  | (apply W.ed; (first
    | (apply (e_callJ (js := [5, 4, 3, 8, 9, 7, 0, 10, 6]) (ht)); (iterate 5 exact rfl); kernel_rfl; kernel_rfl)
    | (apply yCb; (iterate 3 exact rfl); kernel_rfl)))|(apply W.ln; (apply l_st_box; (iterate 6 exact rfl); (iterate 3 kernel_rfl)))|(refine W.gOff _ _ rfl rfl (by intro h; cases h) ?_)|(apply yA)|(apply yB)|(apply yC; kernel_rfl)|(apply yE)|(apply yG)|(apply yH)|(apply yI)|(apply yK)|(apply yL)|(apply yM)|(apply yR; exact rfl)
  | (refine W.cond _ rfl (fun hb => ?_) (fun hb => ?_) <;> ((try simp only [hb, zA, zB]) <;> (try simp only [zC, zD, zE, zF, zG, zH, zI, zJ] at hb) <;> (try (exfalso; omega))))))
        all_goals first
          | (exfalso; rw [hq] at hb; exact absurd hb (by decide))
          | (exfalso; omega)|(refine ⟨k + 1, by omega, by omega, ?_⟩; rw [hst2]; exact ⟨[0, 1, 2, 3, 4, 5, 6, 7, 8, 9, 10], rfl, rfl, rfl, iV_eq (by omega), rfl, rfl, rfl, rfl, rfl, rfl, rfl, rfl, rfl, trivial⟩)
      | some tl =>
        rw [hp9] at hpk hst2
        unfold planA at hpk
        dsimp only at hst2 hpk
        by_cases ht0 : 0 ≤ t
        · rw [if_pos ht0] at hst2
          have el : (out ++ [((a, g, (k : Int), t, tl) : Rb)]).length = out.length + 1 := by simp
          by_cases htd : t < d
          · rw [if_pos htd] at hst2
            have hk1 := hks (t % r)
            have hcb : rs.count (t % r) ≤ rs.length := List.count_le_length
            (repeat' (first
  | (apply yFb; exact rfl; exact rfl)
  | (apply W.qd; (first
    | (apply (yW (hpk)); exact rfl; exact rfl; (iterate 3 kernel_rfl))
    | ((apply (q_lkupN hk1); (iterate 4 exact rfl)))|(apply q_mv; (conv => lhs; whnf))|(apply q_as; (conv => lhs; whnf))|(apply yS; (iterate 3 exact rfl))|(apply yT; (iterate 4 exact rfl))|(apply yU; (iterate 4 exact rfl))|(apply q_lss; exact rfl; exact rfl)|(apply q_geq; exact rfl; exact rfl)|(apply q_eql; exact rfl; exact rfl)|(apply q_add; exact rfl; exact rfl; omega)|(apply q_rem; exact rfl; exact rfl; omega; omega)|(apply yAb; exact rfl; exact rfl)|(apply yX; (iterate 3 exact rfl); (first | omega | (focus (simp; done))))|(apply yZ; exact rfl; exact rfl; kernel_rfl)|(apply q_litF; (iterate 5 exact rfl); kernel_rfl; kernel_rfl; exact rfl)|(apply yGb; (iterate 4 exact rfl); (first | (with_reducible exact rfl) | exact natI_spec rfl | assumption | exact (Int.toNat_of_nonneg (by omega)).symm); (first | omega | (focus (simp only [List.length_map]; omega)) | (focus (simp; done)) | (focus (simp; omega))))
    | (apply (yEb (u := .d _)); exact rfl; exact rfl)))
  | (apply W.ed; (first
    | (apply (e_callJ (js := [5, 4, 3, 8, 9, 7, 0, 10, 6]) (ht)); (iterate 5 exact rfl); kernel_rfl; kernel_rfl)
    | ((apply (e_app1F (f := rbD) (a, g, (k : Int), t, tl)); (iterate 8 exact rfl); omega))
    | (apply yCb; (iterate 3 exact rfl); kernel_rfl)))|(apply W.ln; (apply l_st_box; (iterate 6 exact rfl); (iterate 3 kernel_rfl)))|(apply W.en; (apply e_mapset; (iterate 6 exact rfl)))|(apply yA)|(apply yB)|(apply yC; kernel_rfl)|(apply yD; exact rfl; kernel_rfl)|(apply yE)|(apply yF; kernel_rfl)|(apply yG)|(apply yH)|(apply yI)|(apply yK)|(apply yL)|(apply yM)
  | (refine W.cond _ rfl (fun hb => ?_) (fun hb => ?_) <;> ((try simp only [hb, zA, zB]) <;> (try simp only [zC, zD, zE, zF, zG, zH, zI, zJ] at hb) <;> (try (exfalso; omega))))))
            all_goals first
              | (exfalso; rw [hq] at hb; exact absurd hb (by decide))
              | (exfalso; omega)|(refine ⟨k + 1, by omega, by omega, ?_⟩; rw [hst2]; dsimp only; rw [el]; exact ⟨[0, 1, 2, 3, 4, 5, 6, 7, 8, 9, 10], rfl, rfl, rfl, iV_eq (by omega), rfl, rfl, rfl, rfl, rfl, rfl, rfl, rfl, rfl, trivial⟩)
          · rw [if_neg htd] at hst2
            (repeat' (first
  | (apply yFb; exact rfl; exact rfl)
  | (apply W.qd; (first
    | (apply (yW (hpk)); exact rfl; exact rfl; (iterate 3 kernel_rfl))|(apply q_mv; (conv => lhs; whnf))|(apply q_as; (conv => lhs; whnf))|(apply yS; (iterate 3 exact rfl))|(apply yT; (iterate 4 exact rfl))|(apply yU; (iterate 4 exact rfl))|(apply q_lss; exact rfl; exact rfl)|(apply q_geq; exact rfl; exact rfl)|(apply q_eql; exact rfl; exact rfl)|(apply q_add; exact rfl; exact rfl; omega)|(apply yAb; exact rfl; exact rfl)|(apply yX; (iterate 3 exact rfl); (first | omega | (focus (simp; done))))|(apply yZ; exact rfl; exact rfl; kernel_rfl)|(apply q_litF; (iterate 5 exact rfl); kernel_rfl; kernel_rfl; exact rfl)|(apply yGb; (iterate 4 exact rfl); (first | (with_reducible exact rfl) | exact natI_spec rfl | assumption | exact (Int.toNat_of_nonneg (by omega)).symm); (first | omega | (focus (simp only [List.length_map]; omega)) | (focus (simp; done)) | (focus (simp; omega))))
    | (apply (yEb (u := .d _)); exact rfl; exact rfl)))
  | (apply W.ed; (first
    | (apply (e_callJ (js := [5, 4, 3, 8, 9, 7, 0, 10, 6]) (ht)); (iterate 5 exact rfl); kernel_rfl; kernel_rfl)
    | ((apply (e_app1F (f := rbD) (a, g, (k : Int), t, tl)); (iterate 8 exact rfl); omega))
    | (apply yCb; (iterate 3 exact rfl); kernel_rfl)))|(apply W.ln; (apply l_st_box; (iterate 6 exact rfl); (iterate 3 kernel_rfl)))|(apply yA)|(apply yB)|(apply yC; kernel_rfl)|(apply yE)|(apply yG)|(apply yH)|(apply yI)|(apply yK)|(apply yL)|(apply yM)
  | (refine W.cond _ rfl (fun hb => ?_) (fun hb => ?_) <;> ((try simp only [hb, zA, zB]) <;> (try simp only [zC, zD, zE, zF, zG, zH, zI, zJ] at hb) <;> (try (exfalso; omega))))))
            all_goals first
              | (exfalso; rw [hq] at hb; exact absurd hb (by decide))
              | (exfalso; omega)|(refine ⟨k + 1, by omega, by omega, ?_⟩; rw [hst2]; dsimp only; rw [el]; exact ⟨[0, 1, 2, 3, 4, 5, 6, 7, 8, 9, 10], rfl, rfl, rfl, iV_eq (by omega), rfl, rfl, rfl, rfl, rfl, rfl, rfl, rfl, rfl, trivial⟩)
        · rw [if_neg ht0] at hst2
          (repeat' (first
  | (apply yFb; exact rfl; exact rfl)
  | (apply W.qd; (first
    | (apply (yW (hpk)); exact rfl; exact rfl; (iterate 3 kernel_rfl))|(apply q_mv; (conv => lhs; whnf))|(apply q_as; (conv => lhs; whnf))|(apply yU; (iterate 4 exact rfl))|(apply q_lss; exact rfl; exact rfl)|(apply q_geq; exact rfl; exact rfl)|(apply q_eql; exact rfl; exact rfl)|(apply q_add; exact rfl; exact rfl; omega)|(apply yAb; exact rfl; exact rfl)|(apply yX; (iterate 3 exact rfl); (first | omega | (focus (simp; done))))|(apply yGb; (iterate 4 exact rfl); (first | (with_reducible exact rfl) | exact natI_spec rfl | assumption | exact (Int.toNat_of_nonneg (by omega)).symm); (first | omega | (focus (simp only [List.length_map]; omega)) | (focus (simp; done)) | (focus (simp; omega))))
    | (apply (yEb (u := .d _)); exact rfl; exact rfl)))
  | (apply W.ed; (first
    | (apply (e_callJ (js := [5, 4, 3, 8, 9, 7, 0, 10, 6]) (ht)); (iterate 5 exact rfl); kernel_rfl; kernel_rfl)
    | (apply yCb; (iterate 3 exact rfl); kernel_rfl)))|(apply W.ln; (apply l_st_box; (iterate 6 exact rfl); (iterate 3 kernel_rfl)))|(apply yA)|(apply yB)|(apply yC; kernel_rfl)|(apply yE)|(apply yG)|(apply yH)|(apply yI)|(apply yK)|(apply yL)|(apply yM)
  | (refine W.cond _ rfl (fun hb => ?_) (fun hb => ?_) <;> ((try simp only [hb, zA, zB]) <;> (try simp only [zC, zD, zE, zF, zG, zH, zI, zJ] at hb) <;> (try (exfalso; omega))))))
          all_goals first
            | (exfalso; rw [hq] at hb; exact absurd hb (by decide))
            | (exfalso; omega)|(refine ⟨k + 1, by omega, by omega, ?_⟩; rw [hst2]; exact ⟨[0, 1, 2, 3, 4, 5, 6, 7, 8, 9, 10], rfl, rfl, rfl, iV_eq (by omega), rfl, rfl, rfl, rfl, rfl, rfl, rfl, rfl, rfl, trivial⟩)
  · obtain rfl : k = wN := by omega
    have hls := hSl k
    clear hS hSl hSs hS0 hpn hsp hsn
    generalize S k = Sk at *
    obtain ⟨rs, out⟩ := Sk
    dsimp only at *
    (repeat' (first
  | (apply W.qd; (first
    | (apply q_as; (conv => lhs; whnf))|(apply yT; (iterate 4 exact rfl))
    | (apply q_lss; exact rfl; exact rfl)))|(apply yA)|(apply yB)|(apply yC; kernel_rfl)|(apply yE)|(apply yI)|(apply yJ)|(apply yK)|(apply yM)
  | (refine W.cond _ rfl (fun hb => ?_) (fun hb => ?_) <;> ((try simp only [hb, zA, zB]) <;> (try simp only [zC, zD, zE, zF, zG, zH, zI, zJ] at hb) <;> (try (exfalso; omega))))))
    exact ⟨.inl rfl, [], [.osl 10 out.length 0 out.length, iV 0], rfl, ⟨rfl, rfl, trivial⟩, AVle.tup2 (AVle.of_eq (frz_rowJ rfl rfl (by simp))) (AVle.of_eq rfl), rfl⟩
end Go.Proofs.YtcljokdiblnhiaaGreatDoor
end
section
namespace Go.Proofs.YtcljokdiblnhiaaGreatDoor
open Go.RowKit
set_option maxHeartbeats 4000000
set_option maxRecDepth 100000
attribute [local irreducible] Quiet Eff OpOk AWPG ACont ABlock ACalls AGoto
def smallH (d D : Int) (par : List (List Int)) (mv : List Se) : Bool := smallB D par && (decide (d ≤ 16) && decide (mv.length ≤ 40))
theorem A_small38 {d r n s l i M D : Int} {par : List (List Int)} {mv : List Se} : ACalls Tryz.prog 27 [cfgA d r n s l i, cdA M D par, ses mv] [] (bV (smallH d D par mv)) [] := by
  have hs := A_small (M := M) (D := D) (par := par)
  have hms : (mv.map seD).length = mv.length := List.length_map _
  unfold smallH
  refine acalls_of_body Tryz.func27 rfl (Nat.le_of_ble_eq_true rfl) ?_
  cases hq : smallB D par with
  | false =>
    rw [hq] at hs
    (repeat' (first
  | (apply W.qd; (first
    | (apply (yW (hs)); exact rfl; exact rfl; (iterate 3 kernel_rfl))|(apply q_mv; (conv => lhs; whnf))|(apply q_as; (conv => lhs; whnf))|(apply yU; (iterate 4 exact rfl))
    | (apply (yDb (u := .d _)); exact rfl; exact rfl)))|(apply W.ed; (apply yBb; (iterate 3 exact rfl); kernel_rfl; kernel_rfl))|(refine W.gOff _ _ rfl rfl (by intro h; cases h) ?_)|(apply yA)|(apply yB)|(apply yC; kernel_rfl)|(apply yE)
  | (apply yJ)))
    all_goals exact Ends.b rfl rfl
  | true =>
    rw [hq] at hs
    rw [Bool.true_and]
    (repeat' (first
  | (apply yFb; exact rfl; exact rfl)
  | (apply W.qd; (first
    | (apply (yW (hs)); exact rfl; exact rfl; (iterate 3 kernel_rfl))|(apply q_mv; (conv => lhs; whnf))|(apply q_as; (conv => lhs; whnf))|(apply yS; (iterate 3 exact rfl))|(apply yT; (iterate 4 exact rfl))|(apply yU; (iterate 4 exact rfl))|(apply q_leq; exact rfl; exact rfl)|(apply yV; exact rfl; exact rfl)|(apply (yEb (u := .d _)); exact rfl; exact rfl)
    | (apply (yDb (u := .d _)); exact rfl; exact rfl)))|(apply W.ed; (apply yBb; (iterate 3 exact rfl); kernel_rfl; kernel_rfl))|(refine W.gOff _ _ rfl rfl (by intro h; cases h) ?_)|(apply yA)|(apply yB)|(apply yC; kernel_rfl)|(apply yE)|(apply yJ)
  | (refine W.gT _ _ rfl rfl (fun hb => ?_) (fun hb => ?_) <;> ((try simp only [hb, zA, zB]) <;> (try simp only [zC, zD, zE, zF, zG, zH, zI, zJ] at hb) <;> (try (exfalso; omega))))))
    all_goals first | (refine Ends.b rfl ?_; rw [Bool.eq_iff_iff]; simp <;> omega)
end Go.Proofs.YtcljokdiblnhiaaGreatDoor
end
section
namespace Go.Proofs.YtcljokdiblnhiaaGreatDoor
open Go.RowKit
set_option maxHeartbeats 8000000
set_option maxRecDepth 100000
def rs38 : List (List Nat) := [[1, 1], [1, 2]]
theorem ok_rs38 : CodeOk 8 2 rs38 := by
  obtain ⟨m, d, ps, e1, e2, e3, h⟩ := ok_valid (M := 8) (D := 2) (par := [[1, 1], [1, 2]]) (by kernel_rfl)
  obtain rfl : m = 8 := by omega
  obtain rfl : d = 2 := by omega
  have : ps = rs38 := by
    have h2 := congrArg (fun p => p.map fun r => r.map Int.toNat) e3
    rw [toZ_back] at h2
    exact h2.symm
  rwa [this] at h
def in38 : List Bool := [true, true, false, true, true, true]
theorem v38_1 : planH (plCx 8 2 rs38 6 2 12 2 1 1 1 0 [] [1, 2, 1, 1] in38) [1, 2, 1, 1] 4 = [(1, 0, 1, 0, [(0, 1), (2, 1)])] := by kernel_rfl
theorem v38_2 : doneN (plcI 6 2 12 2 1 1 1 4 0) [] 1 0 1 0 = [(1, 0, 1, 0)] := by kernel_rfl
theorem v38_3 : seatsN (plcI 6 2 12 2 1 1 1 4 0) [(1, 0, 1, 0)] 1 0 = [1, 0, 3, 4] := by kernel_rfl
theorem v38_4 : spareN (sprI 6 2 12 2 1 1 1 4) [(1, 0, 1, 0)] in38 1 = [5] := by kernel_rfl
theorem v38_5 : plcI 6 2 12 2 1 1 1 4 0 = [1, 2, 3, 4] := by kernel_rfl
theorem cdF_avle {nm : List Nat} {M D dom : Int} {par : List (List Int)} : AVle (cdF nm M D par dom) (cdA M D par) := fun _ _ _ _ _ h => cdF_le h
abbrev inC (d r n s l i M D : Int) (par : List (List Int)) (a g : Int) (mv : List Se) (st : List Int) (inn : List Bool) : List AV := [iV d, iV r, iV n, iV s, iV l, iV i, .d .any, iV M, iV D, rowsA par, .d .any, iV a, iV g, ses mv, ints st, bools inn]
attribute [local irreducible] Quiet Eff OpOk AWPG ACont ABlock ACalls AGoto
theorem A_sanity38 : ACalls Tryz.prog 26 [] [] (bV true) [] := by
  have p1 := A_hplan (d := 6) (r := 2) (n := 12) (s := 2) (l := 1) (i := 1) (a := 1) (g := 0) (mv := []) (st := [1, 2, 1, 1]) (inn := in38) ok_rs38 (by decide) rfl (by rw [show ((2 + rs38.length : Nat) : Int) = 4 from rfl, v38_5]; simp)
  rw [show [1, 2, 1, (1 : Int)].length = 4 from rfl, v38_1] at p1
  have p1 := p1.le (args' := [cfgA 6 2 12 2 1 1, cdF [] 8 2 (toZ rs38) 0, .agg [iV 1, iV 0], .d (.v (.slice none 0 0)), ints [1, 2, 1, 1], bools in38]) fun F κ w us hs => AVleL.sat (xs := [cfgA 6 2 12 2 1 1, cdF [] 8 2 (toZ rs38) 0, .agg [iV 1, iV 0], .d (.v (.slice none 0 0)), ints [1, 2, 1, 1], bools in38]) (ys := [cfgA 6 2 12 2 1 1, cdN 8 2 rs38, .agg [iV 1, iV 0], ses [], ints [1, 2, 1, 1], bools in38]) ⟨AVle.refl _, by rw [cdN_A]; exact cdF_avle, AVle.refl _, AVle.nil 4, AVle.refl _, AVle.refl _, trivial⟩ F _ κ w us hs
  have p2 := A_hplan_bad (d := 6) (r := 2) (n := 12) (s := 2) (l := 1) (i := 1) (a := 1) (g := 0) (M := 8) (D := 2) (par := toZ rs38) (mv := []) (st := [1, 2, 1]) (inn := in38) (code_in ok_rs38) (fun h => by have := h.2.2; revert this; decide)
  have p2 := p2.le (args' := [cfgA 6 2 12 2 1 1, cdF [] 8 2 (toZ rs38) 0, .agg [iV 1, iV 0], .d (.v (.slice none 0 0)), ints [1, 2, 1], bools in38]) fun F κ w us hs => AVleL.sat (xs := [cfgA 6 2 12 2 1 1, cdF [] 8 2 (toZ rs38) 0, .agg [iV 1, iV 0], .d (.v (.slice none 0 0)), ints [1, 2, 1], bools in38]) (ys := [cfgA 6 2 12 2 1 1, cdA 8 2 (toZ rs38), .agg [iV 1, iV 0], ses [], ints [1, 2, 1], bools in38]) ⟨AVle.refl _, cdF_avle, AVle.refl _, AVle.nil 4, AVle.refl _, AVle.refl _, trivial⟩ F _ κ w us hs
  have p3 := A_done (d := 6) (r := 2) (n := 12) (s := 2) (l := 1) (i := 1) (wd := 4) (a := 1) (g := 0) (u := 1) (dk := 0) (mv := []) (by decide)
  rw [v38_2] at p3
  have p3 := p3.le (args' := [cfgA 6 2 12 2 1 1, iV 4, .d (.v (.slice none 0 0)), .agg [iV 1, iV 0, iV 1], iV 0]) fun F κ w us hs => AVleL.sat (xs := [cfgA 6 2 12 2 1 1, iV 4, .d (.v (.slice none 0 0)), .agg [iV 1, iV 0, iV 1], iV 0]) (ys := [cfgA 6 2 12 2 1 1, iV 4, ses [], .agg [iV 1, iV 0, iV 1], iV 0]) ⟨AVle.refl _, AVle.refl _, AVle.nil 4, AVle.refl _, AVle.refl _, trivial⟩ F _ κ w us hs
  have p4 := A_seats (d := 6) (r := 2) (n := 12) (s := 2) (l := 1) (i := 1) (wd := 4) (a := 1) (g := 0) (mv := [(1, 0, 1, 0)]) (by decide)
  rw [v38_3] at p4
  have p5 := A_spare (d := 6) (r := 2) (n := 12) (s := 2) (l := 1) (i := 1) (wd := 4) (row := 1) (mv := [(1, 0, 1, 0)]) (inn := in38) (by decide)
  rw [v38_4] at p5
  refine acalls_of_body Tryz.func26 rfl (Nat.le_of_ble_eq_true rfl) ?_
  (repeat' (first
  | (apply yFb; exact rfl; exact rfl)
  | (apply W.qd; (first
    | (apply (yW (p1)); exact rfl; exact rfl; (iterate 3 kernel_rfl))|(apply (yW (p2)); exact rfl; exact rfl; (iterate 3 kernel_rfl))|(apply (yW (p3)); exact rfl; exact rfl; (iterate 3 kernel_rfl))|(apply (yW (p4)); exact rfl; exact rfl; (iterate 3 kernel_rfl))|(apply (yW (p5)); exact rfl; exact rfl; (iterate 3 kernel_rfl))|(apply q_mv; (conv => lhs; whnf))|(apply q_as; (conv => lhs; whnf))|(apply yU; (iterate 4 exact rfl))|(apply q_eql; exact rfl; exact rfl)|(apply yAb; exact rfl; exact rfl)|(apply yV; exact rfl; exact rfl)|(apply yX; (iterate 3 exact rfl); (first | omega | (focus (simp; done))))|(apply q_fld_fptF; (iterate 3 exact rfl))|(apply yZ; exact rfl; exact rfl; kernel_rfl)|(apply q_litF; (iterate 5 exact rfl); kernel_rfl; kernel_rfl; exact rfl)|(apply yGb; (iterate 4 exact rfl); (first | (with_reducible exact rfl) | exact natI_spec rfl | assumption | exact (Int.toNat_of_nonneg (by omega)).symm); (first | omega | (focus (simp only [List.length_map]; omega)) | (focus (simp; done)) | (focus (simp; omega))))
    | (apply (yEb (u := .d _)); exact rfl; exact rfl)))|(apply W.ed; (apply yCb; (iterate 3 exact rfl); kernel_rfl))|(apply W.ln; (apply l_st_box; (iterate 6 exact rfl); (iterate 3 kernel_rfl)))|(apply yA)|(apply yB)|(apply yC; kernel_rfl)|(apply yE)
  | (apply yJ)))
  all_goals exact Ends.b rfl rfl
end Go.Proofs.YtcljokdiblnhiaaGreatDoor
end
section
namespace Go.Proofs.YtcljokdiblnhiaaGreatDoor
open Go.RowKit
theorem any_le38 {v : Value} (h : v.oneCell' = true) : AVle (.d (.v v)) (.d .any) := fun F own κ w u hs => by
  rw [sat_v] at hs
  rw [AV.sat, Dat.sat, hs]; exact h
abbrev xinF (d r n s l i : Int) (nm : List Nat) (M D : Int) (par : List (List Int)) (dom a g : Int) (mv : List Se) (st : List Int) (inn : List Bool) : AV := .agg [iV d, iV r, iV n, iV s, iV l, iV i, bS nm, iV M, iV D, rowsA par, iV dom, iV a, iV g, ses mv, ints st, bools inn]
theorem inF_le {d r n s l i : Int} {nm : List Nat} {M D : Int} {par : List (List Int)} {dom a g : Int} {mv : List Se} {st : List Int} {inn : List Bool} : AVle (xinF d r n s l i nm M D par dom a g mv st inn) (.agg (inC d r n s l i M D par a g mv st inn)) :=
  AVle.agg ⟨AVle.refl _, AVle.refl _, AVle.refl _, AVle.refl _, AVle.refl _, AVle.refl _, any_le38 rfl, AVle.refl _, AVle.refl _, AVle.refl _, any_le38 rfl, AVle.refl _, AVle.refl _, AVle.refl _, AVle.refl _, AVle.refl _, trivial⟩
end Go.Proofs.YtcljokdiblnhiaaGreatDoor
end
section
namespace Go.Proofs.YtcljokdiblnhiaaGreatDoor
open Go.RowKit
set_option maxHeartbeats 8000000
set_option maxRecDepth 100000
theorem psTo_mem (c : PlCx) (rs : List Int) : ∀ k, ∀ x ∈ (psTo c rs k).2, ∃ j, j < k ∧ c.hv.getD j false = false ∧ ∃ t tl, c.pl j = some tl ∧ x = (c.a, c.g, (j : Int), t, tl)
  | 0, x, hx => by simp [psTo] at hx
  | k + 1, x, hx => by
    have ih := psTo_mem c rs k
    rw [psTo_succ] at hx
    unfold psStep at hx
    have up : x ∈ (psTo c rs k).2 → ∃ j, j < k + 1 ∧ c.hv.getD j false = false ∧ ∃ t tl, c.pl j = some tl ∧ x = (c.a, c.g, (j : Int), t, tl) := fun h => by
      obtain ⟨j, h1, h2⟩ := ih x h
      exact ⟨j, by omega, h2⟩
    split at hx
    · exact up hx
    · rename_i hh
      split at hx
      · exact up hx
      · rename_i tl hp
        split at hx
        · rcases List.mem_append.1 hx with h | h
          · exact up h
          · rw [List.mem_singleton] at h
            exact ⟨k, by omega, by simpa using hh, _, tl, hp, h⟩
        · exact up hx
theorem psTo_len2 (c : PlCx) (rs : List Int) (k : Nat) : (psTo c rs k).2.length ≤ k := (psTo_len c rs k).2
def maskG (st : List Int) (E : List (List Nat)) (k : Nat) : List (List Nat) := (List.range k).map fun u => if st.getD u 0 = 1 then E.getD u [] else [63]
theorem maskG_succ (st : List Int) (E : List (List Nat)) (k : Nat) : maskG st E (k + 1) = maskG st E k ++ [if st.getD k 0 = 1 then E.getD k [] else [63]] := by
  unfold maskG; rw [List.range_succ, List.map_append]; rfl
theorem maskG_len (st : List Int) (E : List (List Nat)) (k : Nat) : (maskG st E k).length = k := by unfold maskG; simp
theorem maskG_get {st : List Int} {E : List (List Nat)} {k j : Nat} (h : j < k) (hs : st.getD j 0 = 1) : (maskG st E k).getD j [] = E.getD j [] := by
  unfold maskG
  rw [List.getD_eq_getElem?_getD, List.getElem?_map, List.getElem?_range h]
  simp only [Option.map_some, Option.getD_some]
  rw [if_pos hs]
theorem goodB_get {st : List Int} {q : Nat} (h : (goodB st).getD q false = true) : st.getD q 0 = 1 := by
  unfold goodB at h
  rw [List.getD_eq_getElem?_getD, List.getElem?_map] at h
  rw [List.getD_eq_getElem?_getD]
  cases hq : st[q]? with
  | none => rw [hq] at h; simp at h
  | some x => rw [hq] at h; simpa using h
attribute [local irreducible] Quiet Eff OpOk AWPG ACont ABlock ACalls AGoto
theorem A_applyPlan {M D n k : Nat} {ps us X : List (List Nat)} {hv : List Bool} {l : List (Nat × Nat)} (hok : CodeOk M D ps) (hul : us.length = D) (hun : ∀ u ∈ us, isB u ∧ u.length = n) (un2 : FitM M n) (hn : n ≤ 64) (hl : hv.length = D + ps.length) (hk : k < D + ps.length) (hpn : planN M D ps hv k = some l) (hXl : X.length = D + ps.length) (hX : ∀ j, hv.getD j false = true → X.getD j [] = (encN M ps us).getD j []) :
    ACalls Tryz.prog 42 [cdA M D (toZ ps), .agg [iV k, tmsA l], strs X] [] (.tup [bS ((encN M ps us).getD k []), iV 0]) [] := by
  obtain ⟨q1, q2, q3⟩ := plan_le hok hl hk hpn
  have hw := hok.w
  have hpl : (toZ ps).length = ps.length := List.length_map _
  have hel : (encN M ps us).length = D + ps.length := by rw [encN_length, hul]
  have hlt : ∀ t ∈ l, t.1 < D + ps.length := fun t ht => hv_lt hok (by rw [List.length_set]; exact hl) (q3.pres t ht)
  have hmk : ∀ t ∈ l, X.getD t.1 [] = (encN M ps us).getD t.1 [] := fun t ht => hX _ (by
    have h1 := q3.pres t ht
    rw [List.getD_eq_getElem?_getD, List.getElem?_set] at h1
    rw [List.getD_eq_getElem?_getD]
    split at h1
    · split at h1 <;> cases h1
    · exact h1)
  have hsum := sum_sound hok hul hun un2 hk q3.snd (vs := X) fun t ht => ⟨(q3.lt t ht).1, hlt t ht, hmk t ht⟩
  have hcb := A_fcombine (cs := l.map (·.2)) (us := l.map fun t => X.getD t.1 []) hok.f un2 (by simp) (by rw [List.length_map]; exact q2) (fun c hc => by obtain ⟨t, h1, rfl⟩ := List.mem_map.1 hc; exact (q3.lt t h1).1) (fun x hx => by
    obtain ⟨t, h1, rfl⟩ := List.mem_map.1 hx
    rw [hmk t h1]
    exact mem_isB (encN_ok hok hul hun un2) (by rw [hel]; exact hlt t h1)) (by omega) (by rw [List.length_map]; omega)
  have e1 : sumN M n X l = combM M n (l.map (·.2)) (l.map fun t => X.getD t.1 []) (List.replicate n 0) := rfl
  rw [← e1, hsum] at hcb
  rw [tms_tmsZ]
  refine A_applyOk (code_in hok) (valid_ok hok) (by rw [hXl, hpl]; omega) (by omega) ?_ ?_ (by rw [List.length_map]; omega) ?_
  · unfold outZ; rw [Bool.or_eq_false_iff, decide_eq_false_iff_not, decide_eq_false_iff_not]; omega
  · intro t ht
    obtain ⟨t', h1, rfl⟩ := List.mem_map.1 ht
    have := hlt t' h1
    unfold outZ; rw [Bool.or_eq_false_iff, decide_eq_false_iff_not, decide_eq_false_iff_not]
    show ¬ ((t'.1 : Nat) : Int) < 0 ∧ ¬ (X.length : Int) ≤ ((t'.1 : Nat) : Int)
    omega
  · have e2 : readZ X (l.map fun t => ((t.1 : Int), (t.2 : Int))) = l.map fun t => X.getD t.1 [] := by
      unfold readZ; rw [List.map_map]; rfl
    have e3 : ints ((l.map fun t => ((t.1 : Int), (t.2 : Int))).map (·.2)) = nats (l.map (·.2)) := by
      unfold ints nats; rw [List.map_map, List.map_map, List.map_map]; rfl
    rw [e2, e3]
    exact hcb
theorem A_healRebuilds {d r n s l i M D a g : Int} {par : List (List Int)} {mv : List Se} {st : List Int} {inn : List Bool} {us : List (List Nat)} (hp : CodeIn par) (hmv : mv.length ≤ 9223372036854775807) (hus : ∀ u ∈ us, isB u) : ACalls Tryz.prog 10 [.agg (inC d r n s l i M D par a g mv st inn), strs us] [] (bV true) [] := by
  have hsa := A_sanity38
  have hsm := A_small38 (d := d) (r := r) (n := n) (s := s) (l := l) (i := i) (M := M) (D := D) (par := par) (mv := mv)
  have hfw := A_few (us := us)
  have hmi : (inn.map tD).length = inn.length := List.length_map _
  refine acalls_of_body Tryz.func10 rfl (Nat.le_of_ble_eq_true rfl) ?_
  by_cases hg : smallH d D par mv = true ∧ fewB us = true ∧ inn.length ≤ 40
  case neg =>
    cases h1 : smallH d D par mv with
    | false =>
      rw [h1] at hsm
      (repeat' (first
  | (apply W.qd; (first
    | (apply (yW (hsa)); exact rfl; exact rfl; (iterate 3 kernel_rfl))|(apply (yW (hsm)); exact rfl; exact rfl; (iterate 3 kernel_rfl))|(apply q_mv; (conv => lhs; whnf))|(apply q_as; (conv => lhs; whnf))|(apply yS; (iterate 3 exact rfl))|(apply yT; (iterate 4 exact rfl))|(apply yU; (iterate 4 exact rfl))|(apply q_not; exact rfl)
    | (apply (yEb (u := .d _)); exact rfl; exact rfl)))|(apply W.ed; (apply yBb; (iterate 3 exact rfl); kernel_rfl; kernel_rfl))|(refine W.gOff _ _ rfl rfl (by intro h; cases h) ?_)|(apply yA)|(apply yB)|(apply yC; kernel_rfl)|(apply yE)|(apply yJ)|(apply yP)
  | (apply yQ; exact rfl)))
      all_goals exact Ends.b rfl rfl
    | true =>
      rw [h1] at hsm
      cases h2 : fewB us with
      | false =>
        rw [h2] at hfw
        (repeat' (first
  | (apply yFb; exact rfl; exact rfl)
  | (apply W.qd; (first
    | (apply (yW (hsa)); exact rfl; exact rfl; (iterate 3 kernel_rfl))|(apply (yW (hsm)); exact rfl; exact rfl; (iterate 3 kernel_rfl))|(apply (yW (hfw)); exact rfl; exact rfl; (iterate 3 kernel_rfl))|(apply q_mv; (conv => lhs; whnf))|(apply q_as; (conv => lhs; whnf))|(apply yS; (iterate 3 exact rfl))|(apply yT; (iterate 4 exact rfl))|(apply yU; (iterate 4 exact rfl))|(apply q_not; exact rfl)|(apply (yEb (u := .d _)); exact rfl; exact rfl)
    | (apply (yDb (u := .d _)); exact rfl; exact rfl)))|(apply W.ed; (apply yBb; (iterate 3 exact rfl); kernel_rfl; kernel_rfl))|(refine W.gOff _ _ rfl rfl (by intro h; cases h) ?_)|(apply yA)|(apply yB)|(apply yC; kernel_rfl)|(apply yE)|(apply yJ)|(apply yP)
  | (apply yQ; exact rfl)))
        all_goals exact Ends.b rfl rfl
      | true =>
        rw [h2] at hfw
        have h3 : ¬ inn.length ≤ 40 := fun h3 => hg ⟨h1, h2, h3⟩
        (repeat' (first
  | (apply yFb; exact rfl; exact rfl)
  | (apply W.qd; (first
    | (apply (yW (hsa)); exact rfl; exact rfl; (iterate 3 kernel_rfl))|(apply (yW (hsm)); exact rfl; exact rfl; (iterate 3 kernel_rfl))|(apply (yW (hfw)); exact rfl; exact rfl; (iterate 3 kernel_rfl))|(apply q_mv; (conv => lhs; whnf))|(apply q_as; (conv => lhs; whnf))|(apply yS; (iterate 3 exact rfl))|(apply yT; (iterate 4 exact rfl))|(apply yU; (iterate 4 exact rfl))|(apply q_gtr; exact rfl; exact rfl)|(apply q_not; exact rfl)|(apply yV; exact rfl; exact rfl)
    | (apply (yDb (u := .d _)); exact rfl; exact rfl)))|(apply W.ed; (apply yBb; (iterate 3 exact rfl); kernel_rfl; kernel_rfl))|(apply yA)|(apply yB)|(apply (W.regionS 4); exact rfl; kernel_rfl)|(apply yE)|(apply yJ)|(apply yP)
  | (refine W.cond _ rfl (fun hb => ?_) (fun hb => ?_) <;> ((try simp only [hb, zA, zB]) <;> (try simp only [zC, zD, zE, zF, zG, zH, zI, zJ] at hb) <;> (try (exfalso; omega))))))
        all_goals first | (exfalso; omega) | exact Ends.b rfl rfl
  obtain ⟨h1, h2, h3⟩ := hg
  rw [h1] at hsm
  rw [h2] at hfw
  have hm40 : mv.length ≤ 40 := by
    unfold smallH at h1
    simp only [Bool.and_eq_true, decide_eq_true_eq] at h1
    exact h1.2.2
  have hf2 := h2
  unfold fewB at hf2
  simp only [Bool.and_eq_true, decide_eq_true_eq, List.all_eq_true] at hf2
  obtain ⟨hul24, hu64⟩ := hf2
  have hplX : ∃ L e, ACalls Tryz.prog 33 [cfgA d r n s l i, cdA M D par, .agg [iV a, iV g], ses mv, ints st, bools inn] [] (.tup [rbs L, iV e]) [] ∧ (e = 0 → validC M D par = true ∧ ∀ (m d' : Nat) (ps : List (List Nat)), M = m → D = d' → par = toZ ps → CodeOk m d' ps → st.length = d' + ps.length ∧ L = planH (plCx m d' ps d r n s l i a g mv st inn) st st.length) := by
    by_cases hP : validC M D par = true ∧ plcI d r n s l i a (D + (par.length : Int)) g ≠ [] ∧ (st.length : Int) = D + (par.length : Int)
    · obtain ⟨hV, hne, hst⟩ := hP
      obtain ⟨m, d', ps, rfl, rfl, rfl, hok⟩ := ok_valid hV
      have hpl : (toZ ps).length = ps.length := List.length_map _
      rw [hpl] at hne hst
      have h4 := A_hplan (d := d) (r := r) (n := n) (s := s) (l := l) (i := i) (a := a) (g := g) (mv := mv) (st := st) (inn := inn) hok (by omega) (by omega) (by rw [show ((d' + ps.length : Nat) : Int) = (d' : Int) + (ps.length : Int) by omega]; exact hne)
      rw [cdN_A] at h4
      refine ⟨_, 0, h4, fun _ => ⟨hV, fun m2 d2 ps2 e1 e2 e3 hok2 => ?_⟩⟩
      obtain rfl : m = m2 := by omega
      obtain rfl : d' = d2 := by omega
      obtain rfl : ps = ps2 := by
        have h5 := congrArg (fun p => p.map fun r => r.map Int.toNat) e3
        rw [toZ_back, toZ_back] at h5
        exact h5
      exact ⟨by omega, rfl⟩
    · exact ⟨[], 1, A_hplan_bad hp hP, fun h => by omega⟩
  have henX : ∃ E f, ACalls Tryz.prog 41 [cdA M D par, strs us] [] (.tup [strs E, iV f]) [] ∧ (f = 0 → ∃ (m d' : Nat) (ps : List (List Nat)), M = m ∧ D = d' ∧ par = toZ ps ∧ CodeOk m d' ps ∧ us.length = d' ∧ uniB m us = true ∧ E = encN m ps us) := by
    by_cases hE : validC M D par = true ∧ (us.length : Int) = D ∧ uniB M us = true
    · obtain ⟨hV, hul, hU⟩ := hE
      obtain ⟨m, d', ps, rfl, rfl, rfl, hok⟩ := ok_valid hV
      have hd := hok.d
      obtain ⟨un1, un2⟩ := uni_ok hok.f hU (by omega)
      have hn : (us.headD []).length ≤ 64 := by
        have : us.headD [] = us[0]'(by omega) := by cases us with | nil => simp at hul; omega | cons a t => rfl
        rw [this]
        exact hu64 _ (List.getElem_mem (by omega))
      have h4 := A_encode hok (by omega) (fun u hu => ⟨hus u hu, un1 u hu⟩) (by omega) un2
      rw [cdN_A] at h4
      exact ⟨_, 0, h4, fun _ => ⟨m, d', ps, rfl, rfl, rfl, hok, by omega, hU, rfl⟩⟩
    · exact ⟨[], 1, A_encode_bad hp (by omega) (fun u hu => by have := hu64 u hu; omega) hE, fun h => by omega⟩
  obtain ⟨L, e, hpl, he⟩ := hplX
  obtain ⟨E, f, hen, hf⟩ := henX
  by_cases h0 : e = 0 ∧ f = 0
  case neg =>
    (repeat' (first
  | (apply yFb; exact rfl; exact rfl)
  | (apply W.qd; (first
    | (apply (yW (hsa)); exact rfl; exact rfl; (iterate 3 kernel_rfl))|(apply (yW (hsm)); exact rfl; exact rfl; (iterate 3 kernel_rfl))|(apply (yW (hfw)); exact rfl; exact rfl; (iterate 3 kernel_rfl))|(apply (yW (hpl)); exact rfl; exact rfl; (iterate 3 kernel_rfl))|(apply (yW (hen)); exact rfl; exact rfl; (iterate 3 kernel_rfl))|(apply q_mv; (conv => lhs; whnf))|(apply q_as; (conv => lhs; whnf))|(apply yS; (iterate 3 exact rfl))|(apply yT; (iterate 4 exact rfl))|(apply yU; (iterate 4 exact rfl))|(apply q_gtr; exact rfl; exact rfl)|(apply q_neq; exact rfl; exact rfl)|(apply q_not; exact rfl)|(apply yAb; exact rfl; exact rfl)|(apply yV; exact rfl; exact rfl)|(apply (yEb (u := .d _)); exact rfl; exact rfl)
    | (apply (yDb (u := .d _)); exact rfl; exact rfl)))|(apply W.ed; (apply yBb; (iterate 3 exact rfl); kernel_rfl; kernel_rfl))|(refine W.gOff _ _ rfl rfl (by intro h; cases h) ?_)|(apply yA)|(apply yB)|(apply (W.regionS 8); exact rfl; kernel_rfl)|(apply yE)|(apply yH)|(apply yJ)|(apply yP)|(apply yQ; exact rfl)|(refine W.gF _ _ rfl rfl (fun hb => ?_) (fun hb => ?_) <;> ((try simp only [hb, zA, zB]) <;> (try simp only [zC, zD, zE, zF, zG, zH, zI, zJ] at hb) <;> (try (exfalso; omega))))
  | (refine W.cond _ rfl (fun hb => ?_) (fun hb => ?_) <;> ((try simp only [hb, zA, zB]) <;> (try simp only [zC, zD, zE, zF, zG, zH, zI, zJ] at hb) <;> (try (exfalso; omega))))))
    all_goals first | (exfalso; omega) | exact Ends.b rfl rfl
  obtain ⟨rfl, rfl⟩ := h0
  obtain ⟨m, d', ps, rfl, rfl, rfl, hok, hul, hU, rfl⟩ := hf rfl
  obtain ⟨hst, rfl⟩ := (he rfl).2 m d' ps rfl rfl rfl hok
  clear he hf
  have hd := hok.d
  have hwd := hok.w
  obtain ⟨un1, un2⟩ := uni_ok hok.f hU (by omega)
  have hn : (us.headD []).length ≤ 64 := by
    have : us.headD [] = us[0]'(by omega) := by cases us with | nil => simp at hul; omega | cons a t => rfl
    rw [this]
    exact hu64 _ (List.getElem_mem (by omega))
  have hun : ∀ u ∈ us, isB u ∧ u.length = (us.headD []).length := fun x hx => ⟨hus x hx, un1 x hx⟩
  have hel : (encN m ps us).length = d' + ps.length := by rw [encN_length, hul]
  have hEb : ∀ j (hj : j < (encN m ps us).length), isB (encN m ps us)[j] := fun j hj => (encN_ok hok hul hun un2 _ (List.getElem_mem hj)).1
  have hgl : (goodB st).length = d' + ps.length := by unfold goodB; rw [List.length_map]; exact hst
  have hLm : ∀ x ∈ planH (plCx m d' ps d r n s l i a g mv st inn) st st.length, ∃ j, j < d' + ps.length ∧ x.2.2.1 = (j : Int) ∧ ACalls Tryz.prog 42 [cdA m d' (toZ ps), .agg [iV x.2.2.1, tmsA x.2.2.2.2], strs (maskG st (encN m ps us) (d' + ps.length))] [] (.tup [bS ((encN m ps us).getD j []), iV 0]) [] := fun x hx => by
    unfold planH at hx
    obtain ⟨j, hj, hb, t, tl, hpn, rfl⟩ := psTo_mem _ _ _ x hx
    rw [hst] at hj
    refine ⟨j, hj, rfl, ?_⟩
    exact A_applyPlan hok hul hun un2 hn hgl hj hpn (maskG_len _ _ _) fun q hq => by
      have hql : q < (goodB st).length := by
        rcases Nat.lt_or_ge q (goodB st).length with h6 | h6
        · exact h6
        · rw [List.getD_eq_getElem?_getD, List.getElem?_eq_none h6] at hq; cases hq
      exact maskG_get (by omega) (goodB_get hq)
  have hLl : (planH (plCx m d' ps d r n s l i a g mv st inn) st st.length).length ≤ st.length := psTo_len2 _ _ _
  generalize planH (plCx m d' ps d r n s l i a g mv st inn) st st.length = L at *
  have hms := fun k => maskG_succ st (encN m ps us) k
  have hml := fun k => maskG_len st (encN m ps us) k
  have hm0 : maskG st (encN m ps us) 0 = [] := rfl
  generalize maskG st (encN m ps us) = X at *
  generalize encN m ps us = E at *
  have hmE : (E.map sD).length = E.length := List.length_map _
  have hmL : (L.map rbD).length = L.length := List.length_map _
  (repeat' (first
  | (apply yFb; exact rfl; exact rfl)
  | (apply W.qd; (first
    | (apply (yW (hsa)); exact rfl; exact rfl; (iterate 3 kernel_rfl))|(apply (yW (hsm)); exact rfl; exact rfl; (iterate 3 kernel_rfl))|(apply (yW (hfw)); exact rfl; exact rfl; (iterate 3 kernel_rfl))|(apply (yW (hpl)); exact rfl; exact rfl; (iterate 3 kernel_rfl))|(apply (yW (hen)); exact rfl; exact rfl; (iterate 3 kernel_rfl))|(apply q_mv; (conv => lhs; whnf))|(apply q_as; (conv => lhs; whnf))|(apply yS; (iterate 3 exact rfl))|(apply yT; (iterate 4 exact rfl))|(apply yU; (iterate 4 exact rfl))|(apply q_gtr; exact rfl; exact rfl)|(apply q_neq; exact rfl; exact rfl)|(apply q_not; exact rfl)|(apply yAb; exact rfl; exact rfl)|(apply yV; exact rfl; exact rfl)
    | (apply (yDb (u := .d _)); exact rfl; exact rfl)))|(apply W.ed; (apply yBb; (iterate 3 exact rfl); kernel_rfl; kernel_rfl))|(apply yA)|(apply yB)|(apply (W.regionS 9); exact rfl; kernel_rfl)|(apply yE)|(apply yH)|(apply yR; exact rfl)
  | (refine W.cond _ rfl (fun hb => ?_) (fun hb => ?_) <;> ((try simp only [hb, zA, zB]) <;> (try simp only [zC, zD, zE, zF, zG, zH, zI, zJ] at hb) <;> (try (exfalso; omega))))))
  all_goals try (exfalso; omega)
  refine AWP.nilRow 10 1 9 rfl (by omega) ?_
  (repeat' (first
  | (apply W.qd; (apply q_as; (conv => lhs; whnf)))|(apply yB)|(apply (W.regionS 10); exact rfl; kernel_rfl)|(apply yE)
  | (apply yG)))
  refine AWP.loopW (α := Nat) (fun k => k ≤ E.length) (fun k => ⟨[(11, iV k), (10, .osl 1 (X k).length 0 (X k).length), (8, strs E), (6, rbs L), (2, .opt 0 0), (5, bV true)], [.box (inC d r n s l i m d' (toZ ps) a g mv st inn), .row (X k).length 1 9 ((X k).map sD)]⟩) (fun k => E.length - k) 0 (Nat.zero_le _) ?wkA fun k hk => ?_
  case wkA => rw [hm0]; exact ⟨[0, 1], rfl, rfl, rfl, by (repeat (first | exact trivial | refine ⟨rfl, ?_⟩))⟩
  by_cases hkl : k < E.length
  · have hxs := hms k
    have hxl := hml k
    have hks : k < st.length := by omega
    have eS : st.getD k 0 = st[k] := by rw [List.getD_eq_getElem?_getD, List.getElem?_eq_getElem hks]; rfl
    have eE : E.getD k [] = E[k] := by rw [List.getD_eq_getElem?_getD, List.getElem?_eq_getElem hkl]; rfl
    rw [eS, eE] at hxs
    clear hms hml hm0 hLm hEb eS eE hun un1
    generalize X k = Xk at *
    by_cases hg1 : st[k] = 1
    · rw [if_pos hg1] at hxs
      have el : (Xk ++ [E[k]]).length = Xk.length + 1 := by simp
      (repeat' (first
  | (apply W.qd; (first
    | (apply q_mv; (conv => lhs; whnf))|(apply q_as; (conv => lhs; whnf))|(apply yS; (iterate 3 exact rfl))|(apply yT; (iterate 4 exact rfl))|(apply q_lss; exact rfl; exact rfl)|(apply q_eql; exact rfl; exact rfl)|(apply q_add; exact rfl; exact rfl; omega)|(apply yV; exact rfl; exact rfl)|(apply yX; (iterate 3 exact rfl); (first | omega | (focus (simp; done))))|(apply q_litF; (iterate 5 exact rfl); kernel_rfl; kernel_rfl; exact rfl)
    | (apply yGb; (iterate 4 exact rfl); (first | (with_reducible exact rfl) | exact natI_spec rfl | assumption | exact (Int.toNat_of_nonneg (by omega)).symm); (first | omega | (focus (simp only [List.length_map]; omega)) | (focus (simp; done)) | (focus (simp; omega))))))|(apply W.ld; (apply l_app1; (iterate 8 exact rfl); (first | omega | (focus (simp; omega)) | (focus (simp; done)))))|(apply yA)|(apply yB)|(apply yC; kernel_rfl)|(apply yE)|(apply yG)|(apply yH)|(apply yL)
  | (refine W.cond _ rfl (fun hb => ?_) (fun hb => ?_) <;> ((try simp only [hb, zA, zB]) <;> (try simp only [zC, zD, zE, zF, zG, zH, zI, zJ] at hb) <;> (try (exfalso; omega))))))
      all_goals first
        | (exfalso; omega)|(refine ⟨k + 1, by omega, by omega, ?_⟩; rw [hxs, el]; exact ⟨[0, 1], rfl, rfl, rfl, iV_eq (by omega), congrArg (AV.osl 1 (Xk.length + 1) 0) (by simp), rfl, rfl, rfl, rfl, trivial⟩)
    · rw [if_neg hg1] at hxs
      have el : (Xk ++ [([63] : List Nat)]).length = Xk.length + 1 := by simp
      (repeat' (first
  | (apply W.qd; (first
    | (apply q_mv; (conv => lhs; whnf))|(apply q_as; (conv => lhs; whnf))|(apply yS; (iterate 3 exact rfl))|(apply yT; (iterate 4 exact rfl))|(apply q_lss; exact rfl; exact rfl)|(apply q_eql; exact rfl; exact rfl)|(apply q_add; exact rfl; exact rfl; omega)|(apply yV; exact rfl; exact rfl)|(apply yX; (iterate 3 exact rfl); (first | omega | (focus (simp; done))))|(apply q_litF; (iterate 5 exact rfl); kernel_rfl; kernel_rfl; exact rfl)
    | (apply yGb; (iterate 4 exact rfl); (first | (with_reducible exact rfl) | exact natI_spec rfl | assumption | exact (Int.toNat_of_nonneg (by omega)).symm); (first | omega | (focus (simp only [List.length_map]; omega)) | (focus (simp; done)) | (focus (simp; omega))))))|(apply W.ed; ((apply (e_app1F (f := sD) [63]); (iterate 8 exact rfl); omega)))|(apply yA)|(apply yB)|(apply yC; kernel_rfl)|(apply yE)|(apply yG)|(apply yH)|(apply yL)
  | (refine W.cond _ rfl (fun hb => ?_) (fun hb => ?_) <;> ((try simp only [hb, zA, zB]) <;> (try simp only [zC, zD, zE, zF, zG, zH, zI, zJ] at hb) <;> (try (exfalso; omega))))))
      all_goals first
        | (exfalso; omega)|(refine ⟨k + 1, by omega, by omega, ?_⟩; rw [hxs, el]; exact ⟨[0, 1], rfl, rfl, rfl, iV_eq (by omega), congrArg (AV.osl 1 (Xk.length + 1) 0) (by simp), rfl, rfl, rfl, rfl, trivial⟩)
  obtain rfl : k = E.length := by omega
  rw [← hel] at hLm
  clear hms hml hm0 hun un1
  generalize X E.length = Y at *
  (repeat' (first
  | (apply W.qd; (first
    | (apply q_mv; (conv => lhs; whnf))|(apply q_as; (conv => lhs; whnf))|(apply q_lss; exact rfl; exact rfl)
    | (apply yV; exact rfl; exact rfl)))|(apply yA)|(apply yB)|(apply (W.regionS 17); exact rfl; kernel_rfl)|(apply yE)|(apply yG)|(apply yI)|(apply yK)|(apply yM)
  | (refine W.cond _ rfl (fun hb => ?_) (fun hb => ?_) <;> ((try simp only [hb, zA, zB]) <;> (try simp only [zC, zD, zE, zF, zG, zH, zI, zJ] at hb) <;> (try (exfalso; omega))))))
  all_goals try (exfalso; omega)
  refine AWP.loopW (α := Nat) (fun k => k ≤ L.length) (fun k => ⟨[(13, iV k), (10, strs Y), (8, strs E), (6, rbs L), (2, .opt 0 0), (5, bV true)], [.box (inC d r n s l i m d' (toZ ps) a g mv st inn)]⟩) (fun k => L.length - k) 0 (Nat.zero_le _) ?wkB fun k hk => ?_
  case wkB => exact ⟨[0], rfl, rfl, rfl, rfl, (frz_rowJ (i := 1) (ver := Y.length) (n := Y.length) (l := Y.map sD) rfl rfl (by simp)).symm, rfl, rfl, rfl, rfl, trivial⟩
  by_cases hkl : k < L.length
  · obtain ⟨j, hj, hxj, hap⟩ := hLm _ (List.getElem_mem hkl)
    have hb9 := hEb j hj
    rw [List.getD_eq_getElem?_getD, List.getElem?_eq_getElem hj, Option.getD_some] at hap
    clear hLm hEb
    (repeat' (first
  | (apply yFb; exact rfl; exact rfl)
  | (apply W.qd; (first
    | (apply (yW (hap)); exact rfl; exact rfl; (iterate 3 kernel_rfl))|(apply q_mv; (conv => lhs; whnf))|(apply q_as; (conv => lhs; whnf))|(apply yS; (iterate 3 exact rfl))|(apply yU; (iterate 4 exact rfl))|(apply q_lss; exact rfl; exact rfl)|(apply q_neq; exact rfl; exact rfl)|(apply q_add; exact rfl; exact rfl; omega)|(apply yAb; exact rfl; exact rfl)|(apply yV; exact rfl; exact rfl)|(apply yX; (iterate 3 exact rfl); (first | omega | (focus (simp; done))))|(apply q_fld_fptF; (iterate 3 exact rfl))|(apply yZ; exact rfl; exact rfl; kernel_rfl)|(apply yGb; (iterate 4 exact rfl); (first | (with_reducible exact rfl) | exact natI_spec rfl | assumption | exact (Int.toNat_of_nonneg (by omega)).symm); (first | omega | (focus (simp only [List.length_map]; omega)) | (focus (simp; done)) | (focus (simp; omega))))|(apply (yDb (u := .d _)); exact rfl; exact rfl)
    | (apply q_neqS; exact rfl; exact rfl; (first | assumption | exact isB_nil | exact isB_xor (by assumption) (by assumption)); (first | assumption | exact isB_nil | exact isB_xor (by assumption) (by assumption)))))|(apply yA)|(apply yB)|(apply yC; kernel_rfl)|(apply yD; exact rfl; kernel_rfl)|(apply yE)|(apply yF; kernel_rfl)|(apply yG)|(apply yH)|(apply yL)
  | (refine W.cond _ rfl (fun hb => ?_) (fun hb => ?_) <;> ((try simp only [hb, zA, zB]) <;> (try simp only [zC, zD, zE, zF, zG, zH, zI, zJ] at hb) <;> (try (exfalso; omega))))))
    all_goals first
      | (exfalso; omega)
      | (exfalso; contradiction)
      | exact ⟨k + 1, by omega, by omega, [0], rfl, rfl, rfl, iV_eq (by omega), rfl, rfl, rfl, rfl, rfl, trivial⟩
  · clear hLm hEb
    (repeat' (first
  | (apply W.qd; (first
    | (apply q_mv; (conv => lhs; whnf))|(apply q_as; (conv => lhs; whnf))|(apply q_lss; exact rfl; exact rfl)
    | (apply yV; exact rfl; exact rfl)))|(apply yA)|(apply yB)|(apply yC; kernel_rfl)|(apply yE)|(apply yI)|(apply yJ)|(apply yK)|(apply yM)
  | (refine W.cond _ rfl (fun hb => ?_) (fun hb => ?_) <;> ((try simp only [hb, zA, zB]) <;> (try simp only [zC, zD, zE, zF, zG, zH, zI, zJ] at hb) <;> (try (exfalso; omega))))))
    all_goals first | (exfalso; omega) | exact Ends.b rfl rfl
theorem A_healRebuildsF {d r n s l i M D dom a g : Int} {nm : List Nat} {par : List (List Int)} {mv : List Se} {st : List Int} {inn : List Bool} {us : List (List Nat)} (hp : CodeIn par) (hmv : mv.length ≤ 9223372036854775807) (hus : ∀ u ∈ us, isB u) : ACalls Tryz.prog 10 [xinF d r n s l i nm M D par dom a g mv st inn, strs us] [] (bV true) [] :=
  (A_healRebuilds (d := d) (r := r) (n := n) (s := s) (l := l) (i := i) (M := M) (D := D) (a := a) (g := g) (mv := mv) (st := st) (inn := inn) hp hmv hus).le (args' := [xinF d r n s l i nm M D par dom a g mv st inn, strs us]) fun F κ w vs hs => AVleL.sat (xs := [xinF d r n s l i nm M D par dom a g mv st inn, strs us]) (ys := [.agg (inC d r n s l i M D par a g mv st inn), strs us]) ⟨inF_le, AVle.refl _, trivial⟩ F _ κ w vs hs
end Go.Proofs.YtcljokdiblnhiaaGreatDoor
end
