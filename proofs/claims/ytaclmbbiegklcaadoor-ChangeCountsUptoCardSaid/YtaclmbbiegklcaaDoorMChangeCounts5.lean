import Derived.Test.YtaclmbbiegklcaaDoorMChangeCounts4
/- Joined texts: Ch7 Ch8 Ch9 Ch11. -/
set_option linter.unusedVariables false
set_option linter.unusedSimpArgs false
section
namespace Go.Proofs.YtaclmbbiegklcaaDoor
open Go.RowKit
set_option maxHeartbeats 8000000
set_option maxRecDepth 100000
structure RepIn (tc : Cd) (ss : List Sr) : Prop where
  c : CodeIn tc.2.2.2.1
  sl : ss.length ≤ 10000000
  s : ∀ s ∈ ss, SrIn s
  tot : (liveTo ss ss.length).length ≤ 10000000
theorem pack_some {ss : List Sr} {i k : Nat} (hi : i < ss.length) (hk : k < ss[i].2.2.2.length) {x : List Nat} (hr : recSr ss[i] ss[i].2.2.2[k].toNat = some x) : packN (recAt ss) (preL ss i (k + 1)) = ⟨(packN (recAt ss) (preL ss i k)).data ++ [x], (packN (recAt ss) (preL ss i k)).from' ++ [(i, ss[i].2.2.2[k].toNat)], (packN (recAt ss) (preL ss i k)).lost⟩ := by
  rw [preL_succ hi hk, packN_succ]
  unfold packStep
  have : recAt ss i ss[i].2.2.2[k].toNat = some x := by unfold recAt; rw [getDs hi]; exact hr
  dsimp only
  rw [this]
theorem pack_none {ss : List Sr} {i k : Nat} (hi : i < ss.length) (hk : k < ss[i].2.2.2.length) (hr : recSr ss[i] ss[i].2.2.2[k].toNat = none) : packN (recAt ss) (preL ss i (k + 1)) = ⟨(packN (recAt ss) (preL ss i k)).data, (packN (recAt ss) (preL ss i k)).from', (packN (recAt ss) (preL ss i k)).lost ++ [(i, ss[i].2.2.2[k].toNat)]⟩ := by
  rw [preL_succ hi hk, packN_succ]
  unfold packStep
  have : recAt ss i ss[i].2.2.2[k].toNat = none := by unfold recAt; rw [getDs hi]; exact hr
  dsimp only
  rw [this]
theorem pack_units {ss : List Sr} (hv : ∀ i (hi : i < ss.length), srB ss[i] = true) (hs : ∀ s ∈ ss, SrIn s) : ∀ x ∈ (packS ss).data, isB x ∧ x.length = 32 := fun x hx => by
  unfold packS packN at hx
  rcases pack_data _ _ _ _ hx with h1 | ⟨p, h1, h2⟩
  · cases h1
  · unfold liveTo at h1
    rw [List.mem_flatten] at h1
    obtain ⟨l, h3, h4⟩ := h1
    rw [List.mem_map] at h3
    obtain ⟨j, h5, rfl⟩ := h3
    have hj := List.mem_range.1 h5
    rw [getDs hj, List.mem_map] at h4
    obtain ⟨u, h6, rfl⟩ := h4
    obtain ⟨k, hk, rfl⟩ := List.getElem_of_mem h6
    unfold recAt at h2
    rw [getDs hj] at h2
    exact sr_rlen (hv j hj) (hs _ (List.getElem_mem hj)) hk h2
theorem rep_bad {tc : Cd} {ss : List Sr} (h : ¬ (validC tc.2.1 tc.2.2.1 tc.2.2.2.1 = true ∧ ss.all srB = true)) : repN tc ss = ⟨[], [], [], 1⟩ := by
  unfold repN
  rw [if_neg h]
theorem repA_err : AVle (.tup [.agg [.d (.v (.slice none 0 0)), .d (.v (.slice none 0 0)), .d (.v (.slice none 0 0))], iV 1]) (repA ⟨[], [], [], 1⟩) := AVle.tup ⟨AVle.agg ⟨AVle.nil 1, AVle.nil 4, AVle.nil 2, trivial⟩, AVle.refl _, trivial⟩
attribute [local irreducible] Quiet Eff OpOk AWPG ACont ABlock ACalls AGoto
theorem A_repack {tc : Cd} {ss : List Sr} (h : RepIn tc ss) : ACalls Tryd.prog 33 [cdA1 tc, srcs ss] [] (repA (repN tc ss)) [] := by
  have hva : ACalls Tryd.prog 62 [cdA1 tc] [] (bV (validC tc.2.1 tc.2.2.1 tc.2.2.2.1)) [] := (A_evalid h.c).cdF (nm := tc.1) (dom := tc.2.2.2.2)
  have hsl := h.sl
  have hms : (ss.map srD).length = ss.length := List.length_map _
  refine acalls_of_body Tryd.func33 rfl (Nat.le_of_ble_eq_true rfl) ?_
  cases hV : validC tc.2.1 tc.2.2.1 tc.2.2.2.1 with
  | false =>
    rw [hV] at hva
    rw [rep_bad (by rw [hV]; simp)]
    (repeat' (first
  | (apply W.qd; (first
    | (apply (yW (hva)); exact rfl; exact rfl; (iterate 3 kernel_rfl))|(apply q_as; (conv => lhs; whnf))|(apply yU; (iterate 4 exact rfl))|(apply q_not; exact rfl)
    | (apply yZ; exact rfl; exact rfl; kernel_rfl)))
  | (apply W.ed; (first
    | (apply yBb; (iterate 3 exact rfl); kernel_rfl; kernel_rfl)
    | (apply yCb; (iterate 3 exact rfl); kernel_rfl)))|(apply W.ln; (apply l_st_box; (iterate 6 exact rfl); (iterate 3 kernel_rfl)))|(apply yA)|(apply yB)|(apply yC; kernel_rfl)|(apply yE)|(apply yJ)|(apply yP)
  | (apply yQ; exact rfl)))
    all_goals exact ⟨.inl rfl, [], [.agg [.d (.v (.slice none 0 0)), .d (.v (.slice none 0 0)), .d (.v (.slice none 0 0))], iV 1], rfl, ⟨⟨2, _, true, rfl, rfl, rfl, rfl⟩, rfl, trivial⟩, repA_err, rfl⟩
  | true =>
  rw [hV] at hva
  have hbad : ∀ i (hi : i < ss.length), srB ss[i] = false → repN tc ss = ⟨[], [], [], 1⟩ := fun i hi h1 => rep_bad fun h2 => by
    have := List.all_eq_true.1 h2.2 _ (List.getElem_mem hi)
    rw [h1] at this; cases this
  have hgood : (∀ i (hi : i < ss.length), srB ss[i] = true) → repN tc ss = repOk tc.2.1.toNat tc.2.2.1.toNat (tc.2.2.2.1.map fun r => r.map Int.toNat) ss := fun h1 => by
    unfold repN
    rw [if_pos]
    refine ⟨hV, List.all_eq_true.2 fun x hx => ?_⟩
    obtain ⟨i, hi, rfl⟩ := List.getElem_of_mem hx
    exact h1 i hi
  generalize repN tc ss = R at *
  (repeat' (first
  | (apply W.qd; (first
    | (apply (yW (hva)); exact rfl; exact rfl; (iterate 3 kernel_rfl))|(apply q_mv; (conv => lhs; whnf))|(apply q_as; (conv => lhs; whnf))|(apply yT; (iterate 4 exact rfl))|(apply yU; (iterate 4 exact rfl))|(apply q_not; exact rfl)
    | (apply yV; exact rfl; exact rfl)))
  | (apply W.ed; (first
    | (apply yBb; (iterate 3 exact rfl); kernel_rfl; kernel_rfl)
    | (apply yCb; (iterate 3 exact rfl); kernel_rfl)))|(apply yA)|(apply yB)|(apply (W.regionS 4); exact rfl; kernel_rfl)|(apply yE)|(apply yG)|(apply yH)
  | (apply yR; exact rfl)))
  refine AWP.loopW (α := Nat) (fun k => k ≤ ss.length ∧ ∀ j (hj : j < ss.length), j < k → srB ss[j] = true) (fun k => ⟨[(24, iV k), (23, iV ss.length), (22, srcs ss), (2, .opt 0 0), (3, .opt 1 0), (4, .opt 2 0)], [.box ((cdD tc).map .d), .box [srcs ss], .box [.d (.v (.slice none 0 0)), .d (.v (.slice none 0 0)), .d (.v (.slice none 0 0))]]⟩) (fun k => ss.length - k) 0 ⟨Nat.zero_le _, fun j hj h => by omega⟩ ?wkA fun k hk => ?_
  case wkA => exact ⟨[0, 1, 2], rfl, rfl, rfl, rfl, iV_eq (by rw [hms]), rfl, rfl, rfl, rfl, trivial⟩
  by_cases hkl : k < ss.length
  · have hv := A_srv (h.s _ (List.getElem_mem hkl))
    have hb0 := hbad k hkl
    have hnx : srB ss[k] = true → ∀ j (hj : j < ss.length), j < k + 1 → srB ss[j] = true := fun h1 j hj hjk => by
      by_cases e : j = k
      · subst e; exact h1
      · exact hk.2 j hj (by omega)
    clear hk hbad hgood
    generalize srB ss[k] = b at *
    cases b with
    | false =>
      rw [hb0 rfl]
      (repeat' (first
  | (apply W.qd; (first
    | (apply (yW (hv)); exact rfl; exact rfl; (iterate 3 kernel_rfl))|(apply q_as; (conv => lhs; whnf))|(apply yU; (iterate 4 exact rfl))|(apply q_lss; exact rfl; exact rfl)|(apply q_not; exact rfl)|(apply yY; (iterate 3 exact rfl); (first | omega | (focus (simp; done))))|(apply yZ; exact rfl; exact rfl; kernel_rfl)
    | (apply yGb; (iterate 4 exact rfl); (first | (with_reducible exact rfl) | exact natI_spec rfl | assumption | exact (Int.toNat_of_nonneg (by omega)).symm); (first | omega | (focus (simp only [List.length_map]; omega)) | (focus (simp; done)) | (focus (simp; omega))))))|(apply W.ed; (apply yCb; (iterate 3 exact rfl); kernel_rfl))|(apply W.ln; (apply l_st_box; (iterate 6 exact rfl); (iterate 3 kernel_rfl)))|(apply yA)|(apply yB)|(apply yC; kernel_rfl)|(apply yE)|(apply yG)|(apply yH)|(apply yJ)|(apply yP)|(apply yN)|(apply yQ; exact rfl)
  | (refine W.cond _ rfl (fun hb => ?_) (fun hb => ?_) <;> ((try simp only [hb, zA, zB]) <;> (try simp only [zC, zD, zE, zF, zG, zH, zI, zJ] at hb) <;> (try (exfalso; omega))))))
      all_goals exact ⟨.inl rfl, [], [.agg [.d (.v (.slice none 0 0)), .d (.v (.slice none 0 0)), .d (.v (.slice none 0 0))], iV 1], rfl, ⟨⟨2, _, true, rfl, rfl, rfl, rfl⟩, rfl, trivial⟩, repA_err, rfl⟩
    | true =>
      (repeat' (first
  | (apply W.qd; (first
    | (apply (yW (hv)); exact rfl; exact rfl; (iterate 3 kernel_rfl))|(apply q_mv; (conv => lhs; whnf))|(apply yU; (iterate 4 exact rfl))|(apply q_lss; exact rfl; exact rfl)|(apply q_not; exact rfl)|(apply q_add; exact rfl; exact rfl; omega)|(apply yY; (iterate 3 exact rfl); (first | omega | (focus (simp; done))))
    | (apply yGb; (iterate 4 exact rfl); (first | (with_reducible exact rfl) | exact natI_spec rfl | assumption | exact (Int.toNat_of_nonneg (by omega)).symm); (first | omega | (focus (simp only [List.length_map]; omega)) | (focus (simp; done)) | (focus (simp; omega))))))|(apply W.ed; (apply yCb; (iterate 3 exact rfl); kernel_rfl))|(apply W.ln; (apply l_st_box; (iterate 6 exact rfl); (iterate 3 kernel_rfl)))|(apply yA)|(apply yB)|(apply yC; kernel_rfl)|(apply yE)|(apply yG)|(apply yH)|(apply yL)|(apply yR; exact rfl)
  | (refine W.cond _ rfl (fun hb => ?_) (fun hb => ?_) <;> ((try simp only [hb, zA, zB]) <;> (try simp only [zC, zD, zE, zF, zG, zH, zI, zJ] at hb) <;> (try (exfalso; omega))))))
      all_goals exact ⟨k + 1, ⟨by omega, hnx rfl⟩, by omega, [0, 1, 2], rfl, rfl, rfl, iV_eq (by omega), rfl, rfl, rfl, rfl, rfl, trivial⟩
  have hall : ∀ i (hi : i < ss.length), srB ss[i] = true := fun i hi => hk.2 i hi (by omega)
  have hR := hgood hall
  clear hbad hgood hk
  subst hR
  obtain ⟨M, D, ps, e1, e2, e3, hok⟩ := ok_valid hV
  rw [e1, e2, e3, Int.toNat_natCast, Int.toNat_natCast, toZ_back]
  have hD1 := hok.d
  have hw1 := hok.w
  have hlive := A_live0 (ss := ss)
  obtain ⟨nm, M', D', par, dom⟩ := tc
  dsimp only at e1 e2 e3
  subst e1 e2 e3
  (repeat' (first
  | (apply W.qd; (apply q_lss; exact rfl; exact rfl))|(apply W.ed; (apply yCb; (iterate 3 exact rfl); kernel_rfl))|(apply yA)|(apply yB)|(apply (W.regionS 11); exact rfl; kernel_rfl)|(apply yE)|(apply yI)|(apply yK)|(apply yM)
  | (refine W.cond _ rfl (fun hb => ?_) (fun hb => ?_) <;> ((try simp only [hb, zA, zB]) <;> (try simp only [zC, zD, zE, zF, zG, zH, zI, zJ] at hb) <;> (try (exfalso; omega))))))
  refine AWP.nilBox (l' := [.osl 5 0 0 0, .d (.v (.slice none 0 0)), .d (.v (.slice none 0 0))]) 3 0 1 73 rfl rfl (by omega) rfl rfl rfl rfl ?_
  refine AWP.nilBox (l' := [.osl 5 0 0 0, .osl 6 0 0 0, .d (.v (.slice none 0 0))]) 3 1 4 77 rfl rfl (by omega) rfl rfl rfl rfl ?_
  refine AWP.nilBox (l' := [.osl 5 0 0 0, .osl 6 0 0 0, .osl 7 0 0 0]) 3 2 2 79 rfl rfl (by omega) rfl rfl rfl rfl ?_
  refine AWP.nilBox (l' := [.osl 8 0 0 0]) 4 0 1 9 rfl rfl (by omega) rfl rfl rfl rfl ?_
  (repeat' (first
  | (apply W.qd; (apply yT; (iterate 4 exact rfl)))|(apply W.ed; (apply (e_callJ (js := []) (hlive)); (iterate 5 exact rfl); kernel_rfl; kernel_rfl))|(apply yB)|(apply yC; kernel_rfl)|(apply yE)
  | (apply yG)))
  have hP0 : packN (recAt ss) (preL ss 0 0) = ⟨[], [], []⟩ := by rw [preL_zero]; rfl
  refine AWP.wk ⟨[(34, .fn 105 [.opt 9 0]), (2, .opt 0 0), (3, .opt 1 0), (4, .opt 2 0), (8, .opt 3 0), (9, .opt 4 0)], [.box [bS nm, iV (M : Int), iV (D : Int), rowsA (toZ ps), iV dom], .box [srcs ss], .box [.d (.v (.slice none 0 0)), .d (.v (.slice none 0 0)), .d (.v (.slice none 0 0))], .box [.osl 5 0 0 0, .osl 6 (movN D (packN (recAt ss) (preL ss 0 0)).from').length 0 (movN D (packN (recAt ss) (preL ss 0 0)).from').length, .osl 7 (packN (recAt ss) (preL ss 0 0)).lost.length 0 (packN (recAt ss) (preL ss 0 0)).lost.length], .box [.osl 8 (packN (recAt ss) (preL ss 0 0)).data.length 0 (packN (recAt ss) (preL ss 0 0)).data.length], .row 0 1 73 [], .row (movN D (packN (recAt ss) (preL ss 0 0)).from').length 4 77 ((movN D (packN (recAt ss) (preL ss 0 0)).from').map mvD), .row (packN (recAt ss) (preL ss 0 0)).lost.length 2 79 ((packN (recAt ss) (preL ss 0 0)).lost.map tmD), .row (packN (recAt ss) (preL ss 0 0)).data.length 1 9 ((packN (recAt ss) (preL ss 0 0)).data.map sD), .box [srcs ss]]⟩ (by rw [hP0]; exact ⟨[0, 1, 2, 3, 4, 5, 6, 7, 8, 9], rfl, rfl, rfl, by (repeat (first | exact trivial | refine ⟨rfl, ?_⟩))⟩) ?_
  refine AWP.range (s2 := ⟨[(2, .opt 0 0), (4, .opt 2 0), (8, .opt 3 0), (9, .opt 4 0)], [.box [bS nm, iV (M : Int), iV (D : Int), rowsA (toZ ps), iV dom], .box [srcs ss], .box [.d (.v (.slice none 0 0)), .d (.v (.slice none 0 0)), .d (.v (.slice none 0 0))], .box [.osl 5 0 0 0, .osl 6 (movN D (packN (recAt ss) (preL ss ss.length 0)).from').length 0 (movN D (packN (recAt ss) (preL ss ss.length 0)).from').length, .osl 7 (packN (recAt ss) (preL ss ss.length 0)).lost.length 0 (packN (recAt ss) (preL ss ss.length 0)).lost.length], .box [.osl 8 (packN (recAt ss) (preL ss ss.length 0)).data.length 0 (packN (recAt ss) (preL ss ss.length 0)).data.length], .row 0 1 73 [], .row (movN D (packN (recAt ss) (preL ss ss.length 0)).from').length 4 77 ((movN D (packN (recAt ss) (preL ss ss.length 0)).from').map mvD), .row (packN (recAt ss) (preL ss ss.length 0)).lost.length 2 79 ((packN (recAt ss) (preL ss ss.length 0)).lost.map tmD), .row (packN (recAt ss) (preL ss ss.length 0)).data.length 1 9 ((packN (recAt ss) (preL ss ss.length 0)).data.map sD)]⟩) rfl (by kernel_rfl)
    (A_liveIter (e3 := fun p => .box [.osl 5 0 0 0, .osl 6 (movN D (packN (recAt ss) p).from').length 0 (movN D (packN (recAt ss) p).from').length, .osl 7 (packN (recAt ss) p).lost.length 0 (packN (recAt ss) p).lost.length]) (e4 := fun p => .box [.osl 8 (packN (recAt ss) p).data.length 0 (packN (recAt ss) p).data.length]) (e6 := fun p => .row (movN D (packN (recAt ss) p).from').length 4 77 ((movN D (packN (recAt ss) p).from').map mvD)) (e7 := fun p => .row (packN (recAt ss) p).lost.length 2 79 ((packN (recAt ss) p).lost.map tmD)) (e8 := fun p => .row (packN (recAt ss) p).data.length 1 9 ((packN (recAt ss) p).data.map sD)) hsl (fun s hs => (h.s s hs).ll) (fun p Y => rfl) (fun i hi k hk => ?_)) rfl (by decide) ⟨[0, 1, 2, 3, 4, 5, 6, 7, 8], rfl, rfl, rfl, by (repeat (first | exact trivial | refine ⟨rfl, ?_⟩))⟩ ?_
  · have hvi := hall i hi
    have hSi := h.s _ (List.getElem_mem hi)
    have hrec := A_srec hvi hSi hk
    have hlen := pack_len (recAt ss) (preL ss i k)
    have hple := preL_le (k := k) hi
    have htot := h.tot
    obtain ⟨_, _, _, _, _, _, _, hnn⟩ := sr_ok hvi hSi.b
    have hnn := (hnn k hk).1
    obtain ⟨v, hv⟩ : ∃ v : Nat, ss[i].2.2.2[k] = v := ⟨ss[i].2.2.2[k].toNat, by omega⟩
    have hmvl := movN_len D (packN (recAt ss) (preL ss i k)).from'
    cases hr : recSr ss[i] ss[i].2.2.2[k].toNat with
    | none =>
      have hst := pack_none hi hk hr
      rw [hr] at hrec
      unfold recR at hrec
      dsimp only at hrec ⊢
      rw [hv, Int.toNat_natCast] at hst
      rw [hv] at hrec ⊢
      have e9 : ((packN (recAt ss) (preL ss i k)).lost ++ [(i, v)]).length = (packN (recAt ss) (preL ss i k)).lost.length + 1 := by simp
      rw [hst]
      dsimp only
      generalize packN (recAt ss) (preL ss i k) = PK at *
      obtain ⟨C, A0, B⟩ := PK
      dsimp only at *
      generalize movN D A0 = A at *
      refine YAt.ok (own1 := [.box [bS nm, iV (M : Int), iV (D : Int), rowsA (toZ ps), iV dom], .box [srcs ss], .box [.d (.v (.slice none 0 0)), .d (.v (.slice none 0 0)), .d (.v (.slice none 0 0))], .box [.osl 5 0 0 0, .osl 6 A.length 0 A.length, .osl 7 (B.length + 1) 0 (B ++ [(i, v)]).length], .box [.osl 8 C.length 0 C.length], .row 0 1 73 [], .row A.length 4 77 (A.map mvD), .row (B.length + 1) 2 79 ((B ++ [(i, v)]).map tmD), .row C.length 1 9 (C.map sD), .box [srcs ss], .lp .busy none #[35, 36] _ _ _, .box ((srD ss[i]).map .d)]) (s2 := ⟨[(10, iV i), (11, iV v), (2, .opt 0 0), (3, .opt 1 0), (8, .opt 3 0), (9, .opt 4 0)], _⟩) rfl rfl rfl rfl (fun g => ?_) rfl (fun g => ?_) rfl (by rw [e9]; rfl)
      · refine AWP.toW ?_
        (repeat' (first
  | (apply W.qd; (apply q_as; (conv => lhs; whnf)))|(apply yA)|(apply yB)|(apply yC; kernel_rfl)
  | (apply yE)))
        exact ⟨rfl, ⟨[0, 1, 2, 3, 4, 5, 6, 7, 8, 9, 10, 11], rfl, rfl, rfl, by (repeat (first | exact trivial | refine ⟨rfl, ?_⟩))⟩⟩
      · refine AWP.toO ?_
        (repeat' (first
  | (apply W.qd; (first
    | (apply (yW (hrec)); exact rfl; exact rfl; (iterate 3 kernel_rfl))|(apply q_mv; (conv => lhs; whnf))|(apply q_as; (conv => lhs; whnf))|(apply yS; (iterate 3 exact rfl))|(apply yT; (iterate 4 exact rfl))|(apply yU; (iterate 4 exact rfl))|(apply q_neq; exact rfl; exact rfl)|(apply yAb; exact rfl; exact rfl)|(apply yY; (iterate 3 exact rfl); (first | omega | (focus (simp; done))))|(apply yZ; exact rfl; exact rfl; kernel_rfl)|(apply q_litF; (iterate 5 exact rfl); kernel_rfl; kernel_rfl; exact rfl)
    | (apply yGb; (iterate 4 exact rfl); (first | (with_reducible exact rfl) | exact natI_spec rfl | assumption | exact (Int.toNat_of_nonneg (by omega)).symm); (first | omega | (focus (simp only [List.length_map]; omega)) | (focus (simp; done)) | (focus (simp; omega))))))
  | (apply W.ed; (first
    | ((apply (e_app1F (f := tmD) (i, v)); (iterate 8 exact rfl); omega))
    | (apply yCb; (iterate 3 exact rfl); kernel_rfl)))|(apply W.ln; (apply l_st_box; (iterate 6 exact rfl); (iterate 3 kernel_rfl)))|(apply yA)|(apply yB)|(apply yC; kernel_rfl)|(apply yE)|(apply yG)|(apply yI)|(apply yK)|(apply yM)
  | (apply yQ; exact rfl)))
        exact ⟨rfl, ⟨[0, 1, 2, 3, 4, 5, 6, 7, 8, 9, 10, 11], rfl, rfl, rfl, by (repeat (first | exact trivial | refine ⟨rfl, ?_⟩))⟩⟩
    | some x =>
      have hst := pack_some hi hk hr
      rw [hr] at hrec
      unfold recR at hrec
      dsimp only at hrec ⊢
      rw [hv, Int.toNat_natCast] at hst
      rw [hv] at hrec ⊢
      rw [hst]
      dsimp only
      rw [movN_snoc]
      dsimp only
      generalize packN (recAt ss) (preL ss i k) = PK at *
      obtain ⟨C, A0, B⟩ := PK
      dsimp only at *
      rw [← hlen.1]
      generalize movN D A0 = A at *
      have e8 : (A ++ [((i, v, C.length / D, C.length % D) : Mv)]).length = A.length + 1 := by simp
      have e9 : (C ++ [x]).length = C.length + 1 := by simp
      refine YAt.ok (own1 := [.box [bS nm, iV (M : Int), iV (D : Int), rowsA (toZ ps), iV dom], .box [srcs ss], .box [.d (.v (.slice none 0 0)), .d (.v (.slice none 0 0)), .d (.v (.slice none 0 0))], .box [.osl 5 0 0 0, .osl 6 (A.length + 1) 0 (A ++ [((i, v, C.length / D, C.length % D) : Mv)]).length, .osl 7 B.length 0 B.length], .box [.osl 8 (C.length + 1) 0 (C ++ [x]).length], .row 0 1 73 [], .row (A.length + 1) 4 77 ((A ++ [((i, v, C.length / D, C.length % D) : Mv)]).map mvD), .row B.length 2 79 (B.map tmD), .row (C.length + 1) 1 9 ((C ++ [x]).map sD), .box [srcs ss], .lp .busy none #[35, 36] _ _ _, .box ((srD ss[i]).map .d)]) (s2 := ⟨[(10, iV i), (11, iV v), (2, .opt 0 0), (3, .opt 1 0), (8, .opt 3 0), (9, .opt 4 0)], _⟩) rfl rfl rfl rfl (fun g => ?_) rfl (fun g => ?_) rfl (by rw [e8, e9]; rfl)
      · refine AWP.toW ?_
        (repeat' (first
  | (apply W.qd; (apply q_as; (conv => lhs; whnf)))|(apply yA)|(apply yB)|(apply yC; kernel_rfl)
  | (apply yE)))
        exact ⟨rfl, ⟨[0, 1, 2, 3, 4, 5, 6, 7, 8, 9, 10, 11], rfl, rfl, rfl, by (repeat (first | exact trivial | refine ⟨rfl, ?_⟩))⟩⟩
      · refine AWP.toO ?_
        (repeat' (first
  | (apply W.qd; (first
    | (apply (yW (hrec)); exact rfl; exact rfl; (iterate 3 kernel_rfl))|(apply q_mv; (conv => lhs; whnf))|(apply q_as; (conv => lhs; whnf))|(apply yS; (iterate 3 exact rfl))|(apply yT; (iterate 4 exact rfl))|(apply yU; (iterate 4 exact rfl))|(apply q_neq; exact rfl; exact rfl)|(apply q_quo; exact rfl; exact rfl; omega; omega; omega)|(apply q_rem; exact rfl; exact rfl; omega; omega)|(apply yAb; exact rfl; exact rfl)|(apply q_len_osl; (iterate 3 exact rfl))|(apply yY; (iterate 3 exact rfl); (first | omega | (focus (simp; done))))|(apply yZ; exact rfl; exact rfl; kernel_rfl)|(apply q_litF; (iterate 5 exact rfl); kernel_rfl; kernel_rfl; exact rfl)
    | (apply yGb; (iterate 4 exact rfl); (first | (with_reducible exact rfl) | exact natI_spec rfl | assumption | exact (Int.toNat_of_nonneg (by omega)).symm); (first | omega | (focus (simp only [List.length_map]; omega)) | (focus (simp; done)) | (focus (simp; omega))))))|(apply W.ld; (apply l_app1; (iterate 8 exact rfl); (first | omega | (focus (simp; omega)) | (focus (simp; done)))))
  | (apply W.ed; (first
    | ((apply (e_app1F (f := mvD) (i, v, C.length / D, C.length % D)); (iterate 8 exact rfl); omega))
    | (apply yCb; (iterate 3 exact rfl); kernel_rfl)))|(apply W.ln; (apply l_st_box; (iterate 6 exact rfl); (iterate 3 kernel_rfl)))|(apply yA)|(apply yB)|(apply yC; kernel_rfl)|(apply yD; exact rfl; kernel_rfl)|(apply yE)|(apply yF; kernel_rfl)|(apply yG)|(apply yH)|(apply yL)
  | (apply yR; exact rfl)))
        exact ⟨rfl, ⟨[0, 1, 2, 3, 4, 5, 6, 7, 8, 9, 10, 11], rfl, rfl, rfl, by (repeat (first | exact trivial | refine ⟨rfl, ?_⟩))⟩⟩
  dsimp only
  rw [preL_zero]
  have hun := pack_units hall h.s
  have hpl := pack_len (recAt ss) (liveTo ss ss.length)
  have htot := h.tot
  unfold repOk padS
  have hPS : packS ss = packN (recAt ss) (liveTo ss ss.length) := rfl
  rw [← hPS] at hpl ⊢
  generalize packS ss = PK at *
  clear hPS hP0
  obtain ⟨C, A0, B⟩ := PK
  dsimp only at *
  have hAl := movN_len D A0
  generalize movN D A0 = A at *
  have hz := A_zero
  have hpg := pad_ge D zero32 C
  have hps := fun l => pad_step (D := D) (by omega) zero32 l
  have hpd := fun l => pad_done (D := D) zero32 l
  have hpm := pad_mod (D := D) (by omega) zero32 C
  have hpu : ∀ x ∈ padN D zero32 C, isB x ∧ x.length = 32 := fun x hx => by
    rcases pad_mem hx with h1 | rfl
    · exact hun x h1
    · exact ⟨isB_zero 32, by simp [zero32]⟩
  have hps2 : ∀ l, padN D zero32 l = padN D zero32 C → l.length % D ≠ 0 → padN D zero32 (l ++ [zero32]) = padN D zero32 C ∧ l.length + 1 ≤ (padN D zero32 C).length := fun l h1 h2 => by
    have h3 := hps l h2
    refine ⟨h3.trans h1, ?_⟩
    have h4 := (pad_ge D zero32 (l ++ [zero32])).1
    rw [h3, h1, List.length_append, List.length_singleton] at h4
    exact h4
  have hpd2 : ∀ l, padN D zero32 l = padN D zero32 C → l.length % D = 0 → l = padN D zero32 C := fun l h1 h2 => by rw [← h1, hpd l h2]
  have hpC : padN D zero32 C = padN D zero32 C := rfl
  have hzz : zero32 = List.replicate 32 0 := rfl
  rw [← hzz] at hz
  clear hps hpd hun hzz hall
  generalize hPD : padN D zero32 C = PD at *
  clear hpC
  (repeat' (first
  | (apply W.qd; (first
    | (apply (yW (hz)); exact rfl; exact rfl; (iterate 3 kernel_rfl))
    | (apply q_as; (conv => lhs; whnf))))|(apply yA)|(apply yB)|(apply (W.regionS 21); exact rfl; kernel_rfl)|(apply yE)|(apply yG)
  | (apply yL)))
  refine AWP.loopW (α := List (List Nat)) (fun l => padN D zero32 l = PD ∧ l.length ≤ PD.length) (fun l => ⟨[(15, bS zero32), (2, .opt 0 0), (4, .opt 2 0), (8, .opt 3 0), (9, .opt 4 0)], [.box [bS nm, iV (M : Int), iV (D : Int), rowsA (toZ ps), iV dom], .box [srcs ss], .box [.d (.v (.slice none 0 0)), .d (.v (.slice none 0 0)), .d (.v (.slice none 0 0))], .box [.osl 5 0 0 0, .osl 6 A.length 0 A.length, .osl 7 B.length 0 B.length], .box [.osl 8 l.length 0 l.length], .row 0 1 73 [], .row A.length 4 77 (A.map mvD), .row B.length 2 79 (B.map tmD), .row l.length 1 9 (l.map sD)]⟩) (fun l => PD.length - l.length) C ⟨hPD, by omega⟩ ⟨[0, 1, 2, 3, 4, 5, 6, 7, 8], rfl, rfl, rfl, by (repeat (first | exact trivial | refine ⟨rfl, ?_⟩))⟩ fun l hl => ?_
  have hmz : ((l.length : Int) % (D : Int)) = ((l.length % D : Nat) : Int) := rfl
  by_cases hm0 : l.length % D ≠ 0
  · have hp2 := hps2 l hl.1 hm0
    have e9 : (l ++ [zero32]).length = l.length + 1 := by simp
    clear hps2 hpd2 hpu
    (repeat' (first
  | (apply W.qd; (first
    | (apply q_mv; (conv => lhs; whnf))|(apply yS; (iterate 3 exact rfl))|(apply yT; (iterate 4 exact rfl))|(apply q_neq; exact rfl; exact rfl)|(apply q_rem; exact rfl; exact rfl; omega; omega)|(apply q_len_osl; (iterate 3 exact rfl))
    | (apply q_litF; (iterate 5 exact rfl); kernel_rfl; kernel_rfl; exact rfl)))|(apply W.ld; (apply l_app1; (iterate 8 exact rfl); (first | omega | (focus (simp; omega)) | (focus (simp; done)))))|(apply W.ln; (apply l_st_box; (iterate 6 exact rfl); (iterate 3 kernel_rfl)))|(apply yA)|(apply yB)|(apply yC; kernel_rfl)|(apply yE)|(apply yG)|(apply yH)|(apply yL)
  | (refine W.cond _ rfl (fun hb => ?_) (fun hb => ?_) <;> ((try simp only [hb, zA, zB]) <;> (try simp only [zC, zD, zE, zF, zG, zH, zI, zJ] at hb) <;> (try (exfalso; omega))))))
    all_goals first
      | (exfalso; omega)|(refine ⟨l ++ [zero32], ⟨hp2.1, by omega⟩, by omega, ?_⟩; (try dsimp only); rw [show @AV.osl 8 (l ++ [zero32]).length 0 (l ++ [zero32]).length = .osl 8 (l.length + 1) 0 (l ++ [zero32]).length by rw [e9], show Ent.row (l ++ [zero32]).length 1 9 ((l ++ [zero32]).map sD) = .row (l.length + 1) 1 9 ((l ++ [zero32]).map sD) by rw [e9]]; exact ⟨[0, 1, 2, 3, 4, 5, 6, 7, 8], rfl, rfl, rfl, by (repeat (first | exact trivial | refine ⟨rfl, ?_⟩))⟩)
  obtain rfl : l = PD := hpd2 l hl.1 (by omega)
  clear hps2 hpd2 hl hPD
  obtain ⟨N, hN⟩ : ∃ N, l.length = N * D := ⟨l.length / D, by rw [Nat.div_mul_cancel (Nat.dvd_of_mod_eq_zero hpm)]⟩
  have hND : l.length / D = N := by rw [hN, Nat.mul_div_cancel _ (by omega)]
  rw [hND]
  (repeat' (first
  | (apply W.qd; (first
    | (apply yS; (iterate 3 exact rfl))|(apply yT; (iterate 4 exact rfl))|(apply q_neq; exact rfl; exact rfl)|(apply q_rem; exact rfl; exact rfl; omega; omega)
    | (apply q_len_osl; (iterate 3 exact rfl))))|(apply yA)|(apply yB)|(apply (W.regionS 23); exact rfl; kernel_rfl)|(apply yE)|(apply yG)|(apply yI)|(apply yK)|(apply yM)
  | (refine W.cond _ rfl (fun hb => ?_) (fun hb => ?_) <;> ((try simp only [hb, zA, zB]) <;> (try simp only [zC, zD, zE, zF, zG, zH, zI, zJ] at hb) <;> (try (exfalso; omega))))))
  all_goals try (exfalso; omega)
  have hcs := fun q => cutN_succ M D ps l q
  have hcl := fun q => cutN_len M D ps l q
  have hc0 : cutN M D ps l 0 = [] := rfl
  have hNle : N ≤ l.length := by rw [hN]; exact Nat.le_mul_of_pos_right N (by omega)
  refine AWP.loopW (α := Nat) (fun q => q ≤ N) (fun q => ⟨[(2, .opt 0 0), (4, .opt 2 0), (8, .opt 3 0), (9, .opt 4 0)], [.box [bS nm, iV (M : Int), iV (D : Int), rowsA (toZ ps), iV dom], .box [srcs ss], .box [.d (.v (.slice none 0 0)), .d (.v (.slice none 0 0)), .d (.v (.slice none 0 0))], .box [.osl 5 q 0 (cutN M D ps l q).length, .osl 6 A.length 0 A.length, .osl 7 B.length 0 B.length], .box [strs (l.drop (q * D))], .row q 1 73 ((cutN M D ps l q).map stD), .row A.length 4 77 (A.map mvD), .row B.length 2 79 (B.map tmD)]⟩) (fun q => N - q) 0 (Nat.zero_le _) ?wkC fun q hq => ?_
  case wkC =>
    refine ⟨[0, 1, 2, 3, 4, 5, 6, 7], rfl, rfl, ?_, rfl, rfl, rfl, rfl, trivial⟩
    simp [selOwn, Ent.frz, AV.frz, AV.frzL, plc, frzSl, hc0]
    exact (List.take_of_length_le (by simp)).symm
  have hqs : q < N → q * D + D ≤ l.length := fun h => by
    have := Nat.mul_le_mul_right D (show q + 1 ≤ N by omega)
    rw [Nat.add_mul, Nat.one_mul] at this; omega
  have hRl : (l.drop (q * D)).length = l.length - q * D := List.length_drop
  have hRm : ((l.drop (q * D)).map sD).length = (l.drop (q * D)).length := List.length_map _
  have hSl := hcl q
  by_cases hqN : q < N
  · have h1 := hqs hqN
    have hen := A_encode hok (us := (l.drop (q * D)).take D) (by rw [List.length_take]; omega) (fun u hu => hpu u (List.mem_of_mem_drop (List.mem_of_mem_take hu))) (n := 32) (by omega) (fit32 hok.f)
    rw [cdN_A] at hen
    have hen := hen.cdF (nm := nm) (dom := dom)
    have hrest : ((l.drop (q * D)).drop D).take ((l.drop (q * D)).length - D) = l.drop ((q + 1) * D) := by
      rw [List.take_of_length_le (by rw [List.length_drop]; omega), List.drop_drop, Nat.add_mul, Nat.one_mul]
    have hcq := hcs q
    clear hcs hcl hpu
    replace hcq := Lib.hid hcq
    replace hrest := Lib.hid hrest
    generalize encN M ps ((l.drop (q * D)).take D) = U at *
    generalize cutN M D ps l q = S at *
    generalize l.drop (q * D) = R at *
    have hen : ACalls Tryd.prog 67 [cdF nm M D (toZ ps) dom, strs ((R.drop 0).take (D - 0))] [] (.tup [strs U, iV 0]) [] := hen
    (repeat' (first
  | (apply W.qd; (first
    | (apply (yW (hen)); exact rfl; exact rfl; (iterate 3 kernel_rfl))|(apply q_mv; (conv => lhs; whnf))|(apply q_as; (conv => lhs; whnf))|(apply yS; (iterate 3 exact rfl))|(apply yT; (iterate 4 exact rfl))|(apply yU; (iterate 4 exact rfl))|(apply q_gtr; exact rfl; exact rfl)|(apply q_neq; exact rfl; exact rfl)|(apply yAb; exact rfl; exact rfl)|(apply yV; exact rfl; exact rfl)|(apply q_litF; (iterate 5 exact rfl); kernel_rfl; kernel_rfl; exact rfl)
    | (apply q_slc_map; exact rfl; exact rfl; (first | exact ⟨_, _, rfl, rfl⟩ | exact ⟨_, _, rfl, natI_spec rfl⟩ | exact ⟨_, _, rfl, (Int.toNat_of_nonneg (by omega)).symm⟩ | exact rfl); (first | exact ⟨_, _, rfl, rfl⟩ | exact ⟨_, _, rfl, natI_spec rfl⟩ | exact ⟨_, _, rfl, (Int.toNat_of_nonneg (by omega)).symm⟩ | exact rfl); (first | omega | (focus (simp only [List.length_map]; omega)) | (focus (simp; done)) | (focus (simp; omega))); (first | omega | (focus (simp only [List.length_map]; omega)) | (focus (simp; done)) | (focus (simp; omega))); exact Or.inl rfl)))|(apply W.ld; (apply l_app1; (iterate 8 exact rfl); (first | omega | (focus (simp; omega)) | (focus (simp; done)))))|(apply W.ln; (apply l_st_box; (iterate 6 exact rfl); (iterate 3 kernel_rfl)))|(apply yA)|(apply yB)|(apply yC; kernel_rfl)|(apply yD; exact rfl; kernel_rfl)|(apply yE)|(apply yF; kernel_rfl)|(apply yG)|(apply yH)|(apply yL)|(apply yR; exact rfl)
  | (refine W.cond _ rfl (fun hb => ?_) (fun hb => ?_) <;> ((try simp only [hb, zA, zB]) <;> (try simp only [zC, zD, zE, zF, zG, zH, zI, zJ] at hb) <;> (try (exfalso; omega))))))
    all_goals try (exfalso; omega)
    refine ⟨q + 1, by omega, by omega, ?_⟩
    rw [hcq.out, ← hrest.out]
    exact ⟨[0, 1, 2, 3, 4, 5, 6, 7], rfl, rfl, rfl, by (repeat (first | exact trivial | refine ⟨rfl, ?_⟩))⟩
  · obtain rfl : q = N := by omega
    clear hcs hcl hpu
    generalize cutN M D ps l q = S at *
    generalize l.drop (q * D) = R at *
    (repeat' (first
  | (apply W.qd; (first
    | (apply q_as; (conv => lhs; whnf))|(apply yT; (iterate 4 exact rfl))|(apply yU; (iterate 4 exact rfl))|(apply q_gtr; exact rfl; exact rfl)
    | (apply yV; exact rfl; exact rfl)))|(apply W.ln; (apply l_st_box; (iterate 6 exact rfl); (iterate 3 kernel_rfl)))|(apply yA)|(apply yB)|(apply yC; kernel_rfl)|(apply yE)|(apply yI)|(apply yJ)|(apply yK)|(apply yM)
  | (refine W.cond _ rfl (fun hb => ?_) (fun hb => ?_) <;> ((try simp only [hb, zA, zB]) <;> (try simp only [zC, zD, zE, zF, zG, zH, zI, zJ] at hb) <;> (try (exfalso; omega))))))
    all_goals try (exfalso; omega)
    refine ⟨.inl rfl, [], [.agg [.osl 5 q 0 S.length, .osl 6 A.length 0 A.length, .osl 7 B.length 0 B.length], iV 0], rfl, ⟨⟨2, _, true, rfl, rfl, rfl, rfl⟩, rfl, trivial⟩, AVle.of_eq ?_, rfl⟩
    show AV.tup [AV.agg [AV.frz _ [] (.osl 5 q 0 S.length), AV.frz _ [] (.osl 6 A.length 0 A.length), AV.frz _ [] (.osl 7 B.length 0 B.length)], iV 0] = _
    rw [frz_rowJ (i := 5) (ver := q) (n := S.length) (l := S.map stD) rfl rfl (by simp), frz_rowJ (i := 6) (ver := A.length) (n := A.length) (l := A.map mvD) rfl rfl (by simp), frz_rowJ (i := 7) (ver := B.length) (n := B.length) (l := B.map tmD) rfl rfl (by simp)]
end Go.Proofs.YtaclmbbiegklcaaDoor
end
section
namespace Go.Proofs.YtaclmbbiegklcaaDoor
open Go.RowKit
set_option maxHeartbeats 8000000
set_option maxRecDepth 100000
def u32 (b : Nat) : List Nat := List.replicate 32 b
def smS (s : Sr) : Bool := few30 s.1 && (decide (s.2.1.length ≤ 10) && (decide (s.2.2.1.length ≤ 10) && decide (s.2.2.2.length ≤ 10)))
def small39 (tc : Cd) (ss : List Sr) : Bool := (few30 tc && ss.all smS) && decide (ss.length ≤ 5)
structure SrB (s : Sr) : Prop where
  c : CodeIn s.1.2.2.2.1
  b : ∀ x ∈ s.2.1, isB x ∧ x.length < 9223372036854775808
def wtSr (s : Sr) : Nat := s.2.1.length + s.2.2.1.length + s.2.2.2.length + 1
theorem sum_one {α : Type} (l : List α) : (l.map fun _ => 1).sum = l.length := by induction l <;> simp_all [Nat.add_comm]
theorem isB_u32 {b : Nat} (h : b < 256) : isB (u32 b) := fun x hx => by rw [List.eq_of_mem_replicate hx]; exact h
theorem take_all_succ {α : Type} {l : List α} {p : α → Bool} {k : Nat} (h : k < l.length) : (l.take (k + 1)).all p = ((l.take k).all p && p l[k]) := by
  rw [List.take_succ_eq_append_getElem h, List.all_append]; simp
attribute [local irreducible] Quiet Eff OpOk AWPG ACont ABlock ACalls AGoto
theorem A_few39 {c : Cd} : ACalls Tryd.prog 61 [cdA1 c] [] (bV (few30 c)) [] := by
  obtain ⟨nm, M, D, par, dom⟩ := c
  show ACalls Tryd.prog 61 [cdF nm M D par dom] [] (bV (few30 (nm, M, D, par, dom))) []
  refine acalls_of_body Tryd.func61 rfl (Nat.le_of_ble_eq_true rfl) ?_
  have hmp : (par.map rD).length = par.length := List.length_map _
  unfold few30
  dsimp only
  by_cases h1 : 0 ≤ D
  · by_cases h2 : D ≤ 5
    · by_cases h3 : par.length ≤ 5
      · rw [decide_eq_true h1, decide_eq_true h2, decide_eq_true h3]
        (repeat' (first
  | (apply yFb; exact rfl; exact rfl)
  | (apply W.qd; (first
    | (apply q_mv; (conv => lhs; whnf))|(apply q_as; (conv => lhs; whnf))|(apply yS; (iterate 3 exact rfl))|(apply yT; (iterate 4 exact rfl))|(apply q_leq; exact rfl; exact rfl)|(apply q_geq; exact rfl; exact rfl)|(apply q_add; exact rfl; exact rfl; omega)|(apply yV; exact rfl; exact rfl)
    | (apply (yEb (u := .d _)); exact rfl; exact rfl)))|(apply W.ed; (apply yBb; (iterate 3 exact rfl); kernel_rfl; kernel_rfl))|(apply yA)|(apply yB)|(apply yC; kernel_rfl)|(apply yE)|(apply yJ)
  | (refine W.gT _ _ rfl rfl (fun hb => ?_) (fun hb => ?_) <;> ((try simp only [hb, zA, zB]) <;> (try simp only [zC, zD, zE, zF, zG, zH, zI, zJ] at hb) <;> (try (exfalso; omega))))))
        all_goals refine Ends.b rfl ?_
        all_goals simp [hmp]
      · rw [decide_eq_true h1, decide_eq_true h2, decide_eq_false h3]
        (repeat' (first
  | (apply yFb; exact rfl; exact rfl)
  | (apply W.qd; (first
    | (apply q_mv; (conv => lhs; whnf))|(apply q_as; (conv => lhs; whnf))|(apply yS; (iterate 3 exact rfl))|(apply yT; (iterate 4 exact rfl))|(apply q_leq; exact rfl; exact rfl)|(apply q_geq; exact rfl; exact rfl)|(apply yV; exact rfl; exact rfl)|(apply (yEb (u := .d _)); exact rfl; exact rfl)
    | (apply (yDb (u := .d _)); exact rfl; exact rfl)))|(apply W.ed; (apply yBb; (iterate 3 exact rfl); kernel_rfl; kernel_rfl))|(refine W.gOff _ _ rfl rfl (by intro h; cases h) ?_)|(apply yA)|(apply yB)|(apply yC; kernel_rfl)|(apply yE)|(apply yJ)
  | (refine W.gT _ _ rfl rfl (fun hb => ?_) (fun hb => ?_) <;> ((try simp only [hb, zA, zB]) <;> (try simp only [zC, zD, zE, zF, zG, zH, zI, zJ] at hb) <;> (try (exfalso; omega))))))
        all_goals exact Ends.b rfl rfl
    · rw [decide_eq_true h1, decide_eq_false h2]
      (repeat' (first
  | (apply yFb; exact rfl; exact rfl)
  | (apply W.qd; (first
    | (apply q_mv; (conv => lhs; whnf))|(apply q_as; (conv => lhs; whnf))|(apply yS; (iterate 3 exact rfl))|(apply yT; (iterate 4 exact rfl))|(apply q_leq; exact rfl; exact rfl)|(apply q_geq; exact rfl; exact rfl)|(apply (yEb (u := .d _)); exact rfl; exact rfl)
    | (apply (yDb (u := .d _)); exact rfl; exact rfl)))|(apply W.ed; (apply yBb; (iterate 3 exact rfl); kernel_rfl; kernel_rfl))|(refine W.gOff _ _ rfl rfl (by intro h; cases h) ?_)|(apply yA)|(apply yB)|(apply yC; kernel_rfl)|(apply yE)|(apply yJ)
  | (refine W.gT _ _ rfl rfl (fun hb => ?_) (fun hb => ?_) <;> ((try simp only [hb, zA, zB]) <;> (try simp only [zC, zD, zE, zF, zG, zH, zI, zJ] at hb) <;> (try (exfalso; omega))))))
      all_goals exact Ends.b rfl rfl
  · rw [decide_eq_false h1]
    (repeat' (first
  | (apply W.qd; (first
    | (apply q_mv; (conv => lhs; whnf))|(apply q_as; (conv => lhs; whnf))|(apply yS; (iterate 3 exact rfl))|(apply yT; (iterate 4 exact rfl))|(apply q_geq; exact rfl; exact rfl)
    | (apply (yDb (u := .d _)); exact rfl; exact rfl)))|(apply W.ed; (apply yBb; (iterate 3 exact rfl); kernel_rfl; kernel_rfl))|(refine W.gOff _ _ rfl rfl (by intro h; cases h) ?_)|(apply yA)|(apply yB)|(apply yC; kernel_rfl)|(apply yE)|(apply yJ)
  | (refine W.gT _ _ rfl rfl (fun hb => ?_) (fun hb => ?_) <;> ((try simp only [hb, zA, zB]) <;> (try simp only [zC, zD, zE, zF, zG, zH, zI, zJ] at hb) <;> (try (exfalso; omega))))))
    all_goals exact Ends.b rfl rfl
theorem A_small39 {tc : Cd} {ss : List Sr} (hsl : ss.length ≤ 9223372036854775807) : ACalls Tryd.prog 32 [cdA1 tc, srcs ss] [] (bV (small39 tc ss)) [] := by
  refine acalls_of_body Tryd.func32 rfl (Nat.le_of_ble_eq_true rfl) ?_
  have hms : (ss.map srD).length = ss.length := List.length_map _
  have hf := A_few39 (c := tc)
  unfold small39
  generalize few30 tc = ft at *
  (repeat' (first
  | (apply W.qd; (first
    | (apply (yW (hf)); exact rfl; exact rfl; (iterate 3 kernel_rfl))|(apply q_as; (conv => lhs; whnf))
    | (apply yU; (iterate 4 exact rfl))))|(apply W.ed; (apply yBb; (iterate 3 exact rfl); kernel_rfl; kernel_rfl))|(apply yA)|(apply yB)|(apply (W.regionS 3); exact rfl; kernel_rfl)|(apply yE)
  | (apply yG)))
  refine AWP.loopW (α := Nat) (fun k => k ≤ ss.length) (fun k => ⟨[(6, iV k), (5, bV (ft && (ss.take k).all smS)), (1, srcs ss)], []⟩) (fun k => ss.length - k) 0 (Nat.zero_le _) ?wk0 fun k hk => ?_
  case wk0 => exact ⟨[], rfl, rfl, rfl, rfl, congrArg (fun b : Bool => bV b) (by simp), rfl, trivial⟩
  by_cases hkl : k < ss.length
  · have hf2 := A_few39 (c := ss[k].1)
    have h1 : (ss[k].2.1.map sD).length = ss[k].2.1.length := List.length_map _
    have h2 : (ss[k].2.2.1.map tD).length = ss[k].2.2.1.length := List.length_map _
    have h3 : (ss[k].2.2.2.map iD).length = ss[k].2.2.2.length := List.length_map _
    have hst : (ft && (ss.take (k + 1)).all smS) = ((ft && (ss.take k).all smS) && (few30 ss[k].1 && (decide (ss[k].2.1.length ≤ 10) && (decide (ss[k].2.2.1.length ≤ 10) && decide (ss[k].2.2.2.length ≤ 10))))) := by
      rw [take_all_succ (p := smS) hkl, Bool.and_assoc]; rfl
    generalize few30 ss[k].1 = fk at *
    generalize (ft && (ss.take k).all smS) = a at *
    replace hst := Lib.hid hst
    skip
    cases a with
    | false =>
      (repeat' (first
  | (apply W.qd; (first
    | (apply (yW (hf2)); exact rfl; exact rfl; (iterate 3 kernel_rfl))
    | ((apply q_ld_mapp; (iterate 3 exact rfl); omega))|(apply q_mv; (conv => lhs; whnf))|(apply q_as; (conv => lhs; whnf))|(apply q_lss; exact rfl; exact rfl)|(apply q_add; exact rfl; exact rfl; omega)|(apply yV; exact rfl; exact rfl)|(apply q_fld_fptF; (iterate 3 exact rfl))|(apply yGb; (iterate 4 exact rfl); (first | (with_reducible exact rfl) | exact natI_spec rfl | assumption | exact (Int.toNat_of_nonneg (by omega)).symm); (first | omega | (focus (simp only [List.length_map]; omega)) | (focus (simp; done)) | (focus (simp; omega))))
    | (apply (yDb (u := .d _)); exact rfl; exact rfl)))|(refine W.gOff _ _ rfl rfl (by intro h; cases h) ?_)|(apply yA)|(apply yB)|(apply yC; kernel_rfl)|(apply yE)|(apply yG)|(apply yH)|(apply yL)
  | (refine W.cond _ rfl (fun hb => ?_) (fun hb => ?_) <;> ((try simp only [hb, zA, zB]) <;> (try simp only [zC, zD, zE, zF, zG, zH, zI, zJ] at hb) <;> (try (exfalso; omega))))))
      all_goals (refine ⟨k + 1, by omega, by omega, [], rfl, rfl, rfl, iV_eq (by omega), congrArg (fun b : Bool => bV b) ?_, rfl, trivial⟩; rw [hst.out]; first | (simp [*]; done) | (rw [Bool.eq_iff_iff]; simp [*]; omega) | (rw [Bool.eq_iff_iff]; simp [*] <;> omega))
    | true =>
      cases fk with
      | false =>
        (repeat' (first
  | (apply yFb; exact rfl; exact rfl)
  | (apply W.qd; (first
    | (apply (yW (hf2)); exact rfl; exact rfl; (iterate 3 kernel_rfl))
    | ((apply q_ld_mapp; (iterate 3 exact rfl); omega))|(apply q_mv; (conv => lhs; whnf))|(apply q_as; (conv => lhs; whnf))|(apply q_lss; exact rfl; exact rfl)|(apply q_add; exact rfl; exact rfl; omega)|(apply yV; exact rfl; exact rfl)|(apply q_fld_fptF; (iterate 3 exact rfl))|(apply yGb; (iterate 4 exact rfl); (first | (with_reducible exact rfl) | exact natI_spec rfl | assumption | exact (Int.toNat_of_nonneg (by omega)).symm); (first | omega | (focus (simp only [List.length_map]; omega)) | (focus (simp; done)) | (focus (simp; omega))))|(apply (yEb (u := .d _)); exact rfl; exact rfl)
    | (apply (yDb (u := .d _)); exact rfl; exact rfl)))|(refine W.gOff _ _ rfl rfl (by intro h; cases h) ?_)|(apply yA)|(apply yB)|(apply yC; kernel_rfl)|(apply yE)|(apply yG)|(apply yH)|(apply yL)
  | (refine W.cond _ rfl (fun hb => ?_) (fun hb => ?_) <;> ((try simp only [hb, zA, zB]) <;> (try simp only [zC, zD, zE, zF, zG, zH, zI, zJ] at hb) <;> (try (exfalso; omega))))))
        all_goals (refine ⟨k + 1, by omega, by omega, [], rfl, rfl, rfl, iV_eq (by omega), congrArg (fun b : Bool => bV b) ?_, rfl, trivial⟩; rw [hst.out]; first | (simp [*]; done) | (rw [Bool.eq_iff_iff]; simp [*]; omega) | (rw [Bool.eq_iff_iff]; simp [*] <;> omega))
      | true =>
        (repeat' (first
  | (apply yFb; exact rfl; exact rfl)
  | (apply W.qd; (first
    | (apply (yW (hf2)); exact rfl; exact rfl; (iterate 3 kernel_rfl))
    | ((apply q_ld_mapp; (iterate 3 exact rfl); omega))|(apply q_mv; (conv => lhs; whnf))|(apply q_as; (conv => lhs; whnf))|(apply q_lss; exact rfl; exact rfl)|(apply q_leq; exact rfl; exact rfl)|(apply q_add; exact rfl; exact rfl; omega)|(apply yV; exact rfl; exact rfl)|(apply yX; (iterate 3 exact rfl); (first | omega | (focus (simp; done))))|(apply q_fld_fptF; (iterate 3 exact rfl))|(apply yGb; (iterate 4 exact rfl); (first | (with_reducible exact rfl) | exact natI_spec rfl | assumption | exact (Int.toNat_of_nonneg (by omega)).symm); (first | omega | (focus (simp only [List.length_map]; omega)) | (focus (simp; done)) | (focus (simp; omega))))|(apply (yEb (u := .d _)); exact rfl; exact rfl)
    | (apply (yDb (u := .d _)); exact rfl; exact rfl)))|(refine W.gOff _ _ rfl rfl (by intro h; cases h) ?_)|(apply yA)|(apply yB)|(apply yC; kernel_rfl)|(apply yE)|(apply yG)|(apply yH)|(apply yL)|(refine W.gT _ _ rfl rfl (fun hb => ?_) (fun hb => ?_) <;> ((try simp only [hb, zA, zB]) <;> (try simp only [zC, zD, zE, zF, zG, zH, zI, zJ] at hb) <;> (try (exfalso; omega))))
  | (refine W.cond _ rfl (fun hb => ?_) (fun hb => ?_) <;> ((try simp only [hb, zA, zB]) <;> (try simp only [zC, zD, zE, zF, zG, zH, zI, zJ] at hb) <;> (try (exfalso; omega))))))
        all_goals (refine ⟨k + 1, by omega, by omega, [], rfl, rfl, rfl, iV_eq (by omega), congrArg (fun b : Bool => bV b) ?_, rfl, trivial⟩; rw [hst.out]; first | (simp [*]; done) | (rw [Bool.eq_iff_iff]; simp [*]; omega) | (rw [Bool.eq_iff_iff]; simp [*] <;> omega))
  · obtain rfl : k = ss.length := by omega
    rw [List.take_length]
    generalize (ft && ss.all smS) = a at *
    cases a
    all_goals skip
    (repeat' (first
  | (apply yFb; exact rfl; exact rfl)
  | (apply W.qd; (first
    | (apply q_mv; (conv => lhs; whnf))|(apply q_as; (conv => lhs; whnf))|(apply q_lss; exact rfl; exact rfl)|(apply q_leq; exact rfl; exact rfl)|(apply yV; exact rfl; exact rfl)|(apply (yEb (u := .d _)); exact rfl; exact rfl)
    | (apply (yDb (u := .d _)); exact rfl; exact rfl)))|(refine W.gOff _ _ rfl rfl (by intro h; cases h) ?_)|(apply yA)|(apply yB)|(apply yC; kernel_rfl)|(apply yE)|(apply yI)|(apply yJ)|(apply yK)|(apply yM)
  | (refine W.cond _ rfl (fun hb => ?_) (fun hb => ?_) <;> ((try simp only [hb, zA, zB]) <;> (try simp only [zC, zD, zE, zF, zG, zH, zI, zJ] at hb) <;> (try (exfalso; omega))))))
    all_goals (refine Ends.b rfl ?_; simp [*] <;> omega)
theorem A_unit39 {b : Nat} (hb : b < 256) : ACalls Tryd.prog 69 [.d (.v (.int .u8 b))] [] (bS (u32 b)) [] := by
  refine acalls_of_body Tryd.func69 rfl (Nat.le_of_ble_eq_true rfl) ?_
  (repeat' (first
  | (apply W.qd; (apply q_as; (conv => lhs; whnf)))|(apply yA)|(apply yB)|(apply (W.regionS 2); exact rfl; kernel_rfl)
  | (apply yE)))
  refine AWP.nilRow 3 1 5 rfl (by omega) ?_
  (repeat' (first
  | (apply W.qd; (apply q_as; (conv => lhs; whnf)))|(apply yB)|(apply (W.regionS 3); exact rfl; kernel_rfl)|(apply yE)
  | (apply yG)))
  refine AWP.loopW (α := Nat) (fun i => i ≤ 32) (fun i => ⟨[(4, iV i), (3, .osl 0 i 0 (List.replicate i b).length), (0, .d (.v (.int .u8 b)))], [.row i 1 5 ((List.replicate i b).map nD)]⟩) (fun i => 32 - i) 0 (Nat.zero_le _) ⟨[0], rfl, rfl, rfl, by (repeat (first | exact trivial | refine ⟨rfl, ?_⟩))⟩ fun i hi => ?_
  by_cases hil : i < 32
  · have hrp : List.replicate (i + 1) b = List.replicate i b ++ [b] := List.replicate_succ'
    have hln : (List.replicate i b).length = i := List.length_replicate
    replace hrp := Lib.hid hrp
    generalize List.replicate i b = A at *
    (repeat' (first
  | (apply W.qd; (first
    | (apply q_mv; (conv => lhs; whnf))|(apply q_as; (conv => lhs; whnf))|(apply q_lss; exact rfl; exact rfl)|(apply q_add; exact rfl; exact rfl; omega)
    | (apply q_litF; (iterate 5 exact rfl); kernel_rfl; kernel_rfl; exact rfl)))|(apply W.ld; (apply l_app1; (iterate 8 exact rfl); (first | omega | (focus (simp; omega)) | (focus (simp; done)))))|(apply yA)|(apply yB)|(apply yC; kernel_rfl)|(apply yE)|(apply yG)|(apply yH)|(apply yL)
  | (refine W.cond _ rfl (fun hb => ?_) (fun hb => ?_) <;> ((try simp only [hb, zA, zB]) <;> (try simp only [zC, zD, zE, zF, zG, zH, zI, zJ] at hb) <;> (try (exfalso; omega))))))
    all_goals try (exfalso; omega)
    refine ⟨i + 1, by omega, by omega, ?_⟩
    rw [hrp.out]
    exact ⟨[0], rfl, rfl, rfl, iV_eq (by omega), rfl, rfl, trivial⟩
  · obtain rfl : i = 32 := by omega
    have hu := isB_u32 hb
    rw [show List.replicate 32 b = u32 b from rfl]
    have hul : (u32 b).length = 32 := List.length_replicate
    generalize u32 b = U at *
    (repeat' (first
  | (apply W.qd; (first
    | (apply q_mv; (conv => lhs; whnf))|(apply q_as; (conv => lhs; whnf))|(apply q_lss; exact rfl; exact rfl)
    | (apply q_str_osl; (iterate 4 exact rfl); (first | rfl | (focus (simp; done))); assumption)))|(apply yA)|(apply yB)|(apply yC; kernel_rfl)|(apply yE)|(apply yI)|(apply yJ)|(apply yK)|(apply yM)
  | (apply yR; exact rfl)))
    exact Ends.d rfl rfl
def rngI (n : Nat) : List Int := (List.range n).map fun i : Nat => (i : Int)
theorem rngI_succ (n : Nat) : rngI (n + 1) = rngI n ++ [(n : Int)] := by unfold rngI; rw [List.range_succ, List.map_append]; rfl
def fullS (c : Cd) (U : List (List Nat)) (D : Nat) : Sr := (c, U, List.replicate U.length true, rngI D)
theorem A_fullOk {M D : Nat} {ps us : List (List Nat)} {nm : List Nat} {dom : Int} (hok : CodeOk M D ps) (hl : us.length = D) (hu : ∀ u ∈ us, isB u ∧ u.length = 32) : ACalls Tryd.prog 68 [cdA1 (nm, M, D, toZ ps, dom), strs us] [] (srA1 (fullS (nm, M, D, toZ ps, dom) (encN M ps us) D)) [] := by
  have hD1 := hok.d
  have hw1 := hok.w
  have hen := A_encode hok hl hu (by omega) (fit32 hok.f)
  rw [cdN_A] at hen
  have hen := hen.cdF (nm := nm) (dom := dom)
  have hUl : (encN M ps us).length = D + ps.length := by unfold encN; simp [hl]
  unfold fullS
  generalize encN M ps us = U at *
  have hmU : (U.map sD).length = U.length := List.length_map _
  refine acalls_of_body Tryd.func68 rfl (Nat.le_of_ble_eq_true rfl) ?_
  show AWP _ _ _ _ _ ⟨env0 0 [cdF nm M D (toZ ps) dom, strs us], []⟩
  (repeat' (first
  | (apply W.qd; (first
    | (apply (yW (hen)); exact rfl; exact rfl; (iterate 3 kernel_rfl))|(apply q_mv; (conv => lhs; whnf))|(apply q_as; (conv => lhs; whnf))|(apply yU; (iterate 4 exact rfl))|(apply q_neq; exact rfl; exact rfl)|(apply yAb; exact rfl; exact rfl)
    | (apply yZ; exact rfl; exact rfl; kernel_rfl)))
  | (apply W.ed; (first
    | (apply yBb; (iterate 3 exact rfl); kernel_rfl; kernel_rfl)
    | (apply yCb; (iterate 3 exact rfl); kernel_rfl)))|(apply W.ln; (apply l_st_box; (iterate 6 exact rfl); (iterate 3 kernel_rfl)))|(apply yA)|(apply yB)|(apply (W.regionS 5); exact rfl; kernel_rfl)|(apply yE)|(apply yH)
  | (apply yR; exact rfl)))
  refine AWP.nilBox (l' := [bS nm, iV (M : Int), iV (D : Int), rowsA (toZ ps), iV dom, strs U, .osl 3 0 0 0, .d (.v (.slice none 0 0))]) 2 6 1 4 rfl rfl (by omega) rfl rfl rfl rfl ?_
  refine AWP.nilBox (l' := [bS nm, iV (M : Int), iV (D : Int), rowsA (toZ ps), iV dom, strs U, .osl 3 0 0 0, .osl 4 0 0 0]) 2 7 1 3 rfl rfl (by omega) rfl rfl rfl rfl ?_
  (repeat' (first
  | (apply W.qd; (apply q_as; (conv => lhs; whnf)))|(apply yB)|(apply (W.regionS 6); exact rfl; kernel_rfl)|(apply yE)
  | (apply yG)))
  refine AWP.loopW (α := Nat) (fun i => i ≤ U.length) (fun i => ⟨[(8, iV i), (5, strs U), (2, .opt 0 0), (4, .opt 1 0), (7, .opt 2 0)], [.box [bS nm, iV (M : Int), iV (D : Int), rowsA (toZ ps), iV dom], .box [.d (.v (.string ⟨#[]⟩)), iV 0, iV 0, .d (.v (.slice none 0 0)), iV 0, .d (.v (.slice none 0 0)), .d (.v (.slice none 0 0)), .d (.v (.slice none 0 0))], .box [bS nm, iV (M : Int), iV (D : Int), rowsA (toZ ps), iV dom, strs U, .osl 3 i 0 (List.replicate i true).length, .osl 4 (min i D) 0 (rngI (min i D)).length], .row i 1 4 ((List.replicate i true).map tD), .row (min i D) 1 3 ((rngI (min i D)).map iD)]⟩) (fun i => U.length - i) 0 (Nat.zero_le _) ?wk0 fun i hi => ?_
  case wk0 =>
    rw [Nat.zero_min]
    exact ⟨[0, 1, 2, 3, 4], rfl, rfl, rfl, by (repeat (first | exact trivial | refine ⟨rfl, ?_⟩))⟩
  by_cases hil : i < U.length
  · have hrp : List.replicate (i + 1) true = List.replicate i true ++ [true] := List.replicate_succ'
    have hln : (List.replicate i true).length = i := List.length_replicate
    replace hrp := Lib.hid hrp
    generalize List.replicate i true = A at *
    by_cases hiD : i < D
    · have hr := rngI_succ i
      rw [Nat.min_eq_left (by omega)]
      have hrl : (rngI i).length = i := by unfold rngI; simp
      replace hr := Lib.hid hr
      generalize rngI i = Z at *
      (repeat' (first
  | (apply W.qd; (first
    | (apply q_mv; (conv => lhs; whnf))|(apply q_as; (conv => lhs; whnf))|(apply yS; (iterate 3 exact rfl))|(apply yT; (iterate 4 exact rfl))|(apply q_lss; exact rfl; exact rfl)|(apply q_add; exact rfl; exact rfl; omega)|(apply yV; exact rfl; exact rfl)
    | (apply q_litF; (iterate 5 exact rfl); kernel_rfl; kernel_rfl; exact rfl)))|(apply W.ld; (apply l_app1; (iterate 8 exact rfl); (first | omega | (focus (simp; omega)) | (focus (simp; done)))))|(apply W.ln; (apply l_st_box; (iterate 6 exact rfl); (iterate 3 kernel_rfl)))|(apply yA)|(apply yB)|(apply yC; kernel_rfl)|(apply yE)|(apply yG)|(apply yH)|(apply yL)
  | (refine W.cond _ rfl (fun hb => ?_) (fun hb => ?_) <;> ((try simp only [hb, zA, zB]) <;> (try simp only [zC, zD, zE, zF, zG, zH, zI, zJ] at hb) <;> (try (exfalso; omega))))))
      all_goals try (exfalso; omega)
      refine ⟨i + 1, by omega, by omega, ?_⟩
      rw [hrp.out, Nat.min_eq_left (show i + 1 ≤ D by omega), hr.out]
      exact ⟨[0, 1, 2, 3, 4], rfl, rfl, rfl, iV_eq (by omega), rfl, rfl, rfl, rfl, trivial⟩
    · rw [Nat.min_eq_right (show D ≤ i by omega)]
      (repeat' (first
  | (apply W.qd; (first
    | (apply q_mv; (conv => lhs; whnf))|(apply q_as; (conv => lhs; whnf))|(apply yS; (iterate 3 exact rfl))|(apply yT; (iterate 4 exact rfl))|(apply q_lss; exact rfl; exact rfl)|(apply q_add; exact rfl; exact rfl; omega)|(apply yV; exact rfl; exact rfl)
    | (apply q_litF; (iterate 5 exact rfl); kernel_rfl; kernel_rfl; exact rfl)))|(apply W.ld; (apply l_app1; (iterate 8 exact rfl); (first | omega | (focus (simp; omega)) | (focus (simp; done)))))|(apply W.ln; (apply l_st_box; (iterate 6 exact rfl); (iterate 3 kernel_rfl)))|(apply yA)|(apply yB)|(apply yC; kernel_rfl)|(apply yE)|(apply yG)|(apply yH)|(apply yL)
  | (refine W.cond _ rfl (fun hb => ?_) (fun hb => ?_) <;> ((try simp only [hb, zA, zB]) <;> (try simp only [zC, zD, zE, zF, zG, zH, zI, zJ] at hb) <;> (try (exfalso; omega))))))
      all_goals try (exfalso; omega)
      refine ⟨i + 1, by omega, by omega, ?_⟩
      rw [hrp.out, Nat.min_eq_right (show D ≤ i + 1 by omega)]
      exact ⟨[0, 1, 2, 3, 4], rfl, rfl, rfl, iV_eq (by omega), rfl, rfl, rfl, rfl, trivial⟩
  · obtain rfl : i = U.length := by omega
    rw [Nat.min_eq_right (by omega)]
    generalize List.replicate U.length true = A at *
    generalize rngI D = Z at *
    (repeat' (first
  | (apply W.qd; (first
    | (apply q_mv; (conv => lhs; whnf))|(apply yU; (iterate 4 exact rfl))|(apply q_lss; exact rfl; exact rfl)
    | (apply yV; exact rfl; exact rfl)))|(apply W.ln; (apply l_st_box; (iterate 6 exact rfl); (iterate 3 kernel_rfl)))|(apply yA)|(apply yB)|(apply yC; kernel_rfl)|(apply yE)|(apply yI)|(apply yJ)|(apply yK)|(apply yM)
  | (refine W.cond _ rfl (fun hb => ?_) (fun hb => ?_) <;> ((try simp only [hb, zA, zB]) <;> (try simp only [zC, zD, zE, zF, zG, zH, zI, zJ] at hb) <;> (try (exfalso; omega))))))
    refine ⟨.inl rfl, [], [.agg [bS nm, iV (M : Int), iV (D : Int), rowsA (toZ ps), iV dom, strs U, .osl 3 U.length 0 A.length, .osl 4 D 0 Z.length]], rfl, ⟨⟨1, _, true, rfl, rfl, rfl, rfl⟩, trivial⟩, AVle.of_eq ?_, rfl⟩
    show AV.agg [bS nm, iV (M : Int), iV (D : Int), rowsA (toZ ps), iV dom, strs U, AV.frz _ [] (.osl 3 U.length 0 A.length), AV.frz _ [] (.osl 4 D 0 Z.length)] = _
    rw [frz_rowJ (i := 3) (ver := U.length) (n := A.length) (l := A.map tD) rfl rfl (by simp), frz_rowJ (i := 4) (ver := D) (n := Z.length) (l := Z.map iD) rfl rfl (by simp)]
    rfl
end Go.Proofs.YtaclmbbiegklcaaDoor
end
section
namespace Go.Proofs.YtaclmbbiegklcaaDoor
open Go.RowKit
set_option maxHeartbeats 8000000
set_option maxRecDepth 100000
def par39 : Cd := ([112, 97, 114], 8, 2, [[1, 1]], 3)
def tri39 : Cd := ([116, 114, 105], 8, 3, [[1, 1, 1]], 4)
def sa39 : Sr := (par39, [u32 1, u32 2, u32 3], [true, true, true], [0, 1])
def sb39 : Sr := (par39, [u32 3, u32 4, u32 7], [true, true, true], [0, 1])
def sc39 : Sr := (par39, [u32 1, u32 2, u32 3], [false, false, true], [0, 1])
def sd39 : Sr := (par39, [u32 1, u32 2, u32 3], [true, true, true], [2])
theorem s39_1 : repN tri39 [sa39, sb39] = ⟨[[u32 1, u32 2, u32 3, u32 0], [u32 4, u32 0, u32 0, u32 4]], [(0, 0, 0, 0), (0, 1, 0, 1), (1, 0, 0, 2), (1, 1, 1, 0)], [], 0⟩ := by kernel_rfl
theorem s39_2 : repN tri39 [sc39, sb39] = ⟨[[u32 3, u32 4, u32 0, u32 7]], [(1, 0, 0, 0), (1, 1, 0, 1)], [(0, 0), (0, 1)], 0⟩ := by kernel_rfl
theorem s39_3 : repN tri39 [sd39] = ⟨[], [], [], 1⟩ := by kernel_rfl
theorem s39_4 : repN tri39 [] = ⟨[], [], [], 0⟩ := by kernel_rfl
theorem s39_5 : encN 8 [[1, 1]] [u32 1, u32 2] = [u32 1, u32 2, u32 3] := by kernel_rfl
theorem s39_6 : encN 8 [[1, 1]] [u32 3, u32 4] = [u32 3, u32 4, u32 7] := by kernel_rfl
theorem ok_par : CodeOk 8 2 [[1, 1]] := by
  obtain ⟨m, d, ps, e1, e2, e3, h⟩ := ok_valid (M := 8) (D := 2) (par := [[1, 1]]) (by kernel_rfl)
  obtain rfl : m = 8 := by omega
  obtain rfl : d = 2 := by omega
  have : ps = [[1, 1]] := by
    have h2 := congrArg (fun p => p.map fun r => r.map Int.toNat) e3
    rw [toZ_back] at h2
    exact h2.symm
  rwa [this] at h
theorem in39 {c : Cd} (h : c = par39 ∨ c = tri39) : CodeIn c.2.2.2.1 := ⟨fun r hr x hx => by
  rcases h with rfl | rfl
  · simp [par39] at hr; subst hr; simp at hx; omega
  · simp [tri39] at hr; subst hr; simp at hx; omega⟩
theorem srIn39 {us : List (List Nat)} {hv : List Bool} {l : List Int} (h1 : us.length ≤ 10) (h2 : hv.length ≤ 10) (h3 : l.length ≤ 10) (h4 : ∀ x ∈ us, ∃ b, b < 256 ∧ x = u32 b) : SrIn (par39, us, hv, l) where
  c := in39 (.inl rfl)
  us := by dsimp only; omega
  hv := by dsimp only; omega
  ll := by dsimp only; omega
  b x hx := by
    obtain ⟨b, hb, rfl⟩ := h4 x hx
    exact ⟨isB_u32 hb, by simp [u32]⟩
theorem mem3 {a b c : Nat} (h : a < 256 ∧ b < 256 ∧ c < 256) : ∀ x ∈ [u32 a, u32 b, u32 c], ∃ n, n < 256 ∧ x = u32 n := fun x hx => by
  simp at hx
  rcases hx with rfl | rfl | rfl
  · exact ⟨a, h.1, rfl⟩
  · exact ⟨b, h.2.1, rfl⟩
  · exact ⟨c, h.2.2, rfl⟩
theorem sIn_a : SrIn sa39 := srIn39 (by decide) (by decide) (by decide) (mem3 (by decide))
theorem sIn_b : SrIn sb39 := srIn39 (by decide) (by decide) (by decide) (mem3 (by decide))
theorem sIn_c : SrIn sc39 := srIn39 (by decide) (by decide) (by decide) (mem3 (by decide))
theorem sIn_d : SrIn sd39 := srIn39 (by decide) (by decide) (by decide) (mem3 (by decide))
theorem rIn39 {ss : List Sr} (h1 : ss.length ≤ 10) (h2 : ∀ s ∈ ss, SrIn s) (h3 : (liveTo ss ss.length).length ≤ 1000) : RepIn tri39 ss := ⟨in39 (.inr rfl), by omega, h2, by omega⟩
theorem mem2S {a b : Sr} (h1 : SrIn a) (h2 : SrIn b) : ∀ s ∈ [a, b], SrIn s := fun s hs => by
  simp at hs
  rcases hs with rfl | rfl
  · exact h1
  · exact h2
theorem fi_tg : fldsInt Tryd.prog 77 = some [0, 1, 2, 3] := by kernel_rfl
attribute [local irreducible] Quiet Eff OpOk AWPG ACont ABlock ACalls AGoto
theorem A_sanity39 : ACalls Tryd.prog 34 [] [] (bV true) [] := by
  refine acalls_of_body Tryd.func34 rfl (Nat.le_of_ble_eq_true rfl) ?_
  have u0 := A_unit39 (b := 0) (by decide)
  have u1 := A_unit39 (b := 1) (by decide)
  have u2 := A_unit39 (b := 2) (by decide)
  have u3 := A_unit39 (b := 3) (by decide)
  have u4 := A_unit39 (b := 4) (by decide)
  have hB0 := isB_u32 (b := 0) (by decide)
  have hB4 := isB_u32 (b := 4) (by decide)
  have f1 := A_fullOk (us := [u32 1, u32 2]) (nm := par39.1) (dom := 3) ok_par rfl (fun u hu => by simp at hu; rcases hu with rfl | rfl <;> exact ⟨isB_u32 (by decide), by simp [u32]⟩)
  rw [s39_5] at f1
  have f1 : ACalls Tryd.prog 68 [cdA1 par39, strs [u32 1, u32 2]] [] (srA1 sa39) [] := f1
  have f2 := A_fullOk (us := [u32 3, u32 4]) (nm := par39.1) (dom := 3) ok_par rfl (fun u hu => by simp at hu; rcases hu with rfl | rfl <;> exact ⟨isB_u32 (by decide), by simp [u32]⟩)
  rw [s39_6] at f2
  have f2 : ACalls Tryd.prog 68 [cdA1 par39, strs [u32 3, u32 4]] [] (srA1 sb39) [] := f2
  have k1 := A_repack (rIn39 (ss := [sa39, sb39]) (by decide) (mem2S sIn_a sIn_b) (by decide))
  rw [s39_1] at k1
  have k2 := A_repack (rIn39 (ss := [sc39, sb39]) (by decide) (mem2S sIn_c sIn_b) (by decide))
  rw [s39_2] at k2
  have k3 := A_repack (rIn39 (ss := [sd39]) (by decide) (fun s hs => by rw [List.mem_singleton.1 hs]; exact sIn_d) (by decide))
  rw [s39_3] at k3
  have k4 := (A_repack (rIn39 (ss := []) (by decide) (fun s hs => by simp at hs) (by decide))).le (args' := [cdA1 tri39, .d (.v (.slice none 0 0))]) fun F κ w us hs => AVleL.sat (xs := [cdA1 tri39, .d (.v (.slice none 0 0))]) (ys := [cdA1 tri39, srcs []]) ⟨AVle.refl _, AVle.nil 8, trivial⟩ F _ κ w us hs
  rw [s39_4] at k4
  (repeat' (first
  | (apply yFb; exact rfl; exact rfl)
  | (apply W.qd; (first
    | (apply (yW (u0)); exact rfl; exact rfl; (iterate 3 kernel_rfl))|(apply (yW (u1)); exact rfl; exact rfl; (iterate 3 kernel_rfl))|(apply (yW (u2)); exact rfl; exact rfl; (iterate 3 kernel_rfl))|(apply (yW (u3)); exact rfl; exact rfl; (iterate 3 kernel_rfl))|(apply (yW (u4)); exact rfl; exact rfl; (iterate 3 kernel_rfl))|(apply (yW (f1)); exact rfl; exact rfl; (iterate 3 kernel_rfl))|(apply (yW (f2)); exact rfl; exact rfl; (iterate 3 kernel_rfl))|(apply (yW (k1)); exact rfl; exact rfl; (iterate 3 kernel_rfl))|(apply (yW (k2)); exact rfl; exact rfl; (iterate 3 kernel_rfl))|(apply (yW (k3)); exact rfl; exact rfl; (iterate 3 kernel_rfl))|(apply (yW (k4)); exact rfl; exact rfl; (iterate 3 kernel_rfl))|(first | (apply (q_eqsI fi_tg); (iterate 5 exact rfl)) | (apply (q_nesI fi_tg); (iterate 5 exact rfl)))|(apply q_mv; (conv => lhs; whnf))|(apply q_as; (conv => lhs; whnf))|(apply yS; (iterate 3 exact rfl))|(apply yT; (iterate 4 exact rfl))|(apply yU; (iterate 4 exact rfl))|(apply q_eql; exact rfl; exact rfl)|(apply q_neq; exact rfl; exact rfl)|(apply yAb; exact rfl; exact rfl)|(apply yV; exact rfl; exact rfl)|(apply yX; (iterate 3 exact rfl); (first | omega | (focus (simp; done))))|(apply yY; (iterate 3 exact rfl); (first | omega | (focus (simp; done))))|(apply yZ; exact rfl; exact rfl; kernel_rfl)|(apply q_litF; (iterate 5 exact rfl); kernel_rfl; kernel_rfl; exact rfl)|(apply yGb; (iterate 4 exact rfl); (first | (with_reducible exact rfl) | exact natI_spec rfl | assumption | exact (Int.toNat_of_nonneg (by omega)).symm); (first | omega | (focus (simp only [List.length_map]; omega)) | (focus (simp; done)) | (focus (simp; omega))))|(apply (yEb (u := .d _)); exact rfl; exact rfl)|(apply (yDb (u := .d _)); exact rfl; exact rfl)
    | (apply q_eqlS; exact rfl; exact rfl; (first | assumption | exact isB_nil | exact isB_xor (by assumption) (by assumption)); (first | assumption | exact isB_nil | exact isB_xor (by assumption) (by assumption)))))|(apply W.ed; (apply yCb; (iterate 3 exact rfl); kernel_rfl))|(apply W.ln; (apply l_st_box; (iterate 6 exact rfl); (iterate 3 kernel_rfl)))|(apply yA)|(apply yB)|(apply yC; kernel_rfl)|(apply yD; exact rfl; kernel_rfl)|(apply yE)|(apply yF; kernel_rfl)|(apply yH)|(apply yJ)
  | (apply yR; exact rfl)))
  all_goals first | exact Ends.b rfl rfl | (exfalso; simp at hb; done)
end Go.Proofs.YtaclmbbiegklcaaDoor
end
section
namespace Go.Proofs.YtaclmbbiegklcaaDoor
open Go.RowKit
set_option maxHeartbeats 8000000
set_option maxRecDepth 100000
theorem fi_ddC : fldsT Tryd.prog 79 = some [.i 0, .i 1] := by kernel_rfl
def pM (i v : Nat) (m : Mv) : Bool := decide (m.1 = i ∧ m.2.1 = v)
def pL (i v : Nat) (m : Nat × Nat) : Bool := decide (m = (i, v))
theorem cntP_succ {α : Type} {l : List α} {p : α → Bool} {j : Nat} (h : j < l.length) : (l.take (j + 1)).countP p = (l.take j).countP p + if p l[j] = true then 1 else 0 := by
  rw [List.take_succ_eq_append_getElem h, List.countP_append]
  simp [List.countP_cons]
theorem cnt_mov (D i v : Nat) (l : List (Nat × Nat)) : (movN D l).countP (pM i v) = l.count (i, v) := by
  unfold movN
  rw [List.countP_map]
  have h1 : l.count (i, v) = (l.zipIdx.map (·.1)).count (i, v) := by rw [List.zipIdx_map_fst]
  rw [h1]
  unfold List.count
  rw [List.countP_map]
  congr 1
  funext q
  unfold pM
  simp only [Function.comp]
  rw [Bool.eq_iff_iff]
  simp only [decide_eq_true_eq, beq_iff_eq, Prod.ext_iff]
theorem cnt_lost (i v : Nat) (l : List (Nat × Nat)) : l.countP (pL i v) = l.count (i, v) := by
  unfold List.count
  congr 1
  funext q
  unfold pL
  rw [Bool.eq_iff_iff]
  simp
theorem inc_cnt {s : Sr} (h : srB s = true) (hb : ∀ x ∈ s.2.1, isB x ∧ x.length < 9223372036854775808) {k : Nat} (hk : k < s.2.2.2.length) : (s.2.2.2.map Int.toNat).count s.2.2.2[k].toNat = 1 := by
  obtain ⟨M, D, ps, e1, e2, e3, hs, hl⟩ := sr_ok h hb
  unfold srB srcB at h
  simp only [Bool.and_eq_true, decide_eq_true_eq] at h
  have h6 := (incB_drop _ _ _).1 h.2
  have hstep : ∀ j (hj : j + 1 < s.2.2.2.length), s.2.2.2[j] < s.2.2.2[j + 1] := fun j hj => by
    have h7 := (h6 (j + 1) hj).1
    rw [if_neg (by omega), Nat.add_sub_cancel, List.getD_eq_getElem?_getD, List.getElem?_eq_getElem (by omega)] at h7
    exact h7
  have hmono : ∀ d a (hd : a + d + 1 < s.2.2.2.length), s.2.2.2[a] < s.2.2.2[a + d + 1] := fun d => by
    induction d with
    | zero => intro a hd; exact hstep a hd
    | succ d ih =>
      intro a hd
      have h8 := ih a (by omega)
      have h9 := hstep (a + d + 1) hd
      have h10 : s.2.2.2[a + (d + 1) + 1] = s.2.2.2[a + d + 1 + 1] := rfl
      omega
  have hlt : ∀ a b (ha : a < s.2.2.2.length) (hb : b < s.2.2.2.length), a < b → s.2.2.2[a] < s.2.2.2[b] := fun a b ha hb hab => by
    have := hmono (b - a - 1) a (by omega)
    have e : a + (b - a - 1) + 1 = b := by omega
    simp only [e] at this
    exact this
  have hnd : (s.2.2.2.map Int.toNat).Nodup := by
    refine List.pairwise_iff_getElem.2 fun a b ha hbl hab => ?_
    rw [List.length_map] at ha hbl
    rw [List.getElem_map, List.getElem_map]
    have h1 := hlt a b ha hbl hab
    have h2 := hl a ha
    omega
  rw [hnd.count, if_pos (List.mem_map.2 ⟨_, List.getElem_mem hk, rfl⟩)]
theorem wt_mem {ss : List Sr} {s : Sr} (h : s ∈ ss) : wtSr s ≤ (ss.map wtSr).sum := by
  induction ss with
  | nil => cases h
  | cons a ss ih =>
    rw [List.map_cons, List.sum_cons]
    rcases List.mem_cons.1 h with rfl | h
    · omega
    · have := ih h; omega
theorem wt_len (ss : List Sr) : ss.length ≤ (ss.map wtSr).sum := by
  induction ss with
  | nil => simp
  | cons a ss ih =>
    rw [List.map_cons, List.sum_cons, List.length_cons]
    have : 1 ≤ wtSr a := by unfold wtSr; omega
    omega
theorem wt_live (ss : List Sr) : ∀ n, n ≤ ss.length → (liveTo ss n).length ≤ ((ss.take n).map wtSr).sum
  | 0, _ => by simp [liveTo]
  | n + 1, h => by
    have ih := wt_live ss n (by omega)
    rw [liveTo_succ, List.length_append, List.length_map, getDs (show n < ss.length by omega), List.take_succ_eq_append_getElem (show n < ss.length by omega), List.map_append, List.sum_append]
    have : ss[n].2.2.2.length ≤ wtSr ss[n] := by unfold wtSr; omega
    simp only [List.map_cons, List.map_nil, List.sum_cons, List.sum_nil]
    omega
theorem rep_of_wt {tc : Cd} {ss : List Sr} (hc : CodeIn tc.2.2.2.1) (hs : ∀ s ∈ ss, SrB s) (hw : (ss.map wtSr).sum ≤ 1048576) : RepIn tc ss := by
  have h1 := wt_len ss
  have h2 := wt_live ss ss.length (Nat.le_refl _)
  rw [List.take_length] at h2
  refine ⟨hc, by omega, fun s hm => ?_, by omega⟩
  have h3 := wt_mem hm
  have h4 : wtSr s = s.2.1.length + s.2.2.1.length + s.2.2.2.length + 1 := rfl
  rw [h4] at h3
  exact ⟨(hs s hm).c, by omega, by omega, by omega, (hs s hm).b⟩
attribute [local irreducible] Quiet Eff OpOk AWPG ACont ABlock ACalls AGoto
theorem A_changeCounts {tc : Cd} {ss : List Sr} (h : RepIn tc ss) : ACalls Tryd.prog 10 [cdA1 tc, srcs ss] [] (bV true) [] := by
  refine acalls_of_body Tryd.func10 rfl (Nat.le_of_ble_eq_true rfl) ?_
  have hsl := h.sl
  have hsm := A_small39 (tc := tc) (ss := ss) (by omega)
  have hsa := A_sanity39
  have hre := A_repack h
  have hms : (ss.map srD).length = ss.length := List.length_map _
  cases hq : small39 tc ss with
  | false =>
    rw [hq] at hsm
    generalize repN tc ss = R at *
    (repeat' (first
  | (apply yFb; exact rfl; exact rfl)
  | (apply W.qd; (first
    | (apply (yW (hsm)); exact rfl; exact rfl; (iterate 3 kernel_rfl))|(apply (yW (hsa)); exact rfl; exact rfl; (iterate 3 kernel_rfl))|(apply (yW (hre)); exact rfl; exact rfl; (iterate 3 kernel_rfl))|(apply q_mv; (conv => lhs; whnf))|(apply q_as; (conv => lhs; whnf))|(apply yU; (iterate 4 exact rfl))|(apply q_not; exact rfl)|(apply yAb; exact rfl; exact rfl)
    | (apply (yEb (u := .d _)); exact rfl; exact rfl)))
  | (apply W.ed; (first
    | (apply yBb; (iterate 3 exact rfl); kernel_rfl; kernel_rfl)
    | (apply yCb; (iterate 3 exact rfl); kernel_rfl)))|(apply W.ln; (apply l_st_box; (iterate 6 exact rfl); (iterate 3 kernel_rfl)))|(refine W.gOff _ _ rfl rfl (by intro h; cases h) ?_)|(apply yA)|(apply yB)|(apply yC; kernel_rfl)|(apply yE)|(apply yJ)|(apply yP)
  | (apply yQ; exact rfl)))
    all_goals exact Ends.b rfl rfl
  | true =>
  rw [hq] at hsm
  by_cases hv : validC tc.2.1 tc.2.2.1 tc.2.2.2.1 = true ∧ ss.all srB = true
  case neg =>
    rw [rep_bad hv] at hre
    (repeat' (first
  | (apply yFb; exact rfl; exact rfl)
  | (apply W.qd; (first
    | (apply (yW (hsm)); exact rfl; exact rfl; (iterate 3 kernel_rfl))|(apply (yW (hsa)); exact rfl; exact rfl; (iterate 3 kernel_rfl))|(apply (yW (hre)); exact rfl; exact rfl; (iterate 3 kernel_rfl))|(apply q_mv; (conv => lhs; whnf))|(apply q_as; (conv => lhs; whnf))|(apply yS; (iterate 3 exact rfl))|(apply yT; (iterate 4 exact rfl))|(apply yU; (iterate 4 exact rfl))|(apply q_eql; exact rfl; exact rfl)|(apply q_neq; exact rfl; exact rfl)|(apply q_not; exact rfl)|(apply yAb; exact rfl; exact rfl)|(apply yV; exact rfl; exact rfl)|(apply (yEb (u := .d _)); exact rfl; exact rfl)
    | (apply (yDb (u := .d _)); exact rfl; exact rfl)))
  | (apply W.ed; (first
    | (apply yBb; (iterate 3 exact rfl); kernel_rfl; kernel_rfl)
    | (apply yCb; (iterate 3 exact rfl); kernel_rfl)))|(apply W.ln; (apply l_st_box; (iterate 6 exact rfl); (iterate 3 kernel_rfl)))|(refine W.gOff _ _ rfl rfl (by intro h; cases h) ?_)|(apply yA)|(apply yB)|(apply yC; kernel_rfl)|(apply yE)|(apply yJ)|(apply yP)
  | (apply yQ; exact rfl)))
    all_goals exact Ends.b rfl rfl
  unfold repN at hre
  rw [if_pos hv] at hre
  obtain ⟨hV, hall⟩ := hv
  obtain ⟨M, D, ps, e1, e2, e3, hok⟩ := ok_valid hV
  rw [e1, e2, e3, Int.toNat_natCast, Int.toNat_natCast, toZ_back] at hre
  have hD1 := hok.d
  have hw1 := hok.w
  have hvs : ∀ i (hi : i < ss.length), srB ss[i] = true := fun i hi => List.all_eq_true.1 hall _ (List.getElem_mem hi)
  have hpc := pack_count (recAt ss) (liveTo ss ss.length)
  have hpl := pack_len (recAt ss) (liveTo ss ss.length)
  have htot := h.tot
  have hdv : (padS D ss).length / D = ((packS ss).data.length + D - 1) / D := pad_div (by omega) zero32 _
  have hps : packS ss = packN (recAt ss) (liveTo ss ss.length) := rfl
  rw [← hps] at hpc hpl
  unfold repOk at hre
  have hcl := (cutN_len M D ps (padS D ss) ((padS D ss).length / D)).trans hdv
  generalize cutN M D ps (padS D ss) ((padS D ss).length / D) = ST at *
  clear hdv
  have hcm : ∀ i v, (movN D (packS ss).from').countP (pM i v) = (packS ss).from'.count (i, v) := fun i v => cnt_mov D i v _
  have hclo : ∀ i v, (packS ss).lost.countP (pL i v) = (packS ss).lost.count (i, v) := fun i v => cnt_lost i v _
  have hml := movN_len D (packS ss).from'
  generalize movN D (packS ss).from' = A at *
  generalize packS ss = PK at *
  clear hps
  obtain ⟨C, A0, B⟩ := PK
  dsimp only at *
  have hmA : (A.map mvD).length = A.length := List.length_map _
  have hmB : (B.map tmD).length = B.length := List.length_map _
  have hmS : (ST.map stD).length = ST.length := List.length_map _
  have hdl := fun (q : Nat) (hq : q = C.length) => Nat.div_le_self (C.length + D - 1) D
  have hone : ∀ i (hi : i < ss.length) k (hk : k < ss[i].2.2.2.length), A.countP (pM i ss[i].2.2.2[k].toNat) + B.countP (pL i ss[i].2.2.2[k].toNat) = 1 := fun i hi k hk => by
    rw [hcm, hclo, hpc, live_cnt, if_pos hi, getDs hi]
    exact inc_cnt (hvs i hi) (h.s _ (List.getElem_mem hi)).b hk
  clear hcm hclo hpc
  obtain ⟨nm, M', D', par, dom⟩ := tc
  dsimp only at e1 e2 e3
  subst e1 e2 e3
  have hre : ACalls Tryd.prog 33 [cdA1 (nm, (M : Int), (D : Int), toZ ps, dom), srcs ss] [] (.tup [pkA ST A B, iV 0]) [] := hre
  (repeat' (first
  | (apply yFb; exact rfl; exact rfl)
  | (apply W.qd; (first
    | (apply (yW (hsm)); exact rfl; exact rfl; (iterate 3 kernel_rfl))|(apply (yW (hre)); exact rfl; exact rfl; (iterate 3 kernel_rfl))|(apply q_mv; (conv => lhs; whnf))|(apply q_as; (conv => lhs; whnf))|(apply yU; (iterate 4 exact rfl))|(apply q_neq; exact rfl; exact rfl)|(apply q_not; exact rfl)|(apply yAb; exact rfl; exact rfl)
    | (apply (yDb (u := .d _)); exact rfl; exact rfl)))
  | (apply W.ed; (first
    | (apply yBb; (iterate 3 exact rfl); kernel_rfl; kernel_rfl)
    | (apply yCb; (iterate 3 exact rfl); kernel_rfl)))|(apply W.ln; (apply l_st_box; (iterate 6 exact rfl); (iterate 3 kernel_rfl)))|(apply yA)|(apply yB)|(apply (W.regionS 7); exact rfl; kernel_rfl)|(apply yE)|(apply yG)|(apply yH)
  | (apply yR; exact rfl)))
  refine AWP.loopW (α := Nat) (fun i => i ≤ ss.length) (fun i => ⟨[(9, iV i), (8, iV (preL ss i 0).length), (1, srcs ss), (2, .opt 0 0), (6, .opt 1 0)], [.box [bS nm, iV (M : Int), iV (D : Int), rowsA (toZ ps), iV dom], .box [.d (.sl 1 (ST.map stD)), .d (.sl 4 (A.map mvD)), .d (.sl 2 (B.map tmD))]]⟩) (fun i => ss.length - i) 0 (Nat.zero_le _) ⟨[0, 1], rfl, rfl, rfl, by (repeat (first | exact trivial | refine ⟨rfl, ?_⟩))⟩ fun i hi => ?_
  by_cases hil : i < ss.length
  · have hnx := preL_next hil
    have hlil := (h.s _ (List.getElem_mem hil)).ll
    have hlm : (ss[i].2.2.2.map iD).length = ss[i].2.2.2.length := List.length_map _
    (repeat' (first
  | (apply W.qd; (first
    | (apply q_mv; (conv => lhs; whnf))|(apply q_as; (conv => lhs; whnf))|(apply q_lss; exact rfl; exact rfl)
    | (apply yV; exact rfl; exact rfl)))|(apply yA)|(apply yB)|(apply (W.regionS 10); exact rfl; kernel_rfl)|(apply yE)|(apply yG)|(apply yH)
  | (refine W.cond _ rfl (fun hb => ?_) (fun hb => ?_) <;> ((try simp only [hb, zA, zB]) <;> (try simp only [zC, zD, zE, zF, zG, zH, zI, zJ] at hb) <;> (try (exfalso; omega))))))
    refine AWP.loopW (α := Nat) (fun k => k ≤ ss[i].2.2.2.length) (fun k => ⟨[(10, iV k), (9, iV i), (8, iV (preL ss i k).length), (1, srcs ss), (2, .opt 0 0), (6, .opt 1 0)], [.box [bS nm, iV (M : Int), iV (D : Int), rowsA (toZ ps), iV dom], .box [.d (.sl 1 (ST.map stD)), .d (.sl 4 (A.map mvD)), .d (.sl 2 (B.map tmD))]]⟩) (fun k => ss[i].2.2.2.length - k) 0 (Nat.zero_le _) ⟨[0, 1], rfl, rfl, rfl, by (repeat (first | exact trivial | refine ⟨rfl, ?_⟩))⟩ fun k hk => ?_
    by_cases hkl : k < ss[i].2.2.2.length
    · have hon := hone i hil k hkl
      have hple := preL_le (k := k) hil
      have hps : (preL ss i (k + 1)).length = (preL ss i k).length + 1 := by rw [preL_succ hil hkl]; simp
      obtain ⟨_, _, _, _, _, _, _, hnn⟩ := sr_ok (hvs i hil) (h.s _ (List.getElem_mem hil)).b
      have hnn := (hnn k hkl).1
      obtain ⟨v, hv⟩ : ∃ v : Nat, ss[i].2.2.2[k] = v := ⟨ss[i].2.2.2[k].toNat, by omega⟩
      rw [hv, Int.toNat_natCast] at hon
      (repeat' (first
  | (apply W.qd; (first
    | (apply q_mv; (conv => lhs; whnf))|(apply q_as; (conv => lhs; whnf))|(apply q_lss; exact rfl; exact rfl)|(apply yV; exact rfl; exact rfl)|(apply yX; (iterate 3 exact rfl); (first | omega | (focus (simp; done))))|(apply q_fld_fptF; (iterate 3 exact rfl))
    | (apply yGb; (iterate 4 exact rfl); (first | (with_reducible exact rfl) | exact natI_spec rfl | assumption | exact (Int.toNat_of_nonneg (by omega)).symm); (first | omega | (focus (simp only [List.length_map]; omega)) | (focus (simp; done)) | (focus (simp; omega))))))|(apply yA)|(apply yB)|(apply (W.regionS 14); exact rfl; kernel_rfl)|(apply yE)|(apply yG)|(apply yH)
  | (refine W.cond _ rfl (fun hb => ?_) (fun hb => ?_) <;> ((try simp only [hb, zA, zB]) <;> (try simp only [zC, zD, zE, zF, zG, zH, zI, zJ] at hb) <;> (try (exfalso; omega))))))
      refine AWP.loopW (α := Nat) (fun j => j ≤ A.length) (fun j => ⟨[(12, iV j), (11, iV ((A.take j).countP (pM i v))), (10, iV k), (9, iV i), (8, iV (preL ss i k).length), (1, srcs ss), (2, .opt 0 0), (6, .opt 1 0)], [.box [bS nm, iV (M : Int), iV (D : Int), rowsA (toZ ps), iV dom], .box [.d (.sl 1 (ST.map stD)), .d (.sl 4 (A.map mvD)), .d (.sl 2 (B.map tmD))]]⟩) (fun j => A.length - j) 0 (Nat.zero_le _) ⟨[0, 1], rfl, rfl, rfl, by (repeat (first | exact trivial | refine ⟨rfl, ?_⟩))⟩ fun j hj => ?_
      have hc1 : (A.take j).countP (pM i v) ≤ j := Nat.le_trans List.countP_le_length (by rw [List.length_take]; omega)
      by_cases hjl : j < A.length
      · have hcs := cntP_succ (p := pM i v) hjl
        have hpm : pM i v A[j] = true ↔ (A[j].1 = i ∧ A[j].2.1 = v) := by unfold pM; simp
        generalize (A.take j).countP (pM i v) = c at *
        generalize pM i v A[j] = b at *
        replace hcs := Lib.hid hcs
        (repeat' (first
  | (apply yFb; exact rfl; exact rfl)
  | (apply W.qd; (first
    | (apply q_mv; (conv => lhs; whnf))|(apply q_as; (conv => lhs; whnf))|(apply yS; (iterate 3 exact rfl))|(apply yT; (iterate 4 exact rfl))|(apply q_lss; exact rfl; exact rfl)|(apply q_eql; exact rfl; exact rfl)|(apply q_add; exact rfl; exact rfl; omega)|(apply yV; exact rfl; exact rfl)|(apply yX; (iterate 3 exact rfl); (first | omega | (focus (simp; done))))|(apply q_fld_fptF; (iterate 3 exact rfl))|(apply yGb; (iterate 4 exact rfl); (first | (with_reducible exact rfl) | exact natI_spec rfl | assumption | exact (Int.toNat_of_nonneg (by omega)).symm); (first | omega | (focus (simp only [List.length_map]; omega)) | (focus (simp; done)) | (focus (simp; omega))))|(apply (yEb (u := .d _)); exact rfl; exact rfl)
    | (apply (yDb (u := .d _)); exact rfl; exact rfl)))|(refine W.gOff _ _ rfl rfl (by intro h; cases h) ?_)|(apply yA)|(apply yB)|(apply yC; kernel_rfl)|(apply yD; exact rfl; kernel_rfl)|(apply yE)|(apply yF; kernel_rfl)|(apply yG)|(apply yH)|(apply yL)|(apply yR; exact rfl)|(refine W.gT _ _ rfl rfl (fun hb => ?_) (fun hb => ?_) <;> ((try simp only [hb, zA, zB]) <;> (try simp only [zC, zD, zE, zF, zG, zH, zI, zJ] at hb) <;> (try (exfalso; omega))))
  | (refine W.cond _ rfl (fun hb => ?_) (fun hb => ?_) <;> ((try simp only [hb, zA, zB]) <;> (try simp only [zC, zD, zE, zF, zG, zH, zI, zJ] at hb) <;> (try (exfalso; omega))))))
        all_goals refine ⟨j + 1, by omega, by omega, ?_⟩
        all_goals rw [hcs.out]
        all_goals first
          | (rw [if_pos (hpm.2 ⟨by omega, by omega⟩)]; exact ⟨[0, 1], rfl, rfl, rfl, iV_eq (by omega), iV_eq (by omega), rfl, rfl, rfl, rfl, rfl, rfl, trivial⟩)
          | (rw [if_neg (fun h => by have := hpm.1 h; omega)]; exact ⟨[0, 1], rfl, rfl, rfl, iV_eq (by omega), iV_eq (by omega), rfl, rfl, rfl, rfl, rfl, rfl, trivial⟩)
      · obtain rfl : j = A.length := by omega
        rw [List.take_length] at *
        generalize A.countP (pM i v) = c at *
        (repeat' (first
  | (apply W.qd; (first
    | (apply q_mv; (conv => lhs; whnf))|(apply q_as; (conv => lhs; whnf))|(apply yS; (iterate 3 exact rfl))|(apply yT; (iterate 4 exact rfl))|(apply q_lss; exact rfl; exact rfl)
    | (apply yV; exact rfl; exact rfl)))|(apply yA)|(apply yB)|(apply (W.regionS 19); exact rfl; kernel_rfl)|(apply yE)|(apply yG)|(apply yI)|(apply yK)|(apply yM)
  | (refine W.cond _ rfl (fun hb => ?_) (fun hb => ?_) <;> ((try simp only [hb, zA, zB]) <;> (try simp only [zC, zD, zE, zF, zG, zH, zI, zJ] at hb) <;> (try (exfalso; omega))))))
        refine AWP.loopW (α := Nat) (fun q => q ≤ B.length) (fun q => ⟨[(13, iV q), (11, iV (c + (B.take q).countP (pL i v) : Nat)), (10, iV k), (9, iV i), (8, iV (preL ss i k).length), (1, srcs ss), (2, .opt 0 0), (6, .opt 1 0)], [.box [bS nm, iV (M : Int), iV (D : Int), rowsA (toZ ps), iV dom], .box [.d (.sl 1 (ST.map stD)), .d (.sl 4 (A.map mvD)), .d (.sl 2 (B.map tmD))]]⟩) (fun q => B.length - q) 0 (Nat.zero_le _) ⟨[0, 1], rfl, rfl, rfl, by (repeat (first | exact trivial | refine ⟨rfl, ?_⟩))⟩ fun q hq => ?_
        have hc2 : (B.take q).countP (pL i v) ≤ q := Nat.le_trans List.countP_le_length (by rw [List.length_take]; omega)
        by_cases hql : q < B.length
        · have hcs := cntP_succ (p := pL i v) hql
          have hpm : pL i v B[q] = true ↔ B[q] = (i, v) := by unfold pL; simp
          generalize (B.take q).countP (pL i v) = d at *
          generalize pL i v B[q] = b at *
          replace hcs := Lib.hid hcs
          (repeat' (first
  | (apply W.qd; (first
    | ((apply (q_eqT fi_ddC); (iterate 5 exact rfl); exact (show _ = decide (B[q] = (i, v)) by rw [Bool.eq_iff_iff]; simp [Prod.ext_iff, hv] <;> omega)))|(apply q_mv; (conv => lhs; whnf))|(apply q_as; (conv => lhs; whnf))|(apply yS; (iterate 3 exact rfl))|(apply yT; (iterate 4 exact rfl))|(apply q_lss; exact rfl; exact rfl)|(apply q_add; exact rfl; exact rfl; omega)|(apply yV; exact rfl; exact rfl)|(apply yX; (iterate 3 exact rfl); (first | omega | (focus (simp; done))))|(apply yY; (iterate 3 exact rfl); (first | omega | (focus (simp; done))))|(apply q_fld_fptF; (iterate 3 exact rfl))|(apply yZ; exact rfl; exact rfl; kernel_rfl)
    | (apply yGb; (iterate 4 exact rfl); (first | (with_reducible exact rfl) | exact natI_spec rfl | assumption | exact (Int.toNat_of_nonneg (by omega)).symm); (first | omega | (focus (simp only [List.length_map]; omega)) | (focus (simp; done)) | (focus (simp; omega))))))|(apply yA)|(apply yB)|(apply yC; kernel_rfl)|(apply yD; exact rfl; kernel_rfl)|(apply yE)|(apply yF; kernel_rfl)|(apply yG)|(apply yH)|(apply yL)
  | (refine W.cond _ rfl (fun hb => ?_) (fun hb => ?_) <;> ((try simp only [hb, zA, zB]) <;> (try simp only [zC, zD, zE, zF, zG, zH, zI, zJ] at hb) <;> (try (exfalso; omega))))))
          all_goals refine ⟨q + 1, by omega, by omega, ?_⟩
          all_goals rw [hcs.out]
          all_goals first
            | (rw [if_pos (hpm.2 (by assumption))]; exact ⟨[0, 1], rfl, rfl, rfl, iV_eq (by omega), iV_eq (by omega), rfl, rfl, rfl, rfl, rfl, rfl, trivial⟩)
            | (rw [if_neg (fun h => by have := hpm.1 h; contradiction)]; exact ⟨[0, 1], rfl, rfl, rfl, iV_eq (by omega), iV_eq (by omega), rfl, rfl, rfl, rfl, rfl, rfl, trivial⟩)
        · obtain rfl : q = B.length := by omega
          rw [List.take_length] at *
          generalize B.countP (pL i v) = d at *
          (repeat' (first
  | (apply W.qd; (first
    | (apply q_mv; (conv => lhs; whnf))|(apply q_as; (conv => lhs; whnf))|(apply yS; (iterate 3 exact rfl))|(apply yT; (iterate 4 exact rfl))|(apply q_lss; exact rfl; exact rfl)|(apply q_neq; exact rfl; exact rfl)|(apply q_add; exact rfl; exact rfl; omega)
    | (apply yV; exact rfl; exact rfl)))|(apply yA)|(apply yB)|(apply yC; kernel_rfl)|(apply yE)|(apply yH)|(apply yI)|(apply yK)|(apply yL)|(apply yM)
  | (refine W.cond _ rfl (fun hb => ?_) (fun hb => ?_) <;> ((try simp only [hb, zA, zB]) <;> (try simp only [zC, zD, zE, zF, zG, zH, zI, zJ] at hb) <;> (try (exfalso; omega))))))
          all_goals try (exfalso; omega)
          refine ⟨k + 1, by omega, by omega, ?_⟩
          rw [hps]
          exact ⟨[0, 1], rfl, rfl, rfl, iV_eq (by omega), rfl, iV_eq (by omega), rfl, rfl, rfl, trivial⟩
    · obtain rfl : k = ss[i].2.2.2.length := by omega
      rw [hnx]
      (repeat' (first
  | (apply W.qd; (first
    | (apply q_mv; (conv => lhs; whnf))|(apply q_as; (conv => lhs; whnf))|(apply q_lss; exact rfl; exact rfl)|(apply q_add; exact rfl; exact rfl; omega)|(apply yV; exact rfl; exact rfl)|(apply yX; (iterate 3 exact rfl); (first | omega | (focus (simp; done))))|(apply q_fld_fptF; (iterate 3 exact rfl))
    | (apply yGb; (iterate 4 exact rfl); (first | (with_reducible exact rfl) | exact natI_spec rfl | assumption | exact (Int.toNat_of_nonneg (by omega)).symm); (first | omega | (focus (simp only [List.length_map]; omega)) | (focus (simp; done)) | (focus (simp; omega))))))|(apply yA)|(apply yB)|(apply yC; kernel_rfl)|(apply yE)|(apply yI)|(apply yK)|(apply yL)|(apply yM)
  | (refine W.cond _ rfl (fun hb => ?_) (fun hb => ?_) <;> ((try simp only [hb, zA, zB]) <;> (try simp only [zC, zD, zE, zF, zG, zH, zI, zJ] at hb) <;> (try (exfalso; omega))))))
      exact ⟨i + 1, by omega, by omega, [0, 1], rfl, rfl, rfl, iV_eq (by omega), rfl, rfl, rfl, rfl, trivial⟩
  · obtain rfl : i = ss.length := by omega
    rw [preL_zero]
    have hd1 := hdl C.length rfl
    have hdz : (((A.length : Int) + (D : Int) - 1) / (D : Int)) = (((C.length + D - 1) / D : Nat) : Int) := by
      have h1 : (A.length : Int) + (D : Int) - 1 = ((C.length + D - 1 : Nat) : Int) := by omega
      rw [h1]; rfl
    clear hdl
    (repeat' (first
  | (apply yFb; exact rfl; exact rfl)
  | (apply W.qd; (first
    | (apply (yW (hsa)); exact rfl; exact rfl; (iterate 3 kernel_rfl))|(apply q_mv; (conv => lhs; whnf))|(apply q_as; (conv => lhs; whnf))|(apply yS; (iterate 3 exact rfl))|(apply yT; (iterate 4 exact rfl))|(apply q_lss; exact rfl; exact rfl)|(apply q_gtr; exact rfl; exact rfl)|(apply q_eql; exact rfl; exact rfl)|(apply q_add; exact rfl; exact rfl; omega)|(apply q_sub; exact rfl; exact rfl; omega)|(apply q_quo; exact rfl; exact rfl; omega; omega; omega)|(apply yV; exact rfl; exact rfl)
    | (apply (yEb (u := .d _)); exact rfl; exact rfl)))|(apply yA)|(apply yB)|(apply yC; kernel_rfl)|(apply yD; exact rfl; kernel_rfl)|(apply yE)|(apply yF; kernel_rfl)|(apply yI)|(apply yJ)|(apply yK)|(apply yM)|(refine W.gT _ _ rfl rfl (fun hb => ?_) (fun hb => ?_) <;> ((try simp only [hb, zA, zB]) <;> (try simp only [zC, zD, zE, zF, zG, zH, zI, zJ] at hb) <;> (try (exfalso; omega))))
  | (refine W.cond _ rfl (fun hb => ?_) (fun hb => ?_) <;> ((try simp only [hb, zA, zB]) <;> (try simp only [zC, zD, zE, zF, zG, zH, zI, zJ] at hb) <;> (try (exfalso; omega))))))
    all_goals first
      | (refine Ends.b rfl ?_; rw [decide_eq_true_eq]; simp only [List.length_map]; rw [hdz]; omega)
      | exact Ends.b rfl rfl
      | (exfalso; omega)
end Go.Proofs.YtaclmbbiegklcaaDoor
end
