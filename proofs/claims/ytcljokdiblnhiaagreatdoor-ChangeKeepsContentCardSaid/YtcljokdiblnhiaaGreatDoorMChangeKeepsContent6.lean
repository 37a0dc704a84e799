import Derived.Test.YtcljokdiblnhiaaGreatDoorMChangeKeepsContent5
/- Joined texts: Ch13. -/
set_option linter.unusedVariables false
set_option linter.unusedSimpArgs false
section
namespace Go.Proofs.YtcljokdiblnhiaaGreatDoor
open Go.RowKit
set_option maxHeartbeats 8000000
set_option maxRecDepth 100000
theorem mov_get {D i n : Nat} (h : i < (movN D ((List.range n).map fun i => (0, i))).length) : (movN D ((List.range n).map fun i => (0, i)))[i] = (0, i, i / D, i % D) := by
  have h1 : (movN D ((List.range n).map fun i => (0, i)))[i]? = some (0, i, i / D, i % D) := by
    have h2 : i < n := by rw [movN_len, List.length_map, List.length_range] at h; exact h
    unfold movN
    rw [List.getElem?_map, List.getElem?_zipIdx, List.getElem?_map, List.getElem?_range h2]
    simp
  rw [List.getElem?_eq_getElem h] at h1
  exact Option.some.inj h1
theorem keep_rep {M D M2 D2 : Nat} {ps ps2 us : List (List Nat)} {nm nm2 : List Nat} {dom dom2 : Int} {hv : List Bool} (h : CodeOk M D ps) (hV : validC M D (toZ ps) = true) (hV2 : validC M2 D2 (toZ ps2) = true) (hl : us.length = D) (hu : ∀ u ∈ us, isB u ∧ u.length = 32) (hvl : hv.length = D + ps.length) (hd : decN M D ps hv = true) :
    repN (nm2, (M2 : Int), (D2 : Int), toZ ps2, dom2) [lostS (nm, M, D, toZ ps, dom) (encN M ps us) D hv] = ⟨cutN M2 D2 ps2 (padN D2 zero32 us) ((padN D2 zero32 us).length / D2), movN D2 ((List.range D).map fun i => (0, i)), [], 0⟩ := by
  unfold repN
  rw [if_pos ⟨hV2, by rw [List.all_cons, lost_valid h hV hl hu hvl]; rfl⟩]
  dsimp only
  rw [Int.toNat_natCast, Int.toNat_natCast, toZ_back]
  unfold repOk padS
  rw [lost_pack h hl hu hvl hd]
theorem cutN_get {M D : Nat} {ps pd : List (List Nat)} {n q : Nat} (h : q < (cutN M D ps pd n).length) : (cutN M D ps pd n)[q] = encN M ps ((pd.drop (q * D)).take D) := by
  have h1 : (cutN M D ps pd n)[q]? = some (encN M ps ((pd.drop (q * D)).take D)) := by
    have h2 : q < n := by rw [cutN_len] at h; exact h
    unfold cutN
    rw [List.getElem?_map, List.getElem?_range h2]; rfl
  rw [List.getElem?_eq_getElem h] at h1
  exact Option.some.inj h1
theorem chunk_ok {D q : Nat} {us : List (List Nat)} (hD : 1 ≤ D) (hu : ∀ u ∈ us, isB u ∧ u.length = 32) (hq : q < (padN D zero32 us).length / D) : (((padN D zero32 us).drop (q * D)).take D).length = D ∧ ∀ u ∈ ((padN D zero32 us).drop (q * D)).take D, isB u ∧ u.length = 32 := by
  have hpm := pad_mod (D := D) (by omega) zero32 us
  obtain ⟨N, hN⟩ : ∃ N, (padN D zero32 us).length = N * D := ⟨(padN D zero32 us).length / D, by rw [Nat.div_mul_cancel (Nat.dvd_of_mod_eq_zero hpm)]⟩
  have hND : (padN D zero32 us).length / D = N := by rw [hN, Nat.mul_div_cancel _ (by omega)]
  have hle : q * D + D ≤ (padN D zero32 us).length := by
    have := Nat.mul_le_mul_right D (show q + 1 ≤ N by omega)
    rw [Nat.add_mul, Nat.one_mul] at this; omega
  refine ⟨by rw [List.length_take, List.length_drop]; omega, fun u h => ?_⟩
  rcases pad_mem (List.mem_of_mem_drop (List.mem_of_mem_take h)) with h1 | rfl
  · exact hu u h1
  · exact ⟨isB_zero 32, by simp [zero32]⟩
attribute [local irreducible] Quiet Eff OpOk AWPG ACont ABlock ACalls AGoto
theorem A_lose39 {n : Nat} {L : List Int} (hn : n ≤ 1000000) (hL : L.length ≤ 9223372036854775807) : ACalls Tryz.prog 23 [iV n, ints L] [] (bools (minusN (List.replicate n true) (inN n L))) [] := by
  refine acalls_of_body Tryz.func23 rfl (Nat.le_of_ble_eq_true rfl) ?_
  have hml : (L.map iD).length = L.length := List.length_map _
  (repeat' (first
  | (apply W.qd; (apply q_as; (conv => lhs; whnf)))|(apply yA)|(apply yB)|(apply (W.regionS 2); exact rfl; kernel_rfl)
  | (apply yE)))
  refine AWP.nilRow 5 1 4 rfl (by omega) ?_
  (repeat' (first
  | (apply W.qd; (apply q_as; (conv => lhs; whnf)))|(apply yB)|(apply (W.regionS 3); exact rfl; kernel_rfl)|(apply yE)
  | (apply yG)))
  refine AWP.loopW (α := Nat) (fun i => i ≤ n) (fun i => ⟨[(6, iV i), (5, .osl 0 i 0 (List.replicate i true).length), (0, iV n), (1, ints L)], [.row i 1 4 ((List.replicate i true).map tD)]⟩) (fun i => n - i) 0 (Nat.zero_le _) ⟨[0], rfl, rfl, rfl, by (repeat (first | exact trivial | refine ⟨rfl, ?_⟩))⟩ fun i hi => ?_
  by_cases hil : i < n
  · have hrp : List.replicate (i + 1) true = List.replicate i true ++ [true] := List.replicate_succ'
    have hln : (List.replicate i true).length = i := List.length_replicate
    replace hrp := Lib.hid hrp
    generalize List.replicate i true = A at *
    (repeat' (first
  | (apply W.qd; (first
    | (apply q_mv; (conv => lhs; whnf))|(apply q_as; (conv => lhs; whnf))|(apply q_lss; exact rfl; exact rfl)|(apply q_add; exact rfl; exact rfl; omega)
    | (apply q_litF; (iterate 5 exact rfl); kernel_rfl; kernel_rfl; exact rfl)))|(apply W.ld; (apply l_app1; (iterate 8 exact rfl); (first | omega | (focus (simp; omega)) | (focus (simp; done)))))|(apply yA)|(apply yB)|(apply yC; kernel_rfl)|(apply yE)|(apply yG)|(apply yH)|(apply yL)
  | (refine W.cond _ rfl (fun hb => ?_) (fun hb => ?_) <;> ((try simp only [hb, zA, zB]) <;> (try simp only [zC, zD, zE, zF, zG, zH, zI, zJ] at hb) <;> (try (exfalso; omega))))))
    all_goals try (exfalso; omega)
    refine ⟨i + 1, by omega, by omega, ?_⟩
    rw [hrp.out]
    exact ⟨[0], rfl, rfl, rfl, iV_eq (by omega), rfl, rfl, rfl, trivial⟩
  · obtain rfl : i = n := by omega
    (repeat' (first
  | (apply W.qd; (first
    | (apply q_mv; (conv => lhs; whnf))|(apply q_as; (conv => lhs; whnf))
    | (apply q_lss; exact rfl; exact rfl)))|(apply yA)|(apply yB)|(apply (W.regionS 7); exact rfl; kernel_rfl)|(apply yE)|(apply yG)|(apply yI)|(apply yK)|(apply yM)
  | (refine W.cond _ rfl (fun hb => ?_) (fun hb => ?_) <;> ((try simp only [hb, zA, zB]) <;> (try simp only [zC, zD, zE, zF, zG, zH, zI, zJ] at hb) <;> (try (exfalso; omega))))))
    refine AWP.loopW (α := Nat) (fun q => q ≤ L.length) (fun q => ⟨[(7, iV q), (5, .osl 0 i 0 i), (0, iV i), (1, ints L)], [.row i 1 4 ((minusN (List.replicate i true) (inN i (L.take q))).map tD)]⟩) (fun q => L.length - q) 0 (Nat.zero_le _) ?wkl fun q hq => ?_
    case wkl => exact ⟨[0], rfl, rfl, rfl, rfl, congrArg (AV.osl 0 i 0) (by simp), rfl, rfl, trivial⟩
    have hmn := minusN_length (inN i (L.take q)) (List.replicate i true)
    rw [List.length_replicate] at hmn
    by_cases hql : q < L.length
    · have hst : minusN (List.replicate i true) (inN i (L.take (q + 1))) = if 0 ≤ L[q] ∧ L[q] < (i : Int) then (minusN (List.replicate i true) (inN i (L.take q))).set L[q].toNat false else minusN (List.replicate i true) (inN i (L.take q)) := by
        rw [List.take_succ_eq_append_getElem hql, inN_snoc]
        split
        · rw [minusN_snoc]
        · rw [List.append_nil]
      replace hst := Lib.hid hst
      generalize minusN (List.replicate i true) (inN i (L.take q)) = A at *
      (repeat' (first
  | (apply yFb; exact rfl; exact rfl)
  | (apply W.qd; (first
    | (apply q_mv; (conv => lhs; whnf))|(apply q_as; (conv => lhs; whnf))|(apply q_lss; exact rfl; exact rfl)|(apply q_geq; exact rfl; exact rfl)|(apply q_add; exact rfl; exact rfl; omega)|(apply yV; exact rfl; exact rfl)|(apply yX; (iterate 3 exact rfl); (first | omega | (focus (simp; done))))|(apply yGb; (iterate 4 exact rfl); (first | (with_reducible exact rfl) | exact natI_spec rfl | assumption | exact (Int.toNat_of_nonneg (by omega)).symm); (first | omega | (focus (simp only [List.length_map]; omega)) | (focus (simp; done)) | (focus (simp; omega))))|(apply (yEb (u := .d _)); exact rfl; exact rfl)|(apply (yDb (u := .d _)); exact rfl; exact rfl)
    | (apply q_ix_osl0; (iterate 4 exact rfl); (first | (with_reducible exact rfl) | exact natI_spec rfl | assumption | exact (Int.toNat_of_nonneg (by omega)).symm); (first | omega | (focus (simp only [List.length_map]; omega)) | (focus (simp; done)) | (focus (simp; omega))))))|(apply W.ln; (apply l_st_rpt; (iterate 7 exact rfl); exact fun _ => rfl; (first | omega | (focus (simp only [List.length_map]; omega)) | (focus (simp; omega)))))|(refine W.gOff _ _ rfl rfl (by intro h; cases h) ?_)|(apply yA)|(apply yB)|(apply yC; kernel_rfl)|(apply yE)|(apply yG)|(apply yH)|(apply yL)|(apply yR; exact rfl)|(refine W.gT _ _ rfl rfl (fun hb => ?_) (fun hb => ?_) <;> ((try simp only [hb, zA, zB]) <;> (try simp only [zC, zD, zE, zF, zG, zH, zI, zJ] at hb) <;> (try (exfalso; omega))))
  | (refine W.cond _ rfl (fun hb => ?_) (fun hb => ?_) <;> ((try simp only [hb, zA, zB]) <;> (try simp only [zC, zD, zE, zF, zG, zH, zI, zJ] at hb) <;> (try (exfalso; omega))))))
      all_goals refine ⟨q + 1, by omega, by omega, ?_⟩
      all_goals rw [hst.out]
      all_goals first
        | (rw [if_pos (by omega)]; exact ⟨[0], rfl, rfl, rfl, iV_eq (by omega), rfl, rfl, rfl, trivial⟩)
        | (rw [if_neg (by omega)]; exact ⟨[0], rfl, rfl, rfl, iV_eq (by omega), rfl, rfl, rfl, trivial⟩)
    · obtain rfl : q = L.length := by omega
      rw [List.take_length] at *
      (repeat' (first
  | (apply W.qd; (first
    | (apply q_mv; (conv => lhs; whnf))|(apply q_as; (conv => lhs; whnf))|(apply q_lss; exact rfl; exact rfl)
    | (apply yV; exact rfl; exact rfl)))|(apply yA)|(apply yB)|(apply yC; kernel_rfl)|(apply yE)|(apply yI)|(apply yJ)|(apply yK)|(apply yM)
  | (refine W.cond _ rfl (fun hb => ?_) (fun hb => ?_) <;> ((try simp only [hb, zA, zB]) <;> (try simp only [zC, zD, zE, zF, zG, zH, zI, zJ] at hb) <;> (try (exfalso; omega))))))
      exact Ends.osl rfl rfl (by rw [List.length_map]; omega) rfl
theorem A_fullBad {c : Cd} {us : List (List Nat)} (hc : CodeIn c.2.2.2.1) (hl : us.length ≤ 10) (hu : ∀ u ∈ us, isB u ∧ u.length = 32) (hb : ¬ (validC c.2.1 c.2.2.1 c.2.2.2.1 = true ∧ (us.length : Int) = c.2.2.1)) : ACalls Tryz.prog 22 [cdA1 c, strs us] [] (srA1 (c, [], [], [])) [] := by
  obtain ⟨nm, M, D, par, dom⟩ := c
  dsimp only at hc hb
  have hen := (A_encode_bad (M := M) (D := D) hc (us := us) (by omega) (fun u h => by have := (hu u h).2; omega) (fun h => hb ⟨h.1, h.2.1⟩)).cdF (nm := nm) (dom := dom)
  refine acalls_of_body Tryz.func22 rfl (Nat.le_of_ble_eq_true rfl) ?_
  show AWP _ _ _ _ _ ⟨env0 0 [cdF nm M D par dom, strs us], []⟩
  (repeat' (first
  | (apply W.qd; (first
    | (apply (yW (hen)); exact rfl; exact rfl; (iterate 3 kernel_rfl))|(apply q_mv; (conv => lhs; whnf))|(apply q_as; (conv => lhs; whnf))|(apply yU; (iterate 4 exact rfl))|(apply q_neq; exact rfl; exact rfl)|(apply yAb; exact rfl; exact rfl)
    | (apply yZ; exact rfl; exact rfl; kernel_rfl)))
  | (apply W.ed; (first
    | (apply yBb; (iterate 3 exact rfl); kernel_rfl; kernel_rfl)
    | (apply yCb; (iterate 3 exact rfl); kernel_rfl)))|(apply W.ln; (apply l_st_box; (iterate 6 exact rfl); (iterate 3 kernel_rfl)))|(apply yA)|(apply yB)|(apply yC; kernel_rfl)|(apply yE)|(apply yJ)|(apply yP)
  | (apply yQ; exact rfl)))
  all_goals exact ⟨.inl rfl, [], [.agg [bS nm, iV M, iV D, rowsA par, iV dom, .d (.v (.slice none 0 0)), .d (.v (.slice none 0 0)), .d (.v (.slice none 0 0))]], rfl, ⟨⟨1, _, true, rfl, rfl, rfl, rfl⟩, trivial⟩, AVle.agg ⟨AVle.refl _, AVle.refl _, AVle.refl _, AVle.refl _, AVle.refl _, AVle.nil 1, AVle.nil 1, AVle.nil 1, trivial⟩, rfl⟩
theorem A_recNew {M D i : Nat} {ps us : List (List Nat)} {hv : List Bool} {nm : List Nat} {dom : Int} (h : CodeOk M D ps) (hu : ∀ u ∈ us, isB u ∧ u.length = 32) (hi : i < us.length) (hvl : hv.length = D + ps.length) (hd : decN M D ps hv = true) : ACalls Tryz.prog 25 [cdA1 (nm, (M : Int), (D : Int), toZ ps, dom), strs (encN M ps (((padN D zero32 us).drop (i / D * D)).take D)), bools hv, iV (i % D : Nat)] [] (.tup [bS (us.getD i []), iV 0]) [] := by
  obtain ⟨hq, hr⟩ := rec_chunk h hu hi hvl hd
  obtain ⟨hcl, hcu⟩ := chunk_ok h.d hu hq
  have hen := encN_ok h hcl hcu (fit32 h.f)
  have hel := encN_length M ps (((padN D zero32 us).drop (i / D * D)).take D)
  have hw := h.w
  have hD := h.d
  have hS : SrcOk M D ps (encN M ps (((padN D zero32 us).drop (i / D * D)).take D)) hv := ⟨h, by omega, hvl, fun j hj => by
    have hjl : j < hv.length := by
      rcases Nat.lt_or_ge j hv.length with h6 | h6
      · exact h6
      · rw [List.getD_eq_getElem?_getD, List.getElem?_eq_none h6] at hj; cases hj
    exact (mem_isB hen (by omega)).2, fun x hx => ⟨(hen x hx).1, by rw [(hen x hx).2]; decide⟩⟩
  have hmm := Nat.mod_lt i (show D > 0 by omega)
  have := A_erecS (u := i % D) hS (by omega)
  rw [hr, cdN_A] at this
  exact this.cdF (nm := nm) (dom := dom)
theorem A_keepsContent {cf ct : Cd} {us : List (List Nat)} {bf af : List Int} (hnf : NameIn cf.1) (hnt : NameIn ct.1) (hcf : CodeIn cf.2.2.2.1) (hct : CodeIn ct.2.2.2.1) (hus : ∀ x ∈ us, isB x ∧ x.length < 9223372036854775808) (hul : us.length ≤ 9223372036854775807) (hbl : bf.length ≤ 9223372036854775807) (hal : af.length ≤ 9223372036854775807) : ACalls Tryz.prog 5 [cdA1 cf, cdA1 ct, strs us, ints bf, ints af] [] (bV true) [] := by
  refine acalls_of_body Tryz.func5 rfl (Nat.le_of_ble_eq_true rfl) ?_
  have hsa := A_sanity39
  have hf1 := A_few39 (c := cf)
  have hf2 := A_few39 (c := ct)
  have hmu : (us.map sD).length = us.length := List.length_map _
  have hmb : (bf.map iD).length = bf.length := List.length_map _
  have hma : (af.map iD).length = af.length := List.length_map _
  by_cases hfit : few30 cf = true ∧ few30 ct = true
  case neg =>
    cases h1 : few30 cf with
    | false =>
      rw [h1] at hf1
      (repeat' (first
  | (apply W.qd; (first
    | (apply (yW (hf1)); exact rfl; exact rfl; (iterate 3 kernel_rfl))|(apply (yW (hsa)); exact rfl; exact rfl; (iterate 3 kernel_rfl))|(apply q_mv; (conv => lhs; whnf))|(apply q_as; (conv => lhs; whnf))|(apply yU; (iterate 4 exact rfl))|(apply q_not; exact rfl)|(apply (yEb (u := .d _)); exact rfl; exact rfl)
    | (apply (yDb (u := .d _)); exact rfl; exact rfl)))|(apply W.ed; (apply yBb; (iterate 3 exact rfl); kernel_rfl; kernel_rfl))|(refine W.gOff _ _ rfl rfl (by intro h; cases h) ?_)|(apply yA)|(apply yB)|(apply yC; kernel_rfl)|(apply yE)|(apply yJ)|(apply yP)
  | (apply yQ; exact rfl)))
      all_goals exact Ends.b rfl rfl
    | true =>
      have h2 : few30 ct = false := Bool.eq_false_iff.2 fun h2 => hfit ⟨h1, h2⟩
      rw [h1] at hf1
      rw [h2] at hf2
      (repeat' (first
  | (apply yFb; exact rfl; exact rfl)
  | (apply W.qd; (first
    | (apply (yW (hf1)); exact rfl; exact rfl; (iterate 3 kernel_rfl))|(apply (yW (hf2)); exact rfl; exact rfl; (iterate 3 kernel_rfl))|(apply (yW (hsa)); exact rfl; exact rfl; (iterate 3 kernel_rfl))|(apply q_mv; (conv => lhs; whnf))|(apply q_as; (conv => lhs; whnf))|(apply yU; (iterate 4 exact rfl))|(apply q_not; exact rfl)
    | (apply (yEb (u := .d _)); exact rfl; exact rfl)))|(apply W.ed; (apply yBb; (iterate 3 exact rfl); kernel_rfl; kernel_rfl))|(refine W.gOff _ _ rfl rfl (by intro h; cases h) ?_)|(apply yA)|(apply yB)|(apply yC; kernel_rfl)|(apply yE)|(apply yJ)|(apply yP)
  | (apply yQ; exact rfl)))
      all_goals exact Ends.b rfl rfl
  have hin : ∀ {c : Cd}, few30 c = true → NameIn c.1 → FInD c := fun {c} h1 hn => by
    unfold few30 at h1
    simp only [Bool.and_eq_true, decide_eq_true_eq] at h1
    exact ⟨hn.b, hn.l, by omega, by omega⟩
  have hl1 := A_losD (hin hfit.1 hnf)
  have hl2 := A_losD (hin hfit.2 hnt)
  rw [hfit.1] at hf1
  rw [hfit.2] at hf2
  by_cases hg : (bf.length : Int) ≤ losD cf ∧ (af.length : Int) ≤ losD ct ∧ us.length ≤ 10
  case neg =>
    (repeat' (first
  | (apply yFb; exact rfl; exact rfl)
  | (apply W.qd; (first
    | (apply (yW (hf1)); exact rfl; exact rfl; (iterate 3 kernel_rfl))|(apply (yW (hf2)); exact rfl; exact rfl; (iterate 3 kernel_rfl))|(apply (yW (hsa)); exact rfl; exact rfl; (iterate 3 kernel_rfl))|(apply (yW (hl1)); exact rfl; exact rfl; (iterate 3 kernel_rfl))|(apply (yW (hl2)); exact rfl; exact rfl; (iterate 3 kernel_rfl))|(apply q_mv; (conv => lhs; whnf))|(apply q_as; (conv => lhs; whnf))|(apply yU; (iterate 4 exact rfl))|(apply q_gtr; exact rfl; exact rfl)|(apply q_not; exact rfl)|(apply yV; exact rfl; exact rfl)|(apply (yEb (u := .d _)); exact rfl; exact rfl)
    | (apply (yDb (u := .d _)); exact rfl; exact rfl)))|(apply W.ed; (apply yBb; (iterate 3 exact rfl); kernel_rfl; kernel_rfl))|(refine W.gOff _ _ rfl rfl (by intro h; cases h) ?_)|(apply yA)|(apply yB)|(apply (W.regionS 4); exact rfl; kernel_rfl)|(apply yE)|(apply yJ)|(apply yP)|(apply yQ; exact rfl)|(refine W.gF _ _ rfl rfl (fun hb => ?_) (fun hb => ?_) <;> ((try simp only [hb, zA, zB]) <;> (try simp only [zC, zD, zE, zF, zG, zH, zI, zJ] at hb) <;> (try (exfalso; omega))))
  | (refine W.cond _ rfl (fun hb => ?_) (fun hb => ?_) <;> ((try simp only [hb, zA, zB]) <;> (try simp only [zC, zD, zE, zF, zG, zH, zI, zJ] at hb) <;> (try (exfalso; omega))))))
    all_goals first | exact Ends.b rfl rfl | (exfalso; omega)
  obtain ⟨g1, g2, g3⟩ := hg
  obtain ⟨hk1, hp1⟩ := promise30 (c := cf) (n := bf.length) g1
  obtain ⟨hk2, hp2⟩ := promise30 (c := ct) (n := af.length) g2
  obtain ⟨M, D, ps, e1, e2, e3, hok⟩ := chk_code hk1
  obtain ⟨M2, D2, ps2, q1, q2, q3, hok2⟩ := chk_code hk2
  have hV1 := chk_valid hk1
  have hV2 := chk_valid hk2
  rw [e1, e2, e3] at hV1 hp1
  rw [q1, q2, q3] at hV2 hp2
  have hpl : (toZ ps).length = ps.length := List.length_map _
  have hpl2 : (toZ ps2).length = ps2.length := List.length_map _
  rw [hpl, show ((D : Int) + (ps.length : Int)).toNat = D + ps.length by omega] at hp1
  rw [hpl2, show ((D2 : Int) + (ps2.length : Int)).toNat = D2 + ps2.length by omega] at hp2
  have hD1 := hok.d
  have hw1 := hok.w
  have hD2 := hok2.d
  have hw2 := hok2.w
  have hd1 := hp1 (inN (D + ps.length) bf) (inN_len _ _)
  have hd2 := hp2 (inN (D2 + ps2.length) af) (inN_len _ _)
  rw [decZ_nat] at hd1 hd2
  (repeat' (first
  | (apply yFb; exact rfl; exact rfl)
  | (apply W.qd; (first
    | (apply (yW (hf1)); exact rfl; exact rfl; (iterate 3 kernel_rfl))|(apply (yW (hf2)); exact rfl; exact rfl; (iterate 3 kernel_rfl))|(apply (yW (hl1)); exact rfl; exact rfl; (iterate 3 kernel_rfl))|(apply (yW (hl2)); exact rfl; exact rfl; (iterate 3 kernel_rfl))|(apply q_mv; (conv => lhs; whnf))|(apply q_as; (conv => lhs; whnf))|(apply yU; (iterate 4 exact rfl))|(apply q_gtr; exact rfl; exact rfl)|(apply q_not; exact rfl)|(apply yV; exact rfl; exact rfl)|(apply (yEb (u := .d _)); exact rfl; exact rfl)
    | (apply (yDb (u := .d _)); exact rfl; exact rfl)))|(apply W.ed; (apply yBb; (iterate 3 exact rfl); kernel_rfl; kernel_rfl))|(apply yA)|(apply yB)|(apply (W.regionS 5); exact rfl; kernel_rfl)|(apply yE)|(apply yG)|(apply yH)|(refine W.gF _ _ rfl rfl (fun hb => ?_) (fun hb => ?_) <;> ((try simp only [hb, zA, zB]) <;> (try simp only [zC, zD, zE, zF, zG, zH, zI, zJ] at hb) <;> (try (exfalso; omega))))
  | (refine W.cond _ rfl (fun hb => ?_) (fun hb => ?_) <;> ((try simp only [hb, zA, zB]) <;> (try simp only [zC, zD, zE, zF, zG, zH, zI, zJ] at hb) <;> (try (exfalso; omega))))))
  all_goals try (exfalso; omega)
  obtain ⟨nm, M', D', par, dom⟩ := cf
  obtain ⟨nm2, M2', D2', par2, dom2⟩ := ct
  dsimp only at e1 e2 e3 q1 q2 q3 hcf hct
  subst e1 e2 e3 q1 q2 q3
  clear hk1 hk2 hp1 hp2 hl1 hl2 hin g1 g2 hf1 hf2
  refine AWP.loopW (α := Nat) (fun i => i ≤ us.length ∧ ∀ j (hj : j < us.length), j < i → us[j].length = 32) (fun i => ⟨[(12, iV i), (2, strs us), (3, ints bf), (4, ints af), (5, .opt 0 0), (6, .opt 1 0)], [.box [bS nm, iV (M : Int), iV (D : Int), rowsA (toZ ps), iV dom], .box [bS nm2, iV (M2 : Int), iV (D2 : Int), rowsA (toZ ps2), iV dom2]]⟩) (fun i => us.length - i) 0 ⟨Nat.zero_le _, fun j hj h => by omega⟩ ⟨[0, 1], rfl, rfl, rfl, by (repeat (first | exact trivial | refine ⟨rfl, ?_⟩))⟩ fun i hi => ?_
  by_cases hil : i < us.length
  · have hul1 := (hus _ (List.getElem_mem hil)).2
    by_cases h32 : us[i].length = 32
    · have hnx : ∀ j (hj : j < us.length), j < i + 1 → us[j].length = 32 := fun j hj hji => by
        by_cases e : j = i
        · subst e; exact h32
        · exact hi.2 j hj (by omega)
      clear hi
      (repeat' (first
  | (apply W.qd; (first
    | (apply q_mv; (conv => lhs; whnf))|(apply q_as; (conv => lhs; whnf))|(apply q_lss; exact rfl; exact rfl)|(apply q_neq; exact rfl; exact rfl)|(apply q_add; exact rfl; exact rfl; omega)|(apply yV; exact rfl; exact rfl)|(apply q_len_bs; exact rfl; exact rfl)|(apply yX; (iterate 3 exact rfl); (first | omega | (focus (simp; done))))
    | (apply yGb; (iterate 4 exact rfl); (first | (with_reducible exact rfl) | exact natI_spec rfl | assumption | exact (Int.toNat_of_nonneg (by omega)).symm); (first | omega | (focus (simp only [List.length_map]; omega)) | (focus (simp; done)) | (focus (simp; omega))))))|(apply yA)|(apply yB)|(apply yC; kernel_rfl)|(apply yE)|(apply yG)|(apply yH)|(apply yL)
  | (refine W.cond _ rfl (fun hb => ?_) (fun hb => ?_) <;> ((try simp only [hb, zA, zB]) <;> (try simp only [zC, zD, zE, zF, zG, zH, zI, zJ] at hb) <;> (try (exfalso; omega))))))
      all_goals first | (exfalso; omega) | exact ⟨i + 1, ⟨by omega, hnx⟩, by omega, [0, 1], rfl, rfl, rfl, iV_eq (by omega), rfl, rfl, rfl, rfl, rfl, trivial⟩
    · clear hi
      (repeat' (first
  | (apply W.qd; (first
    | (apply (yW (hsa)); exact rfl; exact rfl; (iterate 3 kernel_rfl))|(apply q_mv; (conv => lhs; whnf))|(apply q_as; (conv => lhs; whnf))|(apply q_lss; exact rfl; exact rfl)|(apply q_neq; exact rfl; exact rfl)|(apply yV; exact rfl; exact rfl)|(apply q_len_bs; exact rfl; exact rfl)|(apply yX; (iterate 3 exact rfl); (first | omega | (focus (simp; done))))
    | (apply yGb; (iterate 4 exact rfl); (first | (with_reducible exact rfl) | exact natI_spec rfl | assumption | exact (Int.toNat_of_nonneg (by omega)).symm); (first | omega | (focus (simp only [List.length_map]; omega)) | (focus (simp; done)) | (focus (simp; omega))))))|(apply yA)|(apply yB)|(apply yC; kernel_rfl)|(apply yE)|(apply yG)|(apply yH)|(apply yJ)|(apply yP)|(apply yN)
  | (refine W.cond _ rfl (fun hb => ?_) (fun hb => ?_) <;> ((try simp only [hb, zA, zB]) <;> (try simp only [zC, zD, zE, zF, zG, zH, zI, zJ] at hb) <;> (try (exfalso; omega))))))
      all_goals first | (exfalso; omega) | exact Ends.b rfl rfl
  have hu : ∀ u ∈ us, isB u ∧ u.length = 32 := fun u hx => by
    obtain ⟨j, hj, rfl⟩ := List.getElem_of_mem hx
    exact ⟨(hus _ hx).1, hi.2 j hj (by omega)⟩
  clear hi
  by_cases hlD : us.length = D
  case neg =>
    have hfb := A_fullBad (c := (nm, (M : Int), (D : Int), toZ ps, dom)) hcf g3 hu (fun h => hlD (by have := h.2; dsimp only at this; omega))
    (repeat' (first
  | (apply W.qd; (first
    | (apply (yW (hfb)); exact rfl; exact rfl; (iterate 3 kernel_rfl))|(apply (yW (hsa)); exact rfl; exact rfl; (iterate 3 kernel_rfl))|(apply q_mv; (conv => lhs; whnf))|(apply q_as; (conv => lhs; whnf))|(apply yS; (iterate 3 exact rfl))|(apply yT; (iterate 4 exact rfl))|(apply yU; (iterate 4 exact rfl))|(apply q_lss; exact rfl; exact rfl)|(apply q_eql; exact rfl; exact rfl)
    | (apply yV; exact rfl; exact rfl)))|(apply W.ed; (apply yCb; (iterate 3 exact rfl); kernel_rfl))|(apply W.ln; (apply l_st_box; (iterate 6 exact rfl); (iterate 3 kernel_rfl)))|(apply yA)|(apply yB)|(apply yC; kernel_rfl)|(apply yE)|(apply yI)|(apply yJ)|(apply yK)|(apply yP)|(apply yM)|(apply yQ; exact rfl)
  | (refine W.cond _ rfl (fun hb => ?_) (fun hb => ?_) <;> ((try simp only [hb, zA, zB]) <;> (try simp only [zC, zD, zE, zF, zG, zH, zI, zJ] at hb) <;> (try (exfalso; omega))))))
    all_goals first | exact Ends.b rfl rfl | (exfalso; simp at hb; done)
  have hfo := A_fullOk (nm := nm) (dom := dom) hok hlD hu
  have hUl := encN_length M ps us
  have hmU : ((encN M ps us).map sD).length = D + ps.length := by rw [List.length_map]; omega
  have hlo1 : ACalls Tryz.prog 23 [iV (((encN M ps us).map sD).length : Nat), ints bf] [] (bools (minusN (List.replicate (D + ps.length) true) (inN (D + ps.length) bf))) [] := by
    rw [hmU]; exact A_lose39 (by omega) hbl
  have hvl1 : (minusN (List.replicate (D + ps.length) true) (inN (D + ps.length) bf)).length = D + ps.length := minusN_rep _ _
  have hrI : RepIn (nm2, (M2 : Int), (D2 : Int), toZ ps2, dom2) [lostS (nm, M, D, toZ ps, dom) (encN M ps us) D (minusN (List.replicate (D + ps.length) true) (inN (D + ps.length) bf))] := by
    refine ⟨hct, by simp, fun s hs => ?_, ?_⟩
    · rw [List.mem_singleton.1 hs]
      refine ⟨hcf, ?_, ?_, ?_, fun x hx => ?_⟩
      · show (encN M ps us).length ≤ _; omega
      · show (minusN _ _).length ≤ _; rw [hvl1]; omega
      · show (rngI D).length ≤ _; rw [rngI_len]; omega
      · have := encN_ok hok hlD hu (fit32 hok.f) x hx
        exact ⟨this.1, by rw [this.2]; decide⟩
    · show (liveTo _ 1).length ≤ _
      rw [lost_live]; simp; omega
  have hre := A_repack hrI
  rw [keep_rep hok hV1 hV2 hlD hu hvl1 hd1] at hre
  have hST := cutN_len M2 D2 ps2 (padN D2 zero32 us) ((padN D2 zero32 us).length / D2)
  have hrec := fun i (hi : i < us.length) => A_recNew (nm := nm2) (dom := dom2) hok2 hu hi (minusN_rep (D2 + ps2.length) af) hd2
  have hqN := fun i (hi : i < us.length) => (rec_chunk hok2 hu hi (minusN_rep (D2 + ps2.length) af) hd2).1
  have hSTg := fun q (h : q < (cutN M2 D2 ps2 (padN D2 zero32 us) ((padN D2 zero32 us).length / D2)).length) => cutN_get h
  have hSTl : ∀ q (h : q < (cutN M2 D2 ps2 (padN D2 zero32 us) ((padN D2 zero32 us).length / D2)).length), (cutN M2 D2 ps2 (padN D2 zero32 us) ((padN D2 zero32 us).length / D2))[q].length = D2 + ps2.length := fun q h => by
    rw [cutN_get h, encN_length, (chunk_ok hD2 hu (by rw [hST] at h; exact h)).1]
  have hml := movN_len D2 ((List.range D).map fun i => (0, i))
  rw [List.length_map, List.length_range] at hml
  have hmg := fun i (h : i < (movN D2 ((List.range D).map fun i => (0, i))).length) => mov_get h
  have hre : ACalls Tryz.prog 24 [cdA1 (nm2, (M2 : Int), (D2 : Int), toZ ps2, dom2), srcs [lostS (nm, M, D, toZ ps, dom) (encN M ps us) D (minusN (List.replicate (D + ps.length) true) (inN (D + ps.length) bf))]] [] (.tup [pkA (cutN M2 D2 ps2 (padN D2 zero32 us) ((padN D2 zero32 us).length / D2)) (movN D2 ((List.range D).map fun i => (0, i))) [], iV 0]) [] := hre
  rw [← hST] at hqN
  generalize cutN M2 D2 ps2 (padN D2 zero32 us) ((padN D2 zero32 us).length / D2) = ST at *
  generalize movN D2 ((List.range D).map fun i => (0, i)) = A at *
  generalize hHV : minusN (List.replicate (D + ps.length) true) (inN (D + ps.length) bf) = HV at *
  generalize hU : encN M ps us = U at *
  have hmA : (A.map mvD).length = A.length := List.length_map _
  have hmS : (ST.map stD).length = ST.length := List.length_map _
  have hfu : ((fullS (nm, (M : Int), (D : Int), toZ ps, dom) U D).2.1).length = D + ps.length := hUl.trans (by rw [hlD])
  (repeat' (first
  | (apply yFb; exact rfl; exact rfl)
  | (apply W.qd; (first
    | (apply (yW (hfo)); exact rfl; exact rfl; (iterate 3 kernel_rfl))|(apply (yW (hlo1)); exact rfl; exact rfl; (iterate 3 kernel_rfl))|(apply (yW (hre)); exact rfl; exact rfl; (iterate 3 kernel_rfl))|(apply q_mv; (conv => lhs; whnf))|(apply q_as; (conv => lhs; whnf))|(apply yS; (iterate 3 exact rfl))|(apply yT; (iterate 4 exact rfl))|(apply yU; (iterate 4 exact rfl))|(apply q_lss; exact rfl; exact rfl)|(apply q_eql; exact rfl; exact rfl)|(apply q_neq; exact rfl; exact rfl)|(apply yAb; exact rfl; exact rfl)|(apply yV; exact rfl; exact rfl)|(apply q_litF; (iterate 5 exact rfl); kernel_rfl; kernel_rfl; exact rfl)
    | (apply (yDb (u := .d _)); exact rfl; exact rfl)))|(apply W.ed; (apply yCb; (iterate 3 exact rfl); kernel_rfl))|(apply W.ln; (apply l_st_box; (iterate 6 exact rfl); (iterate 3 kernel_rfl)))|(apply yA)|(apply yB)|(apply (W.regionS 15); exact rfl; kernel_rfl)|(apply yE)|(apply yG)|(apply yH)|(apply yI)|(apply yK)|(apply yM)
  | (refine W.cond _ rfl (fun hb => ?_) (fun hb => ?_) <;> ((try simp only [hb, zA, zB]) <;> (try simp only [zC, zD, zE, zF, zG, zH, zI, zJ] at hb) <;> (try (exfalso; omega))))))
  all_goals try (exfalso; omega)
  refine AWP.loopW (α := Nat) (fun i => i ≤ A.length) (fun i => ⟨[(16, iV i), (2, strs us), (4, ints af), (5, .opt 0 0), (6, .opt 1 0), (14, .opt 2 0)], [.box [bS nm, iV (M : Int), iV (D : Int), rowsA (toZ ps), iV dom], .box [bS nm2, iV (M2 : Int), iV (D2 : Int), rowsA (toZ ps2), iV dom2], .box [.d (.sl 1 (ST.map stD)), .d (.sl 4 (A.map mvD)), .d (.sl 2 (([] : List (Nat × Nat)).map tmD))]]⟩) (fun i => A.length - i) 0 (Nat.zero_le _) ⟨[0, 1, 3], rfl, rfl, rfl, by (repeat (first | exact trivial | refine ⟨rfl, ?_⟩))⟩ fun i hi => ?_
  by_cases hil2 : i < A.length
  · have hg := hmg i hil2
    have hiu : i < us.length := by omega
    have a1 : A[i].2.1 = i := by rw [hg]
    have a2 : A[i].2.2.1 = i / D2 := by rw [hg]
    have a3 : A[i].2.2.2 = i % D2 := by rw [hg]
    have hq := hqN i hiu
    have hri := hrec i hiu
    rw [← a3, List.getD_eq_getElem?_getD, List.getElem?_eq_getElem hiu, Option.getD_some, ← hSTg (i / D2) hq] at hri
    have hqA : A[i].2.2.1 < ST.length := by rw [a2]; exact hq
    have hsq : ST[A[i].2.2.1]'hqA = ST[i / D2]'hq := by simp only [a2]
    rw [← hsq] at hri
    have hmq : (ST[A[i].2.2.1].map sD).length = D2 + ps2.length := by rw [List.length_map]; exact hSTl _ hqA
    have hlo2 : ACalls Tryz.prog 23 [iV ((ST[A[i].2.2.1].map sD).length : Nat), ints af] [] (bools (minusN (List.replicate (D2 + ps2.length) true) (inN (D2 + ps2.length) af))) [] := by
      rw [hmq]; exact A_lose39 (by omega) hal
    have hb1 := (hu _ (List.getElem_mem hiu)).1
    have hiA : A[i].2.1 < us.length := by omega
    have hb2 := (hu _ (List.getElem_mem hiA)).1
    have hse : us[i] = us[A[i].2.1] := by simp only [a1]
    clear hg hrec hSTg hmg hqN
    (repeat' (first
  | (apply yFb; exact rfl; exact rfl)
  | (apply W.qd; (first
    | (apply (yW (hlo2)); exact rfl; exact rfl; (iterate 3 kernel_rfl))|(apply (yW (hri)); exact rfl; exact rfl; (iterate 3 kernel_rfl))|(apply q_mv; (conv => lhs; whnf))|(apply q_as; (conv => lhs; whnf))|(apply yS; (iterate 3 exact rfl))|(apply yT; (iterate 4 exact rfl))|(apply yU; (iterate 4 exact rfl))|(apply q_lss; exact rfl; exact rfl)|(apply q_geq; exact rfl; exact rfl)|(apply q_neq; exact rfl; exact rfl)|(apply q_add; exact rfl; exact rfl; omega)|(apply yAb; exact rfl; exact rfl)|(apply yV; exact rfl; exact rfl)|(apply yX; (iterate 3 exact rfl); (first | omega | (focus (simp; done))))|(apply yY; (iterate 3 exact rfl); (first | omega | (focus (simp; done))))|(apply yGb; (iterate 4 exact rfl); (first | (with_reducible exact rfl) | exact natI_spec rfl | assumption | exact (Int.toNat_of_nonneg (by omega)).symm); (first | omega | (focus (simp only [List.length_map]; omega)) | (focus (simp; done)) | (focus (simp; omega))))|(apply (yDb (u := .d _)); exact rfl; exact rfl)
    | (apply q_neqS; exact rfl; exact rfl; (first | assumption | exact isB_nil | exact isB_xor (by assumption) (by assumption)); (first | assumption | exact isB_nil | exact isB_xor (by assumption) (by assumption)))))|(apply W.ed; (apply yCb; (iterate 3 exact rfl); kernel_rfl))|(apply W.ln; (apply l_st_box; (iterate 6 exact rfl); (iterate 3 kernel_rfl)))|(apply yA)|(apply yB)|(apply yC; kernel_rfl)|(apply yD; exact rfl; kernel_rfl)|(apply yE)|(apply yF; kernel_rfl)|(apply yG)|(apply yH)|(apply yJ)|(apply yP)|(apply yL)|(apply yN)|(refine W.gF _ _ rfl rfl (fun hb => ?_) (fun hb => ?_) <;> ((try simp only [hb, zA, zB]) <;> (try simp only [zC, zD, zE, zF, zG, zH, zI, zJ] at hb) <;> (try (exfalso; omega))))
  | (refine W.cond _ rfl (fun hb => ?_) (fun hb => ?_) <;> ((try simp only [hb, zA, zB]) <;> (try simp only [zC, zD, zE, zF, zG, zH, zI, zJ] at hb) <;> (try (exfalso; omega))))))
    all_goals first
      | (exfalso; omega)
      | (exfalso; contradiction)
      | exact ⟨i + 1, by omega, by omega, [0, 1, 2], rfl, rfl, rfl, iV_eq (by omega), rfl, rfl, rfl, rfl, rfl, trivial⟩
  · (repeat' (first
  | (apply W.qd; (first
    | (apply (yW (hsa)); exact rfl; exact rfl; (iterate 3 kernel_rfl))|(apply q_mv; (conv => lhs; whnf))|(apply q_as; (conv => lhs; whnf))|(apply yS; (iterate 3 exact rfl))|(apply yT; (iterate 4 exact rfl))|(apply q_lss; exact rfl; exact rfl)
    | (apply yV; exact rfl; exact rfl)))|(apply yA)|(apply yB)|(apply yC; kernel_rfl)|(apply yE)|(apply yI)|(apply yJ)|(apply yK)|(apply yM)
  | (refine W.cond _ rfl (fun hb => ?_) (fun hb => ?_) <;> ((try simp only [hb, zA, zB]) <;> (try simp only [zC, zD, zE, zF, zG, zH, zI, zJ] at hb) <;> (try (exfalso; omega))))))
    all_goals exact Ends.b rfl rfl
end Go.Proofs.YtcljokdiblnhiaaGreatDoor
end
