import Derived.Test.YtjaipchlnnjaeaaDoorA7
/- Joined texts: Er7 Er8. -/
section
/- Package erasure over the machine of abstract values: spanOf. -/
namespace Go.Proofs.YtjaipchlnnjaeaaDoor
open Go.RowKit
set_option linter.unusedVariables false
set_option linter.unusedSimpArgs false
set_option maxHeartbeats 4000000
set_option maxRecDepth 100000
attribute [local irreducible] Quiet Eff OpOk AWPG ACont ABlock ACalls AGoto

/-- The first element that is not 0; the length if there is none. -/
def findNZ (l : List Nat) : Nat := l.findIdx fun x => x != 0
/-- What a unit of the basis adds to the span's rows. -/
def spanStep (M D n : Nat) (gen b : List Nat) (k : Nat) (rows : List (Nat × List Nat × List Nat)) : List (Nat × List Nat × List Nat) :=
  let s := redV M n ((gen.drop (b.getD k 0 * D)).take D) rows
  let c := s.2.set k (s.2.getD k 0 ^^^ 1)
  if findNZ s.1 < D then
    rows ++ [(findNZ s.1, addV M (invN M (s.1.getD (findNZ s.1) 0)) (List.replicate D 0) s.1 D, addV M (invN M (s.1.getD (findNZ s.1) 0)) (List.replicate n 0) c n)]
  else rows
def spanAt (M D n : Nat) (gen b : List Nat) : Nat → List (Nat × List Nat × List Nat)
  | 0 => []
  | k + 1 => spanStep M D n gen b k (spanAt M D n gen b k)
structure SpanOk (M D n k : Nat) (rows : List (Nat × List Nat × List Nat)) : Prop where
  r : ∀ r ∈ rows, RedRow M D n r
  l : rows.length ≤ k
theorem pick_row {M R D u : Nat} {gen : List Nat} (h : MxOk M R D gen) (hu : u < R) : ((gen.drop (u * D)).take D).length = D ∧ ∀ x ∈ (gen.drop (u * D)).take D, x < 2 ^ M := by
  have := Nat.mul_le_mul_right D (show u + 1 ≤ R from hu)
  rw [Nat.add_mul, Nat.one_mul] at this
  refine ⟨?_, fun x hx => h.e x (List.mem_of_mem_drop (List.mem_of_mem_take hx))⟩
  rw [List.length_take, List.length_drop, h.n]; omega
theorem one_lt {M : Nat} (hM : FldM M) : 1 < 2 ^ M := by unfold FldM at hM; rcases hM with rfl | rfl <;> decide
theorem span_step {M R D n k : Nat} {gen b : List Nat} {rows : List (Nat × List Nat × List Nat)} (hM : FldM M) (hg : MxOk M R D gen) (hb : ∀ u ∈ b, u < R) (hk : k < b.length) (h : SpanOk M D n k rows) : SpanOk M D n (k + 1) (spanStep M D n gen b k rows) := by
  have hu : b.getD k 0 < R := by
    rw [List.getD_eq_getElem?_getD, List.getElem?_eq_getElem hk]
    exact hb _ (List.getElem_mem _)
  obtain ⟨p1, p2⟩ := pick_row hg hu
  have hs := redV_ok (n := n) (rows := rows) hM p1 p2 h.r
  rw [spanStep]
  generalize redV M n ((gen.drop (b.getD k 0 * D)).take D) rows = s at *
  split
  · rename_i hf
    refine ⟨fun r hr => ?_, by have := h.l; simp; omega⟩
    rcases List.mem_append.1 hr with hr | hr
    · exact h.r r hr
    · obtain rfl : r = _ := by simpa using hr
      have hz : ∀ m, ∀ x ∈ List.replicate m 0, x < 2 ^ M := fun m x hx => by rw [List.eq_of_mem_replicate hx]; exact Nat.two_pow_pos M
      exact ⟨hf, by rw [addV_length, List.length_replicate], by rw [addV_length, List.length_replicate], addV_lt hM (invN_lt _) (hz _) _, addV_lt hM (invN_lt _) (hz _) _⟩
  · exact ⟨h.r, by have := h.l; omega⟩
theorem span_ok {M R D n : Nat} {gen b : List Nat} (hM : FldM M) (hg : MxOk M R D gen) (hb : ∀ u ∈ b, u < R) : ∀ k, k ≤ b.length → SpanOk M D n k (spanAt M D n gen b k)
  | 0, _ => ⟨fun r hr => by simp [spanAt] at hr, Nat.le_refl _⟩
  | k + 1, hk => span_step hM hg hb (by omega) (span_ok hM hg hb k (by omega))
theorem basis_lt {M D : Nat} {ps : List (List Nat)} {hv : List Bool} (hl : hv.length = D + ps.length) : ∀ u ∈ basisN M D ps hv, u < D + ps.length := fun u hu => by
  obtain ⟨j, hj, rfl⟩ := List.mem_map.1 hu
  have h1 := red_lt _ j hj
  rw [List.getD_eq_getElem?_getD, List.getElem?_eq_getElem h1]
  have := presAt_lt (List.getElem_mem h1)
  simp only [Option.getD_some]
  omega
theorem basis_len {M D : Nat} {ps : List (List Nat)} {hv : List Bool} (h : CodeOk M D ps) (hl : hv.length = D + ps.length) : (basisN M D ps hv).length ≤ D := by
  have hpl : (presN hv).length ≤ hv.length := presAt_length hv hv.length
  have hplt : ∀ x ∈ presN hv, x < D + ps.length := fun x hx => by have := presAt_lt hx; omega
  have h2 := h.w
  have := (red_ok (M := M) (R := D) (C := (presN hv).length) (L := trN (presN hv).length D (pickN D (genN D ps) (presN hv))) h.f (trN_length _ _ _) (trN_lt (pick_ok (gen_ok h) hplt (by omega)).e) (presN hv).length).pr
  unfold basisN
  rwa [List.length_map]
/-- The rows of the span of the basis of the present units. -/
def spanN (M D : Nat) (ps : List (List Nat)) (hv : List Bool) : List (Nat × List Nat × List Nat) := spanAt M D (basisN M D ps hv).length (genN D ps) (basisN M D ps hv) (basisN M D ps hv).length
theorem A_spanOf {M D : Nat} {ps : List (List Nat)} {hv : List Bool} (h : CodeOk M D ps) (hl : hv.length = D + ps.length) : ACalls Tryd.prog 52 [cdN M D ps, bools hv] [] (.tup [.opt 0 0, iV 0]) [spB M D ps (basisN M D ps hv) (spanN M D ps hv).length (spanN M D ps hv).length, spR (spanN M D ps hv).length (spanN M D ps hv)] := by
  refine acalls_of_bodyO Tryd.func52 rfl (Nat.le_of_ble_eq_true rfl) ?_
  have h1 := h.d
  have h2 := h.w
  have hM := h.f
  have hbas := A_ebasis h hl
  have hgen := A_egen h
  have hgok := gen_ok h
  have hblt := basis_lt (M := M) (ps := ps) hl
  have hbl := basis_len h hl
  have hsp : spanN M D ps hv = spanAt M D (basisN M D ps hv).length (genN D ps) (basisN M D ps hv) (basisN M D ps hv).length := rfl
  generalize spanN M D ps hv = SP at *
  generalize basisN M D ps hv = B at *
  generalize genN D ps = G at *
  have hok := fun k hk => span_ok (n := B.length) hM hgok hblt k hk
  have hst : ∀ k, spanAt M D B.length G B (k + 1) = spanStep M D B.length G B k (spanAt M D B.length G B k) := fun _ => rfl
  have hs0 : spanAt M D B.length G B 0 = [] := rfl
  generalize spanAt M D B.length G B = S at *
  (repeat' (first
  | (apply W.qd; (first
    | (apply (q_callC (hbas)); exact rfl; exact rfl; kernel_rfl; kernel_rfl; kernel_rfl)
    | (apply (q_callC (hgen)); exact rfl; exact rfl; kernel_rfl; kernel_rfl; kernel_rfl)
    | (apply q_mv; (first
    | exact Eq.refl (AV.d _)
    | exact Eq.refl (AV.osl _ _ _ _)
    | exact Eq.refl (AV.opt _ _)
    | exact Eq.refl (AV.agg _)
    | exact Eq.refl (AV.fpt _ _ _ _)
    | exact Eq.refl (AV.rpt _ _ _ _)
    | exact Eq.refl (AV.fn _ _)
    | exact Eq.refl (AV.tup _)
    | exact Eq.refl AV.top))
    | (apply q_as; (first
    | exact Eq.refl (AV.d _)
    | exact Eq.refl (AV.osl _ _ _ _)
    | exact Eq.refl (AV.opt _ _)
    | exact Eq.refl (AV.agg _)
    | exact Eq.refl (AV.fpt _ _ _ _)
    | exact Eq.refl (AV.rpt _ _ _ _)
    | exact Eq.refl (AV.fn _ _)
    | exact Eq.refl (AV.tup _)
    | exact Eq.refl AV.top))
    | (apply q_ld_boxF; exact rfl; exact rfl; exact rfl; exact rfl)
    | (apply q_neq; exact rfl; exact rfl)
    | (apply q_extract; exact rfl; exact rfl)
    | (apply q_len_sl; exact rfl; exact rfl)
    | (apply q_buildF; exact rfl; exact rfl; kernel_rfl)))
  | (apply W.ed; (first
    | (apply e_boxF; exact rfl; exact rfl; exact rfl; kernel_rfl; kernel_rfl)
    | (apply e_allocF; exact rfl; exact rfl; exact rfl; kernel_rfl)))
  | (apply W.ln; (apply l_st_box; exact rfl; exact rfl; exact rfl; exact rfl; exact rfl; exact rfl; kernel_rfl; kernel_rfl; kernel_rfl))
  | (apply AWP.seq)
  | (apply ACont_normal)
  | (apply W.region; kernel_rfl)
  | (apply Walk.nil)
  | (apply AWP.block)
  | (apply AWP.skip)
  | (apply AWP.label)
  | (apply AWP.scope)
  | (apply W.condF; exact rfl)))
  refine AWP.nilBox (l' := [.d .any, iV M, iV D, rowsN ps, .d .any, nats B, .osl 3 0 0 0]) 2 6 3 103 rfl rfl (by omega) rfl rfl rfl rfl ?_
  refine AWP.loopW (α := Nat) (fun k => k ≤ B.length) (fun k => ⟨[(40, iV k), (39, iV B.length), (38, nats B), (10, .opt 2 0), (2, .opt 0 0), (8, .opt 1 0)], [.box [.d .any, iV M, iV D, rowsN ps, .d .any], .box [iV M, iV (D + ps.length : Nat), iV D, nats G], .box [.d .any, iV M, iV D, rowsN ps, .d .any, nats B, .osl 3 (S k).length 0 (S k).length], .row (S k).length 3 103 ((S k).map redD)]⟩) (fun k => B.length - k) 0 (by omega) ?wk0 fun k hk => ?_
  case wk0 =>
    rw [hs0]
    exact ⟨[0, 1, 2, 3], rfl, rfl, rfl, rfl, iV_eq (by simp), rfl, rfl, rfl, rfl, trivial⟩
  by_cases hkl : k < B.length
  · have hu := hblt B[k] (List.getElem_mem _)
    obtain ⟨p1, p2⟩ := pick_row hgok hu
    have hk1 := hok k hk
    have hS := Lib.hid (hst k)
    generalize S k = rows at *
    have hred := A_sreduce (rv := rows.length) (ps := ps) (us := B) hM h1 (by omega) (by omega) (by have := hk1.l; omega) p1 p2 hk1.r
    have hsub := redV_ok (n := B.length) (rows := rows) hM p1 p2 hk1.r
    generalize hZ : redV M B.length ((G.drop (B[k] * D)).take D) rows = Z at *
    replace hZ := Lib.hid hZ
    obtain ⟨R, K⟩ := Z
    have hr1 := hsub.l1
    have hr2 := hsub.l2
    dsimp only at hr1 hr2 hred
    have hc1 : K[k]'(by omega) < 2 ^ M := hsub.e2 _ (List.getElem_mem _)
    have hc2 := hM.cap hc1
    have hGn := hgok.n
    have hGl : B[k] * D + D ≤ (D + ps.length) * D := by
      have := Nat.mul_le_mul_right D (show B[k] + 1 ≤ D + ps.length from hu)
      rw [Nat.add_mul, Nat.one_mul] at this
      omega
    have hGu : (D + ps.length) * D ≤ 1024 := Nat.mul_le_mul (show D + ps.length ≤ 32 by omega) (show D ≤ 32 by omega)
    have h6 : ((B[k] : Int) + 1) * (D : Int) = ((B[k] : Int) * (D : Int)) + D := by rw [Int.add_mul, Int.one_mul]
    have h8 : -9223372036854775808 ≤ ((B[k] : Int) + 1) * (D : Int) ∧ ((B[k] : Int) + 1) * (D : Int) < 9223372036854775808 := by rw [h6]; omega
    have h7 : (B[k] + 1) * D = B[k] * D + D := by rw [Nat.add_mul, Nat.one_mul]
    have hrow : (G.drop (B[k] * D)).take ((B[k] + 1) * D - B[k] * D) = (G.drop (B[k] * D)).take D := by rw [h7, Nat.add_sub_cancel_left]
    rw [← hrow] at hred
    clear p1 p2
    (repeat' (first
  | (apply W.qd; (first
    | (apply q_mv; (first
    | exact Eq.refl (AV.d _)
    | exact Eq.refl (AV.osl _ _ _ _)
    | exact Eq.refl (AV.opt _ _)
    | exact Eq.refl (AV.agg _)
    | exact Eq.refl (AV.fpt _ _ _ _)
    | exact Eq.refl (AV.rpt _ _ _ _)
    | exact Eq.refl (AV.fn _ _)
    | exact Eq.refl (AV.tup _)
    | exact Eq.refl AV.top))
    | (apply q_as; (first
    | exact Eq.refl (AV.d _)
    | exact Eq.refl (AV.osl _ _ _ _)
    | exact Eq.refl (AV.opt _ _)
    | exact Eq.refl (AV.agg _)
    | exact Eq.refl (AV.fpt _ _ _ _)
    | exact Eq.refl (AV.rpt _ _ _ _)
    | exact Eq.refl (AV.fn _ _)
    | exact Eq.refl (AV.tup _)
    | exact Eq.refl AV.top))
    | (apply q_fld_optF; exact rfl; exact rfl; exact rfl)
    | (apply q_ld_box; exact rfl; exact rfl; exact rfl; exact rfl)
    | (apply q_lss; exact rfl; exact rfl)
    | (apply q_add; exact rfl; exact rfl; omega)
    | (apply q_mul; exact rfl; exact rfl; (first | omega | assumption))
    | (apply q_extract; exact rfl; exact rfl)
    | (apply q_len_osl; exact rfl; exact rfl; exact rfl)
    | (apply q_ld_map; exact rfl; exact rfl; exact rfl; (first | omega | (focus (simp; done))))
    | (apply q_slc_map; exact rfl; exact rfl; (first | exact ⟨_, _, rfl, rfl⟩ | exact ⟨_, _, rfl, natI_spec rfl⟩ | exact ⟨_, _, rfl, (Int.toNat_of_nonneg (by omega)).symm⟩ | exact rfl); (first | exact ⟨_, _, rfl, rfl⟩ | exact ⟨_, _, rfl, natI_spec rfl⟩ | exact ⟨_, _, rfl, (Int.toNat_of_nonneg (by omega)).symm⟩ | exact rfl); (first | omega | (focus (simp only [List.length_map]; omega)) | (focus (simp; done)) | (focus (simp; omega))); (first | omega | (focus (simp only [List.length_map]; omega)) | (focus (simp; done)) | (focus (simp; omega))); exact Or.inl rfl)
    | (apply q_ix_slF; exact rfl; exact rfl; exact rfl; exact rfl; (first | (with_reducible exact rfl) | exact natI_spec rfl | assumption | exact (Int.toNat_of_nonneg (by omega)).symm); (first | omega | (focus (simp only [List.length_map]; omega)) | (focus (simp; done)) | (focus (simp; omega))))
    | (apply q_xorN; exact rfl; exact rfl; (first | (with_reducible exact rfl) | exact natI_spec rfl | assumption | exact (Int.toNat_of_nonneg (by omega)).symm); (first | (with_reducible exact rfl) | exact natI_spec rfl | assumption | exact (Int.toNat_of_nonneg (by omega)).symm); (first | (apply hcap1; omega) | (apply hcap2; omega) | (apply hcap3; omega) | (apply hcap4; omega) | (focus (show _ < 9223372036854775808; omega)) | (focus (show _ < 256; omega)) | assumption); (first | (apply hcap1; omega) | (apply hcap2; omega) | (apply hcap3; omega) | (apply hcap4; omega) | (focus (show _ < 9223372036854775808; omega)) | (focus (show _ < 256; omega)) | assumption))
    | (apply q_ix_osl0; exact rfl; exact rfl; exact rfl; exact rfl; (first | (with_reducible exact rfl) | exact natI_spec rfl | assumption | exact (Int.toNat_of_nonneg (by omega)).symm); (first | omega | (focus (simp only [List.length_map]; omega)) | (focus (simp; done)) | (focus (simp; omega))))
    | (apply q_ld_rptm; exact rfl; exact rfl; exact rfl; exact rfl; (first | omega | (focus (simp only [List.length_map]; omega)) | (focus (simp; done)) | (focus (simp; omega))))))
  | (apply W.ed; (apply (e_callJ (js := [2, 3]) (hred)); exact rfl; exact rfl; exact rfl; exact rfl; exact rfl; kernel_rfl; kernel_rfl))
  | (apply W.ln; (apply l_st_rpt; exact rfl; exact rfl; exact rfl; exact rfl; exact rfl; exact rfl; exact rfl; exact fun _ => rfl; (first | omega | (focus (simp only [List.length_map]; omega)) | (focus (simp; omega)))))
  | (apply AWP.seq)
  | (apply ACont_normal)
  | (apply W.region; kernel_rfl)
  | (apply Walk.nil)
  | (apply AWP.block)
  | (apply AWP.skip)
  | (refine W.cond _ rfl (fun hb => ?_) (fun hb => ?_) <;> ((try simp only [hb, Bool.not_true, Bool.not_false]) <;> (try simp only [decide_eq_true_eq, decide_eq_false_iff_not, Bool.not_eq_true', Bool.not_eq_false', Int.not_lt, Int.not_le, List.length_map, not_true_eq_false] at hb) <;> (try (exfalso; omega))))))
    have hC : (R, K).2.set k ((R, K).2.getD k 0 ^^^ 1) = K.set k (K[k]'(by omega) ^^^ 1) := by
      show K.set k (K.getD k 0 ^^^ 1) = _
      rw [List.getD_eq_getElem?_getD, List.getElem?_eq_getElem (show k < K.length by omega)]
      rfl
    have hBk : B.getD k 0 = B[k] := by
      rw [List.getD_eq_getElem?_getD, List.getElem?_eq_getElem hkl]
      rfl
    have hStep : ∀ j, findNZ R = j → spanStep M D B.length G B k rows = if j < D then rows ++ [(j, addV M (invN M (R.getD j 0)) (List.replicate D 0) R D, addV M (invN M (R.getD j 0)) (List.replicate B.length 0) (K.set k (K[k]'(by omega) ^^^ 1)) B.length)] else rows := fun j hj => by
      subst hj
      rw [spanStep, hBk, hZ.out, hC]
    have hCe : ∀ x ∈ K.set k (K[k]'(by omega) ^^^ 1), x < 2 ^ M := fun x hx => by
      rcases List.mem_or_eq_of_mem_set hx with hx | rfl
      · exact hsub.e2 x hx
      · exact Nat.xor_lt_two_pow hc1 (one_lt hM)
    have hCl : (K.set k (K[k]'(by omega) ^^^ 1)).length = B.length := by rw [List.length_set]; exact hr2
    have hRe := hsub.e1
    dsimp only at hRe
    clear hC hBk hZ hsub hc2
    generalize K.set k (K[k]'(by omega) ^^^ 1) = C at *
    refine AWP.hole rfl (AWP.hole rfl (AWP.hole rfl ?_))
    refine AWP.loopW (α := Nat) (fun c => c ≤ D ∧ ∀ i, i < c → ∀ hi : i < R.length, R[i] = 0) (fun c => ⟨[(70, iV c), (69, iV D), (68, nats R), (13, nats R), (14, nats C), (11, iV k), (10, .opt 2 0), (2, .opt 0 0), (8, .opt 1 0), (40, iV k), (39, iV B.length), (38, nats B)], [.box [.d .any, iV M, iV D, rowsN ps, .d .any], .box [iV M, iV (D + ps.length : Nat), iV D, nats G], .box [.d .any, iV M, iV D, rowsN ps, .d .any, nats B, .osl 3 rows.length 0 rows.length], .row rows.length 3 103 (rows.map redD), hole, hole, hole]⟩) (fun c => D - c) 0 ⟨by omega, fun i hi => by omega⟩ ?wk1 fun c hc => ?_
    case wk1 =>
      exact ⟨[0, 1, 2, 3, 6, 7, 8], rfl, rfl, rfl, rfl, rfl, (frz_rowJ rfl rfl (by simp; omega)).symm, (frz_rowJ rfl rfl (by simp; omega)).symm, (frz_rowJ rfl rfl (by simp; omega)).symm, rfl, rfl, rfl, rfl, rfl, rfl, rfl, trivial⟩
    obtain ⟨hcD, hcz⟩ := hc
    by_cases hcl : c < D
    · by_cases hz : R[c]'(by omega) = 0
      · (repeat' (first
  | (apply W.qd; (first
    | (apply q_mv; (first
    | exact Eq.refl (AV.d _)
    | exact Eq.refl (AV.osl _ _ _ _)
    | exact Eq.refl (AV.opt _ _)
    | exact Eq.refl (AV.agg _)
    | exact Eq.refl (AV.fpt _ _ _ _)
    | exact Eq.refl (AV.rpt _ _ _ _)
    | exact Eq.refl (AV.fn _ _)
    | exact Eq.refl (AV.tup _)
    | exact Eq.refl AV.top))
    | (apply q_as; (first
    | exact Eq.refl (AV.d _)
    | exact Eq.refl (AV.osl _ _ _ _)
    | exact Eq.refl (AV.opt _ _)
    | exact Eq.refl (AV.agg _)
    | exact Eq.refl (AV.fpt _ _ _ _)
    | exact Eq.refl (AV.rpt _ _ _ _)
    | exact Eq.refl (AV.fn _ _)
    | exact Eq.refl (AV.tup _)
    | exact Eq.refl AV.top))
    | (apply q_lss; exact rfl; exact rfl)
    | (apply q_eql; exact rfl; exact rfl)
    | (apply q_add; exact rfl; exact rfl; omega)
    | (apply q_ld_map; exact rfl; exact rfl; exact rfl; (first | omega | (focus (simp; done))))
    | (apply q_ix_slF; exact rfl; exact rfl; exact rfl; exact rfl; (first | (with_reducible exact rfl) | exact natI_spec rfl | assumption | exact (Int.toNat_of_nonneg (by omega)).symm); (first | omega | (focus (simp only [List.length_map]; omega)) | (focus (simp; done)) | (focus (simp; omega))))))
  | (apply AWP.seq)
  | (apply ACont_normal)
  | (apply W.region; kernel_rfl)
  | (apply Walk.nil)
  | (apply AWP.block)
  | (apply AWP.skip)
  | (apply AWP.exit)
  | (apply ACont_exit)
  | (apply ABlock_exit)
  | (refine W.cond _ rfl (fun hb => ?_) (fun hb => ?_) <;> ((try simp only [hb, Bool.not_true, Bool.not_false]) <;> (try simp only [decide_eq_true_eq, decide_eq_false_iff_not, Bool.not_eq_true', Bool.not_eq_false', Int.not_lt, Int.not_le, List.length_map, not_true_eq_false] at hb) <;> (try (exfalso; omega))))))
        refine ⟨c + 1, ⟨by omega, fun i hi hi2 => ?_⟩, by omega, [0, 1, 2, 3, 4, 5, 6], rfl, rfl, rfl, iV_eq (by omega), rfl, rfl, rfl, rfl, rfl, rfl, rfl, rfl, rfl, rfl, rfl, trivial⟩
        by_cases e : i = c
        · subst e; exact hz
        · exact hcz i (by omega) hi2
      · have hx : R[c]'(by omega) < 2 ^ M := hRe _ (List.getElem_mem _)
        have hinv := A_inv hM hx hz
        have hfl : invN M (R[c]'(by omega)) < 2 ^ M := invN_lt _
        have hfz : findNZ R = c := by
          unfold findNZ
          rw [List.findIdx_eq (by omega)]
          refine ⟨by simpa using hz, fun j hj => ?_⟩
          simp [hcz j hj (by omega)]
        have hst2 := hStep c hfz
        rw [if_pos hcl, List.getD_eq_getElem?_getD, List.getElem?_eq_getElem (show c < R.length by omega)] at hst2
        simp only [Option.getD_some] at hst2
        generalize invN M (R[c]'(by omega)) = f at *
        have hzr : ∀ m, ∀ x ∈ List.replicate m 0, x < 2 ^ M := fun m x hx => by rw [List.eq_of_mem_replicate hx]; exact Nat.two_pow_pos M
        have hmR : (R.map kD).length = D := by rw [List.length_map]; exact hr1
        have hmC : (C.map kD).length = B.length := by rw [List.length_map]; exact hCl
        have a1 := A_sadd (D := D) (v := 0) (rv := rows.length) (rn := rows.length) (ps := ps) (us := B) (rows := rows) (T := List.replicate (R.map kD).length 0) (l := R) hM hfl (hzr _) hRe List.length_replicate (by rw [List.length_replicate]; omega) (by omega)
        have a2 := A_sadd (D := D) (v := 0) (rv := rows.length) (rn := rows.length) (ps := ps) (us := B) (rows := rows) (T := List.replicate (C.map kD).length 0) (l := C) hM hfl (hzr _) hCe List.length_replicate (by rw [List.length_replicate]; omega) (by omega)
        have hX : addV M f (List.replicate (R.map kD).length 0) R R.length = addV M f (List.replicate D 0) R D := by rw [hmR, hr1]
        have hY : addV M f (List.replicate (C.map kD).length 0) C C.length = addV M f (List.replicate B.length 0) C B.length := by rw [hmC, hCl]
        have hXl : (addV M f (List.replicate (R.map kD).length 0) R R.length).length = (R.map kD).length := by rw [addV_length, List.length_replicate]
        have hYl : (addV M f (List.replicate (C.map kD).length 0) C C.length).length = (C.map kD).length := by rw [addV_length, List.length_replicate]
        rw [← hX, ← hY] at hst2
        generalize addV M f (List.replicate (R.map kD).length 0) R R.length = X at *
        generalize addV M f (List.replicate (C.map kD).length 0) C C.length = Y at *
        replace hst2 := Lib.hid hst2
        replace hX := Lib.hid hX
        replace hY := Lib.hid hY
        (repeat' (first
  | (apply W.qd; (first
    | (apply (q_callC (hinv)); exact rfl; exact rfl; kernel_rfl; kernel_rfl; kernel_rfl)
    | (apply q_mv; (first
    | exact Eq.refl (AV.d _)
    | exact Eq.refl (AV.osl _ _ _ _)
    | exact Eq.refl (AV.opt _ _)
    | exact Eq.refl (AV.agg _)
    | exact Eq.refl (AV.fpt _ _ _ _)
    | exact Eq.refl (AV.rpt _ _ _ _)
    | exact Eq.refl (AV.fn _ _)
    | exact Eq.refl (AV.tup _)
    | exact Eq.refl AV.top))
    | (apply q_as; (first
    | exact Eq.refl (AV.d _)
    | exact Eq.refl (AV.osl _ _ _ _)
    | exact Eq.refl (AV.opt _ _)
    | exact Eq.refl (AV.agg _)
    | exact Eq.refl (AV.fpt _ _ _ _)
    | exact Eq.refl (AV.rpt _ _ _ _)
    | exact Eq.refl (AV.fn _ _)
    | exact Eq.refl (AV.tup _)
    | exact Eq.refl AV.top))
    | (apply q_fld_optF; exact rfl; exact rfl; exact rfl)
    | (apply q_ld_box; exact rfl; exact rfl; exact rfl; exact rfl)
    | (apply q_lss; exact rfl; exact rfl)
    | (apply q_eql; exact rfl; exact rfl)
    | (apply q_extract; exact rfl; exact rfl)
    | (apply q_len_sl; exact rfl; exact rfl)
    | (apply q_ld_map; exact rfl; exact rfl; exact rfl; (first | omega | (focus (simp; done))))
    | (apply q_buildF; exact rfl; exact rfl; kernel_rfl)
    | (apply q_ix_slF; exact rfl; exact rfl; exact rfl; exact rfl; (first | (with_reducible exact rfl) | exact natI_spec rfl | assumption | exact (Int.toNat_of_nonneg (by omega)).symm); (first | omega | (focus (simp only [List.length_map]; omega)) | (focus (simp; done)) | (focus (simp; omega))))))
  | (apply W.ld; (first
    | (apply l_alloc; exact rfl; exact rfl; exact rfl; kernel_rfl; kernel_rfl)
    | (apply (l_make (f := kD) 0); exact rfl; exact rfl; exact rfl; (first | (with_reducible exact rfl) | exact natI_spec rfl | assumption | exact (Int.toNat_of_nonneg (by omega)).symm); exact rfl; exact rfl; exact rfl; exact rfl; exact rfl; exact rfl; kernel_rfl; omega)))
  | (apply W.ed; (apply (e_callJ (js := [2, 3, 4]) (a1)); exact rfl; exact rfl; exact rfl; exact rfl; exact rfl; kernel_rfl; kernel_rfl))
  | (apply W.ln; (apply l_st_box; exact rfl; exact rfl; exact rfl; exact rfl; exact rfl; exact rfl; kernel_rfl; kernel_rfl; kernel_rfl))
  | (apply AWP.seq)
  | (apply ACont_normal)
  | (apply W.region; kernel_rfl)
  | (apply W.regionD; exact rfl; kernel_rfl)
  | (apply Walk.nil)
  | (apply W.chk; kernel_rfl)
  | (apply AWP.block)
  | (apply AWP.skip)
  | (refine W.cond _ rfl (fun hb => ?_) (fun hb => ?_) <;> ((try simp only [hb, Bool.not_true, Bool.not_false]) <;> (try simp only [decide_eq_true_eq, decide_eq_false_iff_not, Bool.not_eq_true', Bool.not_eq_false', Int.not_lt, Int.not_le, List.length_map, not_true_eq_false] at hb) <;> (try (exfalso; omega))))))
        (iterate 1 (all_goals (try (first
  | (apply W.ed; (apply (e_callJ (js := [2, 3, 5]) (a2)); exact rfl; exact rfl; exact rfl; exact rfl; exact rfl; kernel_rfl; kernel_rfl))))))
        (iterate 1 (all_goals (try (first
  | (apply Walk.nil)))))
        (iterate 1 (all_goals (try (first
  | (apply ACont_normal)))))
        refine AWP.wk ⟨[(10, .opt 2 0), (19, .opt 4 0), (2, .opt 0 0), (8, .opt 1 0), (40, iV k), (39, iV B.length), (38, nats B)], [.box [.d .any, iV M, iV D, rowsN ps, .d .any], .box [iV M, iV (D + ps.length : Nat), iV D, nats G], .box [.d .any, iV M, iV D, rowsN ps, .d .any, nats B, .osl 3 rows.length 0 rows.length], .row rows.length 3 103 (rows.map redD), .box [iV c, nats X, nats Y]]⟩ ⟨[0, 1, 2, 3, 6], rfl, rfl, ?wk2, rfl, rfl, rfl, rfl, rfl, rfl, rfl, trivial⟩ ?_
        case wk2 =>
          have z1 := frz_rowJ (own := [.box [.d .any, iV M, iV D, rowsN ps, .d .any], .box [iV M, iV (D + ps.length : Nat), iV D, nats G], .box [.d .any, iV M, iV D, rowsN ps, .d .any, nats B, .osl 3 rows.length 0 rows.length], .row rows.length 3 103 (rows.map redD), .row 0 1 3 (X.map kD), .row 0 1 3 (Y.map kD), .box [iV c, .osl 4 0 0 (R.map kD).length, .osl 5 0 0 (C.map kD).length]]) (js := [0, 1, 2, 3, 6]) (i := 4) (ver := 0) (n := (R.map kD).length) rfl rfl (by simp only [List.length_map] at hXl ⊢; exact hXl.symm)
          have z2 := frz_rowJ (own := [.box [.d .any, iV M, iV D, rowsN ps, .d .any], .box [iV M, iV (D + ps.length : Nat), iV D, nats G], .box [.d .any, iV M, iV D, rowsN ps, .d .any, nats B, .osl 3 rows.length 0 rows.length], .row rows.length 3 103 (rows.map redD), .row 0 1 3 (X.map kD), .row 0 1 3 (Y.map kD), .box [iV c, .osl 4 0 0 (R.map kD).length, .osl 5 0 0 (C.map kD).length]]) (js := [0, 1, 2, 3, 6]) (i := 5) (ver := 0) (n := (C.map kD).length) rfl rfl (by simp only [List.length_map] at hYl ⊢; exact hYl.symm)
          show _ = [Ent.box [.d .any, iV M, iV D, rowsN ps, .d .any], .box [iV M, iV (D + ps.length : Nat), iV D, nats G], .box [.d .any, iV M, iV D, rowsN ps, .d .any, nats B, .osl 3 rows.length 0 rows.length], .row rows.length 3 103 (rows.map redD), .box [iV c, AV.frz [.box [.d .any, iV M, iV D, rowsN ps, .d .any], .box [iV M, iV (D + ps.length : Nat), iV D, nats G], .box [.d .any, iV M, iV D, rowsN ps, .d .any, nats B, .osl 3 rows.length 0 rows.length], .row rows.length 3 103 (rows.map redD), .row 0 1 3 (X.map kD), .row 0 1 3 (Y.map kD), .box [iV c, .osl 4 0 0 (R.map kD).length, .osl 5 0 0 (C.map kD).length]] [0, 1, 2, 3, 6] (.osl 4 0 0 (R.map kD).length), AV.frz [.box [.d .any, iV M, iV D, rowsN ps, .d .any], .box [iV M, iV (D + ps.length : Nat), iV D, nats G], .box [.d .any, iV M, iV D, rowsN ps, .d .any, nats B, .osl 3 rows.length 0 rows.length], .row rows.length 3 103 (rows.map redD), .row 0 1 3 (X.map kD), .row 0 1 3 (Y.map kD), .box [iV c, .osl 4 0 0 (R.map kD).length, .osl 5 0 0 (C.map kD).length]] [0, 1, 2, 3, 6] (.osl 5 0 0 (C.map kD).length)]]
          rw [z1, z2]
        have hrl := hk1.l
        (repeat' (first
  | (apply W.qd; (first
    | (apply q_mv; (first
    | exact Eq.refl (AV.d _)
    | exact Eq.refl (AV.osl _ _ _ _)
    | exact Eq.refl (AV.opt _ _)
    | exact Eq.refl (AV.agg _)
    | exact Eq.refl (AV.fpt _ _ _ _)
    | exact Eq.refl (AV.rpt _ _ _ _)
    | exact Eq.refl (AV.fn _ _)
    | exact Eq.refl (AV.tup _)
    | exact Eq.refl AV.top))
    | (apply q_fld_optF; exact rfl; exact rfl; exact rfl)
    | (apply q_ld_box; exact rfl; exact rfl; exact rfl; exact rfl)
    | (apply q_ld_boxF; exact rfl; exact rfl; exact rfl; exact rfl)
    | (apply q_add; exact rfl; exact rfl; omega)
    | (apply q_nil_opt; exact rfl)
    | (apply q_litF; exact rfl; exact rfl; exact rfl; exact rfl; exact rfl; kernel_rfl; kernel_rfl; exact rfl)))
  | (apply W.ed; ((apply (e_app1F (f := redD) (c, X, Y)); exact rfl; exact rfl; exact rfl; exact rfl; exact rfl; exact rfl; exact rfl; exact rfl; omega)))
  | (apply W.ln; (apply l_st_box; exact rfl; exact rfl; exact rfl; exact rfl; exact rfl; exact rfl; kernel_rfl; kernel_rfl; kernel_rfl))
  | (apply AWP.seq)
  | (apply ACont_normal)
  | (apply W.region; kernel_rfl)
  | (apply W.regionD; exact rfl; kernel_rfl)
  | (apply Walk.nil)
  | (apply W.chk; kernel_rfl)
  | (apply AWP.exit)
  | (apply ACont_exit)
  | (apply ABlock_exit)
  | (apply ABlock_exit'; exact rfl)))
        have hS2 : S (k + 1) = rows ++ [(c, X, Y)] := hS.out.trans hst2.out
        refine ⟨k + 1, by omega, by omega, ?_⟩
        rw [hS2, show (rows ++ [(c, X, Y)]).length = rows.length + 1 by simp]
        exact ⟨[0, 1, 2, 3], rfl, rfl, rfl, iV_eq (by omega), rfl, rfl, rfl, rfl, rfl, trivial⟩
    · have e : c = D := by omega
      have hfz : findNZ R = D := by
        unfold findNZ
        rw [← hr1]
        refine List.findIdx_eq_length.2 fun x hx => ?_
        obtain ⟨i, hi, rfl⟩ := List.mem_iff_getElem.1 hx
        simp [hcz i (by omega) hi]
      have hst2 := hStep D hfz
      rw [if_neg (Nat.lt_irrefl D)] at hst2
      have hS2 := Lib.hid (hS.out.trans hst2)
      (repeat' (first
  | (apply W.qd; (first
    | (apply q_mv; (first
    | exact Eq.refl (AV.d _)
    | exact Eq.refl (AV.osl _ _ _ _)
    | exact Eq.refl (AV.opt _ _)
    | exact Eq.refl (AV.agg _)
    | exact Eq.refl (AV.fpt _ _ _ _)
    | exact Eq.refl (AV.rpt _ _ _ _)
    | exact Eq.refl (AV.fn _ _)
    | exact Eq.refl (AV.tup _)
    | exact Eq.refl AV.top))
    | (apply q_lss; exact rfl; exact rfl)
    | (apply q_add; exact rfl; exact rfl; omega)))
  | (apply AWP.seq)
  | (apply ACont_normal)
  | (apply W.region; kernel_rfl)
  | (apply Walk.nil)
  | (apply AWP.exit)
  | (apply ACont_exit)
  | (apply ABlock_normal)
  | (apply ABlock_exit)
  | (refine W.cond _ rfl (fun hb => ?_) (fun hb => ?_) <;> ((try simp only [hb, Bool.not_true, Bool.not_false]) <;> (try simp only [decide_eq_true_eq, decide_eq_false_iff_not, Bool.not_eq_true', Bool.not_eq_false', Int.not_lt, Int.not_le, List.length_map, not_true_eq_false] at hb) <;> (try (exfalso; omega))))))
      refine ⟨k + 1, by omega, by omega, ?_⟩
      rw [hS2.out]
      exact ⟨[0, 1, 2, 3], rfl, rfl, rfl, iV_eq (by omega), rfl, rfl, rfl, rfl, rfl, trivial⟩
  · have e : B.length = k := by omega
    subst e
    rw [← hsp]
    (repeat' (first
  | (apply W.qd; (first
    | (apply q_mv; (first
    | exact Eq.refl (AV.d _)
    | exact Eq.refl (AV.osl _ _ _ _)
    | exact Eq.refl (AV.opt _ _)
    | exact Eq.refl (AV.agg _)
    | exact Eq.refl (AV.fpt _ _ _ _)
    | exact Eq.refl (AV.rpt _ _ _ _)
    | exact Eq.refl (AV.fn _ _)
    | exact Eq.refl (AV.tup _)
    | exact Eq.refl AV.top))
    | (apply q_as; (first
    | exact Eq.refl (AV.d _)
    | exact Eq.refl (AV.osl _ _ _ _)
    | exact Eq.refl (AV.opt _ _)
    | exact Eq.refl (AV.agg _)
    | exact Eq.refl (AV.fpt _ _ _ _)
    | exact Eq.refl (AV.rpt _ _ _ _)
    | exact Eq.refl (AV.fn _ _)
    | exact Eq.refl (AV.tup _)
    | exact Eq.refl AV.top))
    | (apply q_lss; exact rfl; exact rfl)))
  | (apply AWP.seq)
  | (apply ACont_normal)
  | (apply W.region; kernel_rfl)
  | (apply Walk.nil)
  | (apply AWP.exit)
  | (apply AWP.ret)
  | (apply ACont_exit)
  | (apply AGoto_ret)
  | (apply ABlock_exit)
  | (refine W.cond _ rfl (fun hb => ?_) (fun hb => ?_) <;> ((try simp only [hb, Bool.not_true, Bool.not_false]) <;> (try simp only [decide_eq_true_eq, decide_eq_false_iff_not, Bool.not_eq_true', Bool.not_eq_false', Int.not_lt, Int.not_le, List.length_map, not_true_eq_false] at hb) <;> (try (exfalso; omega))))))
    exact ⟨.inl rfl, [2, 3], [.opt 2 0, iV 0], rfl, rfl, ⟨rfl, rfl, trivial⟩, AVle.of_eq rfl, rfl⟩
end Go.Proofs.YtjaipchlnnjaeaaDoor
end

section
/- Package erasure over the machine of abstract values: span.terms, Combination, Recoverable, Decodable. -/
namespace Go.Proofs.YtjaipchlnnjaeaaDoor
open Go.RowKit
set_option linter.unusedVariables false
set_option linter.unusedSimpArgs false
set_option maxHeartbeats 4000000
set_option maxRecDepth 100000
attribute [local irreducible] Quiet Eff OpOk AWPG ACont ABlock ACalls AGoto

/-- A term, as data. -/
def tmD (t : Nat × Nat) : List Dat := [.v (.int .i64 t.1), .v (.int .i64 t.2)]
abbrev tmsA (l : List (Nat × Nat)) : AV := .d (.sl 2 (l.map tmD))
/-- The terms of the first k coefficients: those that are not 0. -/
def tmsAt (us K : List Nat) (k : Nat) : List (Nat × Nat) := ((List.range k).filter fun i => K.getD i 0 != 0).map fun i => (us.getD i 0, K.getD i 0)
theorem tmsAt_succ (us K : List Nat) (k : Nat) : tmsAt us K (k + 1) = if K.getD k 0 = 0 then tmsAt us K k else tmsAt us K k ++ [(us.getD k 0, K.getD k 0)] := by
  unfold tmsAt
  rw [List.range_succ, List.filter_append, List.map_append]
  by_cases h : K.getD k 0 = 0
  · rw [if_pos h]; simp only [List.filter_cons, h]; simp
  · have h2 : (K.getD k 0 != 0) = true := by simpa using h
    rw [if_neg h]; simp only [List.filter_cons, h2, if_true, List.filter_nil, List.map_cons, List.map_nil]
theorem tmsAt_length (us K : List Nat) (k : Nat) : (tmsAt us K k).length ≤ k := by
  unfold tmsAt
  rw [List.length_map]
  exact Nat.le_trans (List.length_filter_le _ _) (by simp)
/-- A unit's terms; none, if it is no combination of the rows. -/
def termsN (M D : Nat) (ps : List (List Nat)) (us : List Nat) (rows : List (Nat × List Nat × List Nat)) (u : Nat) : Option (List (Nat × Nat)) :=
  let s := redV M us.length (((genN D ps).drop (u * D)).take D) rows
  if s.1.all (fun x => decide (x = 0)) then some (tmsAt us s.2 us.length) else none
/-- What is handed back: the terms, or the error. -/
def termsA : Option (List (Nat × Nat)) → AV
  | some l => .tup [tmsA l, iV 0]
  | none => .tup [tmsA [], iV 11]
theorem A_tz1 (x : Int) : ACalls Tryd.prog 78 [iV x] [] (bV (decide (x = 0))) [] := by
  refine acalls_of_bodyO Tryd.func78 rfl (Nat.le_of_ble_eq_true rfl) ?_
  (repeat' (first
  | (apply W.qd; (first
    | (apply q_mv; (first
    | exact Eq.refl (AV.d _)
    | exact Eq.refl (AV.osl _ _ _ _)
    | exact Eq.refl (AV.opt _ _)
    | exact Eq.refl (AV.agg _)
    | exact Eq.refl (AV.fpt _ _ _ _)
    | exact Eq.refl (AV.rpt _ _ _ _)
    | exact Eq.refl (AV.fn _ _)
    | exact Eq.refl (AV.tup _)
    | exact Eq.refl AV.top))
    | (apply q_as; (first
    | exact Eq.refl (AV.d _)
    | exact Eq.refl (AV.osl _ _ _ _)
    | exact Eq.refl (AV.opt _ _)
    | exact Eq.refl (AV.agg _)
    | exact Eq.refl (AV.fpt _ _ _ _)
    | exact Eq.refl (AV.rpt _ _ _ _)
    | exact Eq.refl (AV.fn _ _)
    | exact Eq.refl (AV.tup _)
    | exact Eq.refl AV.top))
    | (apply q_eql; exact rfl; exact rfl)))
  | (apply AWP.seq)
  | (apply ACont_normal)
  | (apply W.region; kernel_rfl)
  | (apply Walk.nil)
  | (apply AWP.ret)))
  exact ⟨.inl rfl, [], [bV (decide (x = 0))], rfl, rfl, ⟨rfl, trivial⟩, AVle.of_eq rfl, rfl⟩
theorem EndsO.nil2 {P : Program} {m : Nat} {env : List (Nat × AV)} {own own' : List Ent} {t t' sz : Nat} {y : AV} (js : List Nat) (h1 : selOk own js = true) (h2 : js.take m = List.range m) (hx : look env t = .d (.v (.slice none 0 0))) (hy : look env t' = y) (hf : AV.frz own js y = y) (ho : selOwn own js = own') : EndsO P m [.tmp t, .tmp t'] (.tup [.d (.sl sz []), y]) own' .ret ⟨env, own⟩ :=
  ⟨.inl rfl, js, [.d (.v (.slice none 0 0)), y], h1, h2, ⟨hx, hy, trivial⟩, by
    show AVle (.tup [_, AV.frz own js y]) _
    rw [hf]
    exact AVle.tup2 (AVle.nil sz) (AVle.of_eq rfl), ho⟩
theorem A_terms {M D rv u : Nat} {ps : List (List Nat)} {us : List Nat} {rows : List (Nat × List Nat × List Nat)} (h : CodeOk M D ps) (hu : u < D + ps.length) (hn : us.length ≤ 32) (hrl : rows.length ≤ 32) (hr : ∀ r ∈ rows, RedRow M D us.length r) : ACalls Tryd.prog 53 [.opt 0 0, iV u] [spB M D ps us rv rows.length, spR rv rows] (termsA (termsN M D ps us rows u)) [spB M D ps us rv rows.length, spR rv rows] := by
  refine acalls_of_bodyO Tryd.func53 rfl (Nat.le_of_ble_eq_true rfl) ?_
  have h1 := h.d
  have h2 := h.w
  have hM := h.f
  have hgen := A_egen h
  have hgok := gen_ok h
  obtain ⟨p1, p2⟩ := pick_row hgok hu
  have hred := A_sreduce (rv := rv) (ps := ps) (us := us) hM h1 (by omega) hn hrl p1 p2 hr
  have hsub := redV_ok (n := us.length) (rows := rows) hM p1 p2 hr
  have hT : termsN M D ps us rows u = if (redV M us.length (((genN D ps).drop (u * D)).take D) rows).1.all (fun x => decide (x = 0)) then some (tmsAt us (redV M us.length (((genN D ps).drop (u * D)).take D) rows).2 us.length) else none := rfl
  replace hT := Lib.hid hT
  generalize termsN M D ps us rows u = TT at *
  generalize genN D ps = G at *
  generalize hZ : redV M us.length ((G.drop (u * D)).take D) rows = Z at *
  replace hZ := Lib.hid hZ
  obtain ⟨R, K⟩ := Z
  have hr1 := hsub.l1
  have hr2 := hsub.l2
  dsimp only at hr1 hr2 hred
  have hGn := hgok.n
  have hGl : u * D + D ≤ (D + ps.length) * D := by
    have := Nat.mul_le_mul_right D (show u + 1 ≤ D + ps.length from hu)
    rw [Nat.add_mul, Nat.one_mul] at this
    omega
  have hGu : (D + ps.length) * D ≤ 1024 := Nat.mul_le_mul (show D + ps.length ≤ 32 by omega) (show D ≤ 32 by omega)
  have h6 : ((u : Int) + 1) * (D : Int) = ((u : Int) * (D : Int)) + D := by rw [Int.add_mul, Int.one_mul]
  have h8 : -9223372036854775808 ≤ ((u : Int) + 1) * (D : Int) ∧ ((u : Int) + 1) * (D : Int) < 9223372036854775808 := by rw [h6]; omega
  have h7 : (u + 1) * D = u * D + D := by rw [Nat.add_mul, Nat.one_mul]
  have hrow : (G.drop (u * D)).take ((u + 1) * D - u * D) = (G.drop (u * D)).take D := by rw [h7, Nat.add_sub_cancel_left]
  rw [← hrow] at hred
  clear p1 p2
  (repeat' (first
  | (apply W.qd; (first
    | (apply (q_callC (hgen)); exact rfl; exact rfl; kernel_rfl; kernel_rfl; kernel_rfl)
    | (apply q_mv; (first
    | exact Eq.refl (AV.d _)
    | exact Eq.refl (AV.osl _ _ _ _)
    | exact Eq.refl (AV.opt _ _)
    | exact Eq.refl (AV.agg _)
    | exact Eq.refl (AV.fpt _ _ _ _)
    | exact Eq.refl (AV.rpt _ _ _ _)
    | exact Eq.refl (AV.fn _ _)
    | exact Eq.refl (AV.tup _)
    | exact Eq.refl AV.top))
    | (apply q_as; (first
    | exact Eq.refl (AV.d _)
    | exact Eq.refl (AV.osl _ _ _ _)
    | exact Eq.refl (AV.opt _ _)
    | exact Eq.refl (AV.agg _)
    | exact Eq.refl (AV.fpt _ _ _ _)
    | exact Eq.refl (AV.rpt _ _ _ _)
    | exact Eq.refl (AV.fn _ _)
    | exact Eq.refl (AV.tup _)
    | exact Eq.refl AV.top))
    | (apply q_fld_optF; exact rfl; exact rfl; exact rfl)
    | (apply q_ld_box; exact rfl; exact rfl; exact rfl; exact rfl)
    | (apply q_ld_boxF; exact rfl; exact rfl; exact rfl; exact rfl)
    | (apply q_add; exact rfl; exact rfl; omega)
    | (apply q_mul; exact rfl; exact rfl; (first | omega | assumption))
    | (apply q_extract; exact rfl; exact rfl)
    | (apply q_nil_opt; exact rfl)
    | (apply q_slc_map; exact rfl; exact rfl; (first | exact ⟨_, _, rfl, rfl⟩ | exact ⟨_, _, rfl, natI_spec rfl⟩ | exact ⟨_, _, rfl, (Int.toNat_of_nonneg (by omega)).symm⟩ | exact rfl); (first | exact ⟨_, _, rfl, rfl⟩ | exact ⟨_, _, rfl, natI_spec rfl⟩ | exact ⟨_, _, rfl, (Int.toNat_of_nonneg (by omega)).symm⟩ | exact rfl); (first | omega | (focus (simp only [List.length_map]; omega)) | (focus (simp; done)) | (focus (simp; omega))); (first | omega | (focus (simp only [List.length_map]; omega)) | (focus (simp; done)) | (focus (simp; omega))); exact Or.inl rfl)))
  | (apply W.ed; (first
    | (apply (e_callJ (js := [0, 1]) (hred)); exact rfl; exact rfl; exact rfl; exact rfl; exact rfl; kernel_rfl; kernel_rfl)
    | (apply e_allocF; exact rfl; exact rfl; exact rfl; kernel_rfl)))
  | (apply W.ln; (apply l_st_box; exact rfl; exact rfl; exact rfl; exact rfl; exact rfl; exact rfl; kernel_rfl; kernel_rfl; kernel_rfl))
  | (apply AWP.seq)
  | (apply ACont_normal)
  | (apply (W.regionS 3); exact rfl; kernel_rfl)
  | (apply (W.regionDS 3); exact rfl; exact rfl; kernel_rfl)
  | (apply Walk.nil)
  | (apply W.chk; kernel_rfl)))
  refine AWP.wk ⟨[(0, .opt 0 0), (8, nats R), (9, nats K)], [spB M D ps us rv rows.length, spR rv rows]⟩ ⟨[0, 1], rfl, rfl, rfl, rfl, (frz_rowJ rfl rfl (by simp; omega)).symm, (frz_rowJ rfl rfl (by simp; omega)).symm, trivial⟩ ?_
  have hev := A_every_tz0 (fun x => decide (x = 0)) (R.map fun n : Nat => (n : Int)) (by simp; omega) fun x _ => A_tz1 x
  rw [← nats_ints] at hev
  have hall : (R.map fun n : Nat => (n : Int)).all (fun x => decide (x = 0)) = R.all (fun x => decide (x = 0)) := by
    rw [List.all_map]
    congr 1
    funext x
    simp
  rw [hall] at hev
  have hT2 := hT.out
  dsimp only at hT2
  by_cases hz : R.all (fun x => decide (x = 0)) = true
  · rw [hz] at hev hT2
    rw [if_pos rfl] at hT2
    rw [hT2]
    have hml : (K.map kD).length = us.length := by rw [List.length_map]; exact hr2
    (repeat' (first
  | (apply W.qd; (first
    | (apply (q_callC (hev)); exact rfl; exact rfl; kernel_rfl; kernel_rfl; kernel_rfl)
    | (apply q_mv; (first
    | exact Eq.refl (AV.d _)
    | exact Eq.refl (AV.osl _ _ _ _)
    | exact Eq.refl (AV.opt _ _)
    | exact Eq.refl (AV.agg _)
    | exact Eq.refl (AV.fpt _ _ _ _)
    | exact Eq.refl (AV.rpt _ _ _ _)
    | exact Eq.refl (AV.fn _ _)
    | exact Eq.refl (AV.tup _)
    | exact Eq.refl AV.top))
    | (apply q_as; (first
    | exact Eq.refl (AV.d _)
    | exact Eq.refl (AV.osl _ _ _ _)
    | exact Eq.refl (AV.opt _ _)
    | exact Eq.refl (AV.agg _)
    | exact Eq.refl (AV.fpt _ _ _ _)
    | exact Eq.refl (AV.rpt _ _ _ _)
    | exact Eq.refl (AV.fn _ _)
    | exact Eq.refl (AV.tup _)
    | exact Eq.refl AV.top))
    | (apply q_not; exact rfl)
    | (apply q_len_sl; exact rfl; exact rfl)))
  | (apply AWP.seq)
  | (apply ACont_normal)
  | (apply W.region; kernel_rfl)
  | (apply Walk.nil)
  | (apply AWP.block)
  | (apply AWP.skip)
  | (apply W.condF; exact rfl)))
    rw [hml]
    refine AWP.nilRow 10 2 49 rfl (by omega) ?_
    refine AWP.loopW (α := Nat) (fun k => k ≤ us.length) (fun k => ⟨[(49, iV k), (48, iV us.length), (47, nats K), (0, .opt 0 0), (10, .osl 2 (tmsAt us K k).length 0 (tmsAt us K k).length)], [spB M D ps us rv rows.length, spR rv rows, .row (tmsAt us K k).length 2 49 ((tmsAt us K k).map tmD)]⟩) (fun k => us.length - k) 0 (by omega) ?wk0 fun k hk => ?_
    case wk0 =>
      rw [show tmsAt us K 0 = [] from rfl]
      exact ⟨[0, 1, 2], rfl, rfl, rfl, rfl, rfl, rfl, rfl, rfl, trivial⟩
    by_cases hkl : k < us.length
    · have hs := Lib.hid (tmsAt_succ us K k)
      have hl := tmsAt_length us K k
      have e1 : K.getD k 0 = K[k]'(by omega) := by
        rw [List.getD_eq_getElem?_getD, List.getElem?_eq_getElem (show k < K.length by omega)]; rfl
      have e2 : us.getD k 0 = us[k] := by
        rw [List.getD_eq_getElem?_getD, List.getElem?_eq_getElem hkl]; rfl
      rw [e1, e2] at hs
      generalize tmsAt us K k = A at *
      (repeat' (first
  | (apply W.qd; (first
    | (apply q_mv; (first
    | exact Eq.refl (AV.d _)
    | exact Eq.refl (AV.osl _ _ _ _)
    | exact Eq.refl (AV.opt _ _)
    | exact Eq.refl (AV.agg _)
    | exact Eq.refl (AV.fpt _ _ _ _)
    | exact Eq.refl (AV.rpt _ _ _ _)
    | exact Eq.refl (AV.fn _ _)
    | exact Eq.refl (AV.tup _)
    | exact Eq.refl AV.top))
    | (apply q_as; (first
    | exact Eq.refl (AV.d _)
    | exact Eq.refl (AV.osl _ _ _ _)
    | exact Eq.refl (AV.opt _ _)
    | exact Eq.refl (AV.agg _)
    | exact Eq.refl (AV.fpt _ _ _ _)
    | exact Eq.refl (AV.rpt _ _ _ _)
    | exact Eq.refl (AV.fn _ _)
    | exact Eq.refl (AV.tup _)
    | exact Eq.refl AV.top))
    | (apply q_fld_optF; exact rfl; exact rfl; exact rfl)
    | (apply q_ld_box; exact rfl; exact rfl; exact rfl; exact rfl)
    | (apply q_lss; exact rfl; exact rfl)
    | (apply q_neq; exact rfl; exact rfl)
    | (apply q_add; exact rfl; exact rfl; omega)
    | (apply q_ld_map; exact rfl; exact rfl; exact rfl; (first | omega | (focus (simp; done))))
    | (apply q_buildF; exact rfl; exact rfl; kernel_rfl)
    | (apply q_nil_opt; exact rfl)
    | (apply q_litF; exact rfl; exact rfl; exact rfl; exact rfl; exact rfl; kernel_rfl; kernel_rfl; exact rfl)
    | (apply q_ix_slF; exact rfl; exact rfl; exact rfl; exact rfl; (first | (with_reducible exact rfl) | exact natI_spec rfl | assumption | exact (Int.toNat_of_nonneg (by omega)).symm); (first | omega | (focus (simp only [List.length_map]; omega)) | (focus (simp; done)) | (focus (simp; omega))))))
  | (apply W.ld; (apply (l_app1 (f := tmD) (us[k]'hkl, K[k]'(by omega))); exact rfl; exact rfl; exact rfl; exact rfl; exact rfl; exact rfl; exact rfl; exact rfl; omega))
  | (apply AWP.seq)
  | (apply ACont_normal)
  | (apply W.region; kernel_rfl)
  | (apply Walk.nil)
  | (apply AWP.block)
  | (apply AWP.skip)
  | (apply ABlock_normal)
  | (refine W.cond _ rfl (fun hb => ?_) (fun hb => ?_) <;> ((try simp only [hb, Bool.not_true, Bool.not_false]) <;> (try simp only [decide_eq_true_eq, decide_eq_false_iff_not, Bool.not_eq_true', Bool.not_eq_false', Int.not_lt, Int.not_le, List.length_map, not_true_eq_false] at hb) <;> (try (exfalso; omega))))))
      · rw [if_neg (by omega)] at hs
        refine ⟨k + 1, by omega, by omega, ?_⟩
        rw [hs.out, show (A ++ [(us[k], K[k]'(by omega))]).length = A.length + 1 by simp]
        exact ⟨[0, 1, 2], rfl, rfl, rfl, iV_eq (by omega), rfl, rfl, rfl, rfl, trivial⟩
      · rw [if_pos (by omega)] at hs
        refine ⟨k + 1, by omega, by omega, ?_⟩
        rw [hs.out]
        exact ⟨[0, 1, 2], rfl, rfl, rfl, iV_eq (by omega), rfl, rfl, rfl, rfl, trivial⟩
    · have e : us.length = k := by omega
      subst e
      generalize tmsAt us K us.length = A at *
      (repeat' (first
  | (apply W.qd; (first
    | (apply q_mv; (first
    | exact Eq.refl (AV.d _)
    | exact Eq.refl (AV.osl _ _ _ _)
    | exact Eq.refl (AV.opt _ _)
    | exact Eq.refl (AV.agg _)
    | exact Eq.refl (AV.fpt _ _ _ _)
    | exact Eq.refl (AV.rpt _ _ _ _)
    | exact Eq.refl (AV.fn _ _)
    | exact Eq.refl (AV.tup _)
    | exact Eq.refl AV.top))
    | (apply q_as; (first
    | exact Eq.refl (AV.d _)
    | exact Eq.refl (AV.osl _ _ _ _)
    | exact Eq.refl (AV.opt _ _)
    | exact Eq.refl (AV.agg _)
    | exact Eq.refl (AV.fpt _ _ _ _)
    | exact Eq.refl (AV.rpt _ _ _ _)
    | exact Eq.refl (AV.fn _ _)
    | exact Eq.refl (AV.tup _)
    | exact Eq.refl AV.top))
    | (apply q_lss; exact rfl; exact rfl)))
  | (apply AWP.seq)
  | (apply ACont_normal)
  | (apply W.region; kernel_rfl)
  | (apply Walk.nil)
  | (apply AWP.exit)
  | (apply AWP.ret)
  | (apply ACont_exit)
  | (apply ABlock_exit)
  | (refine W.cond _ rfl (fun hb => ?_) (fun hb => ?_) <;> ((try simp only [hb, Bool.not_true, Bool.not_false]) <;> (try simp only [decide_eq_true_eq, decide_eq_false_iff_not, Bool.not_eq_true', Bool.not_eq_false', Int.not_lt, Int.not_le, List.length_map, not_true_eq_false] at hb) <;> (try (exfalso; omega))))))
      refine ⟨.inl rfl, [0, 1], [.osl 2 A.length 0 A.length, iV 0], rfl, rfl, ⟨rfl, rfl, trivial⟩, AVle.of_eq ?_, rfl⟩
      exact congrArg (fun z => AV.tup [z, iV 0]) (frz_rowJ rfl rfl (by simp))
  · have hz : R.all (fun x => decide (x = 0)) = false := by simpa using hz
    rw [hz] at hev hT2
    rw [if_neg (by simp)] at hT2
    rw [hT2]
    (repeat' (first
  | (apply W.qd; (first
    | (apply (q_callC (hev)); exact rfl; exact rfl; kernel_rfl; kernel_rfl; kernel_rfl)
    | (apply q_mv; (first
    | exact Eq.refl (AV.d _)
    | exact Eq.refl (AV.osl _ _ _ _)
    | exact Eq.refl (AV.opt _ _)
    | exact Eq.refl (AV.agg _)
    | exact Eq.refl (AV.fpt _ _ _ _)
    | exact Eq.refl (AV.rpt _ _ _ _)
    | exact Eq.refl (AV.fn _ _)
    | exact Eq.refl (AV.tup _)
    | exact Eq.refl AV.top))
    | (apply q_as; (first
    | exact Eq.refl (AV.d _)
    | exact Eq.refl (AV.osl _ _ _ _)
    | exact Eq.refl (AV.opt _ _)
    | exact Eq.refl (AV.agg _)
    | exact Eq.refl (AV.fpt _ _ _ _)
    | exact Eq.refl (AV.rpt _ _ _ _)
    | exact Eq.refl (AV.fn _ _)
    | exact Eq.refl (AV.tup _)
    | exact Eq.refl AV.top))
    | (apply q_not; exact rfl)))
  | (apply AWP.seq)
  | (apply ACont_normal)
  | (apply W.region; kernel_rfl)
  | (apply Walk.nil)
  | (apply AWP.ret)
  | (apply ACont_ret)
  | (apply W.condT; exact rfl)))
    exact EndsO.nil2 [0, 1] rfl rfl rfl rfl rfl rfl
/-- A unit's terms, by the present units. -/
def combN (M D : Nat) (ps : List (List Nat)) (hv : List Bool) (u : Nat) : Option (List (Nat × Nat)) := termsN M D ps (basisN M D ps hv) (spanN M D ps hv) u
theorem spanN_ok {M D : Nat} {ps : List (List Nat)} {hv : List Bool} (h : CodeOk M D ps) (hl : hv.length = D + ps.length) : SpanOk M D (basisN M D ps hv).length (basisN M D ps hv).length (spanN M D ps hv) :=
  span_ok h.f (gen_ok h) (basis_lt hl) _ (Nat.le_refl _)
theorem A_comb {M D u : Nat} {ps : List (List Nat)} {hv : List Bool} (h : CodeOk M D ps) (hl : hv.length = D + ps.length) (hu : u < D + ps.length) : ACalls Tryd.prog 25 [cdN M D ps, bools hv, iV u] [] (termsA (combN M D ps hv u)) [] := by
  refine acalls_of_bodyO Tryd.func25 rfl (Nat.le_of_ble_eq_true rfl) ?_
  have hsp := A_spanOf h hl
  have hok := spanN_ok h hl
  have hbl := basis_len h hl
  have h2 := h.w
  have hokl := hok.l
  have ht := A_terms (rv := (spanN M D ps hv).length) (rows := spanN M D ps hv) (us := basisN M D ps hv) h hu (by omega) (by omega) hok.r
  have hc : combN M D ps hv u = termsN M D ps (basisN M D ps hv) (spanN M D ps hv) u := rfl
  rw [hc]
  have hml : (hv.map tD).length = D + ps.length := by rw [List.length_map]; exact hl
  generalize termsN M D ps (basisN M D ps hv) (spanN M D ps hv) u = T at *
  generalize spanN M D ps hv = S at *
  generalize basisN M D ps hv = B at *
  cases T with
  | none =>
    unfold termsA at ht
    dsimp only at ht
    (repeat' (first
  | (apply W.gOn; exact rfl; exact rfl)
  | (apply W.qd; (first
    | (apply q_mv; (first
    | exact Eq.refl (AV.d _)
    | exact Eq.refl (AV.osl _ _ _ _)
    | exact Eq.refl (AV.opt _ _)
    | exact Eq.refl (AV.agg _)
    | exact Eq.refl (AV.fpt _ _ _ _)
    | exact Eq.refl (AV.rpt _ _ _ _)
    | exact Eq.refl (AV.fn _ _)
    | exact Eq.refl (AV.tup _)
    | exact Eq.refl AV.top))
    | (apply q_as; (first
    | exact Eq.refl (AV.d _)
    | exact Eq.refl (AV.osl _ _ _ _)
    | exact Eq.refl (AV.opt _ _)
    | exact Eq.refl (AV.agg _)
    | exact Eq.refl (AV.fpt _ _ _ _)
    | exact Eq.refl (AV.rpt _ _ _ _)
    | exact Eq.refl (AV.fn _ _)
    | exact Eq.refl (AV.tup _)
    | exact Eq.refl AV.top))
    | (apply q_ld_boxF; exact rfl; exact rfl; exact rfl; exact rfl)
    | (apply q_lss; exact rfl; exact rfl)
    | (apply q_geq; exact rfl; exact rfl)
    | (apply q_neq; exact rfl; exact rfl)
    | (apply q_extract; exact rfl; exact rfl)
    | (apply q_len_sl; exact rfl; exact rfl)
    | (apply (q_pickF (u := .d _)); exact rfl; exact rfl)))
  | (apply W.ed; (first
    | (apply (e_callJ (js := []) (hsp)); exact rfl; exact rfl; exact rfl; exact rfl; exact rfl; kernel_rfl; kernel_rfl)
    | (apply (e_callJ (js := [1, 2]) (ht)); exact rfl; exact rfl; exact rfl; exact rfl; exact rfl; kernel_rfl; kernel_rfl)
    | (apply e_boxF; exact rfl; exact rfl; exact rfl; kernel_rfl; kernel_rfl)))
  | (apply AWP.seq)
  | (apply ACont_normal)
  | (apply W.region; kernel_rfl)
  | (apply Walk.nil)
  | (apply AWP.skip)
  | (apply AWP.ret)
  | (refine W.cond _ rfl (fun hb => ?_) (fun hb => ?_) <;> ((try simp only [hb, Bool.not_true, Bool.not_false]) <;> (try simp only [decide_eq_true_eq, decide_eq_false_iff_not, Bool.not_eq_true', Bool.not_eq_false', Int.not_lt, Int.not_le, List.length_map, not_true_eq_false] at hb) <;> (try (exfalso; omega))))))
    all_goals exact ⟨.inl rfl, [], [tmsA [], iV 11], rfl, rfl, ⟨rfl, rfl, trivial⟩, AVle.of_eq rfl, rfl⟩
  | some l =>
    unfold termsA at ht
    dsimp only at ht
    (repeat' (first
  | (apply W.gOn; exact rfl; exact rfl)
  | (apply W.qd; (first
    | (apply q_mv; (first
    | exact Eq.refl (AV.d _)
    | exact Eq.refl (AV.osl _ _ _ _)
    | exact Eq.refl (AV.opt _ _)
    | exact Eq.refl (AV.agg _)
    | exact Eq.refl (AV.fpt _ _ _ _)
    | exact Eq.refl (AV.rpt _ _ _ _)
    | exact Eq.refl (AV.fn _ _)
    | exact Eq.refl (AV.tup _)
    | exact Eq.refl AV.top))
    | (apply q_as; (first
    | exact Eq.refl (AV.d _)
    | exact Eq.refl (AV.osl _ _ _ _)
    | exact Eq.refl (AV.opt _ _)
    | exact Eq.refl (AV.agg _)
    | exact Eq.refl (AV.fpt _ _ _ _)
    | exact Eq.refl (AV.rpt _ _ _ _)
    | exact Eq.refl (AV.fn _ _)
    | exact Eq.refl (AV.tup _)
    | exact Eq.refl AV.top))
    | (apply q_ld_boxF; exact rfl; exact rfl; exact rfl; exact rfl)
    | (apply q_lss; exact rfl; exact rfl)
    | (apply q_geq; exact rfl; exact rfl)
    | (apply q_neq; exact rfl; exact rfl)
    | (apply q_extract; exact rfl; exact rfl)
    | (apply q_len_sl; exact rfl; exact rfl)
    | (apply (q_pickF (u := .d _)); exact rfl; exact rfl)))
  | (apply W.ed; (first
    | (apply (e_callJ (js := []) (hsp)); exact rfl; exact rfl; exact rfl; exact rfl; exact rfl; kernel_rfl; kernel_rfl)
    | (apply (e_callJ (js := [1, 2]) (ht)); exact rfl; exact rfl; exact rfl; exact rfl; exact rfl; kernel_rfl; kernel_rfl)
    | (apply e_boxF; exact rfl; exact rfl; exact rfl; kernel_rfl; kernel_rfl)))
  | (apply AWP.seq)
  | (apply ACont_normal)
  | (apply W.region; kernel_rfl)
  | (apply Walk.nil)
  | (apply AWP.skip)
  | (apply AWP.ret)
  | (refine W.cond _ rfl (fun hb => ?_) (fun hb => ?_) <;> ((try simp only [hb, Bool.not_true, Bool.not_false]) <;> (try simp only [decide_eq_true_eq, decide_eq_false_iff_not, Bool.not_eq_true', Bool.not_eq_false', Int.not_lt, Int.not_le, List.length_map, not_true_eq_false] at hb) <;> (try (exfalso; omega))))))
    all_goals exact ⟨.inl rfl, [], [tmsA l, iV 0], rfl, rfl, ⟨rfl, rfl, trivial⟩, AVle.of_eq rfl, rfl⟩
theorem A_recoverable {M D u : Nat} {ps : List (List Nat)} {hv : List Bool} (h : CodeOk M D ps) (hl : hv.length = D + ps.length) (hu : u < D + ps.length) : ACalls Tryd.prog 29 [cdN M D ps, bools hv, iV u] [] (bV (combN M D ps hv u).isSome) [] := by
  refine acalls_of_bodyO Tryd.func29 rfl (Nat.le_of_ble_eq_true rfl) ?_
  have hc := A_comb h hl hu
  generalize combN M D ps hv u = T at *
  cases T with
  | none =>
    unfold termsA at hc
    dsimp only at hc
    (repeat' (first
  | (apply W.qd; (first
    | (apply (q_callC (hc)); exact rfl; exact rfl; kernel_rfl; kernel_rfl; kernel_rfl)
    | (apply q_mv; (first
    | exact Eq.refl (AV.d _)
    | exact Eq.refl (AV.osl _ _ _ _)
    | exact Eq.refl (AV.opt _ _)
    | exact Eq.refl (AV.agg _)
    | exact Eq.refl (AV.fpt _ _ _ _)
    | exact Eq.refl (AV.rpt _ _ _ _)
    | exact Eq.refl (AV.fn _ _)
    | exact Eq.refl (AV.tup _)
    | exact Eq.refl AV.top))
    | (apply q_as; (first
    | exact Eq.refl (AV.d _)
    | exact Eq.refl (AV.osl _ _ _ _)
    | exact Eq.refl (AV.opt _ _)
    | exact Eq.refl (AV.agg _)
    | exact Eq.refl (AV.fpt _ _ _ _)
    | exact Eq.refl (AV.rpt _ _ _ _)
    | exact Eq.refl (AV.fn _ _)
    | exact Eq.refl (AV.tup _)
    | exact Eq.refl AV.top))
    | (apply q_ld_boxF; exact rfl; exact rfl; exact rfl; exact rfl)
    | (apply q_eql; exact rfl; exact rfl)
    | (apply q_extract; exact rfl; exact rfl)))
  | (apply W.ed; (apply e_boxF; exact rfl; exact rfl; exact rfl; kernel_rfl; kernel_rfl))
  | (apply AWP.seq)
  | (apply ACont_normal)
  | (apply W.region; kernel_rfl)
  | (apply Walk.nil)
  | (apply AWP.ret)))
    exact ⟨.inl rfl, [], [bV (decide ((11 : Int) = 0))], rfl, rfl, ⟨rfl, trivial⟩, AVle.of_eq rfl, rfl⟩
  | some l =>
    unfold termsA at hc
    dsimp only at hc
    (repeat' (first
  | (apply W.qd; (first
    | (apply (q_callC (hc)); exact rfl; exact rfl; kernel_rfl; kernel_rfl; kernel_rfl)
    | (apply q_mv; (first
    | exact Eq.refl (AV.d _)
    | exact Eq.refl (AV.osl _ _ _ _)
    | exact Eq.refl (AV.opt _ _)
    | exact Eq.refl (AV.agg _)
    | exact Eq.refl (AV.fpt _ _ _ _)
    | exact Eq.refl (AV.rpt _ _ _ _)
    | exact Eq.refl (AV.fn _ _)
    | exact Eq.refl (AV.tup _)
    | exact Eq.refl AV.top))
    | (apply q_as; (first
    | exact Eq.refl (AV.d _)
    | exact Eq.refl (AV.osl _ _ _ _)
    | exact Eq.refl (AV.opt _ _)
    | exact Eq.refl (AV.agg _)
    | exact Eq.refl (AV.fpt _ _ _ _)
    | exact Eq.refl (AV.rpt _ _ _ _)
    | exact Eq.refl (AV.fn _ _)
    | exact Eq.refl (AV.tup _)
    | exact Eq.refl AV.top))
    | (apply q_ld_boxF; exact rfl; exact rfl; exact rfl; exact rfl)
    | (apply q_eql; exact rfl; exact rfl)
    | (apply q_extract; exact rfl; exact rfl)))
  | (apply W.ed; (apply e_boxF; exact rfl; exact rfl; exact rfl; kernel_rfl; kernel_rfl))
  | (apply AWP.seq)
  | (apply ACont_normal)
  | (apply W.region; kernel_rfl)
  | (apply Walk.nil)
  | (apply AWP.ret)))
    exact ⟨.inl rfl, [], [bV (decide ((0 : Int) = 0))], rfl, rfl, ⟨rfl, trivial⟩, AVle.of_eq rfl, rfl⟩
theorem A_decodable {M D : Nat} {ps : List (List Nat)} {hv : List Bool} (h : CodeOk M D ps) (hl : hv.length = D + ps.length) : ACalls Tryd.prog 30 [cdN M D ps, bools hv] [] (bV (decide ((basisN M D ps hv).length = D))) [] := by
  refine acalls_of_bodyO Tryd.func30 rfl (Nat.le_of_ble_eq_true rfl) ?_
  have hb := A_ebasis h hl
  have hbl := basis_len h hl
  generalize basisN M D ps hv = B at *
  have hml : (B.map kD).length = B.length := List.length_map _
  (repeat' (first
  | (apply W.gOn; exact rfl; exact rfl)
  | (apply W.qd; (first
    | (apply (q_callC (hb)); exact rfl; exact rfl; kernel_rfl; kernel_rfl; kernel_rfl)
    | (apply q_mv; (first
    | exact Eq.refl (AV.d _)
    | exact Eq.refl (AV.osl _ _ _ _)
    | exact Eq.refl (AV.opt _ _)
    | exact Eq.refl (AV.agg _)
    | exact Eq.refl (AV.fpt _ _ _ _)
    | exact Eq.refl (AV.rpt _ _ _ _)
    | exact Eq.refl (AV.fn _ _)
    | exact Eq.refl (AV.tup _)
    | exact Eq.refl AV.top))
    | (apply q_as; (first
    | exact Eq.refl (AV.d _)
    | exact Eq.refl (AV.osl _ _ _ _)
    | exact Eq.refl (AV.opt _ _)
    | exact Eq.refl (AV.agg _)
    | exact Eq.refl (AV.fpt _ _ _ _)
    | exact Eq.refl (AV.rpt _ _ _ _)
    | exact Eq.refl (AV.fn _ _)
    | exact Eq.refl (AV.tup _)
    | exact Eq.refl AV.top))
    | (apply q_fld_optF; exact rfl; exact rfl; exact rfl)
    | (apply q_ld_box; exact rfl; exact rfl; exact rfl; exact rfl)
    | (apply q_ld_boxF; exact rfl; exact rfl; exact rfl; exact rfl)
    | (apply q_eql; exact rfl; exact rfl)
    | (apply q_extract; exact rfl; exact rfl)
    | (apply q_len_sl; exact rfl; exact rfl)
    | (apply (q_pickT (u := .d _)); exact rfl; exact rfl)))
  | (apply W.ed; (apply e_boxF; exact rfl; exact rfl; exact rfl; kernel_rfl; kernel_rfl))
  | (apply AWP.seq)
  | (apply ACont_normal)
  | (apply W.region; kernel_rfl)
  | (apply Walk.nil)
  | (apply AWP.ret)))
  all_goals refine ⟨.inl rfl, [], [bV (decide (((B.map kD).length : Int) = D))], rfl, rfl, ⟨rfl, trivial⟩, AVle.of_eq (congrArg bV ?_), rfl⟩
  all_goals rw [hml, decide_eq_decide]
  all_goals omega
end Go.Proofs.YtjaipchlnnjaeaaDoor
end
