import Derived.Test.YtaclmbbiegklcaaGreatDoorMHealthMatchesSpec5
import Derived.Lib.SliceRun
/- Joined texts: St5H St6H St7H St8H Kern44 He1 He2 Kern45 He3 He4 He5 Rf7 Rf9 Kern46. -/
set_option linter.unusedVariables false
set_option linter.unusedSimpArgs false
section
/- slices.SortStableFunc at solvent/api.Health: symMerge. -/
namespace Go.Proofs.YtaclmbbiegklcaaGreatDoor
open Go.RowKit
set_option maxHeartbeats 4000000
set_option maxRecDepth 100000
attribute [local irreducible] Quiet Eff OpOk AWPG ACont ABlock ACalls AGoto
section
variable {B : Ent} {cf : FuncId} {caps : List AV} {c : Hl → Hl → Int} {ver N : Nat}
theorem halfH (i j : Nat) : ((i + j) >>> 1) = (i + j) / 2 := by rw [Nat.shiftRight_eq_div_pow]
theorem A_mergeLH {a m b : Nat} {P R : List Hl} {x : Hl} {Y : List Hl} (hc : CmpH cf caps B c) (hN : N ≤ (P ++ (([x] ++ Y) ++ R)).length) (hL : (P ++ (([x] ++ Y) ++ R)).length ≤ 1000000) (ha : P.length = a) (hm : a + 1 = m) (hb : m + Y.length = b) (hbN : b ≤ N) (hY : Srt (ltH c) Y) :
    ACalls Tryz.prog 163 [.osl 1 ver 0 N, iV a, iV m, iV b, .fn cf caps] (srtH B ver (P ++ (([x] ++ Y) ++ R))) (.tup []) (srtH B ver (P ++ (sortN (ltH c) ([x] ++ Y) ++ R))) := by
  refine acalls_of_bodyS Tryz.func163 rfl (Nat.le_of_ble_eq_true rfl) ?_
  have hw := hc.weak
  have hgf := hc.isf
  have hcl := hc.call
  obtain ⟨K, hK⟩ : ∃ K, K = P ++ (([x] ++ Y) ++ R) := ⟨_, rfl⟩
  rw [← hK] at hN hL ⊢
  have hKl : K.length = P.length + 1 + Y.length + R.length := by rw [hK]; simp; omega
  have hga : ∀ (h : a < K.length), K[a] = x := fun h => by
    have h0 : K[a]? = some x := by rw [hK, ← ha, List.getElem?_append_right (Nat.le_refl _), Nat.sub_self]; rfl
    rw [List.getElem?_eq_getElem h] at h0
    exact Option.some.inj h0
  have hgm : ∀ (t : Nat) (h : t < Y.length) (h2 : m + t < K.length), K[m + t] = Y[t] := fun t h h2 => by
    have e : K = (P ++ [x]) ++ (Y ++ R) := by rw [hK]; simp
    have e2 : (P ++ [x]).length = m := by simp; omega
    simp only [e]
    rw [List.getElem_append_right (by omega), List.getElem_append_left (by omega)]
    congr 1
    omega
  let p : Nat → Bool := fun h => !(ltH c (K.getD h hl0) x)
  have hp : ∀ (h : Nat) (hh : h < K.length), p h = !(ltH c K[h] x) := fun h hh => by
    show (!(ltH c (K.getD h hl0) x)) = _
    rw [List.getD_eq_getElem?_getD, List.getElem?_eq_getElem hh]; rfl
  generalize hQ : p = Q at hp
  clear hQ
  obtain ⟨b1, b2, b3, b4⟩ := bs_spec Q (b - m) m b (Nat.le_refl _) (by omega)
  generalize hI : bsN Q m b = I at *
  have hfin : P ++ ((Y.take (I - m) ++ x :: Y.drop (I - m)) ++ R) = P ++ (sortN (ltH c) ([x] ++ Y) ++ R) := by
    have q0 : Y.take (I - m) ++ Y.drop (I - m) = Y := List.take_append_drop _ _
    have q1 : ∀ y ∈ Y.take (I - m), ltH c y x = true := fun y hy => by
      by_cases h0 : m < I
      · have := b3 h0
        rw [hp _ (by omega)] at this
        have e : K[I - 1]'(by omega) = Y[I - m - 1]'(by omega) := by
          have := hgm (I - m - 1) (by omega) (by omega)
          rw [← this]; congr 1; omega
        rw [e] at this
        have h5 : ltH c (Y[I - m - 1]'(by omega)) x = true := by simpa using this
        have h6 : Y.take (I - m) = Y.take (I - m - 1) ++ [Y[I - m - 1]'(by omega)] := by
          have := List.take_succ_eq_append_getElem (l := Y) (i := I - m - 1) (by omega)
          rwa [show I - m - 1 + 1 = I - m by omega] at this
        have h7 : Srt (ltH c) (Y.take (I - m - 1) ++ [Y[I - m - 1]'(by omega)]) := by
          rw [← h6]
          rw [← q0] at hY
          exact hY.left
        rw [h6] at hy
        exact hw.le_lt (h7.last hw hy) h5
      · rw [show I - m = 0 by omega] at hy; simp at hy
    have q2 : ∀ y ∈ Y.drop (I - m), ltH c y x = false := fun y hy => by
      by_cases h0 : I < b
      · have := b4 h0
        rw [hp _ (by omega)] at this
        have e : K[I]'(by omega) = Y[I - m]'(by omega) := by
          have := hgm (I - m) (by omega) (by omega)
          rw [← this]; congr 1; omega
        rw [e] at this
        have h5 : ltH c (Y[I - m]'(by omega)) x = false := by simpa using this
        have h6 : Y.drop (I - m) = Y[I - m]'(by omega) :: Y.drop (I - m + 1) := List.drop_eq_getElem_cons (by omega)
        have h7 : Srt (ltH c) (Y[I - m]'(by omega) :: Y.drop (I - m + 1)) := by
          rw [← h6]
          rw [← q0] at hY
          exact hY.right
        rw [h6] at hy
        exact hw.le_trans h5 (h7.head hw hy)
      · rw [List.drop_eq_nil_of_le (by omega)] at hy; simp at hy
    have q3 : Srt (ltH c) (Y.take (I - m) ++ x :: Y.drop (I - m)) := srt_insert hw (by rw [q0]; exact hY) (fun y hy => hw.asymm (q1 y hy)) q2
    have q4 : Stb (ltH c) ([x] ++ Y) (Y.take (I - m) ++ x :: Y.drop (I - m)) := by
      have := (Stb.swap (lt := ltH c) hw (U := [x]) (X := Y.take (I - m)) fun y hy u hu => by rw [List.mem_singleton.1 hu]; exact q1 y hy).app (Stb.refl (Y.drop (I - m)))
      rw [List.append_assoc, q0] at this
      simpa using this
    rw [sortN_eq hw q3 q4]
  clear hY b3 b4 hgm
  (repeat' (first
  | (apply W.qd; (first
    | (apply q_mv; (first|exact vD|exact vO|exact vP|exact vA|exact vF|exact vR|exact vN|exact vY|exact vT|exact vM|exact vL|exact vX))|(apply q_as; (first|exact vD|exact vO|exact vP|exact vA|exact vF|exact vR|exact vN|exact vY|exact vT|exact vM|exact vL|exact vX))|(apply q_eql; exact rfl; exact rfl)
    | (apply q_sub; exact rfl; exact rfl; omega)))|(apply AWP.seq)|(apply ACont_normal)|(apply W.region; kernel_rfl)|(apply Walk.nil)|(apply AWP.block)
  | (refine W.cond _ rfl (fun hb => ?_) (fun hb => ?_) <;> ((try simp only [hb, zA, zB]) <;> (try simp only [zC, zD, zE, zF, zG, zH, zI, zJ] at hb) <;> (try (exfalso; omega))))))
  refine AWP.loopE (α := Nat × Nat) (fun q => m ≤ q.1 ∧ q.1 ≤ q.2 ∧ q.2 ≤ b ∧ bsN Q q.1 q.2 = I) (fun q => ⟨[(10, iV q.1), (11, iV q.2), (0, .osl 1 ver 0 N), (1, iV a), (2, iV m), (3, iV b), (4, .fn cf caps)], srtH B ver K⟩) (fun q => q.2 - q.1) (m, b) ⟨Nat.le_refl _, by dsimp only; omega, Nat.le_refl _, hI⟩ ⟨rfl, by (repeat (first | exact trivial | refine ⟨rfl, ?_⟩))⟩ fun q hq => ?_
  obtain ⟨i, j⟩ := q
  obtain ⟨h1, h2, h3, h4⟩ := hq
  dsimp only at h1 h2 h3 h4 ⊢
  clear hI
  by_cases hij : i < j
  · have eh := halfH i j
    have eij : (i : Int) + (j : Int) = ((i + j : Nat) : Int) := by omega
    have hh : (i + j) >>> 1 < K.length := by omega
    have hcall := hcl (K[(i + j) >>> 1]) (K[a]'(by omega)) ver (K.map hlD)
    have hQh : Q ((i + j) / 2) = !(ltH c K[(i + j) >>> 1] x) := by rw [← eh]; exact hp _ hh
    have hx0 := hga (by omega)
    by_cases hlt : c (K[(i + j) >>> 1]) (K[a]'(by omega)) < 0
    · have hlt' : ltH c (K[(i + j) >>> 1]) x = true := by unfold ltH; rw [← hx0]; exact decide_eq_true hlt
      rw [hlt'] at hQh
      rw [bs_right hij hQh] at h4
      clear hcl hfin hp
      (repeat' (first
  | (apply W.qd; (first
    | ((apply q_convU; (iterate 3 exact rfl); assumption; omega))|(apply q_mv; (first|exact vD|exact vO|exact vP|exact vA|exact vF|exact vR|exact vN|exact vY|exact vT|exact vM|exact vL|exact vX))|(apply q_as; (first|exact vD|exact vO|exact vP|exact vA|exact vF|exact vR|exact vN|exact vY|exact vT|exact vM|exact vL|exact vX))|(apply q_lss; exact rfl; exact rfl)|(apply q_add; exact rfl; exact rfl; omega)|(apply q_convI; (iterate 3 exact rfl); omega)|(apply q_shrN; exact rfl; exact rfl; (first | (with_reducible exact rfl) | exact natI_spec rfl | assumption | exact (Int.toNat_of_nonneg (by omega)).symm); (first | (with_reducible exact rfl) | exact natI_spec rfl | assumption | exact (Int.toNat_of_nonneg (by omega)).symm); focus (show _ ≤ 64; omega))|(apply q_ix_osl0; (iterate 4 exact rfl); (first | (with_reducible exact rfl) | exact natI_spec rfl | assumption | exact (Int.toNat_of_nonneg (by omega)).symm); (first | omega | (focus (simp only [List.length_map]; omega)) | (focus (simp; done)) | (focus (simp; omega))))
    | (apply q_ld_rptsm; (iterate 4 exact rfl); (first | omega | (focus (simp only [List.length_map]; omega)) | (focus (simp; done)) | (focus (simp; omega))))))|(apply W.ed; (apply (e_callS (hcall)); exact rfl; exact rfl; (first | assumption | kernel_rfl)))|(apply AWP.seq)|(apply ACont_normal)|(apply W.region; kernel_rfl)|(apply W.regionD; exact rfl; kernel_rfl)|(apply Walk.nil)|(apply W.chk; kernel_rfl)|(apply AWP.block)|(apply AWP.skip)|(apply ABlock_normal)
  | (refine W.cond _ rfl (fun hb => ?_) (fun hb => ?_) <;> ((try simp only [hb, zA, zB]) <;> (try simp only [zC, zD, zE, zF, zG, zH, zI, zJ] at hb) <;> (try (exfalso; omega))))))
      exact ⟨((i + j) / 2 + 1, j), ⟨by dsimp only; omega, by dsimp only; omega, h3, h4⟩, by dsimp only; omega, rfl, iV_eq (by dsimp only; omega), rfl, rfl, rfl, rfl, rfl, rfl, trivial⟩
    · have hlt' : ltH c (K[(i + j) >>> 1]) x = false := by unfold ltH; rw [← hx0]; exact decide_eq_false hlt
      rw [hlt'] at hQh
      rw [bs_left hij hQh] at h4
      clear hcl hfin hp
      (repeat' (first
  | (apply W.qd; (first
    | ((apply q_convU; (iterate 3 exact rfl); assumption; omega))|(apply q_mv; (first|exact vD|exact vO|exact vP|exact vA|exact vF|exact vR|exact vN|exact vY|exact vT|exact vM|exact vL|exact vX))|(apply q_as; (first|exact vD|exact vO|exact vP|exact vA|exact vF|exact vR|exact vN|exact vY|exact vT|exact vM|exact vL|exact vX))|(apply q_lss; exact rfl; exact rfl)|(apply q_add; exact rfl; exact rfl; omega)|(apply q_convI; (iterate 3 exact rfl); omega)|(apply q_shrN; exact rfl; exact rfl; (first | (with_reducible exact rfl) | exact natI_spec rfl | assumption | exact (Int.toNat_of_nonneg (by omega)).symm); (first | (with_reducible exact rfl) | exact natI_spec rfl | assumption | exact (Int.toNat_of_nonneg (by omega)).symm); focus (show _ ≤ 64; omega))|(apply q_ix_osl0; (iterate 4 exact rfl); (first | (with_reducible exact rfl) | exact natI_spec rfl | assumption | exact (Int.toNat_of_nonneg (by omega)).symm); (first | omega | (focus (simp only [List.length_map]; omega)) | (focus (simp; done)) | (focus (simp; omega))))
    | (apply q_ld_rptsm; (iterate 4 exact rfl); (first | omega | (focus (simp only [List.length_map]; omega)) | (focus (simp; done)) | (focus (simp; omega))))))|(apply W.ed; (apply (e_callS (hcall)); exact rfl; exact rfl; (first | assumption | kernel_rfl)))|(apply AWP.seq)|(apply ACont_normal)|(apply W.region; kernel_rfl)|(apply W.regionD; exact rfl; kernel_rfl)|(apply Walk.nil)|(apply W.chk; kernel_rfl)|(apply AWP.block)|(apply AWP.skip)|(apply ABlock_normal)
  | (refine W.cond _ rfl (fun hb => ?_) (fun hb => ?_) <;> ((try simp only [hb, zA, zB]) <;> (try simp only [zC, zD, zE, zF, zG, zH, zI, zJ] at hb) <;> (try (exfalso; omega))))))
      exact ⟨(i, (i + j) / 2), ⟨h1, by dsimp only; omega, by dsimp only; omega, h4⟩, by dsimp only; omega, rfl, rfl, iV_eq (by dsimp only; omega), rfl, rfl, rfl, rfl, rfl, trivial⟩
  · rw [bs_done Q hij] at h4
    subst h4
    clear hcl hp
    (repeat' (first
  | (apply W.qd; (first
    | (apply q_mv; (first|exact vD|exact vO|exact vP|exact vA|exact vF|exact vR|exact vN|exact vY|exact vT|exact vM|exact vL|exact vX))|(apply q_as; (first|exact vD|exact vO|exact vP|exact vA|exact vF|exact vR|exact vN|exact vY|exact vT|exact vM|exact vL|exact vX))
    | (apply q_lss; exact rfl; exact rfl)))|(apply AWP.seq)|(apply ACont_normal)|(apply W.region; kernel_rfl)|(apply Walk.nil)|(apply AWP.block)|(apply AWP.exit)|(apply ACont_exit)|(apply ABlock_exit)
  | (refine W.cond _ rfl (fun hb => ?_) (fun hb => ?_) <;> ((try simp only [hb, zA, zB]) <;> (try simp only [zC, zD, zE, zF, zG, zH, zI, zJ] at hb) <;> (try (exfalso; omega))))))
    refine AWP.loopE (α := List Hl × Nat) (fun q => a ≤ q.2 ∧ q.2 < i ∧ q.1 = P ++ ((Y.take (q.2 - a) ++ x :: Y.drop (q.2 - a)) ++ R)) (fun q => ⟨[(13, iV q.2), (10, iV i), (0, .osl 1 ver 0 N)], srtH B ver q.1⟩) (fun q => i - q.2) (K, a) ⟨Nat.le_refl _, by dsimp only; omega, by dsimp only; rw [Nat.sub_self, hK]; simp⟩ ⟨rfl, by (repeat (first | exact trivial | refine ⟨rfl, ?_⟩))⟩ fun q hq => ?_
    obtain ⟨K', k⟩ := q
    obtain ⟨g1, g2, g3⟩ := hq
    dsimp only at g1 g2 g3 ⊢
    by_cases hk : k < i - 1
    · have hka : k - a < Y.length := by omega
      have gl : K'.length = K.length := by rw [g3, hK]; simp; omega
      obtain ⟨yk, hyk⟩ : ∃ yk, yk = Y[k - a] := ⟨_, rfl⟩
      have hyd : Y.drop (k - a) = yk :: Y.drop (k - a + 1) := by rw [hyk]; exact List.drop_eq_getElem_cons hka
      have hyt : Y.take (k - a + 1) = Y.take (k - a) ++ [yk] := by rw [hyk]; exact List.take_succ_eq_append_getElem hka
      have gK : K' = (P ++ Y.take (k - a)) ++ x :: yk :: (Y.drop (k - a + 1) ++ R) := by rw [g3, hyd]; simp
      have el : (P ++ Y.take (k - a)).length = k := by rw [List.length_append, List.length_take]; omega
      have hswp := swp_adj hl0 (P ++ Y.take (k - a)) (Y.drop (k - a + 1) ++ R) x yk
      rw [← gK, el] at hswp
      have et : (P ++ Y.take (k - a)) ++ yk :: x :: (Y.drop (k - a + 1) ++ R) = P ++ ((Y.take (k + 1 - a) ++ x :: Y.drop (k + 1 - a)) ++ R) := by
        rw [show k + 1 - a = k - a + 1 by omega, hyt]; simp
      rw [et] at hswp
      unfold swpN at hswp
      have e1 : K'.getD k hl0 = K'[k]'(by omega) := by rw [List.getD_eq_getElem?_getD, List.getElem?_eq_getElem (by omega)]; rfl
      have e2 : K'.getD (k + 1) hl0 = K'[k + 1]'(by omega) := by rw [List.getD_eq_getElem?_getD, List.getElem?_eq_getElem (by omega)]; rfl
      rw [e1, e2] at hswp
      clear hfin
      (repeat' (first
  | (apply W.qd; (first
    | (apply q_mv; (first|exact vD|exact vO|exact vP|exact vA|exact vF|exact vR|exact vN|exact vY|exact vT|exact vM|exact vL|exact vX))|(apply q_as; (first|exact vD|exact vO|exact vP|exact vA|exact vF|exact vR|exact vN|exact vY|exact vT|exact vM|exact vL|exact vX))|(apply q_lss; exact rfl; exact rfl)|(apply q_add; exact rfl; exact rfl; omega)|(apply q_sub; exact rfl; exact rfl; omega)|(apply q_ix_osl0; (iterate 4 exact rfl); (first | (with_reducible exact rfl) | exact natI_spec rfl | assumption | exact (Int.toNat_of_nonneg (by omega)).symm); (first | omega | (focus (simp only [List.length_map]; omega)) | (focus (simp; done)) | (focus (simp; omega))))
    | (apply q_ld_rptsm; (iterate 4 exact rfl); (first | omega | (focus (simp only [List.length_map]; omega)) | (focus (simp; done)) | (focus (simp; omega))))))|(apply W.en; ((apply (e_st_rptM _); (iterate 9 exact rfl))))|(apply AWP.seq)|(apply ACont_normal)|(apply W.region; kernel_rfl)|(apply W.regionD; exact rfl; kernel_rfl)|(apply Walk.nil)|(apply W.chk; kernel_rfl)|(apply AWP.block)|(apply AWP.skip)|(apply ABlock_normal)
  | (refine W.cond _ rfl (fun hb => ?_) (fun hb => ?_) <;> ((try simp only [hb, zA, zB]) <;> (try simp only [zC, zD, zE, zF, zG, zH, zI, zJ] at hb) <;> (try (exfalso; omega))))))
      exact ⟨(_, k + 1), ⟨by dsimp only; omega, by dsimp only; omega, hswp⟩, by dsimp only; omega, rfl, iV_eq (by dsimp only; omega), rfl, rfl, trivial⟩
    · have ek : k = i - 1 := by omega
      subst ek
      rw [show i - 1 - a = i - m by omega, hfin] at g3
      subst g3
      (repeat' (first
  | (apply W.qd; (first
    | (apply q_mv; (first|exact vD|exact vO|exact vP|exact vA|exact vF|exact vR|exact vN|exact vY|exact vT|exact vM|exact vL|exact vX))|(apply q_lss; exact rfl; exact rfl)
    | (apply q_sub; exact rfl; exact rfl; omega)))|(apply AWP.seq)|(apply ACont_normal)|(apply W.region; kernel_rfl)|(apply Walk.nil)|(apply AWP.exit)|(apply AWP.ret)|(apply ACont_exit)|(apply ACont_ret)|(apply ABlock_exit)
  | (refine W.cond _ rfl (fun hb => ?_) (fun hb => ?_) <;> ((try simp only [hb, zA, zB]) <;> (try simp only [zC, zD, zE, zF, zG, zH, zI, zJ] at hb) <;> (try (exfalso; omega))))))
      exact ⟨.inl rfl, [], trivial, AVle.of_eq rfl, rfl⟩
end
end Go.Proofs.YtaclmbbiegklcaaGreatDoor
end
section
/- slices.SortStableFunc at solvent/api.Health: symMerge, the second and the third part. -/
namespace Go.Proofs.YtaclmbbiegklcaaGreatDoor
open Go.RowKit
set_option maxHeartbeats 4000000
set_option maxRecDepth 100000
attribute [local irreducible] Quiet Eff OpOk AWPG ACont ABlock ACalls AGoto
section
variable {B : Ent} {cf : FuncId} {caps : List AV} {c : Hl → Hl → Int} {ver N : Nat}
theorem A_mergeRH {a m b : Nat} {P R : List Hl} {y : Hl} {X : List Hl} (hc : CmpH cf caps B c) (hN : N ≤ (P ++ ((X ++ [y]) ++ R)).length) (hL : (P ++ ((X ++ [y]) ++ R)).length ≤ 1000000) (ha : P.length = a) (hm : a + X.length = m) (hb : m + 1 = b) (hbN : b ≤ N) (hX : Srt (ltH c) X) (hX2 : 2 ≤ X.length) :
    ACalls Tryz.prog 163 [.osl 1 ver 0 N, iV a, iV m, iV b, .fn cf caps] (srtH B ver (P ++ ((X ++ [y]) ++ R))) (.tup []) (srtH B ver (P ++ (sortN (ltH c) (X ++ [y]) ++ R))) := by
  refine acalls_of_bodyS Tryz.func163 rfl (Nat.le_of_ble_eq_true rfl) ?_
  have hw := hc.weak
  have hgf := hc.isf
  have hcl := hc.call
  obtain ⟨K, hK⟩ : ∃ K, K = P ++ ((X ++ [y]) ++ R) := ⟨_, rfl⟩
  rw [← hK] at hN hL ⊢
  have hKl : K.length = P.length + X.length + 1 + R.length := by rw [hK]; simp; omega
  have hgy : ∀ (h : m < K.length), K[m] = y := fun h => by
    have h0 : K[m]? = some y := by
      have e : K = (P ++ X) ++ (y :: R) := by rw [hK]; simp
      rw [e, List.getElem?_append_right (by simp; omega), show m - (P ++ X).length = 0 by simp; omega]; rfl
    rw [List.getElem?_eq_getElem h] at h0
    exact Option.some.inj h0
  have hgx : ∀ (t : Nat) (h : t < X.length) (h2 : a + t < K.length), K[a + t] = X[t] := fun t h h2 => by
    have e : K = P ++ (X ++ (y :: R)) := by rw [hK]; simp
    simp only [e]
    rw [List.getElem_append_right (by omega), List.getElem_append_left (by omega)]
    congr 1
    omega
  let p : Nat → Bool := fun h => ltH c y (K.getD h hl0)
  have hp : ∀ (h : Nat) (hh : h < K.length), p h = ltH c y K[h] := fun h hh => by
    show ltH c y (K.getD h hl0) = _
    rw [List.getD_eq_getElem?_getD, List.getElem?_eq_getElem hh]; rfl
  generalize hQ : p = Q at hp
  clear hQ
  obtain ⟨b1, b2, b3, b4⟩ := bs_spec Q (m - a) a m (Nat.le_refl _) (by omega)
  generalize hI : bsN Q a m = I at *
  have hfin : P ++ ((X.take (I - a) ++ y :: X.drop (I - a)) ++ R) = P ++ (sortN (ltH c) (X ++ [y]) ++ R) := by
    have q0 : X.take (I - a) ++ X.drop (I - a) = X := List.take_append_drop _ _
    have q1 : ∀ x ∈ X.take (I - a), ltH c y x = false := fun x hx => by
      by_cases h0 : a < I
      · have := b3 h0
        rw [hp _ (by omega)] at this
        have e : K[I - 1]'(by omega) = X[I - a - 1]'(by omega) := by
          have := hgx (I - a - 1) (by omega) (by omega)
          rw [← this]; congr 1; omega
        rw [e] at this
        have h6 : X.take (I - a) = X.take (I - a - 1) ++ [X[I - a - 1]'(by omega)] := by
          have := List.take_succ_eq_append_getElem (l := X) (i := I - a - 1) (by omega)
          rwa [show I - a - 1 + 1 = I - a by omega] at this
        have h7 : Srt (ltH c) (X.take (I - a - 1) ++ [X[I - a - 1]'(by omega)]) := by
          rw [← h6]
          rw [← q0] at hX
          exact hX.left
        rw [h6] at hx
        exact hw.le_trans (h7.last hw hx) this
      · rw [show I - a = 0 by omega] at hx; simp at hx
    have q2 : ∀ x ∈ X.drop (I - a), ltH c y x = true := fun x hx => by
      by_cases h0 : I < m
      · have := b4 h0
        rw [hp _ (by omega)] at this
        have e : K[I]'(by omega) = X[I - a]'(by omega) := by
          have := hgx (I - a) (by omega) (by omega)
          rw [← this]; congr 1; omega
        rw [e] at this
        have h6 : X.drop (I - a) = X[I - a]'(by omega) :: X.drop (I - a + 1) := List.drop_eq_getElem_cons (by omega)
        have h7 : Srt (ltH c) (X[I - a]'(by omega) :: X.drop (I - a + 1)) := by
          rw [← h6]
          rw [← q0] at hX
          exact hX.right
        rw [h6] at hx
        exact hw.lt_le this (h7.head hw hx)
      · rw [List.drop_eq_nil_of_le (by omega)] at hx; simp at hx
    have q3 : Srt (ltH c) (X.take (I - a) ++ y :: X.drop (I - a)) := srt_insert hw (by rw [q0]; exact hX) q1 (fun x hx => hw.asymm (q2 x hx))
    have q4 : Stb (ltH c) (X ++ [y]) (X.take (I - a) ++ y :: X.drop (I - a)) := by
      have := (Stb.refl (X.take (I - a))).app (Stb.swap (lt := ltH c) hw (U := X.drop (I - a)) (X := [y]) fun z hz u hu => by rw [List.mem_singleton.1 hz]; exact q2 u hu)
      rw [← List.append_assoc, q0] at this
      simpa using this
    rw [sortN_eq hw q3 q4]
  clear hX b3 b4 hgx
  (repeat' (first
  | (apply W.qd; (first
    | (apply q_mv; (first|exact vD|exact vO|exact vP|exact vA|exact vF|exact vR|exact vN|exact vY|exact vT|exact vM|exact vL|exact vX))|(apply q_as; (first|exact vD|exact vO|exact vP|exact vA|exact vF|exact vR|exact vN|exact vY|exact vT|exact vM|exact vL|exact vX))|(apply q_eql; exact rfl; exact rfl)
    | (apply q_sub; exact rfl; exact rfl; omega)))|(apply AWP.seq)|(apply ACont_normal)|(apply W.region; kernel_rfl)|(apply Walk.nil)|(apply AWP.block)|(apply AWP.skip)
  | (refine W.cond _ rfl (fun hb => ?_) (fun hb => ?_) <;> ((try simp only [hb, zA, zB]) <;> (try simp only [zC, zD, zE, zF, zG, zH, zI, zJ] at hb) <;> (try (exfalso; omega))))))
  refine AWP.loopE (α := Nat × Nat) (fun q => a ≤ q.1 ∧ q.1 ≤ q.2 ∧ q.2 ≤ m ∧ bsN Q q.1 q.2 = I) (fun q => ⟨[(14, iV q.1), (15, iV q.2), (0, .osl 1 ver 0 N), (1, iV a), (2, iV m), (3, iV b), (4, .fn cf caps)], srtH B ver K⟩) (fun q => q.2 - q.1) (a, m) ⟨Nat.le_refl _, by dsimp only; omega, Nat.le_refl _, hI⟩ ⟨rfl, by (repeat (first | exact trivial | refine ⟨rfl, ?_⟩))⟩ fun q hq => ?_
  obtain ⟨i, j⟩ := q
  obtain ⟨h1, h2, h3, h4⟩ := hq
  dsimp only at h1 h2 h3 h4 ⊢
  clear hI
  by_cases hij : i < j
  · have eh := halfH i j
    have eij : (i : Int) + (j : Int) = ((i + j : Nat) : Int) := by omega
    have hh : (i + j) >>> 1 < K.length := by omega
    have hcall := hcl (K[m]'(by omega)) (K[(i + j) >>> 1]) ver (K.map hlD)
    have hQh : Q ((i + j) / 2) = ltH c y K[(i + j) >>> 1] := by rw [← eh]; exact hp _ hh
    have hy0 := hgy (by omega)
    by_cases hlt : c (K[m]'(by omega)) (K[(i + j) >>> 1]) < 0
    · have hlt' : ltH c y (K[(i + j) >>> 1]) = true := by unfold ltH; rw [← hy0]; exact decide_eq_true hlt
      rw [hlt'] at hQh
      rw [bs_left hij hQh] at h4
      clear hcl hfin hp
      (repeat' (first
  | (apply W.qd; (first
    | ((apply q_convU; (iterate 3 exact rfl); assumption; omega))|(apply q_mv; (first|exact vD|exact vO|exact vP|exact vA|exact vF|exact vR|exact vN|exact vY|exact vT|exact vM|exact vL|exact vX))|(apply q_as; (first|exact vD|exact vO|exact vP|exact vA|exact vF|exact vR|exact vN|exact vY|exact vT|exact vM|exact vL|exact vX))|(apply q_lss; exact rfl; exact rfl)|(apply q_not; exact rfl)|(apply q_add; exact rfl; exact rfl; omega)|(apply q_convI; (iterate 3 exact rfl); omega)|(apply q_shrN; exact rfl; exact rfl; (first | (with_reducible exact rfl) | exact natI_spec rfl | assumption | exact (Int.toNat_of_nonneg (by omega)).symm); (first | (with_reducible exact rfl) | exact natI_spec rfl | assumption | exact (Int.toNat_of_nonneg (by omega)).symm); focus (show _ ≤ 64; omega))|(apply q_ix_osl0; (iterate 4 exact rfl); (first | (with_reducible exact rfl) | exact natI_spec rfl | assumption | exact (Int.toNat_of_nonneg (by omega)).symm); (first | omega | (focus (simp only [List.length_map]; omega)) | (focus (simp; done)) | (focus (simp; omega))))
    | (apply q_ld_rptsm; (iterate 4 exact rfl); (first | omega | (focus (simp only [List.length_map]; omega)) | (focus (simp; done)) | (focus (simp; omega))))))|(apply W.ed; (apply (e_callS (hcall)); exact rfl; exact rfl; (first | assumption | kernel_rfl)))|(apply AWP.seq)|(apply ACont_normal)|(apply W.region; kernel_rfl)|(apply W.regionD; exact rfl; kernel_rfl)|(apply Walk.nil)|(apply W.chk; kernel_rfl)|(apply AWP.block)|(apply AWP.skip)|(apply ABlock_normal)
  | (refine W.cond _ rfl (fun hb => ?_) (fun hb => ?_) <;> ((try simp only [hb, zA, zB]) <;> (try simp only [zC, zD, zE, zF, zG, zH, zI, zJ] at hb) <;> (try (exfalso; omega))))))
      exact ⟨(i, (i + j) / 2), ⟨h1, by dsimp only; omega, by dsimp only; omega, h4⟩, by dsimp only; omega, rfl, rfl, iV_eq (by dsimp only; omega), rfl, rfl, rfl, rfl, rfl, trivial⟩
    · have hlt' : ltH c y (K[(i + j) >>> 1]) = false := by unfold ltH; rw [← hy0]; exact decide_eq_false hlt
      rw [hlt'] at hQh
      rw [bs_right hij hQh] at h4
      clear hcl hfin hp
      (repeat' (first
  | (apply W.qd; (first
    | ((apply q_convU; (iterate 3 exact rfl); assumption; omega))|(apply q_mv; (first|exact vD|exact vO|exact vP|exact vA|exact vF|exact vR|exact vN|exact vY|exact vT|exact vM|exact vL|exact vX))|(apply q_as; (first|exact vD|exact vO|exact vP|exact vA|exact vF|exact vR|exact vN|exact vY|exact vT|exact vM|exact vL|exact vX))|(apply q_lss; exact rfl; exact rfl)|(apply q_not; exact rfl)|(apply q_add; exact rfl; exact rfl; omega)|(apply q_convI; (iterate 3 exact rfl); omega)|(apply q_shrN; exact rfl; exact rfl; (first | (with_reducible exact rfl) | exact natI_spec rfl | assumption | exact (Int.toNat_of_nonneg (by omega)).symm); (first | (with_reducible exact rfl) | exact natI_spec rfl | assumption | exact (Int.toNat_of_nonneg (by omega)).symm); focus (show _ ≤ 64; omega))|(apply q_ix_osl0; (iterate 4 exact rfl); (first | (with_reducible exact rfl) | exact natI_spec rfl | assumption | exact (Int.toNat_of_nonneg (by omega)).symm); (first | omega | (focus (simp only [List.length_map]; omega)) | (focus (simp; done)) | (focus (simp; omega))))
    | (apply q_ld_rptsm; (iterate 4 exact rfl); (first | omega | (focus (simp only [List.length_map]; omega)) | (focus (simp; done)) | (focus (simp; omega))))))|(apply W.ed; (apply (e_callS (hcall)); exact rfl; exact rfl; (first | assumption | kernel_rfl)))|(apply AWP.seq)|(apply ACont_normal)|(apply W.region; kernel_rfl)|(apply W.regionD; exact rfl; kernel_rfl)|(apply Walk.nil)|(apply W.chk; kernel_rfl)|(apply AWP.block)|(apply AWP.skip)|(apply ABlock_normal)
  | (refine W.cond _ rfl (fun hb => ?_) (fun hb => ?_) <;> ((try simp only [hb, zA, zB]) <;> (try simp only [zC, zD, zE, zF, zG, zH, zI, zJ] at hb) <;> (try (exfalso; omega))))))
      exact ⟨((i + j) / 2 + 1, j), ⟨by dsimp only; omega, by dsimp only; omega, h3, h4⟩, by dsimp only; omega, rfl, iV_eq (by dsimp only; omega), rfl, rfl, rfl, rfl, rfl, rfl, trivial⟩
  · rw [bs_done Q hij] at h4
    subst h4
    clear hcl hp
    (repeat' (first
  | (apply W.qd; (first
    | (apply q_mv; (first|exact vD|exact vO|exact vP|exact vA|exact vF|exact vR|exact vN|exact vY|exact vT|exact vM|exact vL|exact vX))|(apply q_as; (first|exact vD|exact vO|exact vP|exact vA|exact vF|exact vR|exact vN|exact vY|exact vT|exact vM|exact vL|exact vX))
    | (apply q_lss; exact rfl; exact rfl)))|(apply AWP.seq)|(apply ACont_normal)|(apply W.region; kernel_rfl)|(apply Walk.nil)|(apply AWP.block)|(apply AWP.exit)|(apply ACont_exit)|(apply ABlock_exit)
  | (refine W.cond _ rfl (fun hb => ?_) (fun hb => ?_) <;> ((try simp only [hb, zA, zB]) <;> (try simp only [zC, zD, zE, zF, zG, zH, zI, zJ] at hb) <;> (try (exfalso; omega))))))
    refine AWP.loopE (α := List Hl × Nat) (fun q => i ≤ q.2 ∧ q.2 ≤ m ∧ q.1 = P ++ ((X.take (q.2 - a) ++ y :: X.drop (q.2 - a)) ++ R)) (fun q => ⟨[(17, iV q.2), (14, iV i), (0, .osl 1 ver 0 N)], srtH B ver q.1⟩) (fun q => q.2) (K, m) ⟨by dsimp only; omega, Nat.le_refl _, ?kk⟩ ⟨rfl, by (repeat (first | exact trivial | refine ⟨rfl, ?_⟩))⟩ fun q hq => ?_
    case kk =>
      dsimp only
      rw [show m - a = X.length by omega, List.take_length, List.drop_length, hK]
    obtain ⟨K', k⟩ := q
    obtain ⟨g1, g2, g3⟩ := hq
    dsimp only at g1 g2 g3 ⊢
    by_cases hk : i < k
    · have hka : k - 1 - a < X.length := by omega
      have gl : K'.length = K.length := by rw [g3, hK]; simp; omega
      obtain ⟨u, hu⟩ : ∃ u, u = X[k - 1 - a] := ⟨_, rfl⟩
      have hyd : X.drop (k - 1 - a) = u :: X.drop (k - a) := by rw [hu, show k - a = k - 1 - a + 1 by omega]; exact List.drop_eq_getElem_cons hka
      have hyt : X.take (k - a) = X.take (k - 1 - a) ++ [u] := by rw [hu, show k - a = k - 1 - a + 1 by omega]; exact List.take_succ_eq_append_getElem hka
      have gK : K' = (P ++ X.take (k - 1 - a)) ++ u :: y :: (X.drop (k - a) ++ R) := by rw [g3, hyt]; simp
      have el : (P ++ X.take (k - 1 - a)).length = k - 1 := by rw [List.length_append, List.length_take]; omega
      have hswp := swp_adj' hl0 (P ++ X.take (k - 1 - a)) (X.drop (k - a) ++ R) u y
      rw [← gK, el, show k - 1 + 1 = k by omega] at hswp
      have et : (P ++ X.take (k - 1 - a)) ++ y :: u :: (X.drop (k - a) ++ R) = P ++ ((X.take (k - 1 - a) ++ y :: X.drop (k - 1 - a)) ++ R) := by
        rw [hyd]; simp
      rw [et] at hswp
      unfold swpN at hswp
      have e1 : K'.getD k hl0 = K'[k]'(by omega) := by rw [List.getD_eq_getElem?_getD, List.getElem?_eq_getElem (by omega)]; rfl
      have e2 : K'.getD (k - 1) hl0 = K'[k - 1]'(by omega) := by rw [List.getD_eq_getElem?_getD, List.getElem?_eq_getElem (by omega)]; rfl
      rw [e1, e2] at hswp
      have ek : (k : Int) - 1 = ((k - 1 : Nat) : Int) := by omega
      clear hfin
      (repeat' (first
  | (apply W.qd; (first
    | (apply q_mv; (first|exact vD|exact vO|exact vP|exact vA|exact vF|exact vR|exact vN|exact vY|exact vT|exact vM|exact vL|exact vX))|(apply q_as; (first|exact vD|exact vO|exact vP|exact vA|exact vF|exact vR|exact vN|exact vY|exact vT|exact vM|exact vL|exact vX))|(apply q_gtr; exact rfl; exact rfl)|(apply q_sub; exact rfl; exact rfl; omega)|(apply q_ix_osl0; (iterate 4 exact rfl); (first | (with_reducible exact rfl) | exact natI_spec rfl | assumption | exact (Int.toNat_of_nonneg (by omega)).symm); (first | omega | (focus (simp only [List.length_map]; omega)) | (focus (simp; done)) | (focus (simp; omega))))
    | (apply q_ld_rptsm; (iterate 4 exact rfl); (first | omega | (focus (simp only [List.length_map]; omega)) | (focus (simp; done)) | (focus (simp; omega))))))|(apply W.en; ((apply (e_st_rptM _); (iterate 9 exact rfl))))|(apply AWP.seq)|(apply ACont_normal)|(apply W.region; kernel_rfl)|(apply W.regionD; exact rfl; kernel_rfl)|(apply Walk.nil)|(apply W.chk; kernel_rfl)|(apply AWP.block)|(apply AWP.skip)|(apply ABlock_normal)
  | (refine W.cond _ rfl (fun hb => ?_) (fun hb => ?_) <;> ((try simp only [hb, zA, zB]) <;> (try simp only [zC, zD, zE, zF, zG, zH, zI, zJ] at hb) <;> (try (exfalso; omega))))))
      exact ⟨(_, k - 1), ⟨by dsimp only; omega, by dsimp only; omega, hswp⟩, by dsimp only; omega, rfl, iV_eq (by dsimp only; omega), rfl, rfl, trivial⟩
    · have ek : k = i := by omega
      subst ek
      rw [hfin] at g3
      subst g3
      (repeat' (first
  | (apply W.qd; (first
    | (apply q_mv; (first|exact vD|exact vO|exact vP|exact vA|exact vF|exact vR|exact vN|exact vY|exact vT|exact vM|exact vL|exact vX))
    | (apply q_gtr; exact rfl; exact rfl)))|(apply AWP.seq)|(apply ACont_normal)|(apply W.region; kernel_rfl)|(apply Walk.nil)|(apply AWP.exit)|(apply AWP.ret)|(apply ACont_exit)|(apply ACont_ret)|(apply ABlock_exit)
  | (refine W.cond _ rfl (fun hb => ?_) (fun hb => ?_) <;> ((try simp only [hb, zA, zB]) <;> (try simp only [zC, zD, zE, zF, zG, zH, zI, zJ] at hb) <;> (try (exfalso; omega))))))
      exact ⟨.inl rfl, [], trivial, AVle.of_eq rfl, rfl⟩
def SymH (c : Hl → Hl → Int) (cf : FuncId) (caps : List AV) (B : Ent) (ver N : Nat) (P X Y R : List Hl) : Prop :=
  ACalls Tryz.prog 163 [.osl 1 ver 0 N, iV P.length, iV (P.length + X.length : Nat), iV (P.length + X.length + Y.length : Nat), .fn cf caps] (srtH B ver (P ++ ((X ++ Y) ++ R))) (.tup []) (srtH B ver (P ++ (sortN (ltH c) (X ++ Y) ++ R)))
end
end Go.Proofs.YtaclmbbiegklcaaGreatDoor
end
section
/- slices.SortStableFunc at solvent/api.Health: symMerge, the general part. -/
namespace Go.Proofs.YtaclmbbiegklcaaGreatDoor
open Go.RowKit
set_option maxHeartbeats 4000000
set_option maxRecDepth 100000
attribute [local irreducible] Quiet Eff OpOk AWPG ACont ABlock ACalls AGoto
section
variable {B : Ent} {cf : FuncId} {caps : List AV} {c : Hl → Hl → Int} {ver N : Nat}
theorem getE_midH {P S : List Hl} {k : Nat} {x : Hl} {K : List Hl} (hK : K = P ++ x :: S) (hk : P.length = k) (h : k < K.length) : K[k] = x := by
  have h0 : K[k]? = some x := by rw [hK, ← hk, List.getElem?_append_right (Nat.le_refl _), Nat.sub_self]; rfl
  rw [List.getElem?_eq_getElem h] at h0
  exact Option.some.inj h0
theorem A_symStepH {P X Y R : List Hl} (hc : CmpH cf caps B c) (hN : N ≤ (P ++ ((X ++ Y) ++ R)).length) (hL : (P ++ ((X ++ Y) ++ R)).length ≤ 1000000) (hbN : P.length + X.length + Y.length ≤ N) (hX2 : 2 ≤ X.length) (hY2 : 2 ≤ Y.length) (sX : Srt (ltH c) X) (sY : Srt (ltH c) Y)
    (ih : ∀ P' X' Y' R' : List Hl, (P' ++ ((X' ++ Y') ++ R')).length = (P ++ ((X ++ Y) ++ R)).length → X'.length + Y'.length < X.length + Y.length → 0 < X'.length → 0 < Y'.length → P'.length + X'.length + Y'.length ≤ N → Srt (ltH c) X' → Srt (ltH c) Y' → SymH c cf caps B ver N P' X' Y' R') :
    SymH c cf caps B ver N P X Y R := by
  unfold SymH at ih ⊢
  have hw := hc.weak
  have hgf := hc.isf
  have hcl := hc.call
  obtain ⟨a, ha⟩ : ∃ a, P.length = a := ⟨_, rfl⟩
  obtain ⟨m, hm⟩ : ∃ m, a + X.length = m := ⟨_, rfl⟩
  obtain ⟨b, hb⟩ : ∃ b, m + Y.length = b := ⟨_, rfl⟩
  rw [ha, hm, hb] at hbN ⊢
  obtain ⟨K, hK⟩ : ∃ K, P ++ ((X ++ Y) ++ R) = K := ⟨_, rfl⟩
  rw [hK] at hN hL ih ⊢
  have hKl : K.length = a + X.length + Y.length + R.length := by rw [← hK]; simp; omega
  obtain ⟨mid, hmid⟩ : ∃ mid, mid = (a + b) >>> 1 := ⟨_, rfl⟩
  have ehm := halfH a b
  have eab : (a : Int) + (b : Int) = ((a + b : Nat) : Int) := by omega
  obtain ⟨s0, r0, hlo, hhi⟩ : ∃ s0 r0 : Nat, (mid < m → s0 = mid + m - b ∧ r0 = mid) ∧ (m ≤ mid → s0 = a ∧ r0 = m) := by
    by_cases h : mid < m
    · exact ⟨mid + m - b, mid, fun _ => ⟨rfl, rfl⟩, fun h2 => by omega⟩
    · exact ⟨a, m, fun h2 => by omega, fun _ => ⟨rfl, rfl⟩⟩
  let p : Nat → Bool := fun h => ltH c (K.getD (mid + m - 1 - h) hl0) (K.getD h hl0)
  have hp : ∀ (h : Nat) (hh : h < K.length) (h2 : mid + m - 1 - h < K.length), p h = ltH c K[mid + m - 1 - h] K[h] := fun h hh h2 => by
    show ltH c (K.getD (mid + m - 1 - h) hl0) (K.getD h hl0) = _
    have q1 : K.getD h hl0 = K[h] := by rw [List.getD_eq_getElem?_getD, List.getElem?_eq_getElem hh]; rfl
    have q2 : K.getD (mid + m - 1 - h) hl0 = K[mid + m - 1 - h] := by rw [List.getD_eq_getElem?_getD, List.getElem?_eq_getElem h2]; rfl
    rw [q1, q2]
  generalize hQ : p = Q at hp
  clear hQ
  have hsr : s0 ≤ r0 := by omega
  obtain ⟨b1, b2, b3, b4⟩ := bs_spec Q (r0 - s0) s0 r0 (Nat.le_refl _) hsr
  generalize hI : bsN Q s0 r0 = I at *
  obtain ⟨e, he⟩ : ∃ e, e + I = mid + m := ⟨mid + m - I, by omega⟩
  have r_a : a ≤ I := by omega
  have r_m : I ≤ m := by omega
  have r_e : m ≤ e := by omega
  have r_b : e ≤ b := by omega
  obtain ⟨X1, hX1⟩ : ∃ l, l = X.take (I - a) := ⟨_, rfl⟩
  obtain ⟨X2, hX2'⟩ : ∃ l, l = X.drop (I - a) := ⟨_, rfl⟩
  obtain ⟨Y1, hY1⟩ : ∃ l, l = Y.take (e - m) := ⟨_, rfl⟩
  obtain ⟨Y2, hY2'⟩ : ∃ l, l = Y.drop (e - m) := ⟨_, rfl⟩
  have eX : X = X1 ++ X2 := by rw [hX1, hX2', List.take_append_drop]
  have eY : Y = Y1 ++ Y2 := by rw [hY1, hY2', List.take_append_drop]
  have lX1 : X1.length = I - a := by rw [hX1, List.length_take]; omega
  have lX2 : X2.length = m - I := by rw [hX2', List.length_drop]; omega
  have lY1 : Y1.length = e - m := by rw [hY1, List.length_take]; omega
  have lY2 : Y2.length = b - e := by rw [hY2', List.length_drop]; omega
  have lX : X.length = m - a := by omega
  have lY : Y.length = b - m := by omega
  clear hX1 hX2' hY1 hY2'
  subst eX eY
  have eK : K = P ++ (X1 ++ (X2 ++ (Y1 ++ (Y2 ++ R)))) := by rw [← hK]; simp
  have f1 : ∀ y ∈ Y1, ∀ x ∈ X2, ltH c y x = true := fun y hy x hx => by
    rcases List.eq_nil_or_concat Y1 with h0 | ⟨Y1', v, h0⟩
    · rw [h0] at hy; simp at hy
    rcases X2 with _ | ⟨u, X2'⟩
    · simp at hx
    rw [List.concat_eq_append] at h0
    subst h0
    have hIr : I < r0 := by
      have : 0 < (u :: X2').length := by simp
      have : 0 < (Y1' ++ [v]).length := by simp
      omega
    have := b4 hIr
    rw [hp I (by omega) (by omega)] at this
    rw [getE_midH (k := I) (P := P ++ X1) (S := X2' ++ ((Y1' ++ [v]) ++ (Y2 ++ R))) (x := u) (by rw [eK]; simp) (by simp; omega), getE_midH (k := mid + m - 1 - I) (P := P ++ (X1 ++ ((u :: X2') ++ Y1'))) (S := Y2 ++ R) (x := v) (by rw [eK]; simp) (by simp at lX2 lY1 ⊢; omega)] at this
    exact hw.lt_le (hw.le_lt (sY.left.last hw hy) this) (sX.right.head hw hx)
  have f2 : ∀ x ∈ X1, ∀ y ∈ Y2, ltH c y x = false := fun x hx y hy => by
    rcases List.eq_nil_or_concat X1 with h0 | ⟨X1', u, h0⟩
    · rw [h0] at hx; simp at hx
    rcases Y2 with _ | ⟨v, Y2'⟩
    · simp at hy
    rw [List.concat_eq_append] at h0
    subst h0
    have hIr : s0 < I := by
      have : 0 < (v :: Y2').length := by simp
      have : 0 < (X1' ++ [u]).length := by simp
      omega
    have := b3 hIr
    rw [hp (I - 1) (by omega) (by omega)] at this
    rw [getE_midH (k := I - 1) (P := P ++ X1') (S := X2 ++ (Y1 ++ ((v :: Y2') ++ R))) (x := u) (by rw [eK]; simp) (by simp at lX1 ⊢; omega), getE_midH (k := mid + m - 1 - (I - 1)) (P := P ++ ((X1' ++ [u]) ++ (X2 ++ Y1))) (S := Y2' ++ R) (x := v) (by rw [eK]; simp) (by simp at lX1 lY2 ⊢; omega)] at this
    exact hw.le_trans (hw.le_trans (sX.left.last hw hx) this) (sY.right.head hw hy)
  obtain ⟨z1, z2⟩ := sortN_spec hw (X1 ++ Y1)
  obtain ⟨z3, z4⟩ := sortN_spec hw (X2 ++ Y2)
  obtain ⟨z5, z6⟩ := merge_cut hw sX sY f1 f2 z1 z3 z2 z4
  have z7 := sortN_eq hw z5 z6
  obtain ⟨K2, hK2⟩ : ∃ K2, P ++ ((X1 ++ Y1) ++ ((X2 ++ Y2) ++ R)) = K2 := ⟨_, rfl⟩
  obtain ⟨K3, hK3⟩ : ∃ K3, P ++ (sortN (ltH c) (X1 ++ Y1) ++ ((X2 ++ Y2) ++ R)) = K3 := ⟨_, rfl⟩
  obtain ⟨K4, hK4⟩ : ∃ K4, P ++ (sortN (ltH c) ((X1 ++ X2) ++ (Y1 ++ Y2)) ++ R) = K4 := ⟨_, rfl⟩
  have hK4' : (P ++ sortN (ltH c) (X1 ++ Y1)) ++ (sortN (ltH c) (X2 ++ Y2) ++ R) = K4 := by rw [← hK4, ← z7]; simp
  rw [hK4]
  have r1 : ((I < m ∧ m < e) ∧ ACalls Tryz.prog 188 [.osl 1 ver 0 N, iV I, iV m, iV e, .fn cf caps] (srtH B ver K) (.tup []) (srtH B ver K2)) ∨ (¬ (I < m ∧ m < e) ∧ K = K2) := by
    by_cases c1 : I < m ∧ m < e
    · left
      refine ⟨c1, ?_⟩
      have := A_rotateH (B := B) (ver := ver) (N := N) (cf := cf) (caps := caps) (a := I) (m := m) (b := e) (P := P ++ X1) (U := X2) (V := Y1) (S := Y2 ++ R) (by rw [show (P ++ X1) ++ (X2 ++ (Y1 ++ (Y2 ++ R))) = K by rw [eK]; simp]; exact hN) (by rw [show (P ++ X1) ++ (X2 ++ (Y1 ++ (Y2 ++ R))) = K by rw [eK]; simp]; exact hL) (by simp; omega) (by simp; omega) (by omega) (by omega) (by omega) (by omega)
      rw [show (P ++ X1) ++ (X2 ++ (Y1 ++ (Y2 ++ R))) = K by rw [eK]; simp, show (P ++ X1) ++ (Y1 ++ (X2 ++ (Y2 ++ R))) = K2 by rw [← hK2]; simp] at this
      exact this
    · right
      refine ⟨c1, ?_⟩
      rw [eK, ← hK2]
      by_cases h0 : I < m
      · have : Y1 = [] := List.eq_nil_of_length_eq_zero (by omega)
        subst this; simp
      · have : X2 = [] := List.eq_nil_of_length_eq_zero (by omega)
        subst this; simp
  have hl2 : K2.length = K.length := by rw [← hK2, eK]; simp; omega
  have hl3 : K3.length = K.length := by rw [← hK3, eK]; simp [sortN_len]; omega
  have r2 : ((a < I ∧ I < mid) ∧ ACalls Tryz.prog 163 [.osl 1 ver 0 N, iV a, iV I, iV mid, .fn cf caps] (srtH B ver K2) (.tup []) (srtH B ver K3)) ∨ (¬ (a < I ∧ I < mid) ∧ K2 = K3) := by
    by_cases c2 : a < I ∧ I < mid
    · left
      refine ⟨c2, ?_⟩
      have := ih P X1 Y1 ((X2 ++ Y2) ++ R) (by rw [hK2]; exact hl2) (by omega) (by omega) (by omega) (by omega) sX.left sY.left
      rw [ha, show a + X1.length = I by omega, show I + Y1.length = mid by omega, hK2, hK3] at this
      exact this
    · right
      refine ⟨c2, ?_⟩
      rw [← hK2, ← hK3]
      by_cases h0 : a < I
      · have : Y1 = [] := List.eq_nil_of_length_eq_zero (by omega)
        subst this
        rw [List.append_nil, sortN_self hw sX.left]
      · have : X1 = [] := List.eq_nil_of_length_eq_zero (by omega)
        subst this
        rw [List.nil_append, sortN_self hw sY.left]
  have r3 : ((mid < e ∧ e < b) ∧ ACalls Tryz.prog 163 [.osl 1 ver 0 N, iV mid, iV e, iV b, .fn cf caps] (srtH B ver K3) (.tup []) (srtH B ver K4)) ∨ (¬ (mid < e ∧ e < b) ∧ K3 = K4) := by
    have lP : (P ++ sortN (ltH c) (X1 ++ Y1)).length = mid := by simp [sortN_len]; omega
    by_cases c3 : mid < e ∧ e < b
    · left
      refine ⟨c3, ?_⟩
      have e3 : (P ++ sortN (ltH c) (X1 ++ Y1)) ++ ((X2 ++ Y2) ++ R) = K3 := by rw [← hK3]; simp
      have := ih (P ++ sortN (ltH c) (X1 ++ Y1)) X2 Y2 R (by rw [e3]; exact hl3) (by omega) (by omega) (by omega) (by omega) sX.right sY.right
      rw [lP, show mid + X2.length = e by omega, show e + Y2.length = b by omega, e3, hK4'] at this
      exact this
    · right
      refine ⟨c3, ?_⟩
      rw [← hK3, ← hK4']
      by_cases h0 : mid < e
      · have : Y2 = [] := List.eq_nil_of_length_eq_zero (by omega)
        subst this
        rw [List.append_nil, sortN_self hw sX.right]; simp
      · have : X2 = [] := List.eq_nil_of_length_eq_zero (by omega)
        subst this
        rw [List.nil_append, sortN_self hw sY.right]; simp
  clear ih f1 f2 b3 b4 z1 z2 z3 z4 z5 z6 z7 hK hK2 hK3 hK4 hK4' eK sX sY lX1 lX2 lY1 lY2 hl2 hl3
  have hXl : 2 ≤ m - a := by omega
  have hYl : 2 ≤ b - m := by omega
  refine acalls_of_bodyS Tryz.func163 rfl (Nat.le_of_ble_eq_true rfl) ?_
  (repeat' (first
  | (apply W.qd; (first
    | ((apply q_convU; (iterate 3 exact rfl); assumption; omega))|(apply q_mv; (first|exact vD|exact vO|exact vP|exact vA|exact vF|exact vR|exact vN|exact vY|exact vT|exact vM|exact vL|exact vX))|(apply q_as; (first|exact vD|exact vO|exact vP|exact vA|exact vF|exact vR|exact vN|exact vY|exact vT|exact vM|exact vL|exact vX))|(apply q_gtr; exact rfl; exact rfl)|(apply q_eql; exact rfl; exact rfl)|(apply q_add; exact rfl; exact rfl; omega)|(apply q_sub; exact rfl; exact rfl; omega)|(apply q_convI; (iterate 3 exact rfl); omega)
    | (apply q_shrN; exact rfl; exact rfl; (first | (with_reducible exact rfl) | exact natI_spec rfl | assumption | exact (Int.toNat_of_nonneg (by omega)).symm); (first | (with_reducible exact rfl) | exact natI_spec rfl | assumption | exact (Int.toNat_of_nonneg (by omega)).symm); focus (show _ ≤ 64; omega))))|(apply AWP.seq)|(apply ACont_normal)|(apply (W.regionS 32); exact rfl; kernel_rfl)|(apply Walk.nil)|(apply AWP.skip)
  | (refine W.cond _ rfl (fun hb => ?_) (fun hb => ?_) <;> ((try simp only [hb, zA, zB]) <;> (try simp only [zC, zD, zE, zF, zG, zH, zI, zJ] at hb) <;> (try (exfalso; omega))))))
  all_goals
    refine AWP.wkE ⟨[(20, iV s0), (21, iV r0), (18, iV mid), (19, iV (mid + m : Nat)), (0, .osl 1 ver 0 N), (1, iV a), (2, iV m), (3, iV b), (4, .fn cf caps)], srtH B ver K⟩ ⟨rfl, iV_eq (by omega), iV_eq (by omega), iV_eq (by omega), iV_eq (by omega), rfl, rfl, rfl, rfl, rfl, trivial⟩ ?_
    clear hb
    (repeat' (first
  | (apply W.qd; (first
    | (apply q_mv; (first|exact vD|exact vO|exact vP|exact vA|exact vF|exact vR|exact vN|exact vY|exact vT|exact vM|exact vL|exact vX))|(apply q_as; (first|exact vD|exact vO|exact vP|exact vA|exact vF|exact vR|exact vN|exact vY|exact vT|exact vM|exact vL|exact vX))
    | (apply q_sub; exact rfl; exact rfl; omega)))|(apply AWP.seq)|(apply ACont_normal)|(apply W.region; kernel_rfl)|(apply Walk.nil)
  | (apply AWP.block)))
    refine AWP.loopE (α := Nat × Nat) (fun q => s0 ≤ q.1 ∧ q.1 ≤ q.2 ∧ q.2 ≤ r0 ∧ bsN Q q.1 q.2 = I) (fun q => ⟨[(20, iV q.1), (21, iV q.2), (22, iV (mid + m - 1 : Nat)), (18, iV mid), (19, iV (mid + m : Nat)), (0, .osl 1 ver 0 N), (1, iV a), (2, iV m), (3, iV b), (4, .fn cf caps)], srtH B ver K⟩) (fun q => q.2 - q.1) (s0, r0) ⟨Nat.le_refl _, hsr, Nat.le_refl _, hI⟩ ⟨rfl, rfl, rfl, iV_eq (by omega), rfl, rfl, rfl, rfl, rfl, rfl, rfl, trivial⟩ fun q hq => ?_
    obtain ⟨i, j⟩ := q
    obtain ⟨h1, h2, h3, h4⟩ := hq
    dsimp only at h1 h2 h3 h4 ⊢
    clear hI
    by_cases hij : i < j
    · have eh := halfH i j
      have eij : (i : Int) + (j : Int) = ((i + j : Nat) : Int) := by omega
      have hh : (i + j) >>> 1 < K.length := by omega
      have hh2 : mid + m - 1 - (i + j) >>> 1 < K.length := by omega
      have epc : ((mid + m - 1 : Nat) : Int) - (((i + j) >>> 1 : Nat) : Int) = ((mid + m - 1 - (i + j) >>> 1 : Nat) : Int) := by omega
      have hcall := hcl (K[mid + m - 1 - (i + j) >>> 1]) (K[(i + j) >>> 1]) ver (K.map hlD)
      have hQh : Q ((i + j) / 2) = ltH c (K[mid + m - 1 - (i + j) >>> 1]) (K[(i + j) >>> 1]) := by rw [← eh]; exact hp _ hh hh2
      by_cases hlt : c (K[mid + m - 1 - (i + j) >>> 1]) (K[(i + j) >>> 1]) < 0
      · have hlt' : ltH c (K[mid + m - 1 - (i + j) >>> 1]) (K[(i + j) >>> 1]) = true := decide_eq_true hlt
        rw [hlt'] at hQh
        rw [bs_left hij hQh] at h4
        clear hcl hp r1 r2 r3
        (repeat' (first
  | (apply W.qd; (first
    | ((apply q_convU; (iterate 3 exact rfl); assumption; omega))|(apply q_mv; (first|exact vD|exact vO|exact vP|exact vA|exact vF|exact vR|exact vN|exact vY|exact vT|exact vM|exact vL|exact vX))|(apply q_as; (first|exact vD|exact vO|exact vP|exact vA|exact vF|exact vR|exact vN|exact vY|exact vT|exact vM|exact vL|exact vX))|(apply q_lss; exact rfl; exact rfl)|(apply q_not; exact rfl)|(apply q_add; exact rfl; exact rfl; omega)|(apply q_sub; exact rfl; exact rfl; omega)|(apply q_convI; (iterate 3 exact rfl); omega)|(apply q_shrN; exact rfl; exact rfl; (first | (with_reducible exact rfl) | exact natI_spec rfl | assumption | exact (Int.toNat_of_nonneg (by omega)).symm); (first | (with_reducible exact rfl) | exact natI_spec rfl | assumption | exact (Int.toNat_of_nonneg (by omega)).symm); focus (show _ ≤ 64; omega))|(apply q_ix_osl0; (iterate 4 exact rfl); (first | (with_reducible exact rfl) | exact natI_spec rfl | assumption | exact (Int.toNat_of_nonneg (by omega)).symm); (first | omega | (focus (simp only [List.length_map]; omega)) | (focus (simp; done)) | (focus (simp; omega))))
    | (apply q_ld_rptsm; (iterate 4 exact rfl); (first | omega | (focus (simp only [List.length_map]; omega)) | (focus (simp; done)) | (focus (simp; omega))))))|(apply W.ed; (apply (e_callS (hcall)); exact rfl; exact rfl; (first | assumption | kernel_rfl)))|(apply AWP.seq)|(apply ACont_normal)|(apply W.region; kernel_rfl)|(apply W.regionD; exact rfl; kernel_rfl)|(apply Walk.nil)|(apply W.chk; kernel_rfl)|(apply AWP.block)|(apply AWP.skip)|(apply ABlock_normal)
  | (refine W.cond _ rfl (fun hb => ?_) (fun hb => ?_) <;> ((try simp only [hb, zA, zB]) <;> (try simp only [zC, zD, zE, zF, zG, zH, zI, zJ] at hb) <;> (try (exfalso; omega))))))
        exact ⟨(i, (i + j) / 2), ⟨h1, by dsimp only; omega, by dsimp only; omega, h4⟩, by dsimp only; omega, rfl, rfl, iV_eq (by dsimp only; omega), rfl, rfl, rfl, rfl, rfl, rfl, rfl, rfl, trivial⟩
      · have hlt' : ltH c (K[mid + m - 1 - (i + j) >>> 1]) (K[(i + j) >>> 1]) = false := decide_eq_false hlt
        rw [hlt'] at hQh
        rw [bs_right hij hQh] at h4
        clear hcl hp r1 r2 r3
        (repeat' (first
  | (apply W.qd; (first
    | ((apply q_convU; (iterate 3 exact rfl); assumption; omega))|(apply q_mv; (first|exact vD|exact vO|exact vP|exact vA|exact vF|exact vR|exact vN|exact vY|exact vT|exact vM|exact vL|exact vX))|(apply q_as; (first|exact vD|exact vO|exact vP|exact vA|exact vF|exact vR|exact vN|exact vY|exact vT|exact vM|exact vL|exact vX))|(apply q_lss; exact rfl; exact rfl)|(apply q_not; exact rfl)|(apply q_add; exact rfl; exact rfl; omega)|(apply q_sub; exact rfl; exact rfl; omega)|(apply q_convI; (iterate 3 exact rfl); omega)|(apply q_shrN; exact rfl; exact rfl; (first | (with_reducible exact rfl) | exact natI_spec rfl | assumption | exact (Int.toNat_of_nonneg (by omega)).symm); (first | (with_reducible exact rfl) | exact natI_spec rfl | assumption | exact (Int.toNat_of_nonneg (by omega)).symm); focus (show _ ≤ 64; omega))|(apply q_ix_osl0; (iterate 4 exact rfl); (first | (with_reducible exact rfl) | exact natI_spec rfl | assumption | exact (Int.toNat_of_nonneg (by omega)).symm); (first | omega | (focus (simp only [List.length_map]; omega)) | (focus (simp; done)) | (focus (simp; omega))))
    | (apply q_ld_rptsm; (iterate 4 exact rfl); (first | omega | (focus (simp only [List.length_map]; omega)) | (focus (simp; done)) | (focus (simp; omega))))))|(apply W.ed; (apply (e_callS (hcall)); exact rfl; exact rfl; (first | assumption | kernel_rfl)))|(apply AWP.seq)|(apply ACont_normal)|(apply W.region; kernel_rfl)|(apply W.regionD; exact rfl; kernel_rfl)|(apply Walk.nil)|(apply W.chk; kernel_rfl)|(apply AWP.block)|(apply AWP.skip)|(apply ABlock_normal)
  | (refine W.cond _ rfl (fun hb => ?_) (fun hb => ?_) <;> ((try simp only [hb, zA, zB]) <;> (try simp only [zC, zD, zE, zF, zG, zH, zI, zJ] at hb) <;> (try (exfalso; omega))))))
        exact ⟨((i + j) / 2 + 1, j), ⟨by dsimp only; omega, by dsimp only; omega, h3, h4⟩, by dsimp only; omega, rfl, iV_eq (by dsimp only; omega), rfl, rfl, rfl, rfl, rfl, rfl, rfl, rfl, rfl, trivial⟩
    · rw [bs_done Q hij] at h4
      subst h4
      clear hcl hp
      (repeat' (first
  | (apply W.qd; (first
    | (apply q_mv; (first|exact vD|exact vO|exact vP|exact vA|exact vF|exact vR|exact vN|exact vY|exact vT|exact vM|exact vL|exact vX))|(apply q_as; (first|exact vD|exact vO|exact vP|exact vA|exact vF|exact vR|exact vN|exact vY|exact vT|exact vM|exact vL|exact vX))|(apply q_lss; exact rfl; exact rfl)
    | (apply q_sub; exact rfl; exact rfl; omega)))|(apply AWP.seq)|(apply ACont_normal)|(apply (W.regionS 39); exact rfl; kernel_rfl)|(apply Walk.nil)|(apply AWP.exit)|(apply ACont_exit)|(apply ABlock_exit)
  | (refine W.cond _ rfl (fun hb => ?_) (fun hb => ?_) <;> ((try simp only [hb, zA, zB]) <;> (try simp only [zC, zD, zE, zF, zG, zH, zI, zJ] at hb) <;> (try (exfalso; omega))))))
      refine AWP.wkE ⟨[(24, iV e), (20, iV i), (18, iV mid), (0, .osl 1 ver 0 N), (1, iV a), (2, iV m), (3, iV b), (4, .fn cf caps)], srtH B ver K⟩ ⟨rfl, iV_eq (by omega), rfl, rfl, rfl, rfl, rfl, rfl, rfl, trivial⟩ ?_
      rcases r1 with ⟨c1, q1⟩ | ⟨c1, rfl⟩ <;> rcases r2 with ⟨c2, q2⟩ | ⟨c2, rfl⟩ <;> rcases r3 with ⟨c3, q3⟩ | ⟨c3, rfl⟩
      all_goals (
        (repeat' (first
  | (apply W.gOn; exact rfl; exact rfl)
  | (apply W.qd; (first
    | (apply q_mv; (first|exact vD|exact vO|exact vP|exact vA|exact vF|exact vR|exact vN|exact vY|exact vT|exact vM|exact vL|exact vX))|(apply q_lss; exact rfl; exact rfl)|(apply (q_pickT (u := .d _)); exact rfl; exact rfl)
    | (apply (q_pickF (u := .d _)); exact rfl; exact rfl)))
  | (apply W.ed; (first
    | ((exact e_callA q1 rfl rfl rfl))
    | ((exact e_callA q2 rfl rfl rfl))
    | ((exact e_callA q3 rfl rfl rfl))))|(refine W.gOff _ _ rfl rfl (by intro h; cases h) ?_)|(apply AWP.seq)|(apply ACont_normal)|(apply W.region; kernel_rfl)|(apply Walk.nil)|(apply AWP.skip)|(apply W.condF; exact rfl)|(refine W.gT _ _ rfl rfl (fun hb => ?_) (fun hb => ?_) <;> ((try simp only [hb, zA, zB]) <;> (try simp only [zC, zD, zE, zF, zG, zH, zI, zJ] at hb) <;> (try (exfalso; omega))))
  | (refine W.cond _ rfl (fun hb => ?_) (fun hb => ?_) <;> ((try simp only [hb, zA, zB]) <;> (try simp only [zC, zD, zE, zF, zG, zH, zI, zJ] at hb) <;> (try (exfalso; omega))))))
        all_goals exact ⟨.inr rfl, [], trivial, AVle.of_eq rfl, rfl⟩)
theorem A_symH (hc : CmpH cf caps B c) (T : Nat) (hT : T ≤ 1000000) (hN : N ≤ T) : ∀ (n : Nat) (P X Y R : List Hl), (P ++ ((X ++ Y) ++ R)).length = T → X.length + Y.length ≤ n → 0 < X.length → 0 < Y.length → P.length + X.length + Y.length ≤ N → Srt (ltH c) X → Srt (ltH c) Y → SymH c cf caps B ver N P X Y R
  | 0, P, X, Y, R, hl, hn, h1, h2, hb, sX, sY => by omega
  | n + 1, P, X, Y, R, hl, hn, h1, h2, hb, sX, sY => by
    by_cases hx : X.length = 1
    · match X, hx with
      | [x], _ =>
        unfold SymH
        exact A_mergeLH hc (by omega) (by omega) rfl rfl rfl hb sY
    · by_cases hy : Y.length = 1
      · match Y, hy with
        | [y], _ =>
          unfold SymH
          exact A_mergeRH hc (by omega) (by omega) rfl rfl rfl hb sX (by omega)
      · exact A_symStepH hc (by omega) (by omega) hb (by omega) (by omega) sX sY fun P' X' Y' R' k1 k2 k3 k4 k5 k6 k7 => A_symH hc T hT hN n P' X' Y' R' (k1.trans hl) (by omega) k3 k4 k5 k6 k7
end
end Go.Proofs.YtaclmbbiegklcaaGreatDoor
end
section
/- slices.SortStableFunc at solvent/api.Health. -/
namespace Go.Proofs.YtaclmbbiegklcaaGreatDoor
open Go.RowKit
set_option maxHeartbeats 4000000
set_option maxRecDepth 100000
attribute [local irreducible] Quiet Eff OpOk AWPG ACont ABlock ACalls AGoto
section
variable {B : Ent} {cf : FuncId} {caps : List AV} {c : Hl → Hl → Int} {ver : Nat}
theorem A_stableH {n : Nat} {X R : List Hl} (hc : CmpH cf caps B c) (hn : X.length = n) (hL : (X ++ R).length ≤ 1000000) :
    ACalls Tryz.prog 116 [.osl 1 ver 0 n, iV n, .fn cf caps] (srtH B ver (X ++ R)) (.tup []) (srtH B ver (sortN (ltH c) X ++ R)) := by
  have hw := hc.weak
  obtain ⟨T, hT⟩ : ∃ T, (X ++ R).length = T := ⟨_, rfl⟩
  have hT2 : n + R.length = T := by rw [← hT, List.length_append, hn]
  rw [hT] at hL
  refine acalls_of_bodyS Tryz.func116 rfl (Nat.le_of_ble_eq_true rfl) ?_
  (repeat' (first
  | (apply W.qd; (first
    | (apply q_mv; (first|exact vD|exact vO|exact vP|exact vA|exact vF|exact vR|exact vN|exact vY|exact vT|exact vM|exact vL|exact vX))
    | (apply q_as; (first|exact vD|exact vO|exact vP|exact vA|exact vF|exact vR|exact vN|exact vY|exact vT|exact vM|exact vL|exact vX))))|(apply AWP.seq)|(apply ACont_normal)|(apply W.region; kernel_rfl)|(apply Walk.nil)
  | (apply AWP.block)))
  refine AWP.loopE (α := List Hl × Nat) (fun p => p.2 ≤ n ∧ (∃ k, p.2 = k * 20) ∧ ∃ Q : List Hl, Q.length = p.2 ∧ p.1 = Q ++ (X.drop p.2 ++ R) ∧ Stb (ltH c) (X.take p.2) Q ∧ Blk (ltH c) 20 Q) (fun p => ⟨[(7, iV p.2), (8, iV ((p.2 : Int) + 20)), (6, iV 20), (0, .osl 1 ver 0 n), (1, iV n), (2, .fn cf caps)], srtH B ver p.1⟩) (fun p => n + 1 - p.2) (X ++ R, 0) ⟨Nat.zero_le _, ⟨0, rfl⟩, [], rfl, by simp, Stb.refl _, blk_nil _ _⟩ ⟨rfl, by (repeat (first | exact trivial | refine ⟨rfl, ?_⟩))⟩ fun p hp => ?_
  obtain ⟨K, a⟩ := p
  obtain ⟨h1, ⟨k, h2⟩, Q, h3, h4, h5, h6⟩ := hp
  dsimp only at h1 h2 h3 h4 h5 ⊢
  by_cases hab : a + 20 ≤ n
  · have eX : X.drop a = (X.drop a).take 20 ++ X.drop (a + 20) := by rw [← List.drop_drop, List.take_append_drop]
    have el : ((X.drop a).take 20).length = 20 := by rw [List.length_take, List.length_drop]; omega
    have eK : Q ++ ((X.drop a).take 20 ++ (X.drop (a + 20) ++ R)) = K := by rw [h4, ← List.append_assoc ((X.drop a).take 20), ← eX]
    have hKl : K.length = T := by rw [h4]; simp; omega
    have hins := A_insSortH (ver := ver) (N := n) (a := a) (b := a + 20) (P := Q) (S := (X.drop a).take 20) (R := X.drop (a + 20) ++ R) hc (by rw [eK]; omega) (by rw [eK]; omega) h3 (by rw [el]) hab
    rw [eK] at hins
    have e20 : iV ((a + 20 : Nat) : Int) = iV ((a : Int) + 20) := iV_eq (by omega)
    rw [e20] at hins
    obtain ⟨k1, k2⟩ := sortN_spec hw ((X.drop a).take 20)
    have hpre : a + 20 ≤ n ∧ (∃ k, a + 20 = k * 20) ∧ ∃ Q' : List Hl, Q'.length = a + 20 ∧ Q ++ (sortN (ltH c) ((X.drop a).take 20) ++ (X.drop (a + 20) ++ R)) = Q' ++ (X.drop (a + 20) ++ R) ∧ Stb (ltH c) (X.take (a + 20)) Q' ∧ Blk (ltH c) 20 Q' := by
      refine ⟨hab, ⟨k + 1, by omega⟩, Q ++ sortN (ltH c) ((X.drop a).take 20), by rw [List.length_append, sortN_len, el, h3], by simp, ?_, blk_app h6 (h3.trans h2) (by rw [sortN_len, el]; omega) k1⟩
      rw [List.take_add]
      exact h5.app k2
    generalize Q ++ (sortN (ltH c) ((X.drop a).take 20) ++ (X.drop (a + 20) ++ R)) = K' at hins hpre
    clear eX el eK h5 h6 h4 k1 k2
    (repeat' (first
  | (apply W.qd; (first
    | (apply q_mv; (first|exact vD|exact vO|exact vP|exact vA|exact vF|exact vR|exact vN|exact vY|exact vT|exact vM|exact vL|exact vX))|(apply q_as; (first|exact vD|exact vO|exact vP|exact vA|exact vF|exact vR|exact vN|exact vY|exact vT|exact vM|exact vL|exact vX))|(apply q_leq; exact rfl; exact rfl)
    | (apply q_add; exact rfl; exact rfl; omega)))|(apply W.ed; ((exact e_callA hins rfl rfl rfl)))|(apply AWP.seq)|(apply ACont_normal)|(apply W.region; kernel_rfl)|(apply Walk.nil)|(apply AWP.block)|(apply AWP.skip)|(apply ABlock_normal)
  | (refine W.cond _ rfl (fun hb => ?_) (fun hb => ?_) <;> ((try simp only [hb, zA, zB]) <;> (try simp only [zC, zD, zE, zF, zG, zH, zI, zJ] at hb) <;> (try (exfalso; omega))))))
    exact ⟨(K', a + 20), hpre, by dsimp only; omega, rfl, iV_eq (by dsimp only; omega), iV_eq (by dsimp only; omega), rfl, rfl, rfl, rfl, trivial⟩
  · have hKl : K.length = T := by rw [h4]; simp; omega
    have hins := A_insSortH (ver := ver) (N := n) (a := a) (b := n) (P := Q) (S := X.drop a) (R := R) hc (by rw [← h4]; omega) (by rw [← h4]; omega) h3 (by rw [List.length_drop]; omega) (Nat.le_refl _)
    rw [← h4] at hins
    obtain ⟨k1, k2⟩ := sortN_spec hw (X.drop a)
    have hpre : 20 ≤ 20 ∧ 20 ≤ 4000000 ∧ ∃ Y : List Hl, Y.length = n ∧ Q ++ (sortN (ltH c) (X.drop a) ++ R) = Y ++ R ∧ Stb (ltH c) X Y ∧ Blk (ltH c) 20 Y := by
      refine ⟨Nat.le_refl _, by omega, Q ++ sortN (ltH c) (X.drop a), by rw [List.length_append, sortN_len, List.length_drop]; omega, by simp, ?_, blk_app h6 (h3.trans h2) (by rw [sortN_len, List.length_drop]; omega) k1⟩
      have := h5.app k2
      rwa [List.take_append_drop] at this
    generalize Q ++ (sortN (ltH c) (X.drop a) ++ R) = K' at hins hpre
    clear h5 h6 h4 k1 k2
    (repeat' (first
  | (apply W.qd; (first
    | (apply q_mv; (first|exact vD|exact vO|exact vP|exact vA|exact vF|exact vR|exact vN|exact vY|exact vT|exact vM|exact vL|exact vX))
    | (apply q_leq; exact rfl; exact rfl)))|(apply W.ed; ((exact e_callA hins rfl rfl rfl)))|(apply AWP.seq)|(apply ACont_normal)|(apply W.region; kernel_rfl)|(apply Walk.nil)|(apply AWP.block)|(apply AWP.exit)|(apply ACont_exit)|(apply ABlock_exit)
  | (refine W.cond _ rfl (fun hb => ?_) (fun hb => ?_) <;> ((try simp only [hb, zA, zB]) <;> (try simp only [zC, zD, zE, zF, zG, zH, zI, zJ] at hb) <;> (try (exfalso; omega))))))
    clear hins h3 h2
    refine AWP.loopE (α := List Hl × Nat) (fun p => 20 ≤ p.2 ∧ p.2 ≤ 4000000 ∧ ∃ Y : List Hl, Y.length = n ∧ p.1 = Y ++ R ∧ Stb (ltH c) X Y ∧ Blk (ltH c) p.2 Y) (fun p => ⟨[(6, iV p.2), (0, .osl 1 ver 0 n), (1, iV n), (2, .fn cf caps)], srtH B ver p.1⟩) (fun p => n - p.2) (K', 20) hpre ⟨rfl, by (repeat (first | exact trivial | refine ⟨rfl, ?_⟩))⟩ fun p hp => ?_
    clear hpre hKl hab h1
    obtain ⟨K1, s⟩ := p
    obtain ⟨g1, g2, Y, g3, g4, g5, g6⟩ := hp
    dsimp only at g1 g2 g3 g4 g5 g6 ⊢
    have hK1 : K1.length = T := by rw [g4, List.length_append]; omega
    by_cases hsn : s < n
    · (repeat' (first
  | (apply W.qd; (first
    | (apply q_mv; (first|exact vD|exact vO|exact vP|exact vA|exact vF|exact vR|exact vN|exact vY|exact vT|exact vM|exact vL|exact vX))|(apply q_as; (first|exact vD|exact vO|exact vP|exact vA|exact vF|exact vR|exact vN|exact vY|exact vT|exact vM|exact vL|exact vX))|(apply q_lss; exact rfl; exact rfl)
    | (apply q_mul; exact rfl; exact rfl; (first | omega | assumption))))|(apply AWP.seq)|(apply ACont_normal)|(apply W.region; kernel_rfl)|(apply Walk.nil)|(apply AWP.block)|(apply AWP.skip)
  | (refine W.cond _ rfl (fun hb => ?_) (fun hb => ?_) <;> ((try simp only [hb, zA, zB]) <;> (try simp only [zC, zD, zE, zF, zG, zH, zI, zJ] at hb) <;> (try (exfalso; omega))))))
      refine AWP.loopE (α := List Hl × Nat) (fun p => p.2 ≤ n ∧ (∃ k, p.2 = k * (2 * s)) ∧ ∃ Q : List Hl, Q.length = p.2 ∧ p.1 = Q ++ (Y.drop p.2 ++ R) ∧ Stb (ltH c) (Y.take p.2) Q ∧ Blk (ltH c) (2 * s) Q) (fun p => ⟨[(7, iV p.2), (8, iV ((p.2 : Int) + 2 * (s : Int))), (6, iV s), (0, .osl 1 ver 0 n), (1, iV n), (2, .fn cf caps)], srtH B ver p.1⟩) (fun p => n + 1 - p.2) (K1, 0) ⟨Nat.zero_le _, ⟨0, by simp⟩, [], rfl, by simpa using g4, Stb.refl _, blk_nil _ _⟩ ⟨rfl, rfl, iV_eq (by dsimp only; omega), rfl, rfl, rfl, rfl, trivial⟩ fun p hp => ?_
      obtain ⟨K2, a⟩ := p
      obtain ⟨q1, ⟨k, q2⟩, Q, q3, q4, q5, q6⟩ := hp
      dsimp only at q1 q2 q3 q4 q5 ⊢
      have hK2 : K2.length = T := by rw [q4]; simp; omega
      have e1 : (2 * k) * s = a := by rw [q2, Nat.mul_comm 2 k, Nat.mul_assoc]
      have e2 : (2 * k + 1) * s = a + s := by rw [Nat.add_mul, Nat.one_mul, e1]
      have e3 : (k + 1) * (2 * s) = a + 2 * s := by rw [Nat.succ_mul, q2]
      have b1 := g6 (2 * k)
      have b2 := g6 (2 * k + 1)
      rw [e1] at b1
      rw [e2] at b2
      by_cases hab : a + 2 * s ≤ n
      · have l1 : ((Y.drop a).take s).length = s := by rw [List.length_take, List.length_drop]; omega
        have l2 : ((Y.drop (a + s)).take s).length = s := by rw [List.length_take, List.length_drop]; omega
        have eY2 : (Y.drop a).take s ++ (Y.drop (a + s)).take s = (Y.drop a).take (2 * s) := by
          rw [show 2 * s = s + s by omega, List.take_add, List.drop_drop]
        have eY : Y.drop a = (Y.drop a).take (2 * s) ++ Y.drop (a + 2 * s) := by rw [← List.drop_drop, List.take_append_drop]
        have eK : Q ++ (((Y.drop a).take s ++ (Y.drop (a + s)).take s) ++ (Y.drop (a + 2 * s) ++ R)) = K2 := by rw [eY2, q4, ← List.append_assoc ((Y.drop a).take (2 * s)), ← eY]
        have hsy := A_symH (ver := ver) (N := n) hc T hL (by omega) _ Q _ _ (Y.drop (a + 2 * s) ++ R) (by rw [eK]; exact hK2) (Nat.le_refl _) (by omega) (by omega) (by omega) b1 b2
        unfold SymH at hsy
        rw [eK, q3, l1, l2, eY2] at hsy
        have ea1 : iV ((a + s : Nat) : Int) = iV ((a : Int) + (s : Int)) := iV_eq (by omega)
        have ea2 : iV ((a + s + s : Nat) : Int) = iV ((a : Int) + 2 * (s : Int)) := iV_eq (by omega)
        rw [ea1, ea2] at hsy
        obtain ⟨k1, k2⟩ := sortN_spec hw ((Y.drop a).take (2 * s))
        have l3 : ((Y.drop a).take (2 * s)).length = 2 * s := by rw [List.length_take, List.length_drop]; omega
        have hpre : a + 2 * s ≤ n ∧ (∃ k, a + 2 * s = k * (2 * s)) ∧ ∃ Q' : List Hl, Q'.length = a + 2 * s ∧ Q ++ (sortN (ltH c) ((Y.drop a).take (2 * s)) ++ (Y.drop (a + 2 * s) ++ R)) = Q' ++ (Y.drop (a + 2 * s) ++ R) ∧ Stb (ltH c) (Y.take (a + 2 * s)) Q' ∧ Blk (ltH c) (2 * s) Q' := by
          refine ⟨hab, ⟨k + 1, e3.symm⟩, Q ++ sortN (ltH c) ((Y.drop a).take (2 * s)), by rw [List.length_append, sortN_len, l3, q3], by simp, ?_, blk_app q6 (q3.trans q2) (by rw [sortN_len, l3]; omega) k1⟩
          rw [List.take_add]
          exact q5.app k2
        generalize Q ++ (sortN (ltH c) ((Y.drop a).take (2 * s)) ++ (Y.drop (a + 2 * s) ++ R)) = K' at hsy hpre
        clear eY eY2 l1 l2 l3 eK q4 q5 q6 k1 k2 b1 b2 g4 g5 g6 e1 e2 e3
        (repeat' (first
  | (apply W.qd; (first
    | (apply q_mv; (first|exact vD|exact vO|exact vP|exact vA|exact vF|exact vR|exact vN|exact vY|exact vT|exact vM|exact vL|exact vX))|(apply q_as; (first|exact vD|exact vO|exact vP|exact vA|exact vF|exact vR|exact vN|exact vY|exact vT|exact vM|exact vL|exact vX))|(apply q_leq; exact rfl; exact rfl)|(apply q_add; exact rfl; exact rfl; omega)
    | (apply q_mul; exact rfl; exact rfl; (first | omega | assumption))))|(apply W.ed; ((exact e_callA hsy rfl rfl rfl)))|(apply AWP.seq)|(apply ACont_normal)|(apply W.region; kernel_rfl)|(apply Walk.nil)|(apply AWP.block)|(apply AWP.skip)|(apply ABlock_normal)
  | (refine W.cond _ rfl (fun hb => ?_) (fun hb => ?_) <;> ((try simp only [hb, zA, zB]) <;> (try simp only [zC, zD, zE, zF, zG, zH, zI, zJ] at hb) <;> (try (exfalso; omega))))))
        exact ⟨(K', a + 2 * s), hpre, by dsimp only; omega, rfl, iV_eq (by dsimp only; omega), iV_eq (by dsimp only; omega), rfl, rfl, rfl, rfl, trivial⟩
      · obtain ⟨k1, k2⟩ := sortN_spec hw (Y.drop a)
        have hpre : 20 ≤ 2 * s ∧ 2 * s ≤ 4000000 ∧ ∃ Y' : List Hl, Y'.length = n ∧ Q ++ (sortN (ltH c) (Y.drop a) ++ R) = Y' ++ R ∧ Stb (ltH c) X Y' ∧ Blk (ltH c) (2 * s) Y' := by
          refine ⟨by omega, by omega, Q ++ sortN (ltH c) (Y.drop a), by rw [List.length_append, sortN_len, List.length_drop]; omega, by simp, ?_, blk_app q6 (q3.trans q2) (by rw [sortN_len, List.length_drop]; omega) k1⟩
          have := q5.app k2
          rw [List.take_append_drop] at this
          exact g5.trans this
        by_cases hms : a + s < n
        · have l1 : ((Y.drop a).take s).length = s := by rw [List.length_take, List.length_drop]; omega
          rw [List.take_of_length_le (by rw [List.length_drop]; omega)] at b2
          have eY : (Y.drop a).take s ++ Y.drop (a + s) = Y.drop a := by rw [← List.drop_drop, List.take_append_drop]
          have hsy := A_symH (ver := ver) (N := n) hc T hL (by omega) _ Q _ _ R (by rw [eY, ← q4]; exact hK2) (Nat.le_refl _) (by omega) (by rw [List.length_drop]; omega) (by rw [List.length_drop]; omega) b1 b2
          unfold SymH at hsy
          rw [eY, ← q4, q3, l1, show a + s + (Y.drop (a + s)).length = n by rw [List.length_drop]; omega] at hsy
          have ea1 : iV ((a + s : Nat) : Int) = iV ((a : Int) + (s : Int)) := iV_eq (by omega)
          rw [ea1] at hsy
          generalize Q ++ (sortN (ltH c) (Y.drop a) ++ R) = K' at hsy hpre
          clear eY l1 q4 q5 q6 k1 k2 b1 b2 g4 g5 g6 e1 e2 e3
          (repeat' (first
  | (apply W.qd; (first
    | (apply q_mv; (first|exact vD|exact vO|exact vP|exact vA|exact vF|exact vR|exact vN|exact vY|exact vT|exact vM|exact vL|exact vX))|(apply q_as; (first|exact vD|exact vO|exact vP|exact vA|exact vF|exact vR|exact vN|exact vY|exact vT|exact vM|exact vL|exact vX))|(apply q_lss; exact rfl; exact rfl)|(apply q_leq; exact rfl; exact rfl)|(apply q_add; exact rfl; exact rfl; omega)
    | (apply q_mul; exact rfl; exact rfl; (first | omega | assumption))))|(apply W.ed; ((exact e_callA hsy rfl rfl rfl)))|(apply AWP.seq)|(apply ACont_normal)|(apply W.region; kernel_rfl)|(apply Walk.nil)|(apply AWP.exit)|(apply ACont_exit)|(apply ABlock_normal)|(apply ABlock_exit)
  | (refine W.cond _ rfl (fun hb => ?_) (fun hb => ?_) <;> ((try simp only [hb, zA, zB]) <;> (try simp only [zC, zD, zE, zF, zG, zH, zI, zJ] at hb) <;> (try (exfalso; omega))))))
          exact ⟨(K', 2 * s), hpre, by dsimp only; omega, rfl, iV_eq (by dsimp only; omega), rfl, rfl, rfl, trivial⟩
        · rw [List.take_of_length_le (by rw [List.length_drop]; omega)] at b1
          rw [sortN_self hw b1, ← q4] at hpre
          clear q4 q5 q6 k1 k2 b1 b2 g4 g5 g6 e1 e2 e3
          (repeat' (first
  | (apply W.qd; (first
    | (apply q_mv; (first|exact vD|exact vO|exact vP|exact vA|exact vF|exact vR|exact vN|exact vY|exact vT|exact vM|exact vL|exact vX))|(apply q_as; (first|exact vD|exact vO|exact vP|exact vA|exact vF|exact vR|exact vN|exact vY|exact vT|exact vM|exact vL|exact vX))|(apply q_lss; exact rfl; exact rfl)|(apply q_leq; exact rfl; exact rfl)|(apply q_add; exact rfl; exact rfl; omega)
    | (apply q_mul; exact rfl; exact rfl; (first | omega | assumption))))|(apply AWP.seq)|(apply ACont_normal)|(apply W.region; kernel_rfl)|(apply Walk.nil)|(apply AWP.skip)|(apply AWP.exit)|(apply ACont_exit)|(apply ABlock_normal)|(apply ABlock_exit)
  | (refine W.cond _ rfl (fun hb => ?_) (fun hb => ?_) <;> ((try simp only [hb, zA, zB]) <;> (try simp only [zC, zD, zE, zF, zG, zH, zI, zJ] at hb) <;> (try (exfalso; omega))))))
          exact ⟨(K2, 2 * s), hpre, by dsimp only; omega, rfl, iV_eq (by dsimp only; omega), rfl, rfl, rfl, trivial⟩
    · have e := sortN_eq hw (blk_whole g6 (by omega)) g5
      rw [e] at g4
      rw [← g4]
      clear g4 g5 g6
      (repeat' (first
  | (apply W.qd; (first
    | (apply q_mv; (first|exact vD|exact vO|exact vP|exact vA|exact vF|exact vR|exact vN|exact vY|exact vT|exact vM|exact vL|exact vX))
    | (apply q_lss; exact rfl; exact rfl)))|(apply AWP.seq)|(apply ACont_normal)|(apply W.region; kernel_rfl)|(apply Walk.nil)|(apply AWP.exit)|(apply ACont_exit)|(apply ABlock_exit)
  | (refine W.cond _ rfl (fun hb => ?_) (fun hb => ?_) <;> ((try simp only [hb, zA, zB]) <;> (try simp only [zC, zD, zE, zF, zG, zH, zI, zJ] at hb) <;> (try (exfalso; omega))))))
      exact ⟨.inr rfl, [], trivial, AVle.of_eq rfl, rfl⟩
theorem A_sortStableH {n : Nat} {X R : List Hl} (hc : CmpH cf caps B c) (hn : X.length = n) (hL : (X ++ R).length ≤ 1000000) :
    ACalls Tryz.prog 71 [.osl 1 ver 0 n, .fn cf caps] (srtH B ver (X ++ R)) (.tup []) (srtH B ver (sortN (ltH c) X ++ R)) := by
  have h := A_stableH (ver := ver) hc hn hL
  refine acalls_of_bodyS Tryz.func71 rfl (Nat.le_of_ble_eq_true rfl) ?_
  (repeat' (first
  | (apply W.qd; (first
    | (apply q_mv; (first|exact vD|exact vO|exact vP|exact vA|exact vF|exact vR|exact vN|exact vY|exact vT|exact vM|exact vL|exact vX))
    | (apply q_len_osl; (iterate 3 exact rfl))))|(apply W.ed; ((exact e_callA h rfl rfl rfl)))|(apply W.region; kernel_rfl)
  | (apply Walk.nil)))
  exact ⟨.inr rfl, [], trivial, AVle.of_eq rfl, rfl⟩
end
end Go.Proofs.YtaclmbbiegklcaaGreatDoor
end
section
/- A slice of data without elements: it may be nil or not. No program in sight. -/
namespace Go.Proofs.YtaclmbbiegklcaaGreatDoor
open Go.RowKit
theorem acalls_empty {P : Program} {f : FuncId} {sz : Nat} {args : List AV} {r : AV} {own own' : List Ent} (h : ∀ (A : Option Addr) (c : Nat), c ≤ maxLen → ACalls P f (.d (.v (.slice A 0 c)) :: args) own r own') : ACalls P f (.d (.sl sz []) :: args) own r own' := fun F κ w vs ho hsat => by
  cases vs with
  | nil => simp [AV.satL] at hsat
  | cons v vs =>
    rw [AV.satL] at hsat
    obtain ⟨h1, h2⟩ := hsat
    rw [AV.sat, Dat.sat] at h1
    obtain ⟨A, c, rfl, _, h4, _⟩ := h1
    exact h A c h4 F κ w _ ho (by rw [AV.satL]; exact ⟨sat_v.2 rfl, h2⟩)
theorem AVle.empty {A : Option Addr} {c : Nat} (h : c ≤ maxLen) (sz : Nat) : AVle (.d (.v (.slice A 0 c))) (.d (.sl sz [])) := fun F own κ w u hs => by
  rw [sat_v] at hs
  subst hs
  rw [AV.sat, Dat.sat]
  exact ⟨A, c, rfl, Nat.zero_le _, h, fun h => by simp at h⟩
section
variable {P : Program} {m : Nat} {env : List (Nat × AV)} {own : List Ent} {dst : Option Tmp} {ty : TypeId} {pos : String} {af : Array Edge} {gd : Option (Nat × Bool)}
theorem q_eqnilV {t t' : TypeId} {x y : Operand} {A : Option Addr} {n c : Nat} (hx : lookO env x = .d (.v (.slice A n c))) (hy : lookO env y = .d (.v (.slice none 0 0))) (ht : isSl P t = true) :
    Quiet P m ⟨dst, .binOp .eql t x y t', ty, pos, af, gd⟩ env own [] (bV A.isNone) := q_bin hx hy fun w => by
  obtain ⟨e, he⟩ := isSl_spec ht
  have h6 := Go.Lib.run_eql_slice_nil (P := P) w t e A n c 0 0 he
  have h5 : (eqGuard .eql t x y (.slice A n c) (.slice none 0 0)).run P w = .ok () w := by simp [eqGuard]
  simp only [Sem.run_bind, h5, Result.andThen_ok, h6]
theorem e_clearm {t e e' : TypeId} {by' sz : Nat} {z : Value} {x : Operand} {p ver q n : Nat} {l l' : List (List Dat)} {own' : List Ent} (zs : List Dat) (hx : lookO env x = .osl p ver q n) (hp : own[p]? = some (.row ver sz e l)) (ht : slInfo P t = some (e', sz, by', z)) (hz : z.cells.size = sz) (hz1 : z.cells.toList = zs.map fun d => match d with | .v u => u | _ => undef) (hz2 : zs.all (fun d => match d with | .v u => u.oneCell' | _ => false) = true) (hqn : q + n ≤ l.length) (hl : l.take q ++ List.replicate n zs ++ l.drop (q + n) = l') (ho' : setF own p (.row ver sz e l') = some own') :
    Eff P m ⟨dst, .call ⟨.builtin .clear, #[x], #[t]⟩, ty, pos, af, gd⟩ env own [p] (.tup []) own' := by
  subst hl
  exact e_clear hx hp ht hz hz1 hz2 hqn ho'
end
theorem frz_rowT {own : List Ent} {js : List Nat} {i ver n sz : Nat} {e : TypeId} {l : List (List Dat)} (ho : own[i]? = some (.row ver sz e l)) (hj : plc js i = none) : AV.frz own js (.osl i ver 0 n) = .d (.sl sz (l.take n)) := by
  simp [AV.frz, frzSl, ho, hj]
end Go.Proofs.YtaclmbbiegklcaaGreatDoor
end
section
/- Layer 36 over the machine of abstract values: the order of stripes, Clone, DeleteFunc. -/
namespace Go.Proofs.YtaclmbbiegklcaaGreatDoor
open Go.RowKit
set_option maxHeartbeats 4000000
set_option maxRecDepth 100000
def lostH (h : Hl) : Int := if h.2.2.1 < 0 then 1 else 0
def cmpH (a b : Hl) : Int := orI [cmpI (lostH a) (lostH b), cmpI a.2.2.1 b.2.2.1, cmpI b.2.2.2 a.2.2.2, cmpI a.1 b.1, cmpI a.2.1 b.2.1]
theorem cmpI_lt (x y : Int) : cmpI x y < 0 ↔ x < y := by unfold cmpI; split <;> (try split) <;> omega
theorem cmpI_eq (x y : Int) : cmpI x y = 0 ↔ x = y := by unfold cmpI; split <;> (try split) <;> omega
theorem orI_lt (x : Int) (l : List Int) : orI (x :: l) < 0 ↔ x < 0 ∨ (x = 0 ∧ orI l < 0) := by
  show (if x ≠ 0 then x else orI l) < 0 ↔ _
  split
  · omega
  · omega
theorem ltH_iff (a b : Hl) : ltH cmpH a b = true ↔ lostH a < lostH b ∨ (lostH a = lostH b ∧ (a.2.2.1 < b.2.2.1 ∨ (a.2.2.1 = b.2.2.1 ∧ (b.2.2.2 < a.2.2.2 ∨ (b.2.2.2 = a.2.2.2 ∧ (a.1 < b.1 ∨ (a.1 = b.1 ∧ a.2.1 < b.2.1))))))) := by
  unfold ltH cmpH
  rw [decide_eq_true_eq, orI_lt, orI_lt, orI_lt, orI_lt, orI_lt, cmpI_lt, cmpI_lt, cmpI_lt, cmpI_lt, cmpI_lt, cmpI_eq, cmpI_eq, cmpI_eq, cmpI_eq, cmpI_eq]
  have : ¬ (orI [] < 0) := by show ¬ ((0 : Int) < 0); omega
  simp only [this, and_false, or_false]
theorem weakH : Weak (ltH cmpH) where
  irr a := by
    rw [Bool.eq_false_iff, Ne, ltH_iff]
    omega
  trans a b c h1 h2 := by
    rw [ltH_iff] at *
    generalize lostH a = la at *
    generalize lostH b = lb at *
    generalize lostH c = lc at *
    omega
  neg a b c h1 := by
    rw [ltH_iff] at *
    rw [ltH_iff]
    generalize lostH a = la at *
    generalize lostH b = lb at *
    generalize lostH c = lc at *
    omega
def keepH (h : Hl) : Bool := decide (0 < h.2.2.2)
attribute [local irreducible] Quiet Eff OpOk AWPG ACont ABlock ACalls AGoto
theorem A_lostH (h : Hl) : ACalls Tryz.prog 117 [.agg ((hlD h).map .d)] [] (iV (lostH h)) [] := by
  refine acalls_of_body Tryz.func117 rfl (Nat.le_of_ble_eq_true rfl) ?_
  unfold lostH
  by_cases hb0 : h.2.2.1 < 0
  · rw [if_pos hb0]
    (repeat' (first
  | (apply W.qd; (first
    | (apply q_as; (first|exact vD|exact vO|exact vP|exact vA|exact vF|exact vR|exact vN|exact vY|exact vT|exact vM|exact vL|exact vX))|(apply q_fld_optF; (iterate 3 exact rfl))|(apply q_ld_box; (iterate 4 exact rfl))
    | (apply q_lss; exact rfl; exact rfl)))|(apply W.ed; (apply e_boxF; (iterate 3 exact rfl); kernel_rfl; kernel_rfl))|(apply AWP.seq)|(apply ACont_normal)|(apply W.region; kernel_rfl)|(apply Walk.nil)|(apply AWP.ret)|(apply ACont_ret)
  | (refine W.cond _ rfl (fun hb => ?_) (fun hb => ?_) <;> ((try simp only [hb, zA, zB]) <;> (try simp only [zC, zD, zE, zF, zG, zH, zI, zJ] at hb) <;> (try (exfalso; omega))))))
    exact Ends.i rfl rfl
  · rw [if_neg hb0]
    (repeat' (first
  | (apply W.qd; (first
    | (apply q_as; (first|exact vD|exact vO|exact vP|exact vA|exact vF|exact vR|exact vN|exact vY|exact vT|exact vM|exact vL|exact vX))|(apply q_fld_optF; (iterate 3 exact rfl))|(apply q_ld_box; (iterate 4 exact rfl))
    | (apply q_lss; exact rfl; exact rfl)))|(apply W.ed; (apply e_boxF; (iterate 3 exact rfl); kernel_rfl; kernel_rfl))|(apply AWP.seq)|(apply ACont_normal)|(apply W.region; kernel_rfl)|(apply Walk.nil)|(apply AWP.skip)|(apply AWP.ret)
  | (refine W.cond _ rfl (fun hb => ?_) (fun hb => ?_) <;> ((try simp only [hb, zA, zB]) <;> (try simp only [zC, zD, zE, zF, zG, zH, zI, zJ] at hb) <;> (try (exfalso; omega))))))
    exact Ends.i rfl rfl
abbrev lossB : Ent := .box [.fn 117 []]
theorem A_cmpH : CmpH 118 [.opt 0 0] lossB cmpH where
  isf := by kernel_rfl
  weak := weakH
  call x y ver rows := by
    refine acalls_of_bodyO Tryz.func118 rfl (Nat.le_of_ble_eq_true rfl) ?_
    have hl := A_lostH
    have hc := A_cmp
    have ho := A_or [cmpI (lostH x) (lostH y), cmpI x.2.2.1 y.2.2.1, cmpI y.2.2.2 x.2.2.2, cmpI x.1 y.1, cmpI x.2.1 y.2.1] (by simp)
    (repeat' (first
  | (apply W.qd; (first
    | (apply (q_callC (hl x)); exact rfl; exact rfl; kernel_rfl; kernel_rfl; kernel_rfl)|(apply (q_callC (hl y)); exact rfl; exact rfl; kernel_rfl; kernel_rfl; kernel_rfl)|(apply (q_callC (hc _ _)); exact rfl; exact rfl; kernel_rfl; kernel_rfl; kernel_rfl)|(apply (q_callC (ho)); exact rfl; exact rfl; kernel_rfl; kernel_rfl; kernel_rfl)|(apply q_as; (first|exact vD|exact vO|exact vP|exact vA|exact vF|exact vR|exact vN|exact vY|exact vT|exact vM|exact vL|exact vX))|(apply q_fld_optF; (iterate 3 exact rfl))|(apply q_ld_box; (iterate 4 exact rfl))|(apply q_ld_boxF; (iterate 4 exact rfl))
    | (apply q_litF; (iterate 5 exact rfl); kernel_rfl; kernel_rfl; exact rfl)))|(apply W.ed; (apply e_boxF; (iterate 3 exact rfl); kernel_rfl; kernel_rfl))|(apply AWP.seq)|(apply ACont_normal)|(apply W.region; kernel_rfl)|(apply W.regionD; exact rfl; kernel_rfl)|(apply Walk.nil)|(apply W.chk; kernel_rfl)
  | (apply AWP.ret)))
    exact ⟨.inl rfl, [0, 1], [iV (cmpH x y)], rfl, rfl, ⟨rfl, trivial⟩, AVle.of_eq rfl, rfl⟩
theorem A_delH (h : Hl) : ACalls Tryz.prog 70 [.agg ((hlD h).map .d)] [] (bV (!keepH h)) [] := by
  refine acalls_of_body Tryz.func70 rfl (Nat.le_of_ble_eq_true rfl) ?_
  (repeat' (first
  | (apply W.qd; (first
    | (apply q_as; (first|exact vD|exact vO|exact vP|exact vA|exact vF|exact vR|exact vN|exact vY|exact vT|exact vM|exact vL|exact vX))|(apply q_fld_optF; (iterate 3 exact rfl))|(apply q_ld_box; (iterate 4 exact rfl))
    | (apply q_leq; exact rfl; exact rfl)))|(apply W.ed; (apply e_boxF; (iterate 3 exact rfl); kernel_rfl; kernel_rfl))|(apply AWP.seq)|(apply ACont_normal)|(apply W.region; kernel_rfl)|(apply Walk.nil)
  | (apply AWP.ret)))
  refine Ends.b rfl ?_
  unfold keepH
  rw [Bool.eq_iff_iff]
  simp
theorem A_cloneH {l : List Hl} (h0 : 0 < l.length) (hl : l.length ≤ 1000000) : ACalls Tryz.prog 69 [hls l] [] (.osl 0 1 0 l.length) [.row 1 4 83 (l.map hlD)] := by
  refine acalls_of_bodyO Tryz.func69 rfl (Nat.le_of_ble_eq_true rfl) ?_
  have hm : (l.map hlD).length = l.length := List.length_map _
  (repeat' (first
  | (apply W.ed; (apply e_lit0F; (iterate 5 exact rfl)))
  | (apply W.qd; (first
    | (apply q_mv; (first|exact vD|exact vO|exact vP|exact vA|exact vF|exact vR|exact vN|exact vY|exact vT|exact vM|exact vL|exact vX))|(apply q_as; (first|exact vD|exact vO|exact vP|exact vA|exact vF|exact vR|exact vN|exact vY|exact vT|exact vM|exact vL|exact vX))
    | (apply q_eqnilm; (iterate 3 exact rfl); (first | assumption | omega))))|(apply W.ed; (apply e_appF; (iterate 8 exact rfl); (first | rfl | simp); (first | exact Nat.zero_lt_one | (focus (simp; done)) | omega); (first | (focus (simp; done)) | (focus (simp; omega)) | omega)))|(apply AWP.seq)|(apply ACont_normal)|(apply W.region; kernel_rfl)|(apply Walk.nil)|(apply AWP.skip)|(apply AWP.ret)
  | (apply W.condF; exact rfl)))
  refine ⟨.inl rfl, [0], [.osl 0 1 0 ((([] : List Nat).length) + (l.map hlD).length)], rfl, rfl, ⟨rfl, trivial⟩, AVle.of_eq ?_, rfl⟩
  show AV.osl 0 1 0 (0 + (l.map hlD).length) = .osl 0 1 0 l.length
  rw [hm, Nat.zero_add]
theorem A_cloneH0 : ACalls Tryz.prog 69 [hls []] [] (hls []) [] := by
  refine acalls_empty fun A c hc => ?_
  refine acalls_of_body Tryz.func69 rfl (Nat.le_of_ble_eq_true rfl) ?_
  (repeat' (first
  | (apply W.qd; (first
    | ((apply q_eqnilV; (iterate 3 exact rfl)))|(apply q_mv; (first|exact vD|exact vO|exact vP|exact vA|exact vF|exact vR|exact vN|exact vY|exact vT|exact vM|exact vL|exact vX))
    | (apply q_as; (first|exact vD|exact vO|exact vP|exact vA|exact vF|exact vR|exact vN|exact vY|exact vT|exact vM|exact vL|exact vX))))|(apply AWP.seq)|(apply ACont_normal)|(apply (W.regionS 3); exact rfl; kernel_rfl)|(apply Walk.nil)|(apply AWP.skip)|(apply AWP.ret)|(apply ACont_ret)
  | (refine W.cond _ rfl (fun hb => ?_) (fun hb => ?_) <;> ((try simp only [hb, zA, zB]) <;> (try simp only [zC, zD, zE, zF, zG, zH, zI, zJ] at hb) <;> (try (exfalso; omega))))))
  · exact Ends.nil rfl rfl
  · refine AWP.le 0 (hls []) rfl (AVle.empty hc 4) ?_
    (repeat' (first
  | (apply W.ed; (apply e_lit0F; (iterate 5 exact rfl)))
  | (apply W.qd; (first
    | (apply q_mv; (first|exact vD|exact vO|exact vP|exact vA|exact vF|exact vR|exact vN|exact vY|exact vT|exact vM|exact vL|exact vX))|(apply q_as; (first|exact vD|exact vO|exact vP|exact vA|exact vF|exact vR|exact vN|exact vY|exact vT|exact vM|exact vL|exact vX))
    | (apply q_app0; (iterate 4 exact rfl))))|(apply ACont_normal)|(apply W.region; kernel_rfl)|(apply Walk.nil)
  | (apply AWP.ret)))
    exact Ends.osl rfl rfl rfl rfl
theorem A_idxH (l : List Hl) (hl : l.length ≤ 1000000) : ACalls Tryz.prog 115 [hls l, .fn 70 []] [] (iV (idxA (fun h => !keepH h) l)) [] := by
  refine acalls_of_bodyS Tryz.func115 rfl (Nat.le_of_ble_eq_true rfl) ?_
  have hm : (l.map hlD).length = l.length := List.length_map _
  have hd := A_delH
  (repeat (first
  | (apply W.qd; (first
    | (apply q_mv; (first|exact vD|exact vO|exact vP|exact vA|exact vF|exact vR|exact vN|exact vY|exact vT|exact vM|exact vL|exact vX))|(apply q_as; (first|exact vD|exact vO|exact vP|exact vA|exact vF|exact vR|exact vN|exact vY|exact vT|exact vM|exact vL|exact vX))
    | (apply q_len_sl; exact rfl; exact rfl)))|(apply AWP.seq)|(apply ACont_normal)|(apply W.region; kernel_rfl)|(apply Walk.nil)
  | (apply AWP.block)))
  refine AWP.loopE (α := Nat) (fun k => k ≤ l.length ∧ ∀ x ∈ l.take k, (fun h => !keepH h) x = false) (fun k => ⟨[(8, iV k), (7, iV l.length), (0, hls l), (1, .fn 70 [])], []⟩) (fun k => l.length - k) 0 ⟨by omega, by simp⟩ ⟨rfl, rfl, iV_eq (by rw [hm]), rfl, rfl, trivial⟩ fun k hk => ?_
  by_cases hkl : k < l.length
  · have hx := hd l[k]
    (repeat' (first
  | (apply W.qd; (first
    | (apply (q_callC (hx)); exact rfl; exact rfl; kernel_rfl; kernel_rfl; kernel_rfl)|(apply q_mv; (first|exact vD|exact vO|exact vP|exact vA|exact vF|exact vR|exact vN|exact vY|exact vT|exact vM|exact vL|exact vX))|(apply q_as; (first|exact vD|exact vO|exact vP|exact vA|exact vF|exact vR|exact vN|exact vY|exact vT|exact vM|exact vL|exact vX))|(apply q_lss; exact rfl; exact rfl)|(apply q_add; exact rfl; exact rfl; omega)|(apply q_ld_maps; (iterate 3 exact rfl); (first | omega | (focus (simp; done))))
    | (apply q_ix_slF; (iterate 4 exact rfl); (first | (with_reducible exact rfl) | exact natI_spec rfl | assumption | exact (Int.toNat_of_nonneg (by omega)).symm); (first | omega | (focus (simp only [List.length_map]; omega)) | (focus (simp; done)) | (focus (simp; omega))))))|(apply AWP.seq)|(apply ACont_normal)|(apply W.region; kernel_rfl)|(apply Walk.nil)|(apply AWP.block)|(apply AWP.skip)|(apply AWP.ret)|(apply ACont_ret)|(apply ABlock_normal)|(apply ABlock_ret)
  | (refine W.cond _ rfl (fun hb => ?_) (fun hb => ?_) <;> ((try simp only [hb, zA, zB]) <;> (try simp only [zC, zD, zE, zF, zG, zH, zI, zJ] at hb) <;> (try (exfalso; omega))))))
    · exact EndsS.i rfl (idxA_hit hkl (by simpa using hb) hk.2).symm
    · refine ⟨k + 1, ⟨by omega, fun x hx => ?_⟩, by omega, rfl, iV_eq (by omega), rfl, rfl, rfl, trivial⟩
      rw [List.take_succ_eq_append_getElem hkl] at hx
      rcases List.mem_append.1 hx with hx | hx
      · exact hk.2 x hx
      · rw [List.mem_singleton.1 hx]; simpa using hb
  · (repeat' (first
  | (apply W.qd; (first
    | (apply q_as; (first|exact vD|exact vO|exact vP|exact vA|exact vF|exact vR|exact vN|exact vY|exact vT|exact vM|exact vL|exact vX))
    | (apply q_lss; exact rfl; exact rfl)))|(apply AWP.seq)|(apply ACont_normal)|(apply W.region; kernel_rfl)|(apply Walk.nil)|(apply AWP.exit)|(apply AWP.ret)|(apply ACont_exit)|(apply ABlock_exit)
  | (refine W.cond _ rfl (fun hb => ?_) (fun hb => ?_) <;> ((try simp only [hb, zA, zB]) <;> (try simp only [zC, zD, zE, zF, zG, zH, zI, zJ] at hb) <;> (try (exfalso; omega))))))
    refine EndsS.i rfl (idxA_miss fun x hx => hk.2 x ?_).symm
    rwa [List.take_of_length_le (by omega)]
end Go.Proofs.YtaclmbbiegklcaaGreatDoor
end
section
/- Layer 36 over the machine of abstract values: Order. -/
namespace Go.Proofs.YtaclmbbiegklcaaGreatDoor
open Go.RowKit
set_option maxHeartbeats 4000000
set_option maxRecDepth 100000
attribute [local irreducible] Quiet Eff OpOk AWPG ACont ABlock ACalls AGoto
theorem A_deleteH {l : List Hl} {v : Nat} (h0l : 0 < l.length) (hl : l.length ≤ 1000000) : ACalls Tryz.prog 68 [.osl 0 v 0 l.length, .fn 70 []] [.row v 4 83 (l.map hlD)] (.osl 0 v 0 (l.filter keepH).length) [.row v 4 83 ((l.filter keepH ++ List.replicate (l.length - (l.filter keepH).length) hl0).map hlD)] := by
  refine acalls_of_bodyO Tryz.func68 rfl (Nat.le_of_ble_eq_true rfl) ?_
  have hi := A_idxH l hl
  have hd := A_delH
  have hfz : ∀ own', same [0] [Ent.row v 4 83 (l.map hlD)] own' → AV.frzL own' [] [.osl 0 v 0 l.length, .fn 70 []] = [hls l, .fn 70 []] := fun own' hs => by
    have h0 := hs 0 (by simp)
    show [AV.frz own' [] (.osl 0 v 0 l.length), AV.frz own' [] (.fn 70 [])] = _
    rw [frz_rowJ (h0.trans rfl) rfl (by simp)]; rfl
  cases hf : l.findIdx? (fun h => !keepH h) with
  | none =>
    have e1 : idxA (fun h => !keepH h) l = -1 := by unfold idxA; rw [hf]
    have e2 : l.filter keepH = l := by
      rw [List.filter_eq_self]
      intro a ha
      have := (List.findIdx?_eq_none_iff.1 hf) a ha
      simpa using this
    rw [e1] at hi
    rw [e2]
    (repeat' (first
  | (apply W.qd; (first
    | ((apply (q_callF (js := [0]) hi); exact rfl; exact hfz; exact rfl; kernel_rfl))|(apply q_mv; (first|exact vD|exact vO|exact vP|exact vA|exact vF|exact vR|exact vN|exact vY|exact vT|exact vM|exact vL|exact vX))|(apply q_as; (first|exact vD|exact vO|exact vP|exact vA|exact vF|exact vR|exact vN|exact vY|exact vT|exact vM|exact vL|exact vX))
    | (apply q_eql; exact rfl; exact rfl)))|(apply AWP.seq)|(apply ACont_normal)|(apply W.region; kernel_rfl)|(apply Walk.nil)|(apply AWP.ret)|(apply ACont_ret)
  | (apply W.condT; exact rfl)))
    exact ⟨.inl rfl, [0], [.osl 0 v 0 l.length], rfl, rfl, ⟨rfl, trivial⟩, AVle.of_eq rfl, by simp; rfl⟩
  | some i0 =>
    obtain ⟨hi1, hi2, hi3⟩ := List.findIdx?_eq_some_iff_getElem.1 hf
    have e1 : idxA (fun h => !keepH h) l = (i0 : Int) := by unfold idxA; rw [hf]
    rw [e1] at hi
    have hk0 : (l.take (i0 + 1)).filter keepH = l.take i0 := by
      rw [List.take_succ_eq_append_getElem hi1, List.filter_append]
      have q1 : (l.take i0).filter keepH = l.take i0 := by
        rw [List.filter_eq_self]
        intro a ha
        obtain ⟨j, hj, rfl⟩ := List.getElem_of_mem ha
        rw [List.length_take] at hj
        have := hi3 j (by omega)
        rw [List.getElem_take]
        simpa using this
      have q2 : [l[i0]].filter keepH = [] := by
        have : keepH l[i0] = false := by simpa using hi2
        simp [this]
      rw [q1, q2, List.append_nil]
    (repeat' (first
  | (apply W.qd; (first
    | ((apply (q_callF (js := [0]) hi); exact rfl; exact hfz; exact rfl; kernel_rfl))|(apply q_mv; (first|exact vD|exact vO|exact vP|exact vA|exact vF|exact vR|exact vN|exact vY|exact vT|exact vM|exact vL|exact vX))|(apply q_as; (first|exact vD|exact vO|exact vP|exact vA|exact vF|exact vR|exact vN|exact vY|exact vT|exact vM|exact vL|exact vX))|(apply q_eql; exact rfl; exact rfl)
    | (apply q_add; exact rfl; exact rfl; omega)))|(apply AWP.seq)|(apply ACont_normal)|(apply W.region; kernel_rfl)|(apply Walk.nil)|(apply AWP.block)|(apply AWP.skip)
  | (apply W.condF; exact rfl)))
    clear hfz hi
    refine AWP.loopW (α := List Hl × Nat × Nat) (fun p => p.2.2 ≤ l.length ∧ p.1.length = l.length ∧ p.2.1 < p.2.2 ∧ ((l.take p.2.2).filter keepH).length = p.2.1 ∧ p.1.take p.2.1 = (l.take p.2.2).filter keepH ∧ p.1.drop p.2.2 = l.drop p.2.2) (fun p => ⟨[(5, iV p.2.1), (6, iV p.2.2), (0, .osl 0 v 0 l.length), (1, .fn 70 [])], [.row v 4 83 (p.1.map hlD)]⟩) (fun p => l.length - p.2.2) (l, i0, i0 + 1) ⟨by dsimp only; omega, rfl, by dsimp only; omega, by dsimp only; rw [hk0, List.length_take]; omega, hk0.symm, rfl⟩ ⟨[0], rfl, rfl, rfl, by (repeat (first | exact trivial | refine ⟨rfl, ?_⟩))⟩ fun p hp => ?_
    obtain ⟨K, i, j⟩ := p
    obtain ⟨h1, h2, h3, h4, h5, h6⟩ := hp
    dsimp only at h1 h2 h3 h4 h5 h6 ⊢
    by_cases hjn : j < l.length
    · have hKj : K[j] = l[j]'(by omega) := by
        have a1 := List.drop_eq_getElem_cons (l := K) (i := j) (by omega)
        have a2 := List.drop_eq_getElem_cons (l := l) (i := j) (by omega)
        rw [h6, a2] at a1
        injection a1 with a3 _
        exact a3.symm
      have hK1 : K.drop (j + 1) = l.drop (j + 1) := by
        have a1 := List.drop_eq_getElem_cons (l := K) (i := j) (by omega)
        have a2 := List.drop_eq_getElem_cons (l := l) (i := j) (by omega)
        rw [h6, a2] at a1
        injection a1 with _ a3
        exact a3.symm
      have hfl : (l.take (j + 1)).filter keepH = (l.take j).filter keepH ++ [l[j]'(by omega)].filter keepH := by rw [List.take_succ_eq_append_getElem (by omega), List.filter_append]
      have hx := hd K[j]
      clear h6
      cases hkp : keepH (K[j]) with
      | true =>
        rw [hkp] at hx
        rw [← hKj, show [K[j]].filter keepH = [K[j]] by simp [hkp]] at hfl
        (repeat' (first
  | (apply W.qd; (first
    | (apply (q_callC (hx)); exact rfl; exact rfl; kernel_rfl; kernel_rfl; kernel_rfl)|(apply q_mv; (first|exact vD|exact vO|exact vP|exact vA|exact vF|exact vR|exact vN|exact vY|exact vT|exact vM|exact vL|exact vX))|(apply q_as; (first|exact vD|exact vO|exact vP|exact vA|exact vF|exact vR|exact vN|exact vY|exact vT|exact vM|exact vL|exact vX))|(apply q_ld_boxF; (iterate 4 exact rfl))|(apply q_lss; exact rfl; exact rfl)|(apply q_not; exact rfl)|(apply q_add; exact rfl; exact rfl; omega)|(apply q_len_osl; (iterate 3 exact rfl))|(apply q_ix_osl0; (iterate 4 exact rfl); (first | (with_reducible exact rfl) | exact natI_spec rfl | assumption | exact (Int.toNat_of_nonneg (by omega)).symm); (first | omega | (focus (simp only [List.length_map]; omega)) | (focus (simp; done)) | (focus (simp; omega))))
    | (apply q_ld_rptsm; (iterate 4 exact rfl); (first | omega | (focus (simp only [List.length_map]; omega)) | (focus (simp; done)) | (focus (simp; omega))))))|(apply W.ed; (apply e_allocF; (iterate 3 exact rfl); kernel_rfl))|(apply W.ln; (apply l_st_box; (iterate 6 exact rfl); kernel_rfl; kernel_rfl; kernel_rfl))|(apply W.en; ((apply (e_st_rptM K[j]); (iterate 9 exact rfl))))|(apply AWP.seq)|(apply ACont_normal)|(apply W.region; kernel_rfl)|(apply Walk.nil)|(apply AWP.block)|(apply AWP.skip)|(apply ABlock_normal)|(apply W.condT; exact rfl)
  | (refine W.cond _ rfl (fun hb => ?_) (fun hb => ?_) <;> ((try simp only [hb, zA, zB]) <;> (try simp only [zC, zD, zE, zF, zG, zH, zI, zJ] at hb) <;> (try (exfalso; omega))))))
        refine ⟨(K.set i K[j], i + 1, j + 1), ⟨by dsimp only; omega, by simp [h2], by dsimp only; omega, by dsimp only; rw [hfl]; simp [h4], ?_, ?_⟩, by dsimp only; omega, [0], rfl, rfl, rfl, iV_eq (by dsimp only; omega), iV_eq (by dsimp only; omega), rfl, rfl, trivial⟩
        · dsimp only
          rw [hfl, ← h5, List.take_succ_eq_append_getElem (by simp; omega), List.getElem_set_self, List.take_set_of_le (Nat.le_refl _)]
        · dsimp only
          rw [List.drop_set_of_lt (by omega)]; exact hK1
      | false =>
        rw [hkp] at hx
        rw [← hKj, show [K[j]].filter keepH = [] by simp [hkp], List.append_nil] at hfl
        (repeat' (first
  | (apply W.qd; (first
    | (apply (q_callC (hx)); exact rfl; exact rfl; kernel_rfl; kernel_rfl; kernel_rfl)|(apply q_mv; (first|exact vD|exact vO|exact vP|exact vA|exact vF|exact vR|exact vN|exact vY|exact vT|exact vM|exact vL|exact vX))|(apply q_as; (first|exact vD|exact vO|exact vP|exact vA|exact vF|exact vR|exact vN|exact vY|exact vT|exact vM|exact vL|exact vX))|(apply q_ld_boxF; (iterate 4 exact rfl))|(apply q_lss; exact rfl; exact rfl)|(apply q_not; exact rfl)|(apply q_add; exact rfl; exact rfl; omega)|(apply q_len_osl; (iterate 3 exact rfl))|(apply q_ix_osl0; (iterate 4 exact rfl); (first | (with_reducible exact rfl) | exact natI_spec rfl | assumption | exact (Int.toNat_of_nonneg (by omega)).symm); (first | omega | (focus (simp only [List.length_map]; omega)) | (focus (simp; done)) | (focus (simp; omega))))
    | (apply q_ld_rptsm; (iterate 4 exact rfl); (first | omega | (focus (simp only [List.length_map]; omega)) | (focus (simp; done)) | (focus (simp; omega))))))|(apply W.ed; (apply e_allocF; (iterate 3 exact rfl); kernel_rfl))|(apply W.ln; (apply l_st_box; (iterate 6 exact rfl); kernel_rfl; kernel_rfl; kernel_rfl))|(apply AWP.seq)|(apply ACont_normal)|(apply W.region; kernel_rfl)|(apply Walk.nil)|(apply AWP.block)|(apply AWP.skip)|(apply ABlock_normal)|(apply W.condF; exact rfl)
  | (refine W.cond _ rfl (fun hb => ?_) (fun hb => ?_) <;> ((try simp only [hb, zA, zB]) <;> (try simp only [zC, zD, zE, zF, zG, zH, zI, zJ] at hb) <;> (try (exfalso; omega))))))
        exact ⟨(K, i, j + 1), ⟨by dsimp only; omega, h2, by dsimp only; omega, by dsimp only; rw [hfl]; exact h4, by dsimp only; rw [hfl]; exact h5, hK1⟩, by dsimp only; omega, [0], rfl, rfl, rfl, rfl, iV_eq (by dsimp only; omega), rfl, rfl, trivial⟩
    · have ej : j = l.length := by omega
      subst ej
      rw [List.take_length] at h4 h5
      have hfin : (K.map hlD).take (0 + i) ++ List.replicate (l.length - i) (hlD hl0) ++ (K.map hlD).drop (0 + i + (l.length - i)) = (l.filter keepH ++ List.replicate (l.length - i) hl0).map hlD := by
        rw [Nat.zero_add, ← List.map_take, h5, List.drop_eq_nil_of_le (by simp; omega), List.append_nil, List.map_append, List.map_replicate]
      rw [h4]
      (repeat' (first
  | (apply W.qd; (first
    | (apply q_mv; (first|exact vD|exact vO|exact vP|exact vA|exact vF|exact vR|exact vN|exact vY|exact vT|exact vM|exact vL|exact vX))|(apply q_as; (first|exact vD|exact vO|exact vP|exact vA|exact vF|exact vR|exact vN|exact vY|exact vT|exact vM|exact vL|exact vX))|(apply q_lss; exact rfl; exact rfl)|(apply q_len_osl; (iterate 3 exact rfl))
    | (apply q_slc_osl; (iterate 3 exact rfl); (first | exact ⟨_, _, rfl, rfl⟩ | exact ⟨_, _, rfl, natI_spec rfl⟩ | exact ⟨_, _, rfl, (Int.toNat_of_nonneg (by omega)).symm⟩ | exact rfl); (first | exact ⟨_, _, rfl, rfl⟩ | exact ⟨_, _, rfl, natI_spec rfl⟩ | exact ⟨_, _, rfl, (Int.toNat_of_nonneg (by omega)).symm⟩ | exact rfl); omega; omega)))|(apply W.en; ((apply (e_clearm (hlD hl0)); (iterate 6 exact rfl); (simp; omega); exact hfin; exact rfl)))|(apply AWP.seq)|(apply ACont_normal)|(apply W.region; kernel_rfl)|(apply Walk.nil)|(apply AWP.exit)|(apply AWP.ret)|(apply ACont_exit)|(apply ABlock_exit)
  | (refine W.cond _ rfl (fun hb => ?_) (fun hb => ?_) <;> ((try simp only [hb, zA, zB]) <;> (try simp only [zC, zD, zE, zF, zG, zH, zI, zJ] at hb) <;> (try (exfalso; omega))))))
      refine ⟨.inl rfl, [0], [.osl 0 v (0 + 0) (i - 0)], rfl, rfl, ⟨rfl, trivial⟩, AVle.of_eq rfl, rfl⟩
theorem A_deleteH0 : ACalls Tryz.prog 68 [hls [], .fn 70 []] [] (hls []) [] := by
  refine acalls_of_body Tryz.func68 rfl (Nat.le_of_ble_eq_true rfl) ?_
  have hi := A_idxH [] (by simp)
  rw [show idxA (fun h => !keepH h) [] = -1 from rfl] at hi
  (repeat' (first
  | (apply W.qd; (first
    | (apply (q_callC (hi)); exact rfl; exact rfl; kernel_rfl; kernel_rfl; kernel_rfl)|(apply q_mv; (first|exact vD|exact vO|exact vP|exact vA|exact vF|exact vR|exact vN|exact vY|exact vT|exact vM|exact vL|exact vX))|(apply q_as; (first|exact vD|exact vO|exact vP|exact vA|exact vF|exact vR|exact vN|exact vY|exact vT|exact vM|exact vL|exact vX))
    | (apply q_eql; exact rfl; exact rfl)))|(apply AWP.seq)|(apply ACont_normal)|(apply W.region; kernel_rfl)|(apply Walk.nil)|(apply AWP.ret)|(apply ACont_ret)
  | (apply W.condT; exact rfl)))
  exact Ends.sl rfl rfl
theorem A_byLoss : ACalls Tryz.prog 72 [] [] (.agg [.fn 118 [.opt 0 0]]) [lossB] := by
  refine acalls_of_bodyO Tryz.func72 rfl (Nat.le_of_ble_eq_true rfl) ?_
  (repeat' (first
  | (apply W.qd; (first
    | (apply q_buildF; exact rfl; exact rfl; kernel_rfl)
    | (apply q_makeFunc)))|(apply W.ed; (apply e_allocF; (iterate 3 exact rfl); kernel_rfl))|(apply W.ln; (apply l_st_box; (iterate 6 exact rfl); kernel_rfl; kernel_rfl; kernel_rfl))|(apply AWP.seq)|(apply ACont_normal)|(apply W.region; kernel_rfl)|(apply Walk.nil)
  | (apply AWP.ret)))
  exact ⟨.inl rfl, [1], [.agg [.fn 118 [.opt 1 0]]], rfl, rfl, ⟨⟨0, [.fn 118 [.opt 1 0]], true, rfl, rfl, rfl, rfl⟩, trivial⟩, AVle.of_eq rfl, rfl⟩
theorem A_insSortH0 {O : List Ent} {cf : FuncId} {caps : List AV} : ACalls Tryz.prog 162 [hls [], iV 0, iV 0, .fn cf caps] O (.tup []) O := by
  refine acalls_of_bodyS Tryz.func162 rfl (Nat.le_of_ble_eq_true rfl) ?_
  (repeat' (first
  | (apply W.qd; (first
    | (apply q_mv; (first|exact vD|exact vO|exact vP|exact vA|exact vF|exact vR|exact vN|exact vY|exact vT|exact vM|exact vL|exact vX))|(apply q_as; (first|exact vD|exact vO|exact vP|exact vA|exact vF|exact vR|exact vN|exact vY|exact vT|exact vM|exact vL|exact vX))
    | (apply q_add; exact rfl; exact rfl; omega)))|(apply AWP.seq)|(apply ACont_normal)|(apply W.region; kernel_rfl)|(apply Walk.nil)
  | (apply AWP.block)))
  refine AWP.loopE (α := Unit) (fun _ => True) (fun _ => ⟨[(8, iV 1), (2, iV 0)], O⟩) (fun _ => 0) () trivial ⟨rfl, by (repeat (first | exact trivial | refine ⟨rfl, ?_⟩))⟩ fun _ _ => ?_
  (repeat' (first
  | (apply W.qd; (first
    | (apply q_mv; (first|exact vD|exact vO|exact vP|exact vA|exact vF|exact vR|exact vN|exact vY|exact vT|exact vM|exact vL|exact vX))
    | (apply q_lss; exact rfl; exact rfl)))|(apply AWP.seq)|(apply ACont_normal)|(apply W.region; kernel_rfl)|(apply Walk.nil)|(apply AWP.exit)|(apply ACont_exit)|(apply ABlock_exit)
  | (apply W.condF; exact rfl)))
  exact ⟨.inr rfl, [], trivial, AVle.of_eq rfl, rfl⟩
theorem A_stableH0 {O : List Ent} {cf : FuncId} {caps : List AV} : ACalls Tryz.prog 116 [hls [], iV 0, .fn cf caps] O (.tup []) O := by
  have h := A_insSortH0 (O := O) (cf := cf) (caps := caps)
  refine acalls_of_bodyS Tryz.func116 rfl (Nat.le_of_ble_eq_true rfl) ?_
  (repeat' (first
  | (apply W.qd; (first
    | (apply q_mv; (first|exact vD|exact vO|exact vP|exact vA|exact vF|exact vR|exact vN|exact vY|exact vT|exact vM|exact vL|exact vX))
    | (apply q_as; (first|exact vD|exact vO|exact vP|exact vA|exact vF|exact vR|exact vN|exact vY|exact vT|exact vM|exact vL|exact vX))))|(apply AWP.seq)|(apply ACont_normal)|(apply W.region; kernel_rfl)|(apply Walk.nil)
  | (apply AWP.block)))
  refine AWP.loopE (α := Unit) (fun _ => True) (fun _ => ⟨[(8, iV 20), (7, iV 0), (6, iV 20), (0, hls []), (1, iV 0), (2, .fn cf caps)], O⟩) (fun _ => 0) () trivial ⟨rfl, by (repeat (first | exact trivial | refine ⟨rfl, ?_⟩))⟩ fun _ _ => ?_
  (repeat' (first
  | (apply W.qd; (first
    | (apply q_mv; (first|exact vD|exact vO|exact vP|exact vA|exact vF|exact vR|exact vN|exact vY|exact vT|exact vM|exact vL|exact vX))
    | (apply q_leq; exact rfl; exact rfl)))|(apply W.ed; (apply (e_callS (h)); exact rfl; exact rfl; (first | assumption | kernel_rfl)))|(apply AWP.seq)|(apply ACont_normal)|(apply W.region; kernel_rfl)|(apply Walk.nil)|(apply AWP.block)|(apply AWP.exit)|(apply ACont_exit)|(apply ABlock_exit)
  | (apply W.condF; exact rfl)))
  refine AWP.loopE (α := Unit) (fun _ => True) (fun _ => ⟨[(6, iV 20), (1, iV 0)], O⟩) (fun _ => 0) () trivial ⟨rfl, by (repeat (first | exact trivial | refine ⟨rfl, ?_⟩))⟩ fun _ _ => ?_
  (repeat' (first
  | (apply W.qd; (first
    | (apply q_mv; (first|exact vD|exact vO|exact vP|exact vA|exact vF|exact vR|exact vN|exact vY|exact vT|exact vM|exact vL|exact vX))
    | (apply q_lss; exact rfl; exact rfl)))|(apply AWP.seq)|(apply ACont_normal)|(apply W.region; kernel_rfl)|(apply Walk.nil)|(apply AWP.exit)|(apply ACont_exit)|(apply ABlock_exit)
  | (apply W.condF; exact rfl)))
  exact ⟨.inr rfl, [], trivial, AVle.of_eq rfl, rfl⟩
theorem A_sortStableH0 {O : List Ent} {cf : FuncId} {caps : List AV} : ACalls Tryz.prog 71 [hls [], .fn cf caps] O (.tup []) O := by
  have h := A_stableH0 (O := O) (cf := cf) (caps := caps)
  refine acalls_of_bodyS Tryz.func71 rfl (Nat.le_of_ble_eq_true rfl) ?_
  (repeat' (first
  | (apply W.qd; (first
    | (apply q_mv; (first|exact vD|exact vO|exact vP|exact vA|exact vF|exact vR|exact vN|exact vY|exact vT|exact vM|exact vL|exact vX))
    | (apply q_len_sl; exact rfl; exact rfl)))|(apply W.ed; (apply (e_callS (h)); exact rfl; exact rfl; (first | assumption | kernel_rfl)))|(apply W.region; kernel_rfl)
  | (apply Walk.nil)))
  exact ⟨.inr rfl, [], trivial, AVle.of_eq rfl, rfl⟩
def orderN (l : List Hl) : List Hl := sortN (ltH cmpH) (l.filter keepH)
theorem A_order {l : List Hl} (hl : l.length ≤ 1000000) : ACalls Tryz.prog 30 [hls l] [] (hls (orderN l)) [] := by
  refine acalls_of_body Tryz.func30 rfl (Nat.le_of_ble_eq_true rfl) ?_
  have hb := A_byLoss
  rcases Nat.eq_zero_or_pos l.length with h0 | h0
  · obtain rfl := List.eq_nil_of_length_eq_zero h0
    have hc := A_cloneH0
    have hd := A_deleteH0
    have hs := A_sortStableH0 (O := [lossB]) (cf := 118) (caps := [.opt 0 0])
    (repeat' (first
  | (apply W.qd; (first
    | (apply (q_callC (hc)); exact rfl; exact rfl; kernel_rfl; kernel_rfl; kernel_rfl)|(apply (q_callC (hd)); exact rfl; exact rfl; kernel_rfl; kernel_rfl; kernel_rfl)|(apply q_mv; (first|exact vD|exact vO|exact vP|exact vA|exact vF|exact vR|exact vN|exact vY|exact vT|exact vM|exact vL|exact vX))|(apply q_as; (first|exact vD|exact vO|exact vP|exact vA|exact vF|exact vR|exact vN|exact vY|exact vT|exact vM|exact vL|exact vX))
    | (apply q_field; (iterate 4 exact rfl))))
  | (apply W.ed; (first
    | (apply (e_callJ (js := []) (hb)); (iterate 5 exact rfl); kernel_rfl; kernel_rfl)
    | (apply (e_callJ (js := [0]) (hs)); (iterate 5 exact rfl); kernel_rfl; kernel_rfl)))|(apply AWP.seq)|(apply ACont_normal)|(apply W.region; kernel_rfl)|(apply Walk.nil)
  | (apply AWP.ret)))
    exact Ends.sl rfl rfl
  · have hc := A_cloneH h0 hl
    have hd := A_deleteH (v := 1) h0 hl
    have hlf : (l.filter keepH).length ≤ l.length := List.length_filter_le _ _
    have hs := A_sortStableH (ver := 1) (R := List.replicate (l.length - (l.filter keepH).length) hl0) A_cmpH (X := l.filter keepH) rfl (by simp; omega)
    have hfin : AV.d (.sl 4 (((sortN (ltH cmpH) (l.filter keepH) ++ List.replicate (l.length - (l.filter keepH).length) hl0).map hlD).take (l.filter keepH).length)) = hls (orderN l) := by
      rw [← List.map_take, List.take_append_of_le_length (by rw [sortN_len]; omega), List.take_of_length_le (by rw [sortN_len]; omega)]; rfl
    generalize hls (orderN l) = G at *
    generalize sortN (ltH cmpH) (l.filter keepH) ++ List.replicate (l.length - (l.filter keepH).length) hl0 = S at *
    generalize l.filter keepH ++ List.replicate (l.length - (l.filter keepH).length) hl0 = D at *
    generalize (l.filter keepH).length = k at *
    (repeat' (first
  | (apply W.qd; (first
    | (apply q_mv; (first|exact vD|exact vO|exact vP|exact vA|exact vF|exact vR|exact vN|exact vY|exact vT|exact vM|exact vL|exact vX))|(apply q_as; (first|exact vD|exact vO|exact vP|exact vA|exact vF|exact vR|exact vN|exact vY|exact vT|exact vM|exact vL|exact vX))
    | (apply q_field; (iterate 4 exact rfl))))
  | (apply W.ed; (first
    | (apply (e_callJ (js := []) (hc)); (iterate 5 exact rfl); kernel_rfl; kernel_rfl)|(apply (e_callJ (js := [0]) (hd)); (iterate 5 exact rfl); kernel_rfl; kernel_rfl)|(apply (e_callJ (js := []) (hb)); (iterate 5 exact rfl); kernel_rfl; kernel_rfl)
    | (apply (e_callJ (js := [1, 0]) (hs)); (iterate 5 exact rfl); kernel_rfl; kernel_rfl)))|(apply AWP.seq)|(apply ACont_normal)|(apply W.region; kernel_rfl)|(apply Walk.nil)
  | (apply AWP.ret)))
    exact ⟨.inl rfl, [], [.osl 0 1 0 k], rfl, ⟨rfl, trivial⟩, AVle.of_eq ((frz_rowT rfl rfl).trans hfin), rfl⟩
end Go.Proofs.YtaclmbbiegklcaaGreatDoor
end
section
/- Structs of numbers and texts, and of structs of such, compared. No program in sight. -/
namespace Go.Proofs.YtaclmbbiegklcaaGreatDoor
open Go.RowKit
inductive Lf where
  | i (o : Nat)
  | s (o : Nat)
def fldsD (P : Program) : Nat → Nat → Nat → List Field → Option (List Lf)
  | 0, _, _, _ => none
  | n + 1, off, sz, [] => some []
  | n + 1, off, sz, f :: fs =>
    if f.name = "_" then none else
    match fldsD P n off sz fs with
    | none => none
    | some rest =>
      match P.underlying f.type with
      | some (.int _) => if f.offset < sz then some (.i (off + f.offset) :: rest) else none
      | some .string => if f.offset < sz then some (.s (off + f.offset) :: rest) else none
      | some (.struct fs2) => if P.stoodInHeld f.type then none else
        match P.info? f.type with
        | none => none
        | some inf => if f.offset + inf.size ≤ sz then (match fldsD P n (off + f.offset) inf.size fs2.toList with | some l => some (l ++ rest) | none => none) else none
      | _ => none
def eqLf (xs ys : Array Value) : List Lf → Option Bool
  | [] => some true
  | .i o :: os => match xs[o]?, ys[o]?, eqLf xs ys os with
    | some (.int k a), some (.int k' b), some r => if k = k' then some (decide (a = b) && r) else none
    | _, _, _ => none
  | .s o :: os => match xs[o]?, ys[o]?, eqLf xs ys os with
    | some (.string a), some (.string b), some r => some ((a.toList == b.toList) && r)
    | _, _, _ => none
theorem eqLf_app {xs ys : Array Value} : ∀ {A B : List Lf} {b : Bool}, eqLf xs ys (A ++ B) = some b → ∃ b1 b2, eqLf xs ys A = some b1 ∧ eqLf xs ys B = some b2 ∧ b = (b1 && b2)
  | [], B, b, h => ⟨true, b, rfl, h, by simp⟩
  | .i o :: A, B, b, h => by
    simp only [List.cons_append, eqLf] at h ⊢
    split at h
    · rename_i k a k' a' r h1 h2 h3
      split at h
      · rename_i hk
        obtain ⟨b1, b2, e1, e2, rfl⟩ := eqLf_app h3
        rw [h1, h2, e1]
        simp only [Option.some.injEq] at h
        exact ⟨decide (a = a') && b1, b2, by simp [hk], e2, by rw [← h, Bool.and_assoc]⟩
      · cases h
    · cases h
  | .s o :: A, B, b, h => by
    simp only [List.cons_append, eqLf] at h ⊢
    split at h
    · rename_i a a' r h1 h2 h3
      obtain ⟨b1, b2, e1, e2, rfl⟩ := eqLf_app h3
      rw [h1, h2, e1]
      simp only [Option.some.injEq] at h
      exact ⟨(a.toList == a'.toList) && b1, b2, rfl, e2, by rw [← h, Bool.and_assoc]⟩
    · cases h
theorem run_eqD {P : Program} {w : World} : ∀ (n d off sz : Nat) (fs : List Field) (os : List Lf) (xs ys X Y : Array Value) (b : Bool), fldsD P n off sz fs = some os → (∀ i, i < sz → X[i]? = xs[off + i]?) → (∀ i, i < sz → Y[i]? = ys[off + i]?) → eqLf xs ys os = some b → (Op.eqFields (d + n) X Y fs).run P w = .ok b w
  | 0, d, off, sz, fs, os, xs, ys, X, Y, b, h, hX, hY, hb => by simp [fldsD] at h
  | n + 1, d, off, sz, [], os, xs, ys, X, Y, b, h, hX, hY, hb => by
    simp only [fldsD, Option.some.injEq] at h
    subst h
    simp only [eqLf, Option.some.injEq] at hb
    subst hb
    rfl
  | n + 1, d, off, sz, f :: fs, os, xs, ys, X, Y, b, h, hX, hY, hb => by
    simp only [fldsD] at h
    split at h
    · cases h
    · rename_i hne
      split at h
      · cases h
      · rename_i rest hrest
        have tail : ∀ r, eqLf xs ys rest = some r → (Op.eqFields (d + (n + 1)) X Y fs).run P w = .ok r w := fun r hr => by
          have := run_eqD (w := w) n (d + 1) off sz fs rest xs ys X Y r hrest hX hY hr
          rwa [show d + 1 + n = d + (n + 1) by omega] at this
        have fin : ∀ (a c : Value) (q r : Bool), (part f.type X f.offset).run P w = .ok a w → (part f.type Y f.offset).run P w = .ok c w → (Op.equalIn (d + (n + 1)) f.type a c).run P w = .ok q w → eqLf xs ys rest = some r → (Op.eqFields (d + (n + 1)) X Y (f :: fs)).run P w = .ok (q && r) w := fun a c q r e1 e2 e3 hr => by
          simp only [Op.eqFields, hne, ne_eq, not_false_eq_true, if_true, Sem.run_bind, e1, e2, e3, Result.andThen_ok, Sem.run_ite]
          cases q with
          | true => simpa using tail r hr
          | false => simp
        split at h
        · rename_i k hk
          split at h
          · rename_i hlt
            obtain rfl : Lf.i (off + f.offset) :: rest = os := by simpa using h
            simp only [eqLf] at hb
            split at hb
            · rename_i k1 a k2 c r h1 h2 h3
              split at hb
              · rename_i hkk
                subst hkk
                obtain rfl : (decide (a = c) && r) = b := by simpa using hb
                have hia : (isAgg f.type).run P w = .ok false w := by simp [isAgg, run_underlying hk]
                refine fin (.int k1 a) (.int k1 c) (decide (a = c)) r (by simp [part, hia, hX _ hlt, h1]) (by simp [part, hia, hY _ hlt, h2]) ?_ h3
                rw [show d + (n + 1) = (d + n) + 1 by omega, run_equalIn_int w (d + n) f.type k1 k a c hk]
                congr 1
              · cases hb
            · cases hb
          · cases h
        · rename_i hk
          split at h
          · rename_i hlt
            obtain rfl : Lf.s (off + f.offset) :: rest = os := by simpa using h
            simp only [eqLf] at hb
            split at hb
            · rename_i a c r h1 h2 h3
              obtain rfl : ((a.toList == c.toList) && r) = b := by simpa using hb
              have hia : (isAgg f.type).run P w = .ok false w := by simp [isAgg, run_underlying hk]
              refine fin (.string a) (.string c) (a.toList == c.toList) r (by simp [part, hia, hX _ hlt, h1]) (by simp [part, hia, hY _ hlt, h2]) ?_ h3
              rw [show d + (n + 1) = (d + n) + 1 by omega, run_equalIn_string w (d + n) f.type a c hk]
            · cases hb
          · cases h
        · rename_i fs2 hk
          split at h
          · cases h
          · rename_i hst
            split at h
            · cases h
            · rename_i inf hi
              split at h
              · rename_i hfit
                split at h
                · rename_i l hl
                  obtain rfl : l ++ rest = os := by simpa using h
                  obtain ⟨b1, b2, g1, g2, rfl⟩ := eqLf_app hb
                  have hia : (isAgg f.type).run P w = .ok true w := by simp [isAgg, run_underlying hk]
                  have hsz : (sizeOf f.type).run P w = .ok inf.size w := by simp [sizeOf, typeInfo, hi]
                  have hfo : P.fieldsOf f.type = fs2 := by simp [Program.fieldsOf, hk]
                  refine fin (.agg (X.extract f.offset (f.offset + inf.size))) (.agg (Y.extract f.offset (f.offset + inf.size))) b1 b2 (by simp [part, hia, hsz]) (by simp [part, hia, hsz]) ?_ g2
                  rw [show d + (n + 1) = (d + n) + 1 by omega, run_equalIn_struct w (d + n) f.type _ _ (by rw [hfo]; exact hk) (by simpa using hst), hfo]
                  refine run_eqD n d (off + f.offset) inf.size fs2.toList l xs ys _ _ b1 hl (fun i hi => ?_) (fun i hi => ?_) g1
                  · have := hX (f.offset + i) (by omega)
                    rw [show off + f.offset + i = off + (f.offset + i) by omega, ← this, Array.getElem?_extract]
                    split
                    · rfl
                    · rename_i hne2
                      rw [Array.getElem?_eq_none (by omega)]
                  · have := hY (f.offset + i) (by omega)
                    rw [show off + f.offset + i = off + (f.offset + i) by omega, ← this, Array.getElem?_extract]
                    split
                    · rfl
                    · rename_i hne2
                      rw [Array.getElem?_eq_none (by omega)]
                · cases h
              · cases h
        · cases h
def fldsT (P : Program) (t : TypeId) : Option (List Lf) :=
  match P.underlying t, P.info? t with
  | some (.struct fs), some inf => if P.stoodInHeld t || P.eqGuardType P.depth t then none else fldsD P 30 0 inf.size fs.toList
  | _, _ => none
theorem run_eqT {P : Program} {t : TypeId} {os : List Lf} (h : fldsT P t = some os) {xs ys : Array Value} {b : Bool} (hb : eqLf xs ys os = some b) (x y : Operand) (w : World) :
    (do eqGuard .eql t x y (.agg xs) (.agg ys); binOp .eql t (.agg xs) (.agg ys) : Sem Value).run P w = .ok (.bool b) w ∧ (do eqGuard .neq t x y (.agg xs) (.agg ys); binOp .neq t (.agg xs) (.agg ys) : Sem Value).run P w = .ok (.bool (!b)) w := by
  unfold fldsT at h
  split at h
  · rename_i fs inf hu hi
    split at h
    · cases h
    · rename_i hc
      simp only [Bool.or_eq_true, not_or, Bool.not_eq_true] at hc
      have hfo : P.fieldsOf t = fs := by simp [Program.fieldsOf, hu]
      have e := run_eqD (P := P) (w := w) 30 9969 0 inf.size fs.toList os xs ys xs ys b h (fun i _ => by rw [Nat.zero_add]) (fun i _ => by rw [Nat.zero_add]) hb
      have e2 : (Op.equalIn 10000 t (.agg xs) (.agg ys)).run P w = .ok b w := by
        rw [run_equalIn_struct w 9999 t xs ys (by rw [hfo]; exact hu) hc.1, hfo]; exact e
      constructor
      · rw [Sem.run_bind, run_eqGuard_agg _ _ _ _ _ _ _ hc.2, Result.andThen_ok, run_eql_struct, e2]; rfl
      · rw [Sem.run_bind, run_eqGuard_agg _ _ _ _ _ _ _ hc.2, Result.andThen_ok, run_neq_struct, e2]; rfl
  · cases h
section
variable {P : Program} {m : Nat} {dst : Option Tmp} {ty : TypeId} {pos : String} {af : Array Edge} {env : List (Nat × AV)} {own : List Ent} {gd : Option (Nat × Bool)}
theorem q_neT {t t' : TypeId} {os : List Lf} {x y : Operand} {l1 l2 : List AV} {vs1 vs2 : List Value} {b b' : Bool} (hf : fldsT P t = some os) (hx : lookO env x = .agg l1) (hy : lookO env y = .agg l2) (h1 : l1.mapM valA = some vs1) (h2 : l2.mapM valA = some vs2) (hb : eqLf vs1.toArray vs2.toArray os = some b) (he : (!b) = b') :
    Quiet P m ⟨dst, .binOp .neq t x y t', ty, pos, af, gd⟩ env own [] (bV b') := Quiet.val fun F own' κ a w hs _ _ _ => by
  subst he
  have g1 := hs x (by simp [Op.operands]); rw [hx] at g1
  have g2 := hs y (by simp [Op.operands]); rw [hy] at g2
  refine ⟨.bool (!b), exec_v ?_, sat_v.2 rfl⟩
  rw [valL_eq h1 g1, valL_eq h2 g2]; exact (run_eqT hf hb x y w).2
end
end Go.Proofs.YtaclmbbiegklcaaGreatDoor
end
section
/- Layer 36 over the machine of abstract values: Have, Left, Full, Worst; the statements' own small functions. -/
namespace Go.Proofs.YtaclmbbiegklcaaGreatDoor
open Go.RowKit
set_option maxHeartbeats 4000000
set_option maxRecDepth 100000
def haveN (l : List Int) : List Bool := l.map fun s => decide (s = 1)
theorem haveN_len (l : List Int) : (haveN l).length = l.length := by unfold haveN; simp
def havK (l : List Int) (k : Nat) : List Bool := haveN (l.take k) ++ List.replicate (l.length - k) false
theorem havK_len (l : List Int) (k : Nat) (h : k ≤ l.length) : (havK l k).length = l.length := by unfold havK; rw [List.length_append, haveN_len, List.length_take, List.length_replicate]; omega
theorem havK_step (l : List Int) (k : Nat) (h : k < l.length) : (havK l k).set k (decide (l[k] = 1)) = havK l (k + 1) := by
  unfold havK
  have e1 : l.length - k = (l.length - (k + 1)) + 1 := by omega
  have e2 : (haveN (l.take k)).length = k := by rw [haveN_len, List.length_take]; omega
  rw [e1, List.replicate_succ]
  have := set_mid (haveN (l.take k)) (List.replicate (l.length - (k + 1)) false) false (decide (l[k] = 1))
  rw [e2] at this
  rw [this, List.take_succ_eq_append_getElem h]
  unfold haveN
  rw [List.map_append]
  simp only [List.map_cons, List.map_nil, List.append_assoc, List.cons_append, List.nil_append]
theorem havK_all (l : List Int) : havK l l.length = haveN l := by unfold havK; simp
def worstK (l : List Hl) : Nat → Int
  | 0 => 4
  | k + 1 => if k = 0 ∨ (l.getD k hl0).2.2.1 < worstK l k then (l.getD k hl0).2.2.1 else worstK l k
def worstN (l : List Hl) : Int := worstK l l.length
theorem eqHl (x y : Hl) : (decide (x.1 = y.1) && (decide (x.2.1 = y.2.1) && (decide (x.2.2.1 = y.2.2.1) && (decide (x.2.2.2 = y.2.2.2) && true)))) = decide (x = y) := by
  obtain ⟨a, b, c, d⟩ := x
  obtain ⟨a', b', c', d'⟩ := y
  rw [Bool.eq_iff_iff]
  simp
theorem fi_health : fldsT Tryz.prog 83 = some [.i 0, .i 1, .i 2, .i 3] := by kernel_rfl
attribute [local irreducible] Quiet Eff OpOk AWPG ACont ABlock ACalls AGoto
theorem A_have {l : List Int} (hl : l.length ≤ 1000000) : ACalls Tryz.prog 23 [ints l] [] (bools (haveN l)) [] := by
  refine acalls_of_body Tryz.func23 rfl (Nat.le_of_ble_eq_true rfl) ?_
  have hm : (l.map iD).length = l.length := List.length_map _
  (repeat' (first
  | (apply W.qd; (first
    | (apply q_mv; (first|exact vD|exact vO|exact vP|exact vA|exact vF|exact vR|exact vN|exact vY|exact vT|exact vM|exact vL|exact vX))|(apply q_as; (first|exact vD|exact vO|exact vP|exact vA|exact vF|exact vR|exact vN|exact vY|exact vT|exact vM|exact vL|exact vX))
    | (apply q_len_sl; exact rfl; exact rfl)))|(apply W.ed; ((apply (e_makeG (f := tD) false); (iterate 10 exact rfl); omega)))|(apply AWP.seq)|(apply ACont_normal)|(apply W.region; kernel_rfl)|(apply Walk.nil)
  | (apply AWP.block)))
  refine AWP.loopW (α := Nat) (fun k => k ≤ l.length) (fun k => ⟨[(11, iV k), (10, iV l.length), (9, ints l), (3, .osl 0 0 0 l.length)], [.row 0 1 4 ((havK l k).map tD)]⟩) (fun k => l.length - k) 0 (Nat.zero_le _) ?wk0 fun k hk => ?_
  case wk0 =>
    have e : havK l 0 = List.replicate l.length false := by unfold havK; simp [haveN]
    rw [e, ← hm]
    exact ⟨[0], rfl, rfl, rfl, rfl, rfl, rfl, rfl, trivial⟩
  have hkl0 := havK_len l k hk
  by_cases hkl : k < l.length
  · have hs := Lib.hid (havK_step l k hkl)
    generalize havK l k = A at *
    (repeat' (first
  | (apply W.qd; (first
    | (apply q_mv; (first|exact vD|exact vO|exact vP|exact vA|exact vF|exact vR|exact vN|exact vY|exact vT|exact vM|exact vL|exact vX))|(apply q_as; (first|exact vD|exact vO|exact vP|exact vA|exact vF|exact vR|exact vN|exact vY|exact vT|exact vM|exact vL|exact vX))|(apply q_lss; exact rfl; exact rfl)|(apply q_eql; exact rfl; exact rfl)|(apply q_add; exact rfl; exact rfl; omega)|(apply q_ld_map; (iterate 3 exact rfl); (first | omega | (focus (simp; done))))|(apply q_ix_slF; (iterate 4 exact rfl); (first | (with_reducible exact rfl) | exact natI_spec rfl | assumption | exact (Int.toNat_of_nonneg (by omega)).symm); (first | omega | (focus (simp only [List.length_map]; omega)) | (focus (simp; done)) | (focus (simp; omega))))
    | (apply q_ix_osl0; (iterate 4 exact rfl); (first | (with_reducible exact rfl) | exact natI_spec rfl | assumption | exact (Int.toNat_of_nonneg (by omega)).symm); (first | omega | (focus (simp only [List.length_map]; omega)) | (focus (simp; done)) | (focus (simp; omega))))))|(apply W.ln; (apply l_st_rpt; (iterate 7 exact rfl); exact fun _ => rfl; (first | omega | (focus (simp only [List.length_map]; omega)) | (focus (simp; omega)))))|(apply AWP.seq)|(apply ACont_normal)|(apply W.region; kernel_rfl)|(apply Walk.nil)|(apply AWP.block)|(apply AWP.skip)|(apply ABlock_normal)
  | (refine W.cond _ rfl (fun hb => ?_) (fun hb => ?_) <;> ((try simp only [hb, zA, zB]) <;> (try simp only [zC, zD, zE, zF, zG, zH, zI, zJ] at hb) <;> (try (exfalso; omega))))))
    refine ⟨k + 1, by omega, by omega, ?_⟩
    rw [← hs.out]
    exact ⟨[0], rfl, rfl, rfl, iV_eq (by omega), rfl, rfl, rfl, trivial⟩
  · have e : k = l.length := by omega
    subst e
    rw [havK_all] at *
    (repeat' (first
  | (apply W.qd; (first
    | (apply q_mv; (first|exact vD|exact vO|exact vP|exact vA|exact vF|exact vR|exact vN|exact vY|exact vT|exact vM|exact vL|exact vX))|(apply q_as; (first|exact vD|exact vO|exact vP|exact vA|exact vF|exact vR|exact vN|exact vY|exact vT|exact vM|exact vL|exact vX))
    | (apply q_lss; exact rfl; exact rfl)))|(apply AWP.seq)|(apply ACont_normal)|(apply W.region; kernel_rfl)|(apply Walk.nil)|(apply AWP.exit)|(apply AWP.ret)|(apply ACont_exit)|(apply ABlock_exit)
  | (refine W.cond _ rfl (fun hb => ?_) (fun hb => ?_) <;> ((try simp only [hb, zA, zB]) <;> (try simp only [zC, zD, zE, zF, zG, zH, zI, zJ] at hb) <;> (try (exfalso; omega))))))
    exact Ends.osl rfl rfl (by rw [List.length_map]; exact hkl0.symm) rfl
theorem A_hleft {nm : List Nat} {M D dom : Int} {par : List (List Int)} {l : List Int} (h : FIn nm D par) (hl : l.length ≤ 1000000) : ACalls Tryz.prog 25 [cdF nm M D par dom, ints l] [] (iV (leftC nm M D par dom (haveN l))) [] := by
  refine acalls_of_body Tryz.func25 rfl (Nat.le_of_ble_eq_true rfl) ?_
  have h1 := A_have hl
  have h2 := A_left (M := M) (dom := dom) (hv := haveN l) h (by rw [haveN_len]; omega)
  (repeat' (first
  | (apply W.qd; (first
    | (apply (q_callC (h1)); exact rfl; exact rfl; kernel_rfl; kernel_rfl; kernel_rfl)|(apply (q_callC (h2)); exact rfl; exact rfl; kernel_rfl; kernel_rfl; kernel_rfl)|(apply q_mv; (first|exact vD|exact vO|exact vP|exact vA|exact vF|exact vR|exact vN|exact vY|exact vT|exact vM|exact vL|exact vX))|(apply q_as; (first|exact vD|exact vO|exact vP|exact vA|exact vF|exact vR|exact vN|exact vY|exact vT|exact vM|exact vL|exact vX))
    | (apply q_ld_boxF; (iterate 4 exact rfl))))|(apply W.ed; (apply e_boxF; (iterate 3 exact rfl); kernel_rfl; kernel_rfl))|(apply AWP.seq)|(apply ACont_normal)|(apply W.region; kernel_rfl)|(apply W.regionD; exact rfl; kernel_rfl)|(apply Walk.nil)|(apply W.chk; kernel_rfl)
  | (apply AWP.ret)))
  exact Ends.i rfl rfl
theorem A_full1 (x : Int) : ACalls Tryz.prog 67 [iV x] [] (bV (decide (x ≠ 1))) [] := by
  refine acalls_of_body Tryz.func67 rfl (Nat.le_of_ble_eq_true rfl) ?_
  (repeat' (first
  | (apply W.qd; (first
    | (apply q_mv; (first|exact vD|exact vO|exact vP|exact vA|exact vF|exact vR|exact vN|exact vY|exact vT|exact vM|exact vL|exact vX))|(apply q_as; (first|exact vD|exact vO|exact vP|exact vA|exact vF|exact vR|exact vN|exact vY|exact vT|exact vM|exact vL|exact vX))
    | (apply q_neq; exact rfl; exact rfl)))|(apply AWP.seq)|(apply ACont_normal)|(apply W.region; kernel_rfl)|(apply Walk.nil)
  | (apply AWP.ret)))
  exact Ends.b rfl (by simp)
def fullN (nm : List Nat) (M D : Int) (par : List (List Int)) (dom : Int) (l : List Int) : Bool := !(l.any fun x => decide (x ≠ 1)) && decide (0 ≤ leftC nm M D par dom (haveN l))
theorem A_full {nm : List Nat} {M D dom : Int} {par : List (List Int)} {l : List Int} (h : FIn nm D par) (hl : l.length ≤ 1000000) : ACalls Tryz.prog 27 [cdF nm M D par dom, ints l] [] (bV (fullN nm M D par dom l)) [] := by
  refine acalls_of_body Tryz.func27 rfl (Nat.le_of_ble_eq_true rfl) ?_
  have h1 := A_contains_int (O := []) (caps := []) (fun x => decide (x ≠ 1)) l (by omega) (by kernel_rfl) (fun x _ => A_full1 x)
  have h2 := A_hleft (M := M) (dom := dom) h hl
  unfold fullN
  cases hq : l.any fun x => decide (x ≠ 1) with
  | false =>
    rw [hq] at h1
    (repeat' (first
  | (apply W.gOn; exact rfl; exact rfl)
  | (apply W.qd; (first
    | (apply (q_callC (h1)); exact rfl; exact rfl; kernel_rfl; kernel_rfl; kernel_rfl)|(apply (q_callC (h2)); exact rfl; exact rfl; kernel_rfl; kernel_rfl; kernel_rfl)|(apply q_mv; (first|exact vD|exact vO|exact vP|exact vA|exact vF|exact vR|exact vN|exact vY|exact vT|exact vM|exact vL|exact vX))|(apply q_as; (first|exact vD|exact vO|exact vP|exact vA|exact vF|exact vR|exact vN|exact vY|exact vT|exact vM|exact vL|exact vX))|(apply q_ld_boxF; (iterate 4 exact rfl))|(apply q_geq; exact rfl; exact rfl)|(apply q_not; exact rfl)
    | (apply (q_pickT (u := .d _)); exact rfl; exact rfl)))|(apply W.ed; (apply e_boxF; (iterate 3 exact rfl); kernel_rfl; kernel_rfl))|(apply AWP.seq)|(apply ACont_normal)|(apply W.region; kernel_rfl)|(apply Walk.nil)
  | (apply AWP.ret)))
    all_goals exact Ends.b rfl (by simp)
  | true =>
    rw [hq] at h1
    (repeat' (first
  | (apply W.qd; (first
    | (apply (q_callC (h1)); exact rfl; exact rfl; kernel_rfl; kernel_rfl; kernel_rfl)|(apply q_mv; (first|exact vD|exact vO|exact vP|exact vA|exact vF|exact vR|exact vN|exact vY|exact vT|exact vM|exact vL|exact vX))|(apply q_as; (first|exact vD|exact vO|exact vP|exact vA|exact vF|exact vR|exact vN|exact vY|exact vT|exact vM|exact vL|exact vX))|(apply q_not; exact rfl)
    | (apply (q_pickF (u := .d _)); exact rfl; exact rfl)))|(apply W.ed; (apply e_boxF; (iterate 3 exact rfl); kernel_rfl; kernel_rfl))|(refine W.gOff _ _ rfl rfl (by intro h; cases h) ?_)|(apply AWP.seq)|(apply ACont_normal)|(apply W.region; kernel_rfl)|(apply Walk.nil)
  | (apply AWP.ret)))
    all_goals exact Ends.b rfl (by simp)
theorem A_worst {l : List Hl} (hl : l.length ≤ 9223372036854775807) : ACalls Tryz.prog 32 [hls l] [] (iV (worstN l)) [] := by
  refine acalls_of_body Tryz.func32 rfl (Nat.le_of_ble_eq_true rfl) ?_
  have hm : (l.map hlD).length = l.length := List.length_map _
  (repeat' (first
  | (apply W.qd; (first
    | (apply q_mv; (first|exact vD|exact vO|exact vP|exact vA|exact vF|exact vR|exact vN|exact vY|exact vT|exact vM|exact vL|exact vX))|(apply q_as; (first|exact vD|exact vO|exact vP|exact vA|exact vF|exact vR|exact vN|exact vY|exact vT|exact vM|exact vL|exact vX))
    | (apply q_len_sl; exact rfl; exact rfl)))|(apply AWP.seq)|(apply ACont_normal)|(apply W.region; kernel_rfl)|(apply Walk.nil)
  | (apply AWP.block)))
  refine AWP.loopW (α := Nat) (fun k => k ≤ l.length) (fun k => ⟨[(8, iV k), (7, iV l.length), (6, hls l), (3, iV (worstK l k))], []⟩) (fun k => l.length - k) 0 (Nat.zero_le _) ?wk0 fun k hk => ?_
  case wk0 => exact ⟨[], rfl, rfl, rfl, rfl, iV_eq (by rw [hm]), rfl, rfl, trivial⟩
  by_cases hkl : k < l.length
  · have eg : l.getD k hl0 = l[k] := by rw [List.getD_eq_getElem?_getD, List.getElem?_eq_getElem hkl]; rfl
    have hs : worstK l (k + 1) = if k = 0 ∨ l[k].2.2.1 < worstK l k then l[k].2.2.1 else worstK l k := by
      show (if k = 0 ∨ (l.getD k hl0).2.2.1 < worstK l k then (l.getD k hl0).2.2.1 else worstK l k) = _
      rw [eg]
    replace hs := Lib.hid hs
    generalize worstK l k = A at *
    (repeat' (first
  | (apply W.gOn; exact rfl; exact rfl)
  | (apply W.qd; (first
    | (apply q_mv; (first|exact vD|exact vO|exact vP|exact vA|exact vF|exact vR|exact vN|exact vY|exact vT|exact vM|exact vL|exact vX))|(apply q_as; (first|exact vD|exact vO|exact vP|exact vA|exact vF|exact vR|exact vN|exact vY|exact vT|exact vM|exact vL|exact vX))|(apply q_fld_optF; (iterate 3 exact rfl))|(apply q_ld_box; (iterate 4 exact rfl))|(apply q_lss; exact rfl; exact rfl)|(apply q_eql; exact rfl; exact rfl)|(apply q_add; exact rfl; exact rfl; omega)|(apply q_ld_maps; (iterate 3 exact rfl); (first | omega | (focus (simp; done))))|(apply q_ix_slF; (iterate 4 exact rfl); (first | (with_reducible exact rfl) | exact natI_spec rfl | assumption | exact (Int.toNat_of_nonneg (by omega)).symm); (first | omega | (focus (simp only [List.length_map]; omega)) | (focus (simp; done)) | (focus (simp; omega))))|(apply (q_pickT (u := .d _)); exact rfl; exact rfl)
    | (apply (q_pickF (u := .d _)); exact rfl; exact rfl)))|(apply W.ed; (apply e_allocF; (iterate 3 exact rfl); kernel_rfl))|(apply W.ln; (apply l_st_box; (iterate 6 exact rfl); kernel_rfl; kernel_rfl; kernel_rfl))|(refine W.gOff _ _ rfl rfl (by intro h; cases h) ?_)|(apply AWP.seq)|(apply ACont_normal)|(apply W.region; kernel_rfl)|(apply Walk.nil)|(apply AWP.block)|(apply AWP.skip)|(apply ABlock_normal)|(apply W.condT; exact rfl)|(refine W.gF _ _ rfl rfl (fun hb => ?_) (fun hb => ?_) <;> ((try simp only [hb, zA, zB]) <;> (try simp only [zC, zD, zE, zF, zG, zH, zI, zJ] at hb) <;> (try (exfalso; omega))))
  | (refine W.cond _ rfl (fun hb => ?_) (fun hb => ?_) <;> ((try simp only [hb, zA, zB]) <;> (try simp only [zC, zD, zE, zF, zG, zH, zI, zJ] at hb) <;> (try (exfalso; omega))))))
    all_goals refine ⟨k + 1, by omega, by omega, ?_⟩
    all_goals rw [hs.out]
    all_goals first
      | (rw [if_pos (by omega)]; exact ⟨[], rfl, rfl, rfl, iV_eq (by omega), rfl, rfl, rfl, trivial⟩)
      | (rw [if_neg (by omega)]; exact ⟨[], rfl, rfl, rfl, iV_eq (by omega), rfl, rfl, rfl, trivial⟩)
  · have e : k = l.length := by omega
    subst e
    (repeat' (first
  | (apply W.qd; (first
    | (apply q_mv; (first|exact vD|exact vO|exact vP|exact vA|exact vF|exact vR|exact vN|exact vY|exact vT|exact vM|exact vL|exact vX))|(apply q_as; (first|exact vD|exact vO|exact vP|exact vA|exact vF|exact vR|exact vN|exact vY|exact vT|exact vM|exact vL|exact vX))
    | (apply q_lss; exact rfl; exact rfl)))|(apply AWP.seq)|(apply ACont_normal)|(apply W.region; kernel_rfl)|(apply Walk.nil)|(apply AWP.exit)|(apply AWP.ret)|(apply ACont_exit)|(apply ABlock_exit)
  | (refine W.cond _ rfl (fun hb => ?_) (fun hb => ?_) <;> ((try simp only [hb, zA, zB]) <;> (try simp only [zC, zD, zE, zF, zG, zH, zI, zJ] at hb) <;> (try (exfalso; omega))))))
    exact Ends.i rfl rfl
theorem A_list36 {a b : List Hl} (ha : a.length ≤ 1000000) (hb : b.length ≤ 1000000) : ACalls Tryz.prog 29 [hls a, hls b] [] (bV (decide (a = b))) [] := by
  refine acalls_of_body Tryz.func29 rfl (Nat.le_of_ble_eq_true rfl) ?_
  have hma : (a.map hlD).length = a.length := List.length_map _
  have hmb : (b.map hlD).length = b.length := List.length_map _
  by_cases hl : a.length = b.length
  · (repeat' (first
  | (apply W.qd; (first
    | (apply q_mv; (first|exact vD|exact vO|exact vP|exact vA|exact vF|exact vR|exact vN|exact vY|exact vT|exact vM|exact vL|exact vX))|(apply q_as; (first|exact vD|exact vO|exact vP|exact vA|exact vF|exact vR|exact vN|exact vY|exact vT|exact vM|exact vL|exact vX))|(apply q_neq; exact rfl; exact rfl)
    | (apply q_len_sl; exact rfl; exact rfl)))|(apply AWP.seq)|(apply ACont_normal)|(apply W.region; kernel_rfl)|(apply Walk.nil)|(apply AWP.block)|(apply AWP.skip)
  | (refine W.cond _ rfl (fun hb => ?_) (fun hb => ?_) <;> ((try simp only [hb, zA, zB]) <;> (try simp only [zC, zD, zE, zF, zG, zH, zI, zJ] at hb) <;> (try (exfalso; omega))))))
    refine AWP.loopW (α := Nat) (fun k => k ≤ a.length ∧ a.take k = b.take k) (fun k => ⟨[(5, iV k), (0, hls a), (1, hls b)], []⟩) (fun k => a.length - k) 0 ⟨Nat.zero_le _, rfl⟩ ⟨[], rfl, rfl, rfl, by (repeat (first | exact trivial | refine ⟨rfl, ?_⟩))⟩ fun k hk => ?_
    by_cases hka : k < a.length
    · have hkb : k < b.length := by omega
      by_cases he : a[k] = b[k]
      · have hd : decide (a[k] = b[k]) = true := decide_eq_true he
        have hnext : a.take (k + 1) = b.take (k + 1) := by rw [List.take_succ_eq_append_getElem hka, List.take_succ_eq_append_getElem hkb, hk.2, he]
        have h2 := eqHl a[k] b[k]
        rw [hd] at h2
        clear he hd
        (repeat' (first
  | (apply W.qd; (first
    | ((apply (q_neT fi_health); (iterate 5 exact rfl); exact congrArg not h2))|(apply q_mv; (first|exact vD|exact vO|exact vP|exact vA|exact vF|exact vR|exact vN|exact vY|exact vT|exact vM|exact vL|exact vX))|(apply q_as; (first|exact vD|exact vO|exact vP|exact vA|exact vF|exact vR|exact vN|exact vY|exact vT|exact vM|exact vL|exact vX))|(apply q_lss; exact rfl; exact rfl)|(apply q_add; exact rfl; exact rfl; omega)|(apply q_len_sl; exact rfl; exact rfl)|(apply q_ld_maps; (iterate 3 exact rfl); (first | omega | (focus (simp; done))))
    | (apply q_ix_slF; (iterate 4 exact rfl); (first | (with_reducible exact rfl) | exact natI_spec rfl | assumption | exact (Int.toNat_of_nonneg (by omega)).symm); (first | omega | (focus (simp only [List.length_map]; omega)) | (focus (simp; done)) | (focus (simp; omega))))))|(apply AWP.seq)|(apply ACont_normal)|(apply W.region; kernel_rfl)|(apply W.regionD; exact rfl; kernel_rfl)|(apply Walk.nil)|(apply W.chk; kernel_rfl)|(apply AWP.block)|(apply AWP.skip)|(apply ABlock_normal)|(apply W.condF; exact rfl)
  | (refine W.cond _ rfl (fun hb => ?_) (fun hb => ?_) <;> ((try simp only [hb, zA, zB]) <;> (try simp only [zC, zD, zE, zF, zG, zH, zI, zJ] at hb) <;> (try (exfalso; omega))))))
        exact ⟨k + 1, ⟨by omega, hnext⟩, by omega, [], rfl, rfl, rfl, iV_eq (by omega), rfl, rfl, trivial⟩
      · have hd : decide (a[k] = b[k]) = false := decide_eq_false he
        have h2 := eqHl a[k] b[k]
        rw [hd] at h2
        have hne : decide (a = b) = false := decide_eq_false fun e => he (by subst e; rfl)
        rw [hne]
        clear he hd
        (repeat' (first
  | (apply W.qd; (first
    | ((apply (q_neT fi_health); (iterate 5 exact rfl); exact congrArg not h2))|(apply q_mv; (first|exact vD|exact vO|exact vP|exact vA|exact vF|exact vR|exact vN|exact vY|exact vT|exact vM|exact vL|exact vX))|(apply q_as; (first|exact vD|exact vO|exact vP|exact vA|exact vF|exact vR|exact vN|exact vY|exact vT|exact vM|exact vL|exact vX))|(apply q_lss; exact rfl; exact rfl)|(apply q_len_sl; exact rfl; exact rfl)|(apply q_ld_maps; (iterate 3 exact rfl); (first | omega | (focus (simp; done))))
    | (apply q_ix_slF; (iterate 4 exact rfl); (first | (with_reducible exact rfl) | exact natI_spec rfl | assumption | exact (Int.toNat_of_nonneg (by omega)).symm); (first | omega | (focus (simp only [List.length_map]; omega)) | (focus (simp; done)) | (focus (simp; omega))))))|(apply AWP.seq)|(apply ACont_normal)|(apply W.region; kernel_rfl)|(apply W.regionD; exact rfl; kernel_rfl)|(apply Walk.nil)|(apply W.chk; kernel_rfl)|(apply AWP.block)|(apply AWP.skip)|(apply AWP.ret)|(apply ACont_ret)|(apply ABlock_ret)|(apply W.condT; exact rfl)
  | (refine W.cond _ rfl (fun hb => ?_) (fun hb => ?_) <;> ((try simp only [hb, zA, zB]) <;> (try simp only [zC, zD, zE, zF, zG, zH, zI, zJ] at hb) <;> (try (exfalso; omega))))))
        exact Ends.b rfl rfl
    · have e : a = b := by
        have := hk.2
        rwa [List.take_of_length_le (by omega), List.take_of_length_le (by omega)] at this
      rw [decide_eq_true e]
      (repeat' (first
  | (apply W.qd; (first
    | (apply q_mv; (first|exact vD|exact vO|exact vP|exact vA|exact vF|exact vR|exact vN|exact vY|exact vT|exact vM|exact vL|exact vX))|(apply q_as; (first|exact vD|exact vO|exact vP|exact vA|exact vF|exact vR|exact vN|exact vY|exact vT|exact vM|exact vL|exact vX))|(apply q_lss; exact rfl; exact rfl)
    | (apply q_len_sl; exact rfl; exact rfl)))|(apply AWP.seq)|(apply ACont_normal)|(apply W.region; kernel_rfl)|(apply Walk.nil)|(apply AWP.exit)|(apply AWP.ret)|(apply ACont_exit)|(apply ABlock_exit)
  | (refine W.cond _ rfl (fun hb => ?_) (fun hb => ?_) <;> ((try simp only [hb, zA, zB]) <;> (try simp only [zC, zD, zE, zF, zG, zH, zI, zJ] at hb) <;> (try (exfalso; omega))))))
      exact Ends.b rfl rfl
  · rw [decide_eq_false fun e => hl (by rw [e])]
    (repeat' (first
  | (apply W.qd; (first
    | (apply q_mv; (first|exact vD|exact vO|exact vP|exact vA|exact vF|exact vR|exact vN|exact vY|exact vT|exact vM|exact vL|exact vX))|(apply q_as; (first|exact vD|exact vO|exact vP|exact vA|exact vF|exact vR|exact vN|exact vY|exact vT|exact vM|exact vL|exact vX))|(apply q_neq; exact rfl; exact rfl)
    | (apply q_len_sl; exact rfl; exact rfl)))|(apply AWP.seq)|(apply ACont_normal)|(apply W.region; kernel_rfl)|(apply Walk.nil)|(apply AWP.ret)|(apply ACont_ret)
  | (refine W.cond _ rfl (fun hb => ?_) (fun hb => ?_) <;> ((try simp only [hb, zA, zB]) <;> (try simp only [zC, zD, zE, zF, zG, zH, zI, zJ] at hb) <;> (try (exfalso; omega))))))
    exact Ends.b rfl rfl
theorem A_at36 (r l b : Int) : ACalls Tryz.prog 63 [iV r, iV l, iV b] [] (.agg [iV r, iV 0, iV l, iV b]) [] := by
  refine acalls_of_body Tryz.func63 rfl (Nat.le_of_ble_eq_true rfl) ?_
  (repeat' (first
  | (apply W.qd; (first
    | (apply q_mv; (first|exact vD|exact vO|exact vP|exact vA|exact vF|exact vR|exact vN|exact vY|exact vT|exact vM|exact vL|exact vX))
    | (apply q_buildF; exact rfl; exact rfl; kernel_rfl)))|(apply W.ed; (apply e_allocF; (iterate 3 exact rfl); kernel_rfl))|(apply W.ln; (apply l_st_box; (iterate 6 exact rfl); kernel_rfl; kernel_rfl; kernel_rfl))|(apply AWP.seq)|(apply ACont_normal)|(apply W.region; kernel_rfl)|(apply Walk.nil)
  | (apply AWP.ret)))
  exact ⟨.inl rfl, [], [.agg [iV r, iV 0, iV l, iV b]], rfl, ⟨⟨0, [iV r, iV 0, iV l, iV b], true, rfl, rfl, rfl, rfl⟩, trivial⟩, AVle.of_eq rfl, rfl⟩
theorem A_par36 : ACalls Tryz.prog 62 [] [] (cdF [112, 97, 114] 8 2 [[1, 1]] 3) [] := by
  refine acalls_of_body Tryz.func62 rfl (Nat.le_of_ble_eq_true rfl) ?_
  (repeat' (first
  | (apply W.qd; (first
    | (apply q_buildF; exact rfl; exact rfl; kernel_rfl)
    | (apply q_litF; (iterate 5 exact rfl); kernel_rfl; kernel_rfl; exact rfl)))|(apply W.ed; (apply e_allocF; (iterate 3 exact rfl); kernel_rfl))|(apply W.ln; (apply l_st_box; (iterate 6 exact rfl); kernel_rfl; kernel_rfl; kernel_rfl))|(apply AWP.seq)|(apply ACont_normal)|(apply W.region; kernel_rfl)|(apply Walk.nil)
  | (apply AWP.ret)))
  exact ⟨.inl rfl, [], [cdF [112, 97, 114] 8 2 [[1, 1]] 3], rfl, ⟨⟨0, [bS [112, 97, 114], iV 8, iV 2, rowsA [[1, 1]], iV 3], true, rfl, rfl, rfl, rfl⟩, trivial⟩, AVle.of_eq rfl, rfl⟩
end Go.Proofs.YtaclmbbiegklcaaGreatDoor
end
section
/- Layer 36: the statements' sanity, small. -/
namespace Go.Proofs.YtaclmbbiegklcaaGreatDoor
open Go.RowKit
set_option maxHeartbeats 4000000
set_option maxRecDepth 100000
theorem left36a : leftC [112, 97, 114] 8 2 [[1, 1]] 3 (haveN [1, 1, 1]) = 1 := by kernel_rfl
theorem left36b : leftC [112, 97, 114] 8 2 [[1, 1]] 3 (haveN [1, 2, 1]) = 0 := by kernel_rfl
theorem left36c : leftC [112, 97, 114] 8 2 [[1, 1]] 3 (haveN [3, 2, 1]) = -1 := by kernel_rfl
theorem full36a : fullN [112, 97, 114] 8 2 [[1, 1]] 3 [1, 1, 1] = true := by kernel_rfl
theorem full36b : fullN [112, 97, 114] 8 2 [[1, 1]] 3 [1, 1] = false := by kernel_rfl
theorem order36 : orderN [(0, 0, 1, 1), (1, 0, 0, 1), (2, 0, -1, 2), (3, 0, 0, 0)] = [(1, 0, 0, 1), (0, 0, 1, 1), (2, 0, -1, 2)] := by kernel_rfl
theorem fin36 : FIn [112, 97, 114] 2 [[1, 1]] := ⟨by unfold isB; decide, by decide, by decide, by decide⟩
attribute [local irreducible] Quiet Eff OpOk AWPG ACont ABlock ACalls AGoto
theorem A_sanity36 : ACalls Tryz.prog 22 [] [] (bV true) [] := by
  refine acalls_of_body Tryz.func22 rfl (Nat.le_of_ble_eq_true rfl) ?_
  have hp := A_par36
  have ha := A_at36
  have ho := A_order (l := [(0, 0, 1, 1), (1, 0, 0, 1), (2, 0, -1, 2), (3, 0, 0, 0)]) (by decide)
  rw [order36] at ho
  have h1 := A_hleft (M := 8) (dom := 3) (l := [1, 1, 1]) fin36 (by decide)
  rw [left36a] at h1
  have h2 := A_hleft (M := 8) (dom := 3) (l := [1, 2, 1]) fin36 (by decide)
  rw [left36b] at h2
  have h3 := A_hleft (M := 8) (dom := 3) (l := [3, 2, 1]) fin36 (by decide)
  rw [left36c] at h3
  have hl := A_list36 (a := [(1, 0, 0, 1), (0, 0, 1, 1), (2, 0, -1, 2)]) (b := [(1, 0, 0, 1), (0, 0, 1, 1), (2, 0, -1, 2)]) (by decide) (by decide)
  rw [decide_eq_true rfl] at hl
  have hw := (A_worst (l := []) (by decide)).le (args' := [.d (.v (.slice none 0 0))]) fun F κ w vs hs => AVleL.sat (xs := [.d (.v (.slice none 0 0))]) (ys := [hls []]) ⟨AVle.nil 4, trivial⟩ F _ κ w vs hs
  have f1 := A_full (M := 8) (dom := 3) (l := [1, 1, 1]) fin36 (by decide)
  rw [full36a] at f1
  have f2 := A_full (M := 8) (dom := 3) (l := [1, 1]) fin36 (by decide)
  rw [full36b] at f2
  (repeat' (first
  | (apply W.gOn; exact rfl; exact rfl)
  | (apply W.qd; (first
    | (apply (q_callC (hp)); exact rfl; exact rfl; kernel_rfl; kernel_rfl; kernel_rfl)|(apply (q_callC (ha _ _ _)); exact rfl; exact rfl; kernel_rfl; kernel_rfl; kernel_rfl)|(apply (q_callC (ho)); exact rfl; exact rfl; kernel_rfl; kernel_rfl; kernel_rfl)|(apply (q_callC (h1)); exact rfl; exact rfl; kernel_rfl; kernel_rfl; kernel_rfl)|(apply (q_callC (h2)); exact rfl; exact rfl; kernel_rfl; kernel_rfl; kernel_rfl)|(apply (q_callC (h3)); exact rfl; exact rfl; kernel_rfl; kernel_rfl; kernel_rfl)|(apply (q_callC (hl)); exact rfl; exact rfl; kernel_rfl; kernel_rfl; kernel_rfl)|(apply (q_callC (hw)); exact rfl; exact rfl; kernel_rfl; kernel_rfl; kernel_rfl)|(apply (q_callC (f1)); exact rfl; exact rfl; kernel_rfl; kernel_rfl; kernel_rfl)|(apply (q_callC (f2)); exact rfl; exact rfl; kernel_rfl; kernel_rfl; kernel_rfl)
    | ((apply (q_slc_map (f := iD) (l := [1, 1, 1]) 0 2); (iterate 3 exact rfl); exact ⟨_, _, rfl, rfl⟩; decide; decide; exact Or.inl rfl))|(apply q_mv; (first|exact vD|exact vO|exact vP|exact vA|exact vF|exact vR|exact vN|exact vY|exact vT|exact vM|exact vL|exact vX))|(apply q_as; (first|exact vD|exact vO|exact vP|exact vA|exact vF|exact vR|exact vN|exact vY|exact vT|exact vM|exact vL|exact vX))|(apply q_ld_boxF; (iterate 4 exact rfl))|(apply q_eql; exact rfl; exact rfl)|(apply q_not; exact rfl)|(apply q_litF; (iterate 5 exact rfl); kernel_rfl; kernel_rfl; exact rfl)
    | (apply (q_pickT (u := .d _)); exact rfl; exact rfl)))|(apply W.ed; (apply e_allocF; (iterate 3 exact rfl); kernel_rfl))|(apply W.ln; (apply l_st_box; (iterate 6 exact rfl); kernel_rfl; kernel_rfl; kernel_rfl))|(apply AWP.seq)|(apply ACont_normal)|(apply W.region; kernel_rfl)|(apply W.regionD; exact rfl; kernel_rfl)|(apply Walk.nil)|(apply W.chk; kernel_rfl)
  | (apply AWP.ret)))
  exact Ends.b rfl rfl
end Go.Proofs.YtaclmbbiegklcaaGreatDoor
end
section
/- Layer 36: the statements HealthWorst and HealthPromise over the machine of abstract values. -/
namespace Go.Proofs.YtaclmbbiegklcaaGreatDoor
open Go.RowKit
set_option maxHeartbeats 4000000
set_option maxRecDepth 100000
def smallH (D : Int) (par : List (List Int)) : Bool := decide (0 ≤ D) && (decide (D ≤ 5) && (decide (par.length ≤ 5) && decide (D + (par.length : Int) ≤ 8)))
attribute [local irreducible] Quiet Eff OpOk AWPG ACont ABlock ACalls AGoto
theorem A_small36 {nm : List Nat} {M D dom : Int} {par : List (List Int)} : ACalls Tryz.prog 21 [cdF nm M D par dom] [] (bV (smallH D par)) [] := by
  refine acalls_of_body Tryz.func21 rfl (Nat.le_of_ble_eq_true rfl) ?_
  have hmp : (par.map rD).length = par.length := List.length_map _
  unfold smallH
  by_cases h1 : 0 ≤ D
  · by_cases h2 : D ≤ 5
    · by_cases h3 : par.length ≤ 5
      · rw [decide_eq_true h1, decide_eq_true h2, decide_eq_true h3]
        (repeat' (first
  | (apply W.gOn; exact rfl; exact rfl)
  | (apply W.qd; (first
    | (apply q_mv; (first|exact vD|exact vO|exact vP|exact vA|exact vF|exact vR|exact vN|exact vY|exact vT|exact vM|exact vL|exact vX))|(apply q_as; (first|exact vD|exact vO|exact vP|exact vA|exact vF|exact vR|exact vN|exact vY|exact vT|exact vM|exact vL|exact vX))|(apply q_fld_optF; (iterate 3 exact rfl))|(apply q_ld_box; (iterate 4 exact rfl))|(apply q_leq; exact rfl; exact rfl)|(apply q_geq; exact rfl; exact rfl)|(apply q_add; exact rfl; exact rfl; omega)|(apply q_len_sl; exact rfl; exact rfl)
    | (apply (q_pickT (u := .d _)); exact rfl; exact rfl)))|(apply W.ed; (apply e_boxF; (iterate 3 exact rfl); kernel_rfl; kernel_rfl))|(apply AWP.seq)|(apply ACont_normal)|(apply W.region; kernel_rfl)|(apply Walk.nil)|(apply AWP.ret)
  | (refine W.gT _ _ rfl rfl (fun hb => ?_) (fun hb => ?_) <;> ((try simp only [hb, zA, zB]) <;> (try simp only [zC, zD, zE, zF, zG, zH, zI, zJ] at hb) <;> (try (exfalso; omega))))))
        all_goals refine Ends.b rfl ?_
        all_goals simp [hmp]
      · rw [decide_eq_true h1, decide_eq_true h2, decide_eq_false h3]
        (repeat' (first
  | (apply W.gOn; exact rfl; exact rfl)
  | (apply W.qd; (first
    | (apply q_mv; (first|exact vD|exact vO|exact vP|exact vA|exact vF|exact vR|exact vN|exact vY|exact vT|exact vM|exact vL|exact vX))|(apply q_as; (first|exact vD|exact vO|exact vP|exact vA|exact vF|exact vR|exact vN|exact vY|exact vT|exact vM|exact vL|exact vX))|(apply q_fld_optF; (iterate 3 exact rfl))|(apply q_ld_box; (iterate 4 exact rfl))|(apply q_leq; exact rfl; exact rfl)|(apply q_geq; exact rfl; exact rfl)|(apply q_len_sl; exact rfl; exact rfl)|(apply (q_pickT (u := .d _)); exact rfl; exact rfl)
    | (apply (q_pickF (u := .d _)); exact rfl; exact rfl)))|(apply W.ed; (apply e_boxF; (iterate 3 exact rfl); kernel_rfl; kernel_rfl))|(refine W.gOff _ _ rfl rfl (by intro h; cases h) ?_)|(apply AWP.seq)|(apply ACont_normal)|(apply W.region; kernel_rfl)|(apply Walk.nil)|(apply AWP.ret)
  | (refine W.gT _ _ rfl rfl (fun hb => ?_) (fun hb => ?_) <;> ((try simp only [hb, zA, zB]) <;> (try simp only [zC, zD, zE, zF, zG, zH, zI, zJ] at hb) <;> (try (exfalso; omega))))))
        all_goals exact Ends.b rfl rfl
    · rw [decide_eq_true h1, decide_eq_false h2]
      (repeat' (first
  | (apply W.gOn; exact rfl; exact rfl)
  | (apply W.qd; (first
    | (apply q_mv; (first|exact vD|exact vO|exact vP|exact vA|exact vF|exact vR|exact vN|exact vY|exact vT|exact vM|exact vL|exact vX))|(apply q_as; (first|exact vD|exact vO|exact vP|exact vA|exact vF|exact vR|exact vN|exact vY|exact vT|exact vM|exact vL|exact vX))|(apply q_fld_optF; (iterate 3 exact rfl))|(apply q_ld_box; (iterate 4 exact rfl))|(apply q_leq; exact rfl; exact rfl)|(apply q_geq; exact rfl; exact rfl)|(apply (q_pickT (u := .d _)); exact rfl; exact rfl)
    | (apply (q_pickF (u := .d _)); exact rfl; exact rfl)))|(apply W.ed; (apply e_boxF; (iterate 3 exact rfl); kernel_rfl; kernel_rfl))|(refine W.gOff _ _ rfl rfl (by intro h; cases h) ?_)|(apply AWP.seq)|(apply ACont_normal)|(apply W.region; kernel_rfl)|(apply Walk.nil)|(apply AWP.ret)
  | (refine W.gT _ _ rfl rfl (fun hb => ?_) (fun hb => ?_) <;> ((try simp only [hb, zA, zB]) <;> (try simp only [zC, zD, zE, zF, zG, zH, zI, zJ] at hb) <;> (try (exfalso; omega))))))
      all_goals exact Ends.b rfl rfl
  · rw [decide_eq_false h1]
    (repeat' (first
  | (apply W.qd; (first
    | (apply q_mv; (first|exact vD|exact vO|exact vP|exact vA|exact vF|exact vR|exact vN|exact vY|exact vT|exact vM|exact vL|exact vX))|(apply q_as; (first|exact vD|exact vO|exact vP|exact vA|exact vF|exact vR|exact vN|exact vY|exact vT|exact vM|exact vL|exact vX))|(apply q_fld_optF; (iterate 3 exact rfl))|(apply q_ld_box; (iterate 4 exact rfl))|(apply q_geq; exact rfl; exact rfl)
    | (apply (q_pickF (u := .d _)); exact rfl; exact rfl)))|(apply W.ed; (apply e_boxF; (iterate 3 exact rfl); kernel_rfl; kernel_rfl))|(refine W.gOff _ _ rfl rfl (by intro h; cases h) ?_)|(apply AWP.seq)|(apply ACont_normal)|(apply W.region; kernel_rfl)|(apply Walk.nil)|(apply AWP.ret)
  | (refine W.gT _ _ rfl rfl (fun hb => ?_) (fun hb => ?_) <;> ((try simp only [hb, zA, zB]) <;> (try simp only [zC, zD, zE, zF, zG, zH, zI, zJ] at hb) <;> (try (exfalso; omega))))))
    all_goals exact Ends.b rfl rfl
end Go.Proofs.YtaclmbbiegklcaaGreatDoor
end
section
/- The specification of layer 7 over the machine of abstract values: solventref07.Check. -/
namespace Go.Proofs.YtaclmbbiegklcaaGreatDoor
open Go.RowKit
set_option maxHeartbeats 4000000
set_option maxRecDepth 100000
def sumI (r : List Int) (j : Nat) : Int := (r.take j).sum
theorem sumI_succ {r : List Int} {j : Nat} (h : j < r.length) : sumI r (j + 1) = sumI r j + r[j] := by
  unfold sumI
  rw [List.take_succ_eq_append_getElem h, List.sum_append]; simp
theorem sumI_bound {r : List Int} : ∀ j, (∀ i, i < j → 0 ≤ r.getD i 0 ∧ r.getD i 0 ≤ 65535) → j ≤ r.length → (0 ≤ sumI r j ∧ sumI r j ≤ 65535 * j) ∧ (sumI r j = 0 ↔ ∀ i, i < j → r.getD i 0 = 0)
  | 0, _, _ => ⟨⟨Int.le_refl _, Int.le_refl _⟩, fun _ i hi => by omega, fun _ => rfl⟩
  | j + 1, h, hl => by
    obtain ⟨⟨h1, h2⟩, h3⟩ := sumI_bound j (fun i hi => h i (by omega)) (by omega)
    have h4 := h j (by omega)
    have e : r.getD j 0 = r[j] := by rw [List.getD_eq_getElem?_getD, List.getElem?_eq_getElem (by omega)]; rfl
    rw [e] at h4
    rw [sumI_succ (by omega)]
    refine ⟨⟨by omega, by omega⟩, fun h5 i hi => ?_, fun h5 => ?_⟩
    · by_cases e2 : i = j
      · subst e2; rw [e]; omega
      · exact h3.1 (by omega) i (by omega)
    · have h6 := h5 j (by omega)
      rw [e] at h6
      have := h3.2 fun i hi => h5 i (by omega)
      omega
def topF (M : Int) : Int := if M = 8 then 255 else 65535
theorem rowOk_sum {M D : Int} {r : List Int} (hM : M = 8 ∨ M = 16) (hl : (r.length : Int) = D) (hr : ∀ i, i < r.length → 0 ≤ r.getD i 0 ∧ r.getD i 0 ≤ topF M) : rowOk M D r = decide (sumI r r.length ≠ 0) := by
  have ht : topF M ≤ 65535 := by unfold topF; split <;> omega
  have h2 := (sumI_bound r.length (fun i hi => ⟨(hr i hi).1, by have := (hr i hi).2; omega⟩) (Nat.le_refl _)).2
  unfold rowOk
  rw [decide_eq_true hl, Bool.true_and, Bool.eq_iff_iff]
  simp only [Bool.and_eq_true, decide_eq_true_eq, List.all_eq_true, Bool.not_eq_true', List.all_eq_false, allF, inF, List.all_cons, List.all_nil, Bool.and_true]
  constructor
  · rintro ⟨_, x, hx, h3⟩ h4
    obtain ⟨q, hq, rfl⟩ := memI_getD hx
    exact h3 (h2.1 h4 q hq)
  · intro h3
    refine ⟨fun x hx => ?_, ?_⟩
    · obtain ⟨q, hq, rfl⟩ := memI_getD hx
      have := hr q hq
      unfold topF at this
      refine ⟨hM, this.1, ?_⟩
      rcases hM with rfl | rfl
      · have h5 := this.2; rw [if_pos rfl] at h5 ⊢; omega
      · have h5 := this.2; rw [if_neg (by decide)] at h5 ⊢; omega
    · refine Classical.byContradiction fun hc => h3 (h2.2 fun i hi => Classical.byContradiction fun h5 => hc ⟨r.getD i 0, getDI_mem hi, h5⟩)
theorem rowOk_badc {M D : Int} {r : List Int} {i : Nat} (hM : M = 8 ∨ M = 16) (hi : i < r.length) (h : ¬ (0 ≤ r.getD i 0 ∧ r.getD i 0 ≤ topF M)) : rowOk M D r = false := by
  rw [Bool.eq_false_iff]
  intro h2
  unfold rowOk at h2
  simp only [Bool.and_eq_true, decide_eq_true_eq, List.all_eq_true, allF, inF, List.all_cons, List.all_nil, Bool.and_true] at h2
  have h3 := (h2.1.2 _ (getDI_mem hi)).2
  apply h
  unfold topF
  rcases hM with rfl | rfl
  · rw [if_pos rfl] at h3 ⊢; omega
  · rw [if_neg (by decide)] at h3 ⊢; omega
attribute [local irreducible] Quiet Eff OpOk AWPG ACont ABlock ACalls AGoto
theorem A_letter7 (c : Nat) : ACalls Tryz.prog 145 [.d (.v (.int .u8 c))] [] (bV (letB c)) [] := by
  refine acalls_of_body Tryz.func145 rfl (Nat.le_of_ble_eq_true rfl) ?_
  unfold letB
  (repeat' (first
  | (apply W.gOn; exact rfl; exact rfl)
  | (apply W.qd; (first
    | (apply q_mv; (first|exact vD|exact vO|exact vP|exact vA|exact vF|exact vR|exact vN|exact vY|exact vT|exact vM|exact vL|exact vX))|(apply q_as; (first|exact vD|exact vO|exact vP|exact vA|exact vF|exact vR|exact vN|exact vY|exact vT|exact vM|exact vL|exact vX))|(apply q_leq; exact rfl; exact rfl)|(apply q_geq; exact rfl; exact rfl)|(apply (q_pickT (u := .d _)); exact rfl; exact rfl)
    | (apply (q_pickF (u := .d _)); exact rfl; exact rfl)))|(refine W.gOff _ _ rfl rfl (by intro h; cases h) ?_)|(apply AWP.seq)|(apply ACont_normal)|(apply W.region; kernel_rfl)|(apply Walk.nil)|(apply AWP.ret)
  | (refine W.gT _ _ rfl rfl (fun hb => ?_) (fun hb => ?_) <;> ((try simp only [hb, zA, zB]) <;> (try simp only [zC, zD, zE, zF, zG, zH, zI, zJ] at hb) <;> (try (exfalso; omega))))))
  all_goals refine Ends.b rfl ?_
  all_goals first | (rw [Bool.eq_iff_iff]; simp; omega) | (simp; omega)
theorem A_digit7 (c : Nat) : ACalls Tryz.prog 146 [.d (.v (.int .u8 c))] [] (bV (digB c)) [] := by
  refine acalls_of_body Tryz.func146 rfl (Nat.le_of_ble_eq_true rfl) ?_
  unfold digB
  (repeat' (first
  | (apply W.gOn; exact rfl; exact rfl)
  | (apply W.qd; (first
    | (apply q_mv; (first|exact vD|exact vO|exact vP|exact vA|exact vF|exact vR|exact vN|exact vY|exact vT|exact vM|exact vL|exact vX))|(apply q_as; (first|exact vD|exact vO|exact vP|exact vA|exact vF|exact vR|exact vN|exact vY|exact vT|exact vM|exact vL|exact vX))|(apply q_leq; exact rfl; exact rfl)|(apply q_geq; exact rfl; exact rfl)|(apply (q_pickT (u := .d _)); exact rfl; exact rfl)
    | (apply (q_pickF (u := .d _)); exact rfl; exact rfl)))|(refine W.gOff _ _ rfl rfl (by intro h; cases h) ?_)|(apply AWP.seq)|(apply ACont_normal)|(apply W.region; kernel_rfl)|(apply Walk.nil)|(apply AWP.ret)
  | (refine W.gT _ _ rfl rfl (fun hb => ?_) (fun hb => ?_) <;> ((try simp only [hb, zA, zB]) <;> (try simp only [zC, zD, zE, zF, zG, zH, zI, zJ] at hb) <;> (try (exfalso; omega))))))
  all_goals refine Ends.b rfl ?_
  all_goals first | (rw [Bool.eq_iff_iff]; simp; omega) | (simp; omega)
theorem A_top7 (M : Int) : ACalls Tryz.prog 90 [iV M] [] (iV (topF M)) [] := by
  refine acalls_of_body Tryz.func90 rfl (Nat.le_of_ble_eq_true rfl) ?_
  unfold topF
  by_cases h : M = 8
  · rw [if_pos h]
    (repeat' (first
  | (apply W.qd; (first
    | (apply q_mv; (first|exact vD|exact vO|exact vP|exact vA|exact vF|exact vR|exact vN|exact vY|exact vT|exact vM|exact vL|exact vX))|(apply q_as; (first|exact vD|exact vO|exact vP|exact vA|exact vF|exact vR|exact vN|exact vY|exact vT|exact vM|exact vL|exact vX))
    | (apply q_eql; exact rfl; exact rfl)))|(apply AWP.seq)|(apply ACont_normal)|(apply W.region; kernel_rfl)|(apply Walk.nil)|(apply AWP.ret)|(apply ACont_ret)
  | (refine W.cond _ rfl (fun hb => ?_) (fun hb => ?_) <;> ((try simp only [hb, zA, zB]) <;> (try simp only [zC, zD, zE, zF, zG, zH, zI, zJ] at hb) <;> (try (exfalso; omega))))))
    exact Ends.i rfl rfl
  · rw [if_neg h]
    (repeat' (first
  | (apply W.qd; (first
    | (apply q_mv; (first|exact vD|exact vO|exact vP|exact vA|exact vF|exact vR|exact vN|exact vY|exact vT|exact vM|exact vL|exact vX))|(apply q_as; (first|exact vD|exact vO|exact vP|exact vA|exact vF|exact vR|exact vN|exact vY|exact vT|exact vM|exact vL|exact vX))
    | (apply q_eql; exact rfl; exact rfl)))|(apply AWP.seq)|(apply ACont_normal)|(apply W.region; kernel_rfl)|(apply Walk.nil)|(apply AWP.skip)|(apply AWP.ret)
  | (refine W.cond _ rfl (fun hb => ?_) (fun hb => ?_) <;> ((try simp only [hb, zA, zB]) <;> (try simp only [zC, zD, zE, zF, zG, zH, zI, zJ] at hb) <;> (try (exfalso; omega))))))
    exact Ends.i rfl rfl
theorem A_word7 {s : List Nat} (hs : isB s) (hl : s.length < 9223372036854775808) : ACalls Tryz.prog 89 [bS s] [] (bV (wordB s)) [] := by
  refine acalls_of_body Tryz.func89 rfl (Nat.le_of_ble_eq_true rfl) ?_
  have hL := A_letter7
  have hG := A_digit7
  by_cases h0 : s = []
  · subst h0
    (repeat' (first
  | (apply W.qd; (first
    | ((apply (q_eqlS (l' := [])); exact rfl; exact rfl; assumption; exact isB_nil))|(apply q_mv; (first|exact vD|exact vO|exact vP|exact vA|exact vF|exact vR|exact vN|exact vY|exact vT|exact vM|exact vL|exact vX))|(apply q_as; (first|exact vD|exact vO|exact vP|exact vA|exact vF|exact vR|exact vN|exact vY|exact vT|exact vM|exact vL|exact vX))
    | (apply (q_pickT (u := .d _)); exact rfl; exact rfl)))|(refine W.gOff _ _ rfl rfl (by intro h; cases h) ?_)|(apply AWP.seq)|(apply ACont_normal)|(apply W.region; kernel_rfl)|(apply Walk.nil)|(apply AWP.ret)|(apply ACont_ret)
  | (apply W.condT; exact rfl)))
    all_goals first | exact Ends.b rfl rfl | (exfalso; simp at hb)
  have hp : 0 < s.length := List.length_pos_iff.2 h0
  have g0 : s.getD 0 0 = s[0] := by rw [List.getD_eq_getElem?_getD, List.getElem?_eq_getElem hp]; rfl
  have hLo := hL s[0]
  cases hc : letB s[0] with
  | false =>
    rw [hc] at hLo
    have hw : wordB s = false := by
      unfold wordB
      rw [Bool.and_eq_false_iff]
      right
      rw [List.all_eq_false]
      exact ⟨0, List.mem_range.2 hp, by unfold wordAt; rw [g0, hc]; simp⟩
    rw [hw]
    (repeat' (first
  | (apply W.gOn; exact rfl; exact rfl)
  | (apply W.qd; (first
    | (apply (q_callC (hLo)); exact rfl; exact rfl; kernel_rfl; kernel_rfl; kernel_rfl)
    | ((apply (q_eqlS (l' := [])); exact rfl; exact rfl; assumption; exact isB_nil))|(apply q_mv; (first|exact vD|exact vO|exact vP|exact vA|exact vF|exact vR|exact vN|exact vY|exact vT|exact vM|exact vL|exact vX))|(apply q_as; (first|exact vD|exact vO|exact vP|exact vA|exact vF|exact vR|exact vN|exact vY|exact vT|exact vM|exact vL|exact vX))|(apply q_not; exact rfl)|(apply q_ix_bs; (iterate 3 exact rfl); (first | (with_reducible exact rfl) | exact natI_spec rfl | assumption | exact (Int.toNat_of_nonneg (by omega)).symm); (first | omega | (focus (simp only [List.length_map]; omega)) | (focus (simp; done)) | (focus (simp; omega))); assumption)|(apply (q_pickT (u := .d _)); exact rfl; exact rfl)
    | (apply (q_pickF (u := .d _)); exact rfl; exact rfl)))|(refine W.gOff _ _ rfl rfl (by intro h; cases h) ?_)|(apply AWP.seq)|(apply ACont_normal)|(apply W.region; kernel_rfl)|(apply Walk.nil)|(apply AWP.ret)|(apply ACont_ret)|(apply W.condT; exact rfl)
  | (refine W.gF _ _ rfl rfl (fun hb => ?_) (fun hb => ?_) <;> ((try simp only [hb, zA, zB]) <;> (try simp only [zC, zD, zE, zF, zG, zH, zI, zJ] at hb) <;> (try (exfalso; omega))))))
    all_goals first | exact Ends.b rfl rfl | exact absurd hb h0
  | true =>
    rw [hc] at hLo
    (repeat' (first
  | (apply W.gOn; exact rfl; exact rfl)
  | (apply W.qd; (first
    | (apply (q_callC (hLo)); exact rfl; exact rfl; kernel_rfl; kernel_rfl; kernel_rfl)
    | ((apply (q_eqlS (l' := [])); exact rfl; exact rfl; assumption; exact isB_nil))|(apply q_mv; (first|exact vD|exact vO|exact vP|exact vA|exact vF|exact vR|exact vN|exact vY|exact vT|exact vM|exact vL|exact vX))|(apply q_as; (first|exact vD|exact vO|exact vP|exact vA|exact vF|exact vR|exact vN|exact vY|exact vT|exact vM|exact vL|exact vX))|(apply q_not; exact rfl)|(apply q_ix_bs; (iterate 3 exact rfl); (first | (with_reducible exact rfl) | exact natI_spec rfl | assumption | exact (Int.toNat_of_nonneg (by omega)).symm); (first | omega | (focus (simp only [List.length_map]; omega)) | (focus (simp; done)) | (focus (simp; omega))); assumption)|(apply (q_pickT (u := .d _)); exact rfl; exact rfl)
    | (apply (q_pickF (u := .d _)); exact rfl; exact rfl)))|(refine W.gOff _ _ rfl rfl (by intro h; cases h) ?_)|(apply AWP.seq)|(apply ACont_normal)|(apply (W.regionS 4); exact rfl; kernel_rfl)|(apply Walk.nil)|(apply AWP.block)|(apply AWP.skip)|(apply AWP.ret)|(apply ACont_ret)|(apply W.condT; exact rfl)|(apply W.condF; exact rfl)
  | (refine W.gF _ _ rfl rfl (fun hb => ?_) (fun hb => ?_) <;> ((try simp only [hb, zA, zB]) <;> (try simp only [zC, zD, zE, zF, zG, zH, zI, zJ] at hb) <;> (try (exfalso; omega))))))
    all_goals try (exact absurd hb h0)
    refine AWP.loopW (α := Nat) (fun k => k ≤ s.length ∧ ∀ j, j < k → wordAt s j = true) (fun k => ⟨[(3, iV k), (0, bS s)], []⟩) (fun k => s.length - k) 0 ⟨Nat.zero_le _, fun j hj => by omega⟩ ⟨[], rfl, rfl, rfl, by (repeat (first | exact trivial | refine ⟨rfl, ?_⟩))⟩ fun k hk => ?_
    by_cases hkl : k < s.length
    · have eg : s.getD k 0 = s[k] := by rw [List.getD_eq_getElem?_getD, List.getElem?_eq_getElem hkl]; rfl
      have hnext : wordAt s k = true → ∀ j, j < k + 1 → wordAt s j = true := fun h j hj => by
        by_cases e : j = k
        · subst e; exact h
        · exact hk.2 j (by omega)
      have hbad : wordAt s k = false → wordB s = false := fun h => by
        unfold wordB
        rw [Bool.and_eq_false_iff]
        right
        rw [List.all_eq_false]
        exact ⟨k, List.mem_range.2 hkl, by rw [h]; decide⟩
      have hwa : wordAt s k = (letB s[k] || digB s[k]) := by
        unfold wordAt; rw [eg]
        by_cases e : k = 0
        · subst e; rw [hc]; rfl
        · rw [decide_eq_true e, Bool.true_and]
      replace hwa := Lib.hid hwa
      (repeat' (first
  | (apply W.gOn; exact rfl; exact rfl)
  | (apply W.qd; (first
    | (apply (q_callC (hL s[k])); exact rfl; exact rfl; kernel_rfl; kernel_rfl; kernel_rfl)|(apply (q_callC (hG s[k])); exact rfl; exact rfl; kernel_rfl; kernel_rfl; kernel_rfl)|(apply q_mv; (first|exact vD|exact vO|exact vP|exact vA|exact vF|exact vR|exact vN|exact vY|exact vT|exact vM|exact vL|exact vX))|(apply q_as; (first|exact vD|exact vO|exact vP|exact vA|exact vF|exact vR|exact vN|exact vY|exact vT|exact vM|exact vL|exact vX))|(apply q_lss; exact rfl; exact rfl)|(apply q_not; exact rfl)|(apply q_add; exact rfl; exact rfl; omega)|(apply q_len_bs; exact rfl; exact rfl)|(apply q_ix_bs; (iterate 3 exact rfl); (first | (with_reducible exact rfl) | exact natI_spec rfl | assumption | exact (Int.toNat_of_nonneg (by omega)).symm); (first | omega | (focus (simp only [List.length_map]; omega)) | (focus (simp; done)) | (focus (simp; omega))); assumption)|(apply (q_pickT (u := .d _)); exact rfl; exact rfl)
    | (apply (q_pickF (u := .d _)); exact rfl; exact rfl)))|(refine W.gOff _ _ rfl rfl (by intro h; cases h) ?_)|(apply AWP.seq)|(apply ACont_normal)|(apply W.region; kernel_rfl)|(apply Walk.nil)|(apply AWP.block)|(apply AWP.skip)|(apply AWP.ret)|(apply ACont_ret)|(apply ABlock_normal)|(apply ABlock_ret)|(apply W.condF; exact rfl)|(refine W.gT _ _ rfl rfl (fun hb => ?_) (fun hb => ?_) <;> ((try simp only [hb, zA, zB]) <;> (try simp only [zC, zD, zE, zF, zG, zH, zI, zJ] at hb) <;> (try (exfalso; omega))))
  | (refine W.cond _ rfl (fun hb => ?_) (fun hb => ?_) <;> ((try simp only [hb, zA, zB]) <;> (try simp only [zC, zD, zE, zF, zG, zH, zI, zJ] at hb) <;> (try (exfalso; omega))))))
      all_goals first
        | (refine Ends.b rfl (hbad ?_).symm; rw [hwa.out, Bool.or_eq_false_iff]; exact ⟨by assumption, by assumption⟩)|(refine ⟨k + 1, ⟨by omega, hnext ?_⟩, by omega, [], rfl, rfl, rfl, iV_eq (by omega), rfl, trivial⟩; rw [hwa.out, Bool.or_eq_true]; first | exact .inl (by assumption) | exact .inr (by assumption))
    · have hall : (List.range s.length).all (wordAt s) = true := by
        rw [List.all_eq_true]
        intro j hj
        exact hk.2 j (by have := List.mem_range.1 hj; omega)
      have hw : wordB s = true := by unfold wordB; rw [hall, decide_eq_true h0]; rfl
      rw [hw]
      (repeat' (first
  | (apply W.qd; (first
    | (apply q_mv; (first|exact vD|exact vO|exact vP|exact vA|exact vF|exact vR|exact vN|exact vY|exact vT|exact vM|exact vL|exact vX))|(apply q_as; (first|exact vD|exact vO|exact vP|exact vA|exact vF|exact vR|exact vN|exact vY|exact vT|exact vM|exact vL|exact vX))|(apply q_lss; exact rfl; exact rfl)
    | (apply q_len_bs; exact rfl; exact rfl)))|(apply AWP.seq)|(apply ACont_normal)|(apply W.region; kernel_rfl)|(apply Walk.nil)|(apply AWP.exit)|(apply AWP.ret)|(apply ACont_exit)|(apply ABlock_exit)
  | (refine W.cond _ rfl (fun hb => ?_) (fun hb => ?_) <;> ((try simp only [hb, zA, zB]) <;> (try simp only [zC, zD, zE, zF, zG, zH, zI, zJ] at hb) <;> (try (exfalso; omega))))))
      exact Ends.b rfl rfl
theorem A_check7 {nm : List Nat} {M D dom : Int} {par : List (List Int)} (hn : isB nm) (hnl : nm.length < 9223372036854775808) (hD : 0 ≤ D ∧ D ≤ 1000000) (hP : par.length ≤ 1000000) :
    ∃ e : Int, ACalls Tryz.prog 41 [cdF nm M D par dom] [] (iV e) [] ∧ (e = 0 ↔ chkC nm M D par dom = true) := by
  have hW := A_word7 hn hnl
  have hmp : (par.map rD).length = par.length := List.length_map _
  by_cases c1 : wordB nm = true
  case neg =>
    have c1 := Bool.eq_false_iff.2 c1
    refine ⟨4, ?_, by unfold chkC; rw [c1]; simp⟩
    rw [c1] at hW
    refine acalls_of_body Tryz.func41 rfl (Nat.le_of_ble_eq_true rfl) ?_
    (repeat' (first
  | (apply W.qd; (first
    | (apply (q_callC (hW)); exact rfl; exact rfl; kernel_rfl; kernel_rfl; kernel_rfl)|(apply q_as; (first|exact vD|exact vO|exact vP|exact vA|exact vF|exact vR|exact vN|exact vY|exact vT|exact vM|exact vL|exact vX))|(apply q_fld_optF; (iterate 3 exact rfl))|(apply q_ld_box; (iterate 4 exact rfl))|(apply q_not; exact rfl)|(apply q_add; exact rfl; exact rfl; omega)
    | (apply q_len_sl; exact rfl; exact rfl)))|(apply W.ed; (apply e_boxF; (iterate 3 exact rfl); kernel_rfl; kernel_rfl))|(apply AWP.seq)|(apply ACont_normal)|(apply W.region; kernel_rfl)|(apply Walk.nil)|(apply AWP.block)|(apply AWP.ret)|(apply ACont_ret)|(apply ABlock_ret)
  | (apply W.condT; exact rfl)))
    exact Ends.i rfl rfl
  rw [c1] at hW
  by_cases c2 : nm.length ≤ 12
  case neg =>
    refine ⟨2, ?_, by unfold chkC; rw [decide_eq_false c2]; simp⟩
    refine acalls_of_body Tryz.func41 rfl (Nat.le_of_ble_eq_true rfl) ?_
    (repeat' (first
  | (apply W.qd; (first
    | (apply (q_callC (hW)); exact rfl; exact rfl; kernel_rfl; kernel_rfl; kernel_rfl)|(apply q_as; (first|exact vD|exact vO|exact vP|exact vA|exact vF|exact vR|exact vN|exact vY|exact vT|exact vM|exact vL|exact vX))|(apply q_fld_optF; (iterate 3 exact rfl))|(apply q_ld_box; (iterate 4 exact rfl))|(apply q_gtr; exact rfl; exact rfl)|(apply q_not; exact rfl)|(apply q_add; exact rfl; exact rfl; omega)|(apply q_len_sl; exact rfl; exact rfl)
    | (apply q_len_bs; exact rfl; exact rfl)))|(apply W.ed; (apply e_boxF; (iterate 3 exact rfl); kernel_rfl; kernel_rfl))|(apply AWP.seq)|(apply ACont_normal)|(apply W.region; kernel_rfl)|(apply Walk.nil)|(apply AWP.block)|(apply AWP.ret)|(apply ACont_ret)|(apply ABlock_ret)|(apply W.condF; exact rfl)
  | (refine W.cond _ rfl (fun hb => ?_) (fun hb => ?_) <;> ((try simp only [hb, zA, zB]) <;> (try simp only [zC, zD, zE, zF, zG, zH, zI, zJ] at hb) <;> (try (exfalso; omega))))))
    exact Ends.i rfl rfl
  by_cases c3 : (M = 8 ∨ M = 16) ∧ 1 ≤ D ∧ D ≤ 31 ∧ par.length ≠ 0
  case neg =>
    refine ⟨1, ?_, ?_⟩
    · refine acalls_of_body Tryz.func41 rfl (Nat.le_of_ble_eq_true rfl) ?_
      (repeat' (first
  | (apply W.gOn; exact rfl; exact rfl)
  | (apply W.qd; (first
    | (apply (q_callC (hW)); exact rfl; exact rfl; kernel_rfl; kernel_rfl; kernel_rfl)|(apply q_mv; (first|exact vD|exact vO|exact vP|exact vA|exact vF|exact vR|exact vN|exact vY|exact vT|exact vM|exact vL|exact vX))|(apply q_as; (first|exact vD|exact vO|exact vP|exact vA|exact vF|exact vR|exact vN|exact vY|exact vT|exact vM|exact vL|exact vX))|(apply q_fld_optF; (iterate 3 exact rfl))|(apply q_ld_box; (iterate 4 exact rfl))|(apply q_lss; exact rfl; exact rfl)|(apply q_gtr; exact rfl; exact rfl)|(apply q_eql; exact rfl; exact rfl)|(apply q_neq; exact rfl; exact rfl)|(apply q_not; exact rfl)|(apply q_add; exact rfl; exact rfl; omega)|(apply q_len_sl; exact rfl; exact rfl)|(apply q_len_bs; exact rfl; exact rfl)|(apply (q_pickT (u := .d _)); exact rfl; exact rfl)
    | (apply (q_pickF (u := .d _)); exact rfl; exact rfl)))|(apply W.ed; (apply e_boxF; (iterate 3 exact rfl); kernel_rfl; kernel_rfl))|(refine W.gOff _ _ rfl rfl (by intro h; cases h) ?_)|(apply AWP.seq)|(apply ACont_normal)|(apply W.region; kernel_rfl)|(apply Walk.nil)|(apply AWP.block)|(apply AWP.ret)|(apply ACont_ret)|(apply ABlock_ret)|(apply W.condT; exact rfl)|(apply W.condF; exact rfl)|(refine W.gT _ _ rfl rfl (fun hb => ?_) (fun hb => ?_) <;> ((try simp only [hb, zA, zB]) <;> (try simp only [zC, zD, zE, zF, zG, zH, zI, zJ] at hb) <;> (try (exfalso; omega))))|(refine W.gF _ _ rfl rfl (fun hb => ?_) (fun hb => ?_) <;> ((try simp only [hb, zA, zB]) <;> (try simp only [zC, zD, zE, zF, zG, zH, zI, zJ] at hb) <;> (try (exfalso; omega))))
  | (refine W.cond _ rfl (fun hb => ?_) (fun hb => ?_) <;> ((try simp only [hb, zA, zB]) <;> (try simp only [zC, zD, zE, zF, zG, zH, zI, zJ] at hb) <;> (try (exfalso; omega))))))
      all_goals first | exact Ends.i rfl rfl | (exfalso; apply c3; refine ⟨by omega, by omega, by omega, by omega⟩)
    · refine ⟨fun h => by omega, fun h => ?_⟩
      unfold chkC at h
      simp only [Bool.and_eq_true, decide_eq_true_eq] at h
      exact absurd ⟨h.1.1.2.1.1.1.1, h.1.1.2.1.1.1.2, h.1.1.2.1.1.2, h.1.1.2.1.2⟩ c3
  obtain ⟨c3, c4, c5, c6⟩ := c3
  by_cases c7 : D + (par.length : Int) ≤ 32
  case neg =>
    refine ⟨2, ?_, by unfold chkC; rw [decide_eq_false c7]; simp⟩
    refine acalls_of_body Tryz.func41 rfl (Nat.le_of_ble_eq_true rfl) ?_
    (repeat' (first
  | (apply W.gOn; exact rfl; exact rfl)
  | (apply W.qd; (first
    | (apply (q_callC (hW)); exact rfl; exact rfl; kernel_rfl; kernel_rfl; kernel_rfl)|(apply q_mv; (first|exact vD|exact vO|exact vP|exact vA|exact vF|exact vR|exact vN|exact vY|exact vT|exact vM|exact vL|exact vX))|(apply q_as; (first|exact vD|exact vO|exact vP|exact vA|exact vF|exact vR|exact vN|exact vY|exact vT|exact vM|exact vL|exact vX))|(apply q_fld_optF; (iterate 3 exact rfl))|(apply q_ld_box; (iterate 4 exact rfl))|(apply q_lss; exact rfl; exact rfl)|(apply q_gtr; exact rfl; exact rfl)|(apply q_eql; exact rfl; exact rfl)|(apply q_neq; exact rfl; exact rfl)|(apply q_not; exact rfl)|(apply q_add; exact rfl; exact rfl; omega)|(apply q_len_sl; exact rfl; exact rfl)|(apply q_len_bs; exact rfl; exact rfl)|(apply (q_pickT (u := .d _)); exact rfl; exact rfl)
    | (apply (q_pickF (u := .d _)); exact rfl; exact rfl)))|(apply W.ed; (apply e_boxF; (iterate 3 exact rfl); kernel_rfl; kernel_rfl))|(refine W.gOff _ _ rfl rfl (by intro h; cases h) ?_)|(apply AWP.seq)|(apply ACont_normal)|(apply W.region; kernel_rfl)|(apply Walk.nil)|(apply AWP.block)|(apply AWP.ret)|(apply ACont_ret)|(apply ABlock_ret)|(apply W.condF; exact rfl)|(refine W.gT _ _ rfl rfl (fun hb => ?_) (fun hb => ?_) <;> ((try simp only [hb, zA, zB]) <;> (try simp only [zC, zD, zE, zF, zG, zH, zI, zJ] at hb) <;> (try (exfalso; omega))))|(refine W.gF _ _ rfl rfl (fun hb => ?_) (fun hb => ?_) <;> ((try simp only [hb, zA, zB]) <;> (try simp only [zC, zD, zE, zF, zG, zH, zI, zJ] at hb) <;> (try (exfalso; omega))))
  | (refine W.cond _ rfl (fun hb => ?_) (fun hb => ?_) <;> ((try simp only [hb, zA, zB]) <;> (try simp only [zC, zD, zE, zF, zG, zH, zI, zJ] at hb) <;> (try (exfalso; omega))))))
    all_goals first | exact Ends.i rfl rfl | (exfalso; omega)
  have hT := A_top7 M
  have ht0 : topF M ≤ 65535 := by unfold topF; split <;> omega
  have hall : ∀ e : Int, (par.all (rowOk M D) = false → e = 1) → (par.all (rowOk M D) = true → e = if 1 ≤ dom ∧ dom ≤ D + (par.length : Int) then 0 else 1) → ACalls Tryz.prog 41 [cdF nm M D par dom] [] (iV e) [] := fun e he0 he1 => by
    refine acalls_of_body Tryz.func41 rfl (Nat.le_of_ble_eq_true rfl) ?_
    (repeat' (first
  | (apply W.gOn; exact rfl; exact rfl)
  | (apply W.qd; (first
    | (apply (q_callC (hW)); exact rfl; exact rfl; kernel_rfl; kernel_rfl; kernel_rfl)|(apply q_mv; (first|exact vD|exact vO|exact vP|exact vA|exact vF|exact vR|exact vN|exact vY|exact vT|exact vM|exact vL|exact vX))|(apply q_as; (first|exact vD|exact vO|exact vP|exact vA|exact vF|exact vR|exact vN|exact vY|exact vT|exact vM|exact vL|exact vX))|(apply q_fld_optF; (iterate 3 exact rfl))|(apply q_ld_box; (iterate 4 exact rfl))|(apply q_lss; exact rfl; exact rfl)|(apply q_gtr; exact rfl; exact rfl)|(apply q_eql; exact rfl; exact rfl)|(apply q_neq; exact rfl; exact rfl)|(apply q_not; exact rfl)|(apply q_add; exact rfl; exact rfl; omega)|(apply q_len_sl; exact rfl; exact rfl)|(apply q_len_bs; exact rfl; exact rfl)|(apply (q_pickT (u := .d _)); exact rfl; exact rfl)
    | (apply (q_pickF (u := .d _)); exact rfl; exact rfl)))|(apply W.ed; (apply e_boxF; (iterate 3 exact rfl); kernel_rfl; kernel_rfl))|(refine W.gOff _ _ rfl rfl (by intro h; cases h) ?_)|(apply AWP.seq)|(apply ACont_normal)|(apply (W.regionS 13); exact rfl; kernel_rfl)|(apply Walk.nil)|(apply AWP.block)|(apply AWP.skip)|(apply ABlock_normal)|(apply W.condF; exact rfl)|(refine W.gT _ _ rfl rfl (fun hb => ?_) (fun hb => ?_) <;> ((try simp only [hb, zA, zB]) <;> (try simp only [zC, zD, zE, zF, zG, zH, zI, zJ] at hb) <;> (try (exfalso; omega))))|(refine W.gF _ _ rfl rfl (fun hb => ?_) (fun hb => ?_) <;> ((try simp only [hb, zA, zB]) <;> (try simp only [zC, zD, zE, zF, zG, zH, zI, zJ] at hb) <;> (try (exfalso; omega))))
  | (refine W.cond _ rfl (fun hb => ?_) (fun hb => ?_) <;> ((try simp only [hb, zA, zB]) <;> (try simp only [zC, zD, zE, zF, zG, zH, zI, zJ] at hb) <;> (try (exfalso; omega))))))
    all_goals try (exfalso; omega)
    all_goals
      refine AWP.loopW (α := Nat) (fun k => k ≤ par.length ∧ ∀ j, j < k → rowOk M D (par.getD j []) = true) (fun k => ⟨[(4, iV k), (3, iV (D + (par.length : Int))), (1, .opt 0 0)], [.box [bS nm, iV M, iV D, rowsA par, iV dom]]⟩) (fun k => par.length - k) 0 ⟨Nat.zero_le _, fun j hj => by omega⟩ (by exact ⟨[0], rfl, rfl, rfl, rfl, iV_eq (by omega), rfl, trivial⟩) fun k hk => ?_
      by_cases hkl : k < par.length
      · have eg : par.getD k [] = par[k] := by rw [List.getD_eq_getElem?_getD, List.getElem?_eq_getElem hkl]; rfl
        have hnext : rowOk M D par[k] = true → ∀ j, j < k + 1 → rowOk M D (par.getD j []) = true := fun h j hj => by
          by_cases e : j = k
          · subst e; rw [eg]; exact h
          · exact hk.2 j (by omega)
        have hbad : rowOk M D par[k] = false → e = 1 := fun h => he0 (by rw [List.all_eq_false]; exact ⟨par[k], List.getElem_mem hkl, by rw [h]; decide⟩)
        have hmr : (par[k].map iD).length = par[k].length := List.length_map _
        by_cases hrl : (par[k].length : Int) = D
        · clear he0 he1 hk
          (repeat' (first
  | (apply W.qd; (first
    | (apply q_mv; (first|exact vD|exact vO|exact vP|exact vA|exact vF|exact vR|exact vN|exact vY|exact vT|exact vM|exact vL|exact vX))|(apply q_as; (first|exact vD|exact vO|exact vP|exact vA|exact vF|exact vR|exact vN|exact vY|exact vT|exact vM|exact vL|exact vX))|(apply q_fld_optF; (iterate 3 exact rfl))|(apply q_ld_box; (iterate 4 exact rfl))|(apply q_lss; exact rfl; exact rfl)|(apply q_neq; exact rfl; exact rfl)|(apply q_len_sl; exact rfl; exact rfl)|(apply q_ld_map; (iterate 3 exact rfl); (first | omega | (focus (simp; done))))
    | (apply q_ix_slF; (iterate 4 exact rfl); (first | (with_reducible exact rfl) | exact natI_spec rfl | assumption | exact (Int.toNat_of_nonneg (by omega)).symm); (first | omega | (focus (simp only [List.length_map]; omega)) | (focus (simp; done)) | (focus (simp; omega))))))|(apply AWP.seq)|(apply ACont_normal)|(apply (W.regionS 19); exact rfl; kernel_rfl)|(apply (W.regionDS 19); exact rfl; exact rfl; kernel_rfl)|(apply Walk.nil)|(apply W.chk; kernel_rfl)|(apply AWP.block)|(apply AWP.skip)
  | (refine W.cond _ rfl (fun hb => ?_) (fun hb => ?_) <;> ((try simp only [hb, zA, zB]) <;> (try simp only [zC, zD, zE, zF, zG, zH, zI, zJ] at hb) <;> (try (exfalso; omega))))))
          all_goals try (exfalso; omega)
          refine AWP.loopW (α := Nat) (fun j => j ≤ par[k].length ∧ ∀ i, i < j → 0 ≤ par[k].getD i 0 ∧ par[k].getD i 0 ≤ topF M) (fun j => ⟨[(6, iV j), (5, iV (sumI par[k] j)), (4, iV k), (3, iV (D + (par.length : Int))), (1, .opt 0 0)], [.box [bS nm, iV M, iV D, rowsA par, iV dom]]⟩) (fun j => par[k].length - j) 0 ⟨Nat.zero_le _, fun i hi => by omega⟩ ⟨[0], rfl, rfl, rfl, by (repeat (first | exact trivial | refine ⟨rfl, ?_⟩))⟩ fun j hj => ?_
          have hsb := (sumI_bound j (fun i hi => ⟨(hj.2 i hi).1, by have := (hj.2 i hi).2; omega⟩) hj.1).1
          by_cases hjl : j < par[k].length
          · have ej : par[k].getD j 0 = par[k][j] := by rw [List.getD_eq_getElem?_getD, List.getElem?_eq_getElem hjl]; rfl
            have hss := Lib.hid (sumI_succ hjl)
            have hbc : ¬ (0 ≤ par[k][j] ∧ par[k][j] ≤ topF M) → e = 1 := fun h => hbad (rowOk_badc c3 hjl (by rw [ej]; exact h))
            have hnj : 0 ≤ par[k][j] ∧ par[k][j] ≤ topF M → ∀ i, i < j + 1 → 0 ≤ par[k].getD i 0 ∧ par[k].getD i 0 ≤ topF M := fun h i hi => by
              by_cases e : i = j
              · subst e; rw [ej]; exact h
              · exact hj.2 i (by omega)
            clear hj
            generalize sumI par[k] j = sm at *
            generalize topF M = tp at *
            (repeat' (first
  | (apply W.gOn; exact rfl; exact rfl)
  | (apply W.qd; (first
    | (apply (q_callC (hT)); exact rfl; exact rfl; kernel_rfl; kernel_rfl; kernel_rfl)|(apply q_mv; (first|exact vD|exact vO|exact vP|exact vA|exact vF|exact vR|exact vN|exact vY|exact vT|exact vM|exact vL|exact vX))|(apply q_as; (first|exact vD|exact vO|exact vP|exact vA|exact vF|exact vR|exact vN|exact vY|exact vT|exact vM|exact vL|exact vX))|(apply q_fld_optF; (iterate 3 exact rfl))|(apply q_ld_box; (iterate 4 exact rfl))|(apply q_lss; exact rfl; exact rfl)|(apply q_gtr; exact rfl; exact rfl)|(apply q_add; exact rfl; exact rfl; omega)|(apply q_ld_map; (iterate 3 exact rfl); (first | omega | (focus (simp; done))))|(apply q_ix_slF; (iterate 4 exact rfl); (first | (with_reducible exact rfl) | exact natI_spec rfl | assumption | exact (Int.toNat_of_nonneg (by omega)).symm); (first | omega | (focus (simp only [List.length_map]; omega)) | (focus (simp; done)) | (focus (simp; omega))))|(apply (q_pickT (u := .d _)); exact rfl; exact rfl)
    | (apply (q_pickF (u := .d _)); exact rfl; exact rfl)))|(refine W.gOff _ _ rfl rfl (by intro h; cases h) ?_)|(apply AWP.seq)|(apply ACont_normal)|(apply W.region; kernel_rfl)|(apply Walk.nil)|(apply AWP.block)|(apply AWP.skip)|(apply AWP.ret)|(apply ACont_ret)|(apply ABlock_normal)|(apply ABlock_ret)|(apply W.condT; exact rfl)|(refine W.gF _ _ rfl rfl (fun hb => ?_) (fun hb => ?_) <;> ((try simp only [hb, zA, zB]) <;> (try simp only [zC, zD, zE, zF, zG, zH, zI, zJ] at hb) <;> (try (exfalso; omega))))
  | (refine W.cond _ rfl (fun hb => ?_) (fun hb => ?_) <;> ((try simp only [hb, zA, zB]) <;> (try simp only [zC, zD, zE, zF, zG, zH, zI, zJ] at hb) <;> (try (exfalso; omega))))))
            all_goals first
              | (refine Ends.i rfl (hbc ?_).symm; omega)|(refine ⟨j + 1, ⟨by omega, hnj ⟨by omega, by omega⟩⟩, by omega, ?_⟩; rw [hss.out]; exact ⟨[0], rfl, rfl, rfl, iV_eq (by omega), iV_eq (by omega), rfl, rfl, rfl, trivial⟩)
          · have e2 : j = par[k].length := by omega
            subst e2
            have hro := rowOk_sum c3 hrl hj.2
            clear hj
            generalize sumI par[k] par[k].length = sm at *
            by_cases hz : sm = 0
            · have h1 : e = 1 := hbad (by rw [hro]; exact decide_eq_false fun h => h hz)
              (repeat' (first
  | (apply W.qd; (first
    | (apply q_mv; (first|exact vD|exact vO|exact vP|exact vA|exact vF|exact vR|exact vN|exact vY|exact vT|exact vM|exact vL|exact vX))|(apply q_as; (first|exact vD|exact vO|exact vP|exact vA|exact vF|exact vR|exact vN|exact vY|exact vT|exact vM|exact vL|exact vX))|(apply q_fld_optF; (iterate 3 exact rfl))|(apply q_ld_box; (iterate 4 exact rfl))|(apply q_lss; exact rfl; exact rfl)
    | (apply q_eql; exact rfl; exact rfl)))|(apply AWP.seq)|(apply ACont_normal)|(apply W.region; kernel_rfl)|(apply Walk.nil)|(apply AWP.exit)|(apply AWP.ret)|(apply ACont_exit)|(apply ACont_ret)|(apply ABlock_exit)|(apply ABlock_ret)
  | (refine W.cond _ rfl (fun hb => ?_) (fun hb => ?_) <;> ((try simp only [hb, zA, zB]) <;> (try simp only [zC, zD, zE, zF, zG, zH, zI, zJ] at hb) <;> (try (exfalso; omega))))))
              all_goals first | exact Ends.i rfl h1.symm | (exfalso; omega)
            · have h1 := hnext (by rw [hro]; exact decide_eq_true hz)
              (repeat' (first
  | (apply W.qd; (first
    | (apply q_mv; (first|exact vD|exact vO|exact vP|exact vA|exact vF|exact vR|exact vN|exact vY|exact vT|exact vM|exact vL|exact vX))|(apply q_as; (first|exact vD|exact vO|exact vP|exact vA|exact vF|exact vR|exact vN|exact vY|exact vT|exact vM|exact vL|exact vX))|(apply q_fld_optF; (iterate 3 exact rfl))|(apply q_ld_box; (iterate 4 exact rfl))|(apply q_lss; exact rfl; exact rfl)|(apply q_eql; exact rfl; exact rfl)
    | (apply q_add; exact rfl; exact rfl; omega)))|(apply AWP.seq)|(apply ACont_normal)|(apply W.region; kernel_rfl)|(apply Walk.nil)|(apply AWP.skip)|(apply AWP.exit)|(apply ACont_exit)|(apply ABlock_normal)|(apply ABlock_exit)
  | (refine W.cond _ rfl (fun hb => ?_) (fun hb => ?_) <;> ((try simp only [hb, zA, zB]) <;> (try simp only [zC, zD, zE, zF, zG, zH, zI, zJ] at hb) <;> (try (exfalso; omega))))))
              all_goals first | exact ⟨k + 1, ⟨by omega, h1⟩, by omega, [0], rfl, rfl, rfl, iV_eq (by omega), rfl, rfl, trivial⟩ | (exfalso; omega)
        · have hb0 : e = 1 := hbad (by unfold rowOk; rw [decide_eq_false hrl]; rfl)
          clear he0 he1 hk
          (repeat' (first
  | (apply W.qd; (first
    | (apply q_mv; (first|exact vD|exact vO|exact vP|exact vA|exact vF|exact vR|exact vN|exact vY|exact vT|exact vM|exact vL|exact vX))|(apply q_as; (first|exact vD|exact vO|exact vP|exact vA|exact vF|exact vR|exact vN|exact vY|exact vT|exact vM|exact vL|exact vX))|(apply q_fld_optF; (iterate 3 exact rfl))|(apply q_ld_box; (iterate 4 exact rfl))|(apply q_lss; exact rfl; exact rfl)|(apply q_neq; exact rfl; exact rfl)|(apply q_len_sl; exact rfl; exact rfl)|(apply q_ld_map; (iterate 3 exact rfl); (first | omega | (focus (simp; done))))
    | (apply q_ix_slF; (iterate 4 exact rfl); (first | (with_reducible exact rfl) | exact natI_spec rfl | assumption | exact (Int.toNat_of_nonneg (by omega)).symm); (first | omega | (focus (simp only [List.length_map]; omega)) | (focus (simp; done)) | (focus (simp; omega))))))|(apply AWP.seq)|(apply ACont_normal)|(apply W.region; kernel_rfl)|(apply W.regionD; exact rfl; kernel_rfl)|(apply Walk.nil)|(apply W.chk; kernel_rfl)|(apply AWP.block)|(apply AWP.skip)|(apply AWP.ret)|(apply ACont_ret)|(apply ABlock_ret)
  | (refine W.cond _ rfl (fun hb => ?_) (fun hb => ?_) <;> ((try simp only [hb, zA, zB]) <;> (try simp only [zC, zD, zE, zF, zG, zH, zI, zJ] at hb) <;> (try (exfalso; omega))))))
          all_goals first | exact Ends.i rfl hb0.symm | (exfalso; omega)
      · have ha : par.all (rowOk M D) = true := by
          rw [List.all_eq_true]
          intro r hr
          obtain ⟨j, hj, rfl⟩ := List.getElem_of_mem hr
          have := hk.2 j (by omega)
          rwa [List.getD_eq_getElem?_getD, List.getElem?_eq_getElem hj] at this
        have he := he1 ha
        clear he0 he1 hk
        (repeat' (first
  | (apply W.gOn; exact rfl; exact rfl)
  | (apply W.qd; (first
    | (apply q_mv; (first|exact vD|exact vO|exact vP|exact vA|exact vF|exact vR|exact vN|exact vY|exact vT|exact vM|exact vL|exact vX))|(apply q_as; (first|exact vD|exact vO|exact vP|exact vA|exact vF|exact vR|exact vN|exact vY|exact vT|exact vM|exact vL|exact vX))|(apply q_fld_optF; (iterate 3 exact rfl))|(apply q_ld_box; (iterate 4 exact rfl))|(apply q_lss; exact rfl; exact rfl)|(apply q_gtr; exact rfl; exact rfl)|(apply q_len_sl; exact rfl; exact rfl)|(apply (q_pickT (u := .d _)); exact rfl; exact rfl)
    | (apply (q_pickF (u := .d _)); exact rfl; exact rfl)))|(refine W.gOff _ _ rfl rfl (by intro h; cases h) ?_)|(apply AWP.seq)|(apply ACont_normal)|(apply W.region; kernel_rfl)|(apply Walk.nil)|(apply AWP.skip)|(apply AWP.exit)|(apply AWP.ret)|(apply ACont_exit)|(apply ACont_ret)|(apply ABlock_exit)|(apply W.condT; exact rfl)|(refine W.gF _ _ rfl rfl (fun hb => ?_) (fun hb => ?_) <;> ((try simp only [hb, zA, zB]) <;> (try simp only [zC, zD, zE, zF, zG, zH, zI, zJ] at hb) <;> (try (exfalso; omega))))
  | (refine W.cond _ rfl (fun hb => ?_) (fun hb => ?_) <;> ((try simp only [hb, zA, zB]) <;> (try simp only [zC, zD, zE, zF, zG, zH, zI, zJ] at hb) <;> (try (exfalso; omega))))))
        all_goals (refine Ends.i rfl ?_; rw [he]; first | (rw [if_pos (by omega)]; done) | (rw [if_neg (by omega)]; done))
  have hc : chkC nm M D par dom = (par.all (rowOk M D) && (decide (1 ≤ dom) && decide (dom ≤ D + (par.length : Int)))) := by
    unfold chkC
    rw [c1, decide_eq_true c2, decide_eq_true c3, decide_eq_true c4, decide_eq_true c5, decide_eq_true c6, decide_eq_true c7]
    rfl
  refine ⟨if par.all (rowOk M D) = true then (if 1 ≤ dom ∧ dom ≤ D + (par.length : Int) then 0 else 1) else 1, hall _ (fun h => by rw [h]; rfl) (fun h => by rw [if_pos h]), ?_⟩
  rw [hc]
  cases par.all (rowOk M D) with
  | false => simp
  | true =>
    rw [if_pos rfl, Bool.true_and, Bool.and_eq_true, decide_eq_true_eq, decide_eq_true_eq]
    split <;> simp_all
end Go.Proofs.YtaclmbbiegklcaaGreatDoor
end
section
/- The specification of layer 9 over the machine of abstract values: solventref09.Left. -/
namespace Go.Proofs.YtaclmbbiegklcaaGreatDoor
open Go.RowKit
set_option maxHeartbeats 4000000
set_option maxRecDepth 100000
def upF (hv : List Bool) (i : Nat) : List Nat := ((List.range hv.length).drop i).filter fun j => hv.getD j false
theorem upF_zero (hv : List Bool) : upF hv 0 = upN hv := rfl
theorem upF_step {hv : List Bool} {i : Nat} (h : i < hv.length) : upF hv i = if hv.getD i false = true then i :: upF hv (i + 1) else upF hv (i + 1) := by
  unfold upF
  rw [List.drop_eq_getElem_cons (by simpa using h), List.filter_cons]
  simp only [List.getElem_range]
theorem upF_end {hv : List Bool} {i : Nat} (h : hv.length ≤ i) : upF hv i = [] := by
  unfold upF
  rw [List.drop_of_length_le (by simpa using h)]; rfl
def fatN (dec : List Bool → Bool) (hv : List Bool) (set : List Nat) (i n : Nat) : Bool := (subsN (upF hv i) n).any fun s => !dec (minusN hv (set ++ s))
theorem fatN_zero (dec : List Bool → Bool) (hv : List Bool) (set : List Nat) (i : Nat) : fatN dec hv set i 0 = !dec (minusN hv set) := by
  unfold fatN
  have : subsN (upF hv i) 0 = [[]] := by unfold subsN; rfl
  rw [this]; simp
theorem fatN_end {dec : List Bool → Bool} {hv : List Bool} {set : List Nat} {i n : Nat} (h : hv.length ≤ i) : fatN dec hv set i (n + 1) = false := by
  unfold fatN
  rw [upF_end h, subsN]; rfl
theorem fatN_step {dec : List Bool → Bool} {hv : List Bool} {set : List Nat} {i n : Nat} (h : i < hv.length) : fatN dec hv set i (n + 1) = if hv.getD i false = true then (fatN dec hv (set ++ [i]) (i + 1) n || fatN dec hv set (i + 1) (n + 1)) else fatN dec hv set (i + 1) (n + 1) := by
  unfold fatN
  rw [upF_step h]
  split
  · rw [subsN, List.any_append, List.any_map]
    congr 1
    congr 1
    funext s
    simp
  · rfl
theorem bad_fat (dec : List Bool → Bool) (hv : List Bool) (f : Nat) : badN dec hv f = fatN dec hv [] 0 (f + 1) := by
  unfold badN fatN
  rw [upF_zero]
  congr 1
def preK (hv : List Bool) (k : Nat) : Nat := (hv.take k).count true
theorem preK_succ {hv : List Bool} {k : Nat} (h : k < hv.length) : preK hv (k + 1) = preK hv k + (if hv[k] = true then 1 else 0) := by
  unfold preK
  rw [List.take_succ_eq_append_getElem h, List.count_append, List.count_singleton]
  congr 1
  cases hv[k] <;> rfl
theorem preK_le (hv : List Bool) (k : Nat) : preK hv k ≤ k := Nat.le_trans List.count_le_length (by simp; omega)
theorem preK_up (hv : List Bool) : ∀ k, k ≤ hv.length → preK hv k = (upK hv k).length
  | 0, _ => rfl
  | k + 1, h => by
    have eg : hv.getD k false = hv[k]'(by omega) := by rw [List.getD_eq_getElem?_getD, List.getElem?_eq_getElem (by omega)]; rfl
    rw [preK_succ (by omega), upK_succ, eg, preK_up hv k (by omega)]
    split
    · simp
    · rfl
theorem dec_some {M D : Nat} {ps : List (List Nat)} {hv : List Bool} (h : CodeOk M D ps) (hd : decN M D ps hv = true) : ∃ j, hv.getD j false = true := by
  unfold decN at hd
  rw [Bool.and_eq_true, decide_eq_true_eq, decide_eq_true_eq] at hd
  have := h.d
  exact ⟨_, bas_pres h hd.1 (q := 0) (by omega)⟩
theorem fat_all {M D : Nat} {ps : List (List Nat)} {hv : List Bool} (h : CodeOk M D ps) (hd : decN M D ps hv = true) : 0 < (upN hv).length ∧ badN (decN M D ps) hv ((upN hv).length - 1) = true := by
  obtain ⟨j, hj⟩ := dec_some h hd
  have h1 : 0 < (upN hv).length := List.length_pos_of_mem (mem_upN.2 hj)
  refine ⟨h1, ?_⟩
  unfold badN
  rw [List.any_eq_true]
  refine ⟨upN hv, mem_subsN.2 ⟨List.Sublist.refl _, by omega⟩, ?_⟩
  rw [Bool.not_eq_true', Bool.eq_false_iff]
  intro h2
  obtain ⟨i, hi⟩ := dec_some h h2
  rw [minusN_get] at hi
  split at hi
  · cases hi
  · rename_i h3; exact h3 (mem_upN.2 hi)
attribute [local irreducible] Quiet Eff OpOk AWPG ACont ABlock ACalls AGoto
theorem A_pres9 {hv : List Bool} (hl : hv.length ≤ 1000000) : ACalls Tryz.prog 112 [bools hv] [] (iV ((upN hv).length : Nat)) [] := by
  refine acalls_of_body Tryz.func112 rfl (Nat.le_of_ble_eq_true rfl) ?_
  have hmh : (hv.map tD).length = hv.length := List.length_map _
  (repeat' (first
  | (apply W.qd; (apply q_as; (first|exact vD|exact vO|exact vP|exact vA|exact vF|exact vR|exact vN|exact vY|exact vT|exact vM|exact vL|exact vX)))|(apply AWP.seq)|(apply ACont_normal)|(apply W.region; kernel_rfl)|(apply Walk.nil)
  | (apply AWP.block)))
  refine AWP.loopW (α := Nat) (fun k => k ≤ hv.length) (fun k => ⟨[(4, iV k), (3, iV (preK hv k)), (0, bools hv)], []⟩) (fun k => hv.length - k) 0 (Nat.zero_le _) ⟨[], rfl, rfl, rfl, by (repeat (first | exact trivial | refine ⟨rfl, ?_⟩))⟩ fun k hk => ?_
  have hle := preK_le hv k
  by_cases hkl : k < hv.length
  · have hs := Lib.hid (preK_succ hkl)
    generalize preK hv k = A at *
    (repeat' (first
  | (apply W.qd; (first
    | (apply q_mv; (first|exact vD|exact vO|exact vP|exact vA|exact vF|exact vR|exact vN|exact vY|exact vT|exact vM|exact vL|exact vX))|(apply q_as; (first|exact vD|exact vO|exact vP|exact vA|exact vF|exact vR|exact vN|exact vY|exact vT|exact vM|exact vL|exact vX))|(apply q_lss; exact rfl; exact rfl)|(apply q_add; exact rfl; exact rfl; omega)|(apply q_len_sl; exact rfl; exact rfl)|(apply q_ld_map; (iterate 3 exact rfl); (first | omega | (focus (simp; done))))
    | (apply q_ix_slF; (iterate 4 exact rfl); (first | (with_reducible exact rfl) | exact natI_spec rfl | assumption | exact (Int.toNat_of_nonneg (by omega)).symm); (first | omega | (focus (simp only [List.length_map]; omega)) | (focus (simp; done)) | (focus (simp; omega))))))|(apply AWP.seq)|(apply ACont_normal)|(apply W.region; kernel_rfl)|(apply Walk.nil)|(apply AWP.block)|(apply AWP.skip)|(apply ABlock_normal)
  | (refine W.cond _ rfl (fun hb => ?_) (fun hb => ?_) <;> ((try simp only [hb, zA, zB]) <;> (try simp only [zC, zD, zE, zF, zG, zH, zI, zJ] at hb) <;> (try (exfalso; omega))))))
    all_goals refine ⟨k + 1, by omega, by omega, ?_⟩
    all_goals rw [hs.out]
    all_goals first
      | (rw [if_pos (by first | assumption | simpa using hb)]; exact ⟨[], rfl, rfl, rfl, iV_eq (by omega), iV_eq (by omega), rfl, trivial⟩)
      | (rw [if_neg (by first | assumption | (rw [hb]; decide) | simpa using hb)]; exact ⟨[], rfl, rfl, rfl, iV_eq (by omega), iV_eq (by omega), rfl, trivial⟩)
  · have e : k = hv.length := by omega
    subst e
    rw [preK_up hv hv.length (Nat.le_refl _), show upK hv hv.length = upN hv from rfl]
    (repeat' (first
  | (apply W.qd; (first
    | (apply q_mv; (first|exact vD|exact vO|exact vP|exact vA|exact vF|exact vR|exact vN|exact vY|exact vT|exact vM|exact vL|exact vX))|(apply q_as; (first|exact vD|exact vO|exact vP|exact vA|exact vF|exact vR|exact vN|exact vY|exact vT|exact vM|exact vL|exact vX))|(apply q_lss; exact rfl; exact rfl)
    | (apply q_len_sl; exact rfl; exact rfl)))|(apply AWP.seq)|(apply ACont_normal)|(apply W.region; kernel_rfl)|(apply Walk.nil)|(apply AWP.exit)|(apply AWP.ret)|(apply ACont_exit)|(apply ABlock_exit)
  | (refine W.cond _ rfl (fun hb => ?_) (fun hb => ?_) <;> ((try simp only [hb, zA, zB]) <;> (try simp only [zC, zD, zE, zF, zG, zH, zI, zJ] at hb) <;> (try (exfalso; omega))))))
    exact Ends.i rfl rfl
theorem A_without9 {hv : List Bool} {L : List Nat} (h0 : 0 < hv.length) (hl : hv.length ≤ 1000000) (hu : ∀ u ∈ L, u < hv.length) (hL : L.length ≤ 1000000) : ACalls Tryz.prog 161 [bools hv, nats L] [] (bools (minusN hv L)) [] := by
  refine acalls_of_body Tryz.func161 rfl (Nat.le_of_ble_eq_true rfl) ?_
  have hmh : (hv.map tD).length = hv.length := List.length_map _
  have hmL : (L.map kD).length = L.length := List.length_map _
  (repeat' (first
  | (apply W.qd; (apply q_as; (first|exact vD|exact vO|exact vP|exact vA|exact vF|exact vR|exact vN|exact vY|exact vT|exact vM|exact vL|exact vX)))|(apply AWP.seq)|(apply ACont_normal)|(apply (W.regionS 2); exact rfl; kernel_rfl)
  | (apply Walk.nil)))
  refine AWP.nilRow 5 1 4 rfl (by omega) ?_
  (repeat' (first
  | (apply W.qd; (first
    | (apply q_mv; (first|exact vD|exact vO|exact vP|exact vA|exact vF|exact vR|exact vN|exact vY|exact vT|exact vM|exact vL|exact vX))
    | (apply q_as; (first|exact vD|exact vO|exact vP|exact vA|exact vF|exact vR|exact vN|exact vY|exact vT|exact vM|exact vL|exact vX))))|(apply W.ed; (apply e_appF; (iterate 8 exact rfl); (first | rfl | simp); (first | exact Nat.zero_lt_one | (focus (simp; done)) | omega); (first | (focus (simp; done)) | (focus (simp; omega)) | omega)))|(apply AWP.seq)|(apply ACont_normal)|(apply (W.regionS 4); exact rfl; kernel_rfl)|(apply Walk.nil)
  | (apply AWP.block)))
  refine AWP.loopW (α := Nat) (fun k => k ≤ L.length) (fun k => ⟨[(6, iV k), (5, .osl 0 1 0 hv.length), (1, nats L)], [.row 1 1 4 ((minusN hv (L.take k)).map tD)]⟩) (fun k => L.length - k) 0 (Nat.zero_le _) ?wk0 fun k hk => ?_
  case wk0 => exact ⟨[0], rfl, rfl, rfl, rfl, congrArg (AV.osl 0 1 0) (by simp), rfl, trivial⟩
  have hmn := minusN_length (L.take k) hv
  by_cases hkl : k < L.length
  · have hu := hu L[k] (List.getElem_mem hkl)
    have hsn := minusN_snoc hv (L.take k) L[k]
    rw [← List.take_succ_eq_append_getElem hkl] at hsn
    replace hsn := Lib.hid hsn
    generalize minusN hv (L.take k) = A at *
    (repeat' (first
  | (apply W.qd; (first
    | (apply q_mv; (first|exact vD|exact vO|exact vP|exact vA|exact vF|exact vR|exact vN|exact vY|exact vT|exact vM|exact vL|exact vX))|(apply q_as; (first|exact vD|exact vO|exact vP|exact vA|exact vF|exact vR|exact vN|exact vY|exact vT|exact vM|exact vL|exact vX))|(apply q_lss; exact rfl; exact rfl)|(apply q_add; exact rfl; exact rfl; omega)|(apply q_len_sl; exact rfl; exact rfl)|(apply q_ld_map; (iterate 3 exact rfl); (first | omega | (focus (simp; done))))|(apply q_ix_slF; (iterate 4 exact rfl); (first | (with_reducible exact rfl) | exact natI_spec rfl | assumption | exact (Int.toNat_of_nonneg (by omega)).symm); (first | omega | (focus (simp only [List.length_map]; omega)) | (focus (simp; done)) | (focus (simp; omega))))
    | (apply q_ix_osl0; (iterate 4 exact rfl); (first | (with_reducible exact rfl) | exact natI_spec rfl | assumption | exact (Int.toNat_of_nonneg (by omega)).symm); (first | omega | (focus (simp only [List.length_map]; omega)) | (focus (simp; done)) | (focus (simp; omega))))))|(apply W.ln; (apply l_st_rpt; (iterate 7 exact rfl); exact fun _ => rfl; (first | omega | (focus (simp only [List.length_map]; omega)) | (focus (simp; omega)))))|(apply AWP.seq)|(apply ACont_normal)|(apply W.region; kernel_rfl)|(apply Walk.nil)|(apply AWP.block)|(apply AWP.skip)|(apply ABlock_normal)
  | (refine W.cond _ rfl (fun hb => ?_) (fun hb => ?_) <;> ((try simp only [hb, zA, zB]) <;> (try simp only [zC, zD, zE, zF, zG, zH, zI, zJ] at hb) <;> (try (exfalso; omega))))))
    refine ⟨k + 1, by omega, by omega, ?_⟩
    rw [hsn.out]
    exact ⟨[0], rfl, rfl, rfl, iV_eq (by omega), rfl, rfl, trivial⟩
  · have e : k = L.length := by omega
    subst e
    rw [List.take_length] at *
    (repeat' (first
  | (apply W.qd; (first
    | (apply q_mv; (first|exact vD|exact vO|exact vP|exact vA|exact vF|exact vR|exact vN|exact vY|exact vT|exact vM|exact vL|exact vX))|(apply q_as; (first|exact vD|exact vO|exact vP|exact vA|exact vF|exact vR|exact vN|exact vY|exact vT|exact vM|exact vL|exact vX))|(apply q_lss; exact rfl; exact rfl)
    | (apply q_len_sl; exact rfl; exact rfl)))|(apply AWP.seq)|(apply ACont_normal)|(apply W.region; kernel_rfl)|(apply Walk.nil)|(apply AWP.exit)|(apply AWP.ret)|(apply ACont_exit)|(apply ABlock_exit)
  | (refine W.cond _ rfl (fun hb => ?_) (fun hb => ?_) <;> ((try simp only [hb, zA, zB]) <;> (try simp only [zC, zD, zE, zF, zG, zH, zI, zJ] at hb) <;> (try (exfalso; omega))))))
    exact Ends.osl rfl rfl (by rw [List.length_map]; omega) rfl
theorem A_fatal9 {M D : Nat} {ps : List (List Nat)} {hv : List Bool} (h : CodeOk M D ps) (hl : hv.length = D + ps.length) : ∀ (n i : Nat) (set : List Nat), n ≤ 1000 → i ≤ hv.length → set.length ≤ 1000 - n → (∀ u ∈ set, u < hv.length) →
    ACalls Tryz.prog 113 [cdN M D ps, bools hv, nats set, iV i, iV n] [] (.tup [.d .any, bV (fatN (decN M D ps) hv set i n)]) []
  | 0, i, set, hn, hi, hsl, hst => by
    have h1 := h.d
    have h2 := h.w
    have hmh : (hv.map tD).length = hv.length := List.length_map _
    have hw := A_without9 (hv := hv) (L := set) (by omega) (by omega) hst (by omega)
    have hls : (minusN hv set).length = D + ps.length := by rw [minusN_length]; exact hl
    have hd := A_r8decod h hls
    have hd1 : decN M D ps (minusN hv set) = decide ((basisN M D ps (minusN hv set)).length = D) := by unfold decN; rw [decide_eq_true hls, Bool.true_and]
    rw [← hd1] at hd
    rw [fatN_zero]
    refine acalls_of_body Tryz.func113 rfl (Nat.le_of_ble_eq_true rfl) ?_
    cases hq : decN M D ps (minusN hv set) with
    | true =>
      rw [hq] at hd
      (repeat' (first
  | (apply W.qd; (first
    | (apply (q_callC (hw)); exact rfl; exact rfl; kernel_rfl; kernel_rfl; kernel_rfl)|(apply (q_callC (hd)); exact rfl; exact rfl; kernel_rfl; kernel_rfl; kernel_rfl)|(apply q_mv; (first|exact vD|exact vO|exact vP|exact vA|exact vF|exact vR|exact vN|exact vY|exact vT|exact vM|exact vL|exact vX))|(apply q_as; (first|exact vD|exact vO|exact vP|exact vA|exact vF|exact vR|exact vN|exact vY|exact vT|exact vM|exact vL|exact vX))|(apply q_ld_boxF; (iterate 4 exact rfl))|(apply q_eql; exact rfl; exact rfl)
    | (apply q_not; exact rfl)))|(apply W.ed; (apply e_boxF; (iterate 3 exact rfl); kernel_rfl; kernel_rfl))|(apply AWP.seq)|(apply ACont_normal)|(apply W.region; kernel_rfl)|(apply W.regionD; exact rfl; kernel_rfl)|(apply Walk.nil)|(apply W.chk; kernel_rfl)|(apply AWP.ret)|(apply ACont_ret)
  | (apply W.condT; exact rfl)))
      all_goals exact ⟨.inl rfl, [], [nats set, bV false], rfl, ⟨rfl, rfl, trivial⟩, AVle.tup2 (AVle.anyS 1 _) (AVle.refl _), rfl⟩
    | false =>
      rw [hq] at hd
      (repeat' (first
  | (apply W.qd; (first
    | (apply (q_callC (hw)); exact rfl; exact rfl; kernel_rfl; kernel_rfl; kernel_rfl)|(apply (q_callC (hd)); exact rfl; exact rfl; kernel_rfl; kernel_rfl; kernel_rfl)|(apply q_mv; (first|exact vD|exact vO|exact vP|exact vA|exact vF|exact vR|exact vN|exact vY|exact vT|exact vM|exact vL|exact vX))|(apply q_as; (first|exact vD|exact vO|exact vP|exact vA|exact vF|exact vR|exact vN|exact vY|exact vT|exact vM|exact vL|exact vX))|(apply q_ld_boxF; (iterate 4 exact rfl))|(apply q_eql; exact rfl; exact rfl)
    | (apply q_not; exact rfl)))|(apply W.ed; (apply e_boxF; (iterate 3 exact rfl); kernel_rfl; kernel_rfl))|(apply AWP.seq)|(apply ACont_normal)|(apply W.region; kernel_rfl)|(apply W.regionD; exact rfl; kernel_rfl)|(apply Walk.nil)|(apply W.chk; kernel_rfl)|(apply AWP.ret)|(apply ACont_ret)
  | (apply W.condT; exact rfl)))
      all_goals exact ⟨.inl rfl, [], [nats set, bV true], rfl, ⟨rfl, rfl, trivial⟩, AVle.tup2 (AVle.anyS 1 _) (AVle.refl _), rfl⟩
  | n + 1, i0, set, hn, hi0, hsl, hst => by
    have h1 := h.d
    have h2 := h.w
    have hmh : (hv.map tD).length = hv.length := List.length_map _
    have hms : (set.map kD).length = set.length := List.length_map _
    have ih := A_fatal9 h hl n
    generalize decN M D ps = dec at *
    generalize hR : fatN dec hv set i0 (n + 1) = R
    refine acalls_of_body Tryz.func113 rfl (Nat.le_of_ble_eq_true rfl) ?_
    (repeat' (first
  | (apply W.qd; (first
    | (apply q_mv; (first|exact vD|exact vO|exact vP|exact vA|exact vF|exact vR|exact vN|exact vY|exact vT|exact vM|exact vL|exact vX))|(apply q_as; (first|exact vD|exact vO|exact vP|exact vA|exact vF|exact vR|exact vN|exact vY|exact vT|exact vM|exact vL|exact vX))
    | (apply q_eql; exact rfl; exact rfl)))|(apply W.ed; (apply e_boxF; (iterate 3 exact rfl); kernel_rfl; kernel_rfl))|(apply AWP.seq)|(apply ACont_normal)|(apply (W.regionS 5); exact rfl; kernel_rfl)|(apply Walk.nil)|(apply AWP.block)|(apply AWP.skip)
  | (apply W.condF; exact rfl)))
    all_goals try (exfalso; omega)
    refine AWP.loopW (α := Nat) (fun i => i ≤ hv.length ∧ R = fatN dec hv set i (n + 1)) (fun i => ⟨[(13, iV i), (1, bools hv), (2, nats set), (4, iV ((n + 1 : Nat) : Int)), (5, .opt 0 0)], [.box [.d .any, iV M, iV D, rowsN ps, .d .any]]⟩) (fun i => hv.length - i) i0 ⟨hi0, hR.symm⟩ ⟨[0], rfl, rfl, rfl, by (repeat (first | exact trivial | refine ⟨rfl, ?_⟩))⟩ fun i hi => ?_
    by_cases hil : i < hv.length
    · have eg : hv.getD i false = hv[i] := by rw [List.getD_eq_getElem?_getD, List.getElem?_eq_getElem hil]; rfl
      have hst1 := fatN_step (dec := dec) (set := set) (n := n) hil
      rw [eg] at hst1
      have hstm : ∀ u ∈ set ++ [i], u < hv.length := fun u hu => by
        rcases List.mem_append.1 hu with h3 | h3
        · exact hst u h3
        · rw [List.mem_singleton.1 h3]; exact hil
      have ih1 := ih (i + 1) (set ++ [i]) (by omega) (by omega) (by simp; omega) hstm
      cases hq : hv[i] with
      | false =>
        rw [hq, if_neg (by decide)] at hst1
        have hR2 := hi.2.trans hst1
        clear hi hR
        (repeat' (first
  | (apply W.qd; (first
    | (apply q_mv; (first|exact vD|exact vO|exact vP|exact vA|exact vF|exact vR|exact vN|exact vY|exact vT|exact vM|exact vL|exact vX))|(apply q_as; (first|exact vD|exact vO|exact vP|exact vA|exact vF|exact vR|exact vN|exact vY|exact vT|exact vM|exact vL|exact vX))|(apply q_lss; exact rfl; exact rfl)|(apply q_not; exact rfl)|(apply q_add; exact rfl; exact rfl; omega)|(apply q_len_sl; exact rfl; exact rfl)|(apply q_ld_map; (iterate 3 exact rfl); (first | omega | (focus (simp; done))))
    | (apply q_ix_slF; (iterate 4 exact rfl); (first | (with_reducible exact rfl) | exact natI_spec rfl | assumption | exact (Int.toNat_of_nonneg (by omega)).symm); (first | omega | (focus (simp only [List.length_map]; omega)) | (focus (simp; done)) | (focus (simp; omega))))))|(apply AWP.seq)|(apply ACont_normal)|(apply W.region; kernel_rfl)|(apply Walk.nil)|(apply AWP.block)|(apply AWP.skip)|(apply AWP.exit)|(apply ACont_exit)|(apply ABlock_exit)
  | (refine W.cond _ rfl (fun hb => ?_) (fun hb => ?_) <;> ((try simp only [hb, zA, zB]) <;> (try simp only [zC, zD, zE, zF, zG, zH, zI, zJ] at hb) <;> (try (exfalso; omega))))))
        (all_goals (try (exfalso; exact absurd ((‹hv[i] = true› : hv[i] = true).symm.trans (‹hv[i] = false› : hv[i] = false)) (by decide))))
        all_goals exact ⟨i + 1, ⟨by omega, hR2⟩, by omega, [0], rfl, rfl, rfl, iV_eq (by omega), rfl, rfl, rfl, rfl, trivial⟩
      | true =>
        rw [hq, if_pos rfl] at hst1
        have hR2 := hi.2.trans hst1
        clear hi hR
        rcases Nat.eq_zero_or_pos set.length with hs0 | hs0
        · obtain rfl := List.eq_nil_of_length_eq_zero hs0
          (repeat' (first
  | (apply W.qd; (first
    | (apply q_mv; (first|exact vD|exact vO|exact vP|exact vA|exact vF|exact vR|exact vN|exact vY|exact vT|exact vM|exact vL|exact vX))|(apply q_as; (first|exact vD|exact vO|exact vP|exact vA|exact vF|exact vR|exact vN|exact vY|exact vT|exact vM|exact vL|exact vX))|(apply q_lss; exact rfl; exact rfl)|(apply q_not; exact rfl)|(apply q_add; exact rfl; exact rfl; omega)|(apply q_len_sl; exact rfl; exact rfl)|(apply q_ld_map; (iterate 3 exact rfl); (first | omega | (focus (simp; done))))
    | (apply q_ix_slF; (iterate 4 exact rfl); (first | (with_reducible exact rfl) | exact natI_spec rfl | assumption | exact (Int.toNat_of_nonneg (by omega)).symm); (first | omega | (focus (simp only [List.length_map]; omega)) | (focus (simp; done)) | (focus (simp; omega))))))|(apply AWP.seq)|(apply ACont_normal)|(apply (W.regionS 9); exact rfl; kernel_rfl)|(apply Walk.nil)|(apply AWP.block)|(apply AWP.skip)|(apply AWP.exit)|(apply ACont_exit)|(apply ABlock_exit)
  | (refine W.cond _ rfl (fun hb => ?_) (fun hb => ?_) <;> ((try simp only [hb, zA, zB]) <;> (try simp only [zC, zD, zE, zF, zG, zH, zI, zJ] at hb) <;> (try (exfalso; omega))))))
          (all_goals (try (exfalso; exact absurd ((‹hv[i] = true› : hv[i] = true).symm.trans (‹hv[i] = false› : hv[i] = false)) (by decide))))
          refine AWP.nilRow 14 1 3 rfl (by omega) ?_
          (repeat' (first
  | (apply W.qd; (first
    | (apply q_mv; (first|exact vD|exact vO|exact vP|exact vA|exact vF|exact vR|exact vN|exact vY|exact vT|exact vM|exact vL|exact vX))|(apply q_as; (first|exact vD|exact vO|exact vP|exact vA|exact vF|exact vR|exact vN|exact vY|exact vT|exact vM|exact vL|exact vX))|(apply q_litF; (iterate 5 exact rfl); kernel_rfl; kernel_rfl; exact rfl)
    | (apply q_app0; (iterate 4 exact rfl))))|(apply W.ed; (apply e_appF; (iterate 8 exact rfl); (first | rfl | simp); (first | exact Nat.zero_lt_one | (focus (simp; done)) | omega); (first | (focus (simp; done)) | (focus (simp; omega)) | omega)))|(apply AWP.seq)|(apply ACont_normal)|(apply (W.regionS 11); exact rfl; kernel_rfl)
  | (apply Walk.nil)))
          refine AWP.wk ⟨[(14, nats (([] : List Nat) ++ [i])), (13, iV i), (1, bools hv), (2, nats ([] : List Nat)), (4, iV ((n + 1 : Nat) : Int)), (5, .opt 0 0)], [.box [.d .any, iV M, iV D, rowsN ps, .d .any]]⟩ ?wk1 ?_
          case wk1 => exact ⟨[0], rfl, rfl, rfl, (frz_rowJ (i := 1) (ver := 1) (n := 0 + 1) (l := (([] : List Nat) ++ [i]).map kD) rfl rfl (by simp)).symm, rfl, rfl, rfl, rfl, rfl, trivial⟩
          have hix : (i : Int) + 1 = ((i + 1 : Nat) : Int) := by omega
          have hnx : ((n + 1 : Nat) : Int) - 1 = ((n : Nat) : Int) := by omega
          cases hF : fatN dec hv (([] : List Nat) ++ [i]) (i + 1) n with
          | true =>
            rw [hF, Bool.true_or] at hR2
            rw [hF, ← hix, ← hnx] at ih1
            subst hR2
            (repeat' (first
  | (apply W.qd; (first
    | (apply (q_callC (ih1)); exact rfl; exact rfl; kernel_rfl; kernel_rfl; kernel_rfl)|(apply q_mv; (first|exact vD|exact vO|exact vP|exact vA|exact vF|exact vR|exact vN|exact vY|exact vT|exact vM|exact vL|exact vX))|(apply q_as; (first|exact vD|exact vO|exact vP|exact vA|exact vF|exact vR|exact vN|exact vY|exact vT|exact vM|exact vL|exact vX))|(apply q_ld_boxF; (iterate 4 exact rfl))|(apply q_add; exact rfl; exact rfl; omega)|(apply q_sub; exact rfl; exact rfl; omega)
    | (apply q_extract; exact rfl; exact rfl)))|(apply AWP.seq)|(apply ACont_normal)|(apply W.region; kernel_rfl)|(apply Walk.nil)|(apply AWP.ret)|(apply ACont_ret)|(apply ABlock_ret)
  | (apply W.condT; exact rfl)))
            all_goals exact ⟨.inl rfl, [], [.d .any, bV true], rfl, ⟨rfl, rfl, trivial⟩, AVle.refl _, rfl⟩
          | false =>
            rw [hF, Bool.false_or] at hR2
            rw [hF, ← hix, ← hnx] at ih1
            (repeat' (first
  | (apply W.qd; (first
    | (apply (q_callC (ih1)); exact rfl; exact rfl; kernel_rfl; kernel_rfl; kernel_rfl)|(apply q_mv; (first|exact vD|exact vO|exact vP|exact vA|exact vF|exact vR|exact vN|exact vY|exact vT|exact vM|exact vL|exact vX))|(apply q_as; (first|exact vD|exact vO|exact vP|exact vA|exact vF|exact vR|exact vN|exact vY|exact vT|exact vM|exact vL|exact vX))|(apply q_ld_boxF; (iterate 4 exact rfl))|(apply q_add; exact rfl; exact rfl; omega)|(apply q_sub; exact rfl; exact rfl; omega)
    | (apply q_extract; exact rfl; exact rfl)))|(apply AWP.seq)|(apply ACont_normal)|(apply W.region; kernel_rfl)|(apply Walk.nil)|(apply AWP.skip)|(apply ABlock_normal)
  | (apply W.condF; exact rfl)))
            all_goals exact ⟨i + 1, ⟨by omega, hR2⟩, by omega, [0], rfl, rfl, rfl, iV_eq (by omega), rfl, rfl, rfl, rfl, trivial⟩
        · (repeat' (first
  | (apply W.qd; (first
    | (apply q_mv; (first|exact vD|exact vO|exact vP|exact vA|exact vF|exact vR|exact vN|exact vY|exact vT|exact vM|exact vL|exact vX))|(apply q_as; (first|exact vD|exact vO|exact vP|exact vA|exact vF|exact vR|exact vN|exact vY|exact vT|exact vM|exact vL|exact vX))|(apply q_lss; exact rfl; exact rfl)|(apply q_not; exact rfl)|(apply q_add; exact rfl; exact rfl; omega)|(apply q_len_sl; exact rfl; exact rfl)|(apply q_ld_map; (iterate 3 exact rfl); (first | omega | (focus (simp; done))))
    | (apply q_ix_slF; (iterate 4 exact rfl); (first | (with_reducible exact rfl) | exact natI_spec rfl | assumption | exact (Int.toNat_of_nonneg (by omega)).symm); (first | omega | (focus (simp only [List.length_map]; omega)) | (focus (simp; done)) | (focus (simp; omega))))))|(apply AWP.seq)|(apply ACont_normal)|(apply (W.regionS 9); exact rfl; kernel_rfl)|(apply Walk.nil)|(apply AWP.block)|(apply AWP.skip)|(apply AWP.exit)|(apply ACont_exit)|(apply ABlock_exit)
  | (refine W.cond _ rfl (fun hb => ?_) (fun hb => ?_) <;> ((try simp only [hb, zA, zB]) <;> (try simp only [zC, zD, zE, zF, zG, zH, zI, zJ] at hb) <;> (try (exfalso; omega))))))
          (all_goals (try (exfalso; exact absurd ((‹hv[i] = true› : hv[i] = true).symm.trans (‹hv[i] = false› : hv[i] = false)) (by decide))))
          refine AWP.nilRow 14 1 3 rfl (by omega) ?_
          (repeat' (first
  | (apply W.qd; (first
    | (apply q_mv; (first|exact vD|exact vO|exact vP|exact vA|exact vF|exact vR|exact vN|exact vY|exact vT|exact vM|exact vL|exact vX))|(apply q_as; (first|exact vD|exact vO|exact vP|exact vA|exact vF|exact vR|exact vN|exact vY|exact vT|exact vM|exact vL|exact vX))
    | (apply q_litF; (iterate 5 exact rfl); kernel_rfl; kernel_rfl; exact rfl)))|(apply W.ed; (apply e_appF; (iterate 8 exact rfl); (first | rfl | simp); (first | exact Nat.zero_lt_one | (focus (simp; done)) | omega); (first | (focus (simp; done)) | (focus (simp; omega)) | omega)))|(apply AWP.seq)|(apply ACont_normal)|(apply (W.regionS 11); exact rfl; kernel_rfl)
  | (apply Walk.nil)))
          refine AWP.wk ⟨[(14, nats (set ++ [i])), (13, iV i), (1, bools hv), (2, nats set), (4, iV ((n + 1 : Nat) : Int)), (5, .opt 0 0)], [.box [.d .any, iV M, iV D, rowsN ps, .d .any]]⟩ ?wk2 ?_
          case wk2 => exact ⟨[0], rfl, rfl, rfl, (show nats (set ++ [i]) = .d (.sl 1 (set.map kD ++ [kD i])) from congrArg (fun l => AV.d (.sl 1 l)) (by simp)).trans (frz_rowJ (i := 1) (ver := 2) (n := (set.map kD).length + 1) (l := set.map kD ++ [kD i]) rfl rfl (by simp)).symm, rfl, rfl, rfl, rfl, rfl, trivial⟩
          have hix : (i : Int) + 1 = ((i + 1 : Nat) : Int) := by omega
          have hnx : ((n + 1 : Nat) : Int) - 1 = ((n : Nat) : Int) := by omega
          cases hF : fatN dec hv (set ++ [i]) (i + 1) n with
          | true =>
            rw [hF, Bool.true_or] at hR2
            rw [hF, ← hix, ← hnx] at ih1
            subst hR2
            (repeat' (first
  | (apply W.qd; (first
    | (apply (q_callC (ih1)); exact rfl; exact rfl; kernel_rfl; kernel_rfl; kernel_rfl)|(apply q_mv; (first|exact vD|exact vO|exact vP|exact vA|exact vF|exact vR|exact vN|exact vY|exact vT|exact vM|exact vL|exact vX))|(apply q_as; (first|exact vD|exact vO|exact vP|exact vA|exact vF|exact vR|exact vN|exact vY|exact vT|exact vM|exact vL|exact vX))|(apply q_ld_boxF; (iterate 4 exact rfl))|(apply q_add; exact rfl; exact rfl; omega)|(apply q_sub; exact rfl; exact rfl; omega)
    | (apply q_extract; exact rfl; exact rfl)))|(apply AWP.seq)|(apply ACont_normal)|(apply W.region; kernel_rfl)|(apply Walk.nil)|(apply AWP.ret)|(apply ACont_ret)|(apply ABlock_ret)
  | (apply W.condT; exact rfl)))
            all_goals exact ⟨.inl rfl, [], [.d .any, bV true], rfl, ⟨rfl, rfl, trivial⟩, AVle.refl _, rfl⟩
          | false =>
            rw [hF, Bool.false_or] at hR2
            rw [hF, ← hix, ← hnx] at ih1
            (repeat' (first
  | (apply W.qd; (first
    | (apply (q_callC (ih1)); exact rfl; exact rfl; kernel_rfl; kernel_rfl; kernel_rfl)|(apply q_mv; (first|exact vD|exact vO|exact vP|exact vA|exact vF|exact vR|exact vN|exact vY|exact vT|exact vM|exact vL|exact vX))|(apply q_as; (first|exact vD|exact vO|exact vP|exact vA|exact vF|exact vR|exact vN|exact vY|exact vT|exact vM|exact vL|exact vX))|(apply q_ld_boxF; (iterate 4 exact rfl))|(apply q_add; exact rfl; exact rfl; omega)|(apply q_sub; exact rfl; exact rfl; omega)
    | (apply q_extract; exact rfl; exact rfl)))|(apply AWP.seq)|(apply ACont_normal)|(apply W.region; kernel_rfl)|(apply Walk.nil)|(apply AWP.skip)|(apply ABlock_normal)
  | (apply W.condF; exact rfl)))
            all_goals exact ⟨i + 1, ⟨by omega, hR2⟩, by omega, [0], rfl, rfl, rfl, iV_eq (by omega), rfl, rfl, rfl, rfl, trivial⟩
    · have e : R = false := hi.2.trans (fatN_end (by omega))
      subst e
      clear hi hR
      (repeat' (first
  | (apply W.qd; (first
    | (apply q_mv; (first|exact vD|exact vO|exact vP|exact vA|exact vF|exact vR|exact vN|exact vY|exact vT|exact vM|exact vL|exact vX))|(apply q_as; (first|exact vD|exact vO|exact vP|exact vA|exact vF|exact vR|exact vN|exact vY|exact vT|exact vM|exact vL|exact vX))|(apply q_lss; exact rfl; exact rfl)
    | (apply q_len_sl; exact rfl; exact rfl)))|(apply AWP.seq)|(apply ACont_normal)|(apply W.region; kernel_rfl)|(apply Walk.nil)|(apply AWP.exit)|(apply AWP.ret)|(apply ACont_exit)|(apply ABlock_exit)
  | (refine W.cond _ rfl (fun hb => ?_) (fun hb => ?_) <;> ((try simp only [hb, zA, zB]) <;> (try simp only [zC, zD, zE, zF, zG, zH, zI, zJ] at hb) <;> (try (exfalso; omega))))))
      all_goals exact ⟨.inl rfl, [], [.d (.v (.slice none 0 0)), bV false], rfl, ⟨rfl, rfl, trivial⟩, AVle.tup2 (AVle.anyV rfl) (AVle.refl _), rfl⟩
theorem A_valid9 {nm : List Nat} {M D dom : Int} {par : List (List Int)} {n : Nat} (h : FIn nm D par) : ACalls Tryz.prog 110 [cdF nm M D par dom, iV n] [] (bV (decide (chkC nm M D par dom = true ∧ (n : Int) = D + (par.length : Int)))) [] := by
  obtain ⟨e, hc, he⟩ := A_check7 (M := M) (dom := dom) h.n h.l h.d h.p
  have hd := h.d
  have hp := h.p
  have hmp : (par.map rD).length = par.length := List.length_map _
  refine acalls_of_body Tryz.func110 rfl (Nat.le_of_ble_eq_true rfl) ?_
  by_cases hk : chkC nm M D par dom = true
  · obtain rfl : e = 0 := he.2 hk
    (repeat' (first
  | (apply W.gOn; exact rfl; exact rfl)
  | (apply W.qd; (first
    | (apply (q_callC (hc)); exact rfl; exact rfl; kernel_rfl; kernel_rfl; kernel_rfl)|(apply q_mv; (first|exact vD|exact vO|exact vP|exact vA|exact vF|exact vR|exact vN|exact vY|exact vT|exact vM|exact vL|exact vX))|(apply q_as; (first|exact vD|exact vO|exact vP|exact vA|exact vF|exact vR|exact vN|exact vY|exact vT|exact vM|exact vL|exact vX))|(apply q_fld_optF; (iterate 3 exact rfl))|(apply q_ld_box; (iterate 4 exact rfl))|(apply q_ld_boxF; (iterate 4 exact rfl))|(apply q_eql; exact rfl; exact rfl)|(apply q_add; exact rfl; exact rfl; omega)|(apply q_len_sl; exact rfl; exact rfl)
    | (apply (q_pickT (u := .d _)); exact rfl; exact rfl)))|(apply W.ed; (apply e_boxF; (iterate 3 exact rfl); kernel_rfl; kernel_rfl))|(apply AWP.seq)|(apply ACont_normal)|(apply W.region; kernel_rfl)|(apply Walk.nil)
  | (apply AWP.ret)))
    all_goals
      refine Ends.b rfl ?_
      first
        | (rw [decide_eq_decide]; exact ⟨fun h => ⟨hk, by omega⟩, fun h => by have := h.2; omega⟩)
        | (exfalso; omega)
  · have hne : e ≠ 0 := fun h0 => hk (he.1 h0)
    (repeat' (first
  | (apply W.qd; (first
    | (apply (q_callC (hc)); exact rfl; exact rfl; kernel_rfl; kernel_rfl; kernel_rfl)|(apply q_mv; (first|exact vD|exact vO|exact vP|exact vA|exact vF|exact vR|exact vN|exact vY|exact vT|exact vM|exact vL|exact vX))|(apply q_as; (first|exact vD|exact vO|exact vP|exact vA|exact vF|exact vR|exact vN|exact vY|exact vT|exact vM|exact vL|exact vX))|(apply q_ld_boxF; (iterate 4 exact rfl))|(apply q_eql; exact rfl; exact rfl)
    | (apply (q_pickF (u := .d _)); exact rfl; exact rfl)))|(apply W.ed; (apply e_boxF; (iterate 3 exact rfl); kernel_rfl; kernel_rfl))|(refine W.gOff _ _ rfl rfl (by intro h; cases h) ?_)|(apply AWP.seq)|(apply ACont_normal)|(apply W.region; kernel_rfl)|(apply Walk.nil)|(apply AWP.ret)
  | (refine W.gT _ _ rfl rfl (fun hb => ?_) (fun hb => ?_) <;> ((try simp only [hb, zA, zB]) <;> (try simp only [zC, zD, zE, zF, zG, zH, zI, zJ] at hb) <;> (try (exfalso; omega))))))
    all_goals first | exact Ends.b rfl (decide_eq_false fun h => hk h.1).symm | (exfalso; omega)
theorem A_left9 {nm : List Nat} {M D dom : Int} {par : List (List Int)} {hv : List Bool} (h : FIn nm D par) (hl : hv.length < 9223372036854775808) : ACalls Tryz.prog 65 [cdF nm M D par dom, bools hv] [] (iV (leftC nm M D par dom hv)) [] := by
  have hv0 := A_valid9 (M := M) (dom := dom) (n := hv.length) h
  refine acalls_of_body Tryz.func65 rfl (Nat.le_of_ble_eq_true rfl) ?_
  have hmh : (hv.map tD).length = hv.length := List.length_map _
  rw [← hmh] at hv0
  unfold leftC
  by_cases hk : chkC nm M D par dom = true ∧ (hv.length : Int) = D + (par.length : Int)
  case neg =>
    rw [if_neg hk]
    rw [hmh, decide_eq_false hk, ← hmh] at hv0
    (repeat' (first
  | (apply W.qd; (first
    | (apply (q_callC (hv0)); exact rfl; exact rfl; kernel_rfl; kernel_rfl; kernel_rfl)|(apply q_mv; (first|exact vD|exact vO|exact vP|exact vA|exact vF|exact vR|exact vN|exact vY|exact vT|exact vM|exact vL|exact vX))|(apply q_as; (first|exact vD|exact vO|exact vP|exact vA|exact vF|exact vR|exact vN|exact vY|exact vT|exact vM|exact vL|exact vX))|(apply q_ld_boxF; (iterate 4 exact rfl))|(apply q_not; exact rfl)
    | (apply q_len_sl; exact rfl; exact rfl)))|(apply W.ed; (apply e_boxF; (iterate 3 exact rfl); kernel_rfl; kernel_rfl))|(apply AWP.seq)|(apply ACont_normal)|(apply W.region; kernel_rfl)|(apply Walk.nil)|(apply AWP.ret)|(apply ACont_ret)
  | (apply W.condT; exact rfl)))
    exact Ends.i rfl rfl
  rw [if_pos hk]
  rw [hmh, decide_eq_true hk, ← hmh] at hv0
  obtain ⟨m, d, ps, rfl, rfl, rfl, hok⟩ := chk_code hk.1
  have hpl : (toZ ps).length = ps.length := List.length_map _
  have hlw : hv.length = d + ps.length := by omega
  have h1 := hok.d
  have h2 := hok.w
  have hd := A_r8decod hok hlw
  have hd1 : decN m d ps hv = decide ((basisN m d ps hv).length = d) := by unfold decN; rw [decide_eq_true hlw, Bool.true_and]
  rw [← hd1, cdN_A] at hd
  have hd := hd.cdF (nm := nm) (dom := dom)
  have hpr := A_pres9 (hv := hv) (by omega)
  have hfa := fun f (hf : f < 4) => (A_fatal9 hok hlw (f + 1) 0 [] (by omega) (by omega) (by simp) (by simp)).le (args' := [cdN m d ps, bools hv, .d (.v (.slice none 0 0)), iV 0, iV ((f + 1 : Nat) : Int)]) fun F κ w vs hs => AVleL.sat (xs := [cdN m d ps, bools hv, .d (.v (.slice none 0 0)), iV 0, iV ((f + 1 : Nat) : Int)]) (ys := [cdN m d ps, bools hv, nats [], iV ((0 : Nat) : Int), iV ((f + 1 : Nat) : Int)]) ⟨AVle.refl _, AVle.refl _, AVle.nil 1, AVle.refl _, AVle.refl _, trivial⟩ F _ κ w vs hs
  have hall := fat_all hok (hv := hv)
  rw [decZ_nat]
  unfold leftN
  cases hq : decN m d ps hv with
  | false =>
    rw [if_neg (by decide)]
    rw [hq] at hd
    (repeat' (first
  | (apply W.qd; (first
    | (apply (q_callC (hv0)); exact rfl; exact rfl; kernel_rfl; kernel_rfl; kernel_rfl)|(apply (q_callC (hd)); exact rfl; exact rfl; kernel_rfl; kernel_rfl; kernel_rfl)|(apply q_mv; (first|exact vD|exact vO|exact vP|exact vA|exact vF|exact vR|exact vN|exact vY|exact vT|exact vM|exact vL|exact vX))|(apply q_as; (first|exact vD|exact vO|exact vP|exact vA|exact vF|exact vR|exact vN|exact vY|exact vT|exact vM|exact vL|exact vX))|(apply q_ld_boxF; (iterate 4 exact rfl))|(apply q_not; exact rfl)
    | (apply q_len_sl; exact rfl; exact rfl)))|(apply W.ed; (apply e_boxF; (iterate 3 exact rfl); kernel_rfl; kernel_rfl))|(apply AWP.seq)|(apply ACont_normal)|(apply W.region; kernel_rfl)|(apply Walk.nil)|(apply AWP.skip)|(apply AWP.ret)|(apply ACont_ret)|(apply W.condT; exact rfl)
  | (apply W.condF; exact rfl)))
    exact Ends.i rfl rfl
  | true =>
    rw [if_pos rfl]
    rw [hq] at hd
    obtain ⟨ha1, ha2⟩ := hall hq
    have hupl : (upN hv).length ≤ 1000 := by have := upK_len hv hv.length; have e : (upN hv).length = (upK hv hv.length).length := rfl; omega
    generalize hR : ((List.range 4).find? (badN (decN m d ps) hv)).getD 4 = R
    generalize (upN hv).length = p at *
    have hex : ∀ f, f ≤ 4 → (∀ g, g < f → badN (decN m d ps) hv g = false) → f ≤ p → ¬ (f < 4 ∧ f < p) → f = R := fun f h3 h4 h5 h6 => by
      by_cases e : f = 4
      · subst e
        have : (List.range 4).find? (badN (decN m d ps) hv) = none := by
          rw [List.find?_eq_none]
          intro g hg
          rw [h4 g (List.mem_range.1 hg)]; decide
        rw [this] at hR; exact hR
      · have e2 : f = p := by omega
        have := h4 (p - 1) (by omega)
        rw [ha2] at this; cases this
    have hfd : ∀ f, f < 4 → (∀ g, g < f → badN (decN m d ps) hv g = false) → badN (decN m d ps) hv f = true → f = R := fun f h3 h4 h5 => by
      have : (List.range 4).find? (badN (decN m d ps) hv) = some f := List.find?_range_eq_some.2 ⟨h5, List.mem_range.2 h3, fun g hg => by rw [h4 g hg]; rfl⟩
      rw [this] at hR; exact hR
    clear hR
    (repeat' (first
  | (apply W.qd; (first
    | (apply (q_callC (hv0)); exact rfl; exact rfl; kernel_rfl; kernel_rfl; kernel_rfl)|(apply (q_callC (hd)); exact rfl; exact rfl; kernel_rfl; kernel_rfl; kernel_rfl)|(apply q_mv; (first|exact vD|exact vO|exact vP|exact vA|exact vF|exact vR|exact vN|exact vY|exact vT|exact vM|exact vL|exact vX))|(apply q_as; (first|exact vD|exact vO|exact vP|exact vA|exact vF|exact vR|exact vN|exact vY|exact vT|exact vM|exact vL|exact vX))|(apply q_ld_boxF; (iterate 4 exact rfl))|(apply q_not; exact rfl)
    | (apply q_len_sl; exact rfl; exact rfl)))|(apply W.ed; (apply e_boxF; (iterate 3 exact rfl); kernel_rfl; kernel_rfl))|(apply AWP.seq)|(apply ACont_normal)|(apply (W.regionS 8); exact rfl; kernel_rfl)|(apply Walk.nil)|(apply AWP.block)|(apply AWP.skip)
  | (apply W.condF; exact rfl)))
    refine AWP.loopW (α := Nat) (fun f => f ≤ 4 ∧ f ≤ p ∧ ∀ g, g < f → badN (decN m d ps) hv g = false) (fun f => ⟨[(7, iV f), (1, bools hv), (2, .opt 0 0)], [.box [bS nm, iV m, iV d, rowsA (toZ ps), iV dom]]⟩) (fun f => 4 - f) 0 ⟨by omega, by omega, fun g hg => by omega⟩ ⟨[0], rfl, rfl, rfl, by (repeat (first | exact trivial | refine ⟨rfl, ?_⟩))⟩ fun f hf => ?_
    obtain ⟨hf1, hf2, hf3⟩ := hf
    by_cases hc : f < 4 ∧ f < p
    · obtain ⟨hc1, hc2⟩ := hc
      have hf4 := hfa f hc1
      rw [cdN_A] at hf4
      have hf4 := hf4.cdF (nm := nm) (dom := dom)
      rw [← bad_fat] at hf4
      have hfx : (f : Int) + 1 = ((f + 1 : Nat) : Int) := by omega
      rw [← hfx] at hf4
      cases hB : badN (decN m d ps) hv f with
      | true =>
        have e := hfd f hc1 hf3 hB
        rw [hB] at hf4
        clear hf3 hex hfd hfa
        (repeat' (first
  | (apply W.gOn; exact rfl; exact rfl)
  | (apply W.qd; (first
    | (apply (q_callC (hpr)); exact rfl; exact rfl; kernel_rfl; kernel_rfl; kernel_rfl)|(apply (q_callC (hf4)); exact rfl; exact rfl; kernel_rfl; kernel_rfl; kernel_rfl)|(apply q_mv; (first|exact vD|exact vO|exact vP|exact vA|exact vF|exact vR|exact vN|exact vY|exact vT|exact vM|exact vL|exact vX))|(apply q_as; (first|exact vD|exact vO|exact vP|exact vA|exact vF|exact vR|exact vN|exact vY|exact vT|exact vM|exact vL|exact vX))|(apply q_ld_boxF; (iterate 4 exact rfl))|(apply q_lss; exact rfl; exact rfl)|(apply q_add; exact rfl; exact rfl; omega)|(apply q_extract; exact rfl; exact rfl)
    | (apply (q_pickT (u := .d _)); exact rfl; exact rfl)))|(apply AWP.seq)|(apply ACont_normal)|(apply W.region; kernel_rfl)|(apply Walk.nil)|(apply AWP.block)|(apply AWP.skip)|(apply AWP.ret)|(apply ACont_ret)|(apply ABlock_ret)|(apply W.condT; exact rfl)|(refine W.gT _ _ rfl rfl (fun hb => ?_) (fun hb => ?_) <;> ((try simp only [hb, zA, zB]) <;> (try simp only [zC, zD, zE, zF, zG, zH, zI, zJ] at hb) <;> (try (exfalso; omega))))
  | (refine W.cond _ rfl (fun hb => ?_) (fun hb => ?_) <;> ((try simp only [hb, zA, zB]) <;> (try simp only [zC, zD, zE, zF, zG, zH, zI, zJ] at hb) <;> (try (exfalso; omega))))))
        all_goals first | exact Ends.i rfl (by omega) | (exfalso; omega)
      | false =>
        have hnx : ∀ g, g < f + 1 → badN (decN m d ps) hv g = false := fun g hg => by
          by_cases e : g = f
          · subst e; exact hB
          · exact hf3 g (by omega)
        rw [hB] at hf4
        clear hf3 hex hfd hfa
        (repeat' (first
  | (apply W.gOn; exact rfl; exact rfl)
  | (apply W.qd; (first
    | (apply (q_callC (hpr)); exact rfl; exact rfl; kernel_rfl; kernel_rfl; kernel_rfl)|(apply (q_callC (hf4)); exact rfl; exact rfl; kernel_rfl; kernel_rfl; kernel_rfl)|(apply q_mv; (first|exact vD|exact vO|exact vP|exact vA|exact vF|exact vR|exact vN|exact vY|exact vT|exact vM|exact vL|exact vX))|(apply q_as; (first|exact vD|exact vO|exact vP|exact vA|exact vF|exact vR|exact vN|exact vY|exact vT|exact vM|exact vL|exact vX))|(apply q_ld_boxF; (iterate 4 exact rfl))|(apply q_lss; exact rfl; exact rfl)|(apply q_add; exact rfl; exact rfl; omega)|(apply q_extract; exact rfl; exact rfl)
    | (apply (q_pickT (u := .d _)); exact rfl; exact rfl)))|(apply AWP.seq)|(apply ACont_normal)|(apply W.region; kernel_rfl)|(apply Walk.nil)|(apply AWP.block)|(apply AWP.skip)|(apply ABlock_normal)|(apply W.condF; exact rfl)|(refine W.gT _ _ rfl rfl (fun hb => ?_) (fun hb => ?_) <;> ((try simp only [hb, zA, zB]) <;> (try simp only [zC, zD, zE, zF, zG, zH, zI, zJ] at hb) <;> (try (exfalso; omega))))
  | (refine W.cond _ rfl (fun hb => ?_) (fun hb => ?_) <;> ((try simp only [hb, zA, zB]) <;> (try simp only [zC, zD, zE, zF, zG, zH, zI, zJ] at hb) <;> (try (exfalso; omega))))))
        all_goals first | exact ⟨f + 1, ⟨by omega, by omega, hnx⟩, by omega, [0], rfl, rfl, rfl, iV_eq (by omega), rfl, rfl, trivial⟩ | (exfalso; omega)
    · have e := hex f hf1 hf3 hf2 hc
      clear hf3 hex hfd hfa
      (repeat' (first
  | (apply W.gOn; exact rfl; exact rfl)
  | (apply W.qd; (first
    | (apply (q_callC (hpr)); exact rfl; exact rfl; kernel_rfl; kernel_rfl; kernel_rfl)|(apply q_mv; (first|exact vD|exact vO|exact vP|exact vA|exact vF|exact vR|exact vN|exact vY|exact vT|exact vM|exact vL|exact vX))|(apply q_as; (first|exact vD|exact vO|exact vP|exact vA|exact vF|exact vR|exact vN|exact vY|exact vT|exact vM|exact vL|exact vX))|(apply q_lss; exact rfl; exact rfl)|(apply (q_pickT (u := .d _)); exact rfl; exact rfl)
    | (apply (q_pickF (u := .d _)); exact rfl; exact rfl)))|(refine W.gOff _ _ rfl rfl (by intro h; cases h) ?_)|(apply AWP.seq)|(apply ACont_normal)|(apply W.region; kernel_rfl)|(apply Walk.nil)|(apply AWP.exit)|(apply AWP.ret)|(apply ACont_exit)|(apply ABlock_exit)|(apply W.condF; exact rfl)|(refine W.gT _ _ rfl rfl (fun hb => ?_) (fun hb => ?_) <;> ((try simp only [hb, zA, zB]) <;> (try simp only [zC, zD, zE, zF, zG, zH, zI, zJ] at hb) <;> (try (exfalso; omega))))
  | (refine W.cond _ rfl (fun hb => ?_) (fun hb => ?_) <;> ((try simp only [hb, zA, zB]) <;> (try simp only [zC, zD, zE, zF, zG, zH, zI, zJ] at hb) <;> (try (exfalso; omega))))))
      all_goals first | exact Ends.i rfl (by omega) | (exfalso; omega)
end Go.Proofs.YtaclmbbiegklcaaGreatDoor
end
section
/- The machine of abstract values: append of a list that may be empty. -/
namespace Go.Proofs.YtaclmbbiegklcaaGreatDoor
open Go.RowKit
section
variable {P : Program} {m : Nat} {env : List (Nat × AV)} {own : List Ent} {dst : Option Tmp} {ty : TypeId} {pos : String} {af : Array Edge} {gd : Option (Nat × Bool)}
theorem e_appE {t e : TypeId} {sz by' : Nat} {z : Value} {x y : Operand} {p ver n : Nat} {l l2 : List (List Dat)} {own' : List Ent} (hx : lookO env x = .osl p ver 0 n) (hp : own[p]? = some (.row ver sz e l)) (hy : lookO env y = .d (.sl sz l2)) (ho' : setF own p (.row (ver + 1) sz e (l ++ l2)) = some own') (ht : slInfo P t = some (e, sz, by', z)) (hz : z.cells.size = sz) (hby : Nat.ble by' 1024 = true) (hm : Nat.ble 0 p = true) (hn : n = l.length)
    (hb : l.length + l2.length ≤ 1000000000) :
    Eff P m ⟨dst, .call ⟨.builtin .append, #[x, y], #[t, t]⟩, ty, pos, af, gd⟩ env own [p] (.osl p (ver + 1) 0 (l.length + l2.length)) own' := by
  rcases Nat.eq_zero_or_pos l2.length with h0 | h0
  case inr => exact e_appF hx hp hy ho' ht hz hby hm hn h0 hb
  obtain rfl := List.eq_nil_of_length_eq_zero h0
  rw [setF_spec ho']
  refine Eff.mk (set_same _ p) fun F κ a w hs ho hmk => ?_
  subst hn
  have hx1 := hs x (by simp [Op.operands, Call.operands]); rw [hx] at hx1
  have hy1 := hs y (by simp [Op.operands, Call.operands]); rw [hy, AV.sat, Dat.sat] at hy1
  have hx2 := hx1
  rw [AV.sat] at hx2
  obtain ⟨h3, A, c, h4, h5, h6, h7⟩ := hx2.2 sz e l hp
  obtain ⟨B, c2, hyv, _, _, _⟩ := hy1
  obtain ⟨he, inf, hi1, hi2, _, _⟩ := slInfo_spec ht
  have hf : (Builtin.firstCells inf.size 0 (.slice B 0 c2)).run P w = .ok #[] w := by
    cases B with
    | none => exact run_firstCells_none w inf.size 0 0 c2
    | some b => exact run_firstCells_some w inf.size 0 b 0 c2 [] (by simp) (fun j v hj => by simp at hj)
  rw [run_builtin_append (dst := dst) (pos := pos) (af := af) (gd := gd) (v := .slice A l.length c) (w' := w) (by
    rw [h4, hyv]
    cases A <;> simp [Builtin.append_, run_underlying he, sizeOf, typeInfo, hi1, Builtin.lenOf, h5, hf, storeCells])]
  obtain ⟨og, hog⟩ := ho.kap p _ hp
  have hκ := setK_same hog
  have hent := ho.ent p _ hp
  have hgd : κ.getD p none = og := by simp [List.getD_eq_getElem?_getD, hog]
  rw [hgd] at hent
  have hpl : p < own.length := (List.getElem?_eq_some_iff.1 hp).1
  obtain ⟨g1, g2⟩ := step_upd (m := m) (x' := .row (ver + 1) sz e (l ++ [])) (og' := og) (w' := w) ho hp hog rfl rfl rfl (Nat.le_refl _) (fun _ _ _ => rfl) (.inl rfl) (.inr rfl) (.inl (Nat.lt_succ_self ver)) (fun hst => by
    rw [hκ]
    unfold EntSat at hent ⊢
    rw [List.append_nil]
    exact hent)
  refine ⟨_, ?_, g1, g2⟩
  rw [AV.sat]
  have hself : (own.set p (.row (ver + 1) sz e (l ++ [])))[p]? = some (.row (ver + 1) sz e (l ++ [])) := by rw [List.getElem?_set_self hpl]
  refine ⟨⟨_, hself, Nat.le_refl _, rfl⟩, fun sz2 e2 c2 hc => ?_⟩
  rw [hself] at hc
  obtain ⟨rfl, rfl, rfl⟩ : sz = sz2 ∧ e = e2 ∧ l ++ [] = c2 := by simpa using hc
  rw [hκ]
  exact ⟨by simp, A, c, by simp, by simpa using h5, h6, fun _ => h7 (.inr rfl)⟩
end
end Go.Proofs.YtaclmbbiegklcaaGreatDoor
end
