import Derived.Test.YtaclmbbiegklcaaDoorMChangeCounts3
import Derived.ProofKit
import Derived.OpenShut
import Derived.ChangeOld
import Derived.ChangeSame
import Derived.Below
import Derived.Carry
import Derived.SizedLaws
import Derived.SliceStrings
import Derived.Deep.Slices
import Derived.LaidLaws
import Derived.Handed
import Derived.FnData
import Derived.Test.YtaclmbbiegklcaaDoorRows
import Derived.Test.YtaclmbbiegklcaaDoorProg
import Derived.WalkKit
import Derived.Shelf.Strings.Repeat
import Derived.Shelf.Bits.Mul64
/- Joined texts: Fd7 Fd8 Er9 Er10 Er11 Open Kern13 Open8 Open10 Open11 Fld8 Rf0 Lw1 La1 La2 La3 La4 La5 La6 Ds1 Xp3 Lw10 Ch1 Ch2 Ch4 Ds3 Shf Ch3 Ds8 Kern45 Cl1 Cl2 Cl4 Cl7 Kern48 Ch5 Ch6. -/
set_option linter.unusedVariables false
set_option linter.unusedSimpArgs false
section
namespace Go.Proofs.YtaclmbbiegklcaaDoor
open Go.RowKit
set_option maxHeartbeats 4000000
set_option maxRecDepth 100000
attribute [local irreducible] Quiet Eff OpOk AWPG ACont ABlock ACalls AGoto
def accO (e : TypeId) (v M c n : Nat) (u T : List Nat) : List Ent := [.row v 1 e (T.map nD), .box [.osl 0 v 0 n], .box [iV M], .box [iV c], .box [iV M], .box [bS u]]
def accL (e : TypeId) (v M c n : Nat) (u T : List Nat) (L : Ent) : List Ent := [.row v 1 e (T.map nD), .box [.osl 0 v 0 n], .box [iV M], .box [iV c], .box [iV M], .box [bS u], L]
def accEnv : List (Nat × AV) := [(13, .fn 177 [.opt 4 0, .opt 5 0]), (4, .opt 1 0), (5, .opt 2 0), (6, .opt 3 0)]
theorem A_symIter {M c v n N : Nat} {u T : List Nat} {L : Ent} (hM : FldM M) (hu : isB u) (hn : u.length ≤ 1000000) (hN : u.length / (M / 8) = N) (hL : u.length = N * (M / 8))
    (hy : ∀ k, k < N → YAt Tryd.prog 6 (accL 5 v M c n u (accS M c u T k) L) [iV (k * (M / 8) : Nat), iV (symF ((u.drop (k * (M / 8))).take (M / 8)) : Nat)] true (accL 5 v M c n u (accS M c u T (k + 1)) L)) :
    ACalls Tryd.prog 177 [.yl 6, .opt 4 0, .opt 5 0] (accL 5 v M c n u T L) (.tup []) (accL 5 v M c n u (accS M c u T N) L) := by
  refine acalls_of_bodyS Tryd.func177 rfl (Nat.le_of_ble_eq_true rfl) ?_
  have hz : ((M : Int) / 8) = ((M / 8 : Nat) : Int) := by omega
  have hz1 : 1 ≤ M / 8 ∧ M / 8 ≤ 2 ∧ M = 8 * (M / 8) := by rcases hM with rfl | rfl <;> decide
  have hO0 : accL 5 v M c n u T L = accL 5 v M c n u (accS M c u T 0) L := rfl
  rw [hO0]
  unfold accL
  (repeat' (first
  | (apply W.qd; (first
    | (apply q_as; (conv => lhs; whnf))|(apply yT; (iterate 4 exact rfl))
    | (apply q_quo; exact rfl; exact rfl; omega; omega; omega)))|(apply yA)|(apply yB)|(apply (W.regionS 10); exact rfl; kernel_rfl)|(apply yE)
  | (apply yG)))
  refine AWP.loopE (α := Nat) (fun k => k ≤ N) (fun k => ⟨[(5, iV (k * (M / 8) : Nat)), (4, iV (M / 8 : Nat)), (0, .yl 6), (1, .opt 4 0), (2, .opt 5 0)], accL 5 v M c n u (accS M c u T k) L⟩) (fun k => N - k) 0 (by omega) ⟨rfl, iV_eq (by simp), iV_eq (by omega), rfl, rfl, rfl, trivial⟩ fun k hk => ?_
  by_cases hkN : k < N
  · have hle : k * (M / 8) + M / 8 ≤ u.length := by
      rw [hL]
      have := Nat.mul_le_mul_right (M / 8) (show k + 1 ≤ N by omega)
      rw [Nat.add_mul, Nat.one_mul] at this
      exact this
    have hr := hy k hkN
    unfold accL at hr ⊢
    have hkz : (k + 1) * (M / 8) = k * (M / 8) + M / 8 := by rw [Nat.add_mul, Nat.one_mul]
    generalize hat : k * (M / 8) = at' at *
    have hsub : ((u.drop at').take (M / 8)).length = M / 8 := by rw [List.length_take, List.length_drop]; omega
    have hlb := isB_sub hu at' (M / 8)
    have hx := symF_lt _ hlb (by omega)
    have e0 : ((u.drop at').take (at' + M / 8 - at')) = (u.drop at').take (M / 8) := by rw [Nat.add_sub_cancel_left]
    (repeat' (first
  | (apply W.qd; (first
    | (apply q_mv; (conv => lhs; whnf))|(apply q_as; (conv => lhs; whnf))|(apply yT; (iterate 4 exact rfl))|(apply q_leq; exact rfl; exact rfl)|(apply q_add; exact rfl; exact rfl; omega)|(apply yV; exact rfl; exact rfl)|(apply q_len_bs; exact rfl; exact rfl)|(apply q_bytes; (iterate 3 exact rfl); (first | assumption | exact isB_sub (by assumption) _ _); (first | omega | (focus (simp only [List.length_map]; omega)) | (focus (simp; done)) | (focus (simp; omega))))
    | (apply q_slc_bs; exact rfl; exact rfl; (first | exact ⟨_, _, rfl, rfl⟩ | exact ⟨_, _, rfl, natI_spec rfl⟩ | exact ⟨_, _, rfl, (Int.toNat_of_nonneg (by omega)).symm⟩ | exact rfl); (first | exact ⟨_, _, rfl, rfl⟩ | exact ⟨_, _, rfl, natI_spec rfl⟩ | exact ⟨_, _, rfl, (Int.toNat_of_nonneg (by omega)).symm⟩ | exact rfl); (first | omega | (focus (simp only [List.length_map]; omega)) | (focus (simp; done)) | (focus (simp; omega))); (first | omega | (focus (simp only [List.length_map]; omega)) | (focus (simp; done)) | (focus (simp; omega))))))|(apply yA)|(apply yB)|(apply (W.regionS 10); exact rfl; kernel_rfl)|(apply yE)|(apply yG)|(apply yH)
  | (refine W.cond _ rfl (fun hb => ?_) (fun hb => ?_) <;> ((try simp only [hb, zA, zB]) <;> (try simp only [zC, zD, zE, zF, zG, zH, zI, zJ] at hb) <;> (try (exfalso; omega))))))
    generalize hl2 : (u.drop at').take (M / 8) = l2 at *
    refine AWP.loopE (α := Nat) (fun q => q ≤ l2.length) (fun q => ⟨[(28, iV q), (27, iV l2.length), (26, .d (.sl 1 (l2.map nD))), (6, iV (symF (l2.take q) : Nat)), (5, iV at'), (4, iV (M / 8 : Nat)), (0, .yl 6), (1, .opt 4 0), (2, .opt 5 0)], [.row v 1 5 ((accS M c u T k).map nD), .box [.osl 0 v 0 n], .box [iV M], .box [iV c], .box [iV M], .box [bS u], L]⟩) (fun q => l2.length - q) 0 (by omega) ⟨rfl, rfl, by rw [e0]; exact iV_eq (by simp), by rw [e0]; rfl, rfl, rfl, rfl, rfl, rfl, rfl, trivial⟩ fun q hq => ?_
    by_cases hql : q < l2.length
    · have hs := symF_snoc (l2.take q) l2[q]
      rw [← List.take_succ_eq_append_getElem hql] at hs
      have hb1 := hlb l2[q] (List.getElem_mem hql)
      have h1 := symF_lt (l2.take q) (fun x hx => hlb x (List.mem_of_mem_take hx)) (by rw [List.length_take]; omega)
      rw [List.length_take, show min q l2.length = q by omega] at h1
      have hcap1 : symF (l2.take q) < 9223372036854775808 := by
        have : (2 : Nat) ^ (8 * q) ≤ 2 ^ 8 := Nat.pow_le_pow_right (by omega) (by omega)
        omega
      have hcap2 : ∀ s, s ≤ 8 → symF (l2.take q) <<< s < 9223372036854775808 := fun s hs => by
        have : (2 : Nat) ^ (8 * q) ≤ 2 ^ 8 := Nat.pow_le_pow_right (by omega) (by omega)
        have h3 : (2 : Nat) ^ s ≤ 2 ^ 8 := Nat.pow_le_pow_right (by omega) hs
        rw [Nat.shiftLeft_eq]
        have : symF (l2.take q) * 2 ^ s ≤ 256 * 256 := Nat.mul_le_mul (by omega) h3
        omega
      (repeat' (first
  | (apply W.qd; (first
    | (apply q_mv; (conv => lhs; whnf))|(apply q_as; (conv => lhs; whnf))|(apply q_lss; exact rfl; exact rfl)|(apply q_add; exact rfl; exact rfl; omega)|(apply yX; (iterate 3 exact rfl); (first | omega | (focus (simp; done))))|(apply yGb; (iterate 4 exact rfl); (first | (with_reducible exact rfl) | exact natI_spec rfl | assumption | exact (Int.toNat_of_nonneg (by omega)).symm); (first | omega | (focus (simp only [List.length_map]; omega)) | (focus (simp; done)) | (focus (simp; omega))))|(apply q_convI; (iterate 3 exact rfl); omega)|(apply q_orN; exact rfl; exact rfl; (first | (with_reducible exact rfl) | exact natI_spec rfl | assumption | exact (Int.toNat_of_nonneg (by omega)).symm); (first | (with_reducible exact rfl) | exact natI_spec rfl | assumption | exact (Int.toNat_of_nonneg (by omega)).symm); (first | (apply hcap1; omega) | (apply hcap2; omega) | (apply hcap3; omega) | (apply hcap4; omega) | (focus (show _ < 9223372036854775808; omega)) | (focus (show _ < 256; omega)) | assumption); (first | (apply hcap1; omega) | (apply hcap2; omega) | (apply hcap3; omega) | (apply hcap4; omega) | (focus (show _ < 9223372036854775808; omega)) | (focus (show _ < 256; omega)) | assumption))
    | (apply q_shlN; exact rfl; exact rfl; (first | (with_reducible exact rfl) | exact natI_spec rfl | assumption | exact (Int.toNat_of_nonneg (by omega)).symm); (first | (with_reducible exact rfl) | exact natI_spec rfl | assumption | exact (Int.toNat_of_nonneg (by omega)).symm); exact rfl; omega; (first | (apply hcap1; omega) | (apply hcap2; omega) | (apply hcap3; omega) | (apply hcap4; omega) | (focus (show _ < 9223372036854775808; omega)) | (focus (show _ < 256; omega)) | assumption))))|(apply yA)|(apply yB)|(apply (W.regionS 10); exact rfl; kernel_rfl)|(apply yE)|(apply yG)|(apply yH)|(apply yL)
  | (refine W.cond _ rfl (fun hb => ?_) (fun hb => ?_) <;> ((try simp only [hb, zA, zB]) <;> (try simp only [zC, zD, zE, zF, zG, zH, zI, zJ] at hb) <;> (try (exfalso; omega))))))
      exact ⟨q + 1, by omega, by omega, rfl, iV_eq (by omega), rfl, rfl, iV_eq (by rw [hs]), rfl, rfl, rfl, rfl, rfl, trivial⟩
    · have : q = l2.length := by omega
      subst this
      rw [List.take_length]
      (repeat' (first
  | (apply W.qd; (first
    | (apply q_mv; (conv => lhs; whnf))|(apply q_as; (conv => lhs; whnf))|(apply q_lss; exact rfl; exact rfl)|(apply q_not; exact rfl)
    | (apply q_add; exact rfl; exact rfl; omega)))|(apply W.ed; ((exact e_yield hr rfl rfl)))|(apply yA)|(apply yB)|(apply yC; kernel_rfl)|(apply yE)|(apply yH)|(apply yI)|(apply yK)|(apply yL)|(apply yM)|(apply yR; exact rfl)
  | (refine W.cond _ rfl (fun hb => ?_) (fun hb => ?_) <;> ((try simp only [hb, zA, zB]) <;> (try simp only [zC, zD, zE, zF, zG, zH, zI, zJ] at hb) <;> (try (exfalso; omega))))))
      exact ⟨k + 1, by omega, by omega, rfl, iV_eq (by omega), rfl, rfl, rfl, rfl, trivial⟩
  · have : k = N := by omega
    subst this
    unfold accL
    (repeat' (first
  | (apply W.qd; (first
    | (apply q_mv; (conv => lhs; whnf))|(apply yT; (iterate 4 exact rfl))|(apply q_leq; exact rfl; exact rfl)|(apply q_add; exact rfl; exact rfl; omega)
    | (apply q_len_bs; exact rfl; exact rfl)))|(apply yA)|(apply yB)|(apply yC; kernel_rfl)|(apply yE)|(apply yI)|(apply yK)|(apply yM)
  | (refine W.cond _ rfl (fun hb => ?_) (fun hb => ?_) <;> ((try simp only [hb, zA, zB]) <;> (try simp only [zC, zD, zE, zF, zG, zH, zI, zJ] at hb) <;> (try (exfalso; omega))))))
    exact ⟨.inr rfl, [], trivial, AVle.of_eq rfl, rfl⟩
theorem gen_ent {motive : Ent → Prop} (X : Ent) (h : ∀ L, motive L) : motive X := h X
theorem A_accumulate {M c v n : Nat} {u T : List Nat} (hM : FldM M) (hc : c < 2 ^ M) (hu : isB u) (hn : u.length ≤ 1000000) (hnT : n = T.length) (hT : T.length = u.length) (hTb : isB T) (he : FitM M u.length) :
    ACalls Tryd.prog 148 [.osl 0 v 0 n, iV M, iV c, bS u] [.row v 1 5 (T.map nD)] (.tup []) [.row v 1 5 ((xorL T (scaleM M c u)).map nD)] := by
  refine acalls_of_bodyO Tryd.func148 rfl (Nat.le_of_ble_eq_true rfl) ?_
  have hsy := A_symbols (M := M) (u := u)
  have hz : ((M : Int) / 8) = ((M / 8 : Nat) : Int) := by omega
  have hz1 : 1 ≤ M / 8 ∧ M / 8 ≤ 2 ∧ M = 8 * (M / 8) := by rcases hM with rfl | rfl <;> decide
  have hcap := hM.cap hc
  have hall := accS_all (T := T) hM hc hu hT he
  have hL : u.length = u.length / (M / 8) * (M / 8) := by
    rcases hM with rfl | rfl
    · show u.length = u.length / 1 * 1; omega
    · have := he rfl
      show u.length = u.length / 2 * 2; omega
  generalize hN : u.length / (M / 8) = N at *
  rw [← hall]
  (repeat' (first
  | (apply W.qd; (first
    | (apply q_mv; (conv => lhs; whnf))
    | (apply yT; (iterate 4 exact rfl))))
  | (apply W.ed; (first
    | (apply (e_callJ (js := []) (hsy)); (iterate 5 exact rfl); kernel_rfl; kernel_rfl)
    | (apply yBb; (iterate 3 exact rfl); kernel_rfl; kernel_rfl)))|(apply yA)|(apply yB)|(apply yC; kernel_rfl)|(apply yE)
  | (apply yG)))
  refine AWP.wk ⟨accEnv, accO 5 v M c n u T⟩ ⟨[0, 1, 2, 3, 4, 5], rfl, rfl, rfl, by (repeat (first | exact trivial | refine ⟨rfl, ?_⟩))⟩ ?_
  unfold accEnv
  refine AWP.range (s2 := ⟨[], accO 5 v M c n u (accS M c u T N)⟩) rfl (by kernel_rfl) (A_symIter hM hu hn hN hL fun k hk => ?_) rfl (by decide) ⟨[0, 1, 2, 3, 4, 5], rfl, rfl, rfl, by (repeat (first | exact trivial | refine ⟨rfl, ?_⟩))⟩ ?_
  · unfold accL
    refine YAt.ok (own1 := accL 5 v M c n u (accS M c u T (k + 1)) (.lp .busy none #[14, 15] _ _ _)) (s2 := ⟨[(8, iV (k * (M / 8) : Nat)), (9, iV (symF ((u.drop (k * (M / 8))).take (M / 8)) : Nat)), (4, .opt 1 0), (5, .opt 2 0), (6, .opt 3 0)], _⟩) rfl rfl rfl rfl (fun g => ?_) rfl (fun g => ?_) rfl rfl
    · refine AWP.toW ?_
      (repeat' (first
  | (apply W.qd; (apply q_as; (conv => lhs; whnf)))|(apply yA)|(apply yB)|(apply yC; kernel_rfl)
  | (apply yE)))
      exact ⟨rfl, ⟨[0, 1, 2, 3, 4, 5, 6], rfl, rfl, rfl, by (repeat (first | exact trivial | refine ⟨rfl, ?_⟩))⟩⟩
    refine gen_ent (motive := fun L => AWPG (Ctx.round g) Tryd.prog 40 7 _ (fun e s => e = .normal ∧ s.own = accL 5 v M c n u (accS M c u T (k + 1)) L) ⟨[(8, iV (k * (M / 8) : Nat)), (9, iV (symF ((u.drop (k * (M / 8))).take (M / 8)) : Nat)), (4, .opt 1 0), (5, .opt 2 0), (6, .opt 3 0)], accL 5 v M c n u (accS M c u T k) L⟩) _ fun L => ?_
    have hle : k * (M / 8) + M / 8 ≤ u.length := by
      rw [hL]
      have := Nat.mul_le_mul_right (M / 8) (show k + 1 ≤ N by omega)
      rw [Nat.add_mul, Nat.one_mul] at this
      exact this
    have hsub : ((u.drop (k * (M / 8))).take (M / 8)).length = M / 8 := by rw [List.length_take, List.length_drop]; omega
    have hx := symF_lt _ (isB_sub hu (k * (M / 8)) (M / 8)) (by omega)
    rw [hsub, ← hz1.2.2] at hx
    have hacc : accS M c u T (k + 1) = wrS (accS M c u T k) (k * (M / 8)) (M / 8) (Gf.mul M (modN M) c (symF ((u.drop (k * (M / 8))).take (M / 8)))) (M / 8) := rfl
    have hp := A_product hM hc hx
    have hm : Gf.mul M (modN M) c (symF ((u.drop (k * (M / 8))).take (M / 8))) < 2 ^ M := Gf.mul_lt (FldM.gen hM).hm (FldM.gen hM).top (FldM.gen hM).lt hc _
    have hm2 := hM.cap hm
    rw [hacc]
    have hAl := accS_length M c u T k
    have hAb := isB_accS (M := M) (c := c) (u := u) hTb k
    generalize symF ((u.drop (k * (M / 8))).take (M / 8)) = s0 at *
    generalize Gf.mul M (modN M) c s0 = x at *
    generalize accS M c u T k = A at *
    generalize k * (M / 8) = at' at *
    unfold accL
    generalize hzz : M / 8 = z at *
    (repeat' (first
  | (apply W.qd; (first
    | (apply (yW (hp)); exact rfl; exact rfl; (iterate 3 kernel_rfl))|(apply q_mv; (conv => lhs; whnf))|(apply q_as; (conv => lhs; whnf))|(apply yT; (iterate 4 exact rfl))|(apply q_add; exact rfl; exact rfl; omega)|(apply q_sub; exact rfl; exact rfl; omega)
    | (apply q_quo; exact rfl; exact rfl; omega; omega; omega)))|(apply yA)|(apply yB)|(apply yC; kernel_rfl)|(apply yE)
  | (apply yG)))
    refine AWP.loopE (α := Nat) (fun j => j ≤ z) (fun j => ⟨[(10, iV ((at' : Int) + z - 1 - j)), (8, iV at'), (9, iV (x >>> (8 * j) : Nat)), (4, .opt 1 0), (5, .opt 2 0), (6, .opt 3 0)], [.row v 1 5 ((wrS A at' z x j).map nD), .box [.osl 0 v 0 n], .box [iV M], .box [iV c], .box [iV M], .box [bS u], L]⟩) (fun j => z - j) 0 (by omega) ⟨rfl, iV_eq (by omega), rfl, rfl, rfl, rfl, rfl, trivial⟩ fun j hj => ?_
    by_cases hjz : j < z
    · have hi : (at' : Int) + z - 1 - j = ((at' + z - 1 - j : Nat) : Int) := by omega
      have hw : wrS A at' z x (j + 1) = (wrS A at' z x j).set (at' + z - 1 - j) ((wrS A at' z x j).getD (at' + z - 1 - j) 0 ^^^ (x >>> (8 * j)) % 256) := rfl
      have hwl := wrS_length A at' z x j
      have hwb := isB_wrS hAb at' z x j
      generalize wrS A at' z x j = B at *
      rw [hi]
      have hil : at' + z - 1 - j < B.length := by omega
      have hge := List.getElem_eq_getD (h := hil) 0
      have hgb := isB_getD hwb (at' + z - 1 - j)
      have hgb2 : B[at' + z - 1 - j] < 256 := by rw [hge]; exact hgb
      have hgm : (x >>> (8 * j)) % 256 < 256 := Nat.mod_lt _ (by omega)
      have hsh : x >>> (8 * j) ≤ x := by rw [Nat.shiftRight_eq_div_pow]; exact Nat.div_le_self _ _
      generalize hI : at' + z - 1 - j = I at *
      (repeat' (first
  | (apply W.qd; (first
    | (apply q_mv; (conv => lhs; whnf))|(apply q_as; (conv => lhs; whnf))|(apply yT; (iterate 4 exact rfl))|(apply q_geq; exact rfl; exact rfl)|(apply q_sub; exact rfl; exact rfl; omega)|(apply q_conv8w; (iterate 3 exact rfl); (first | (with_reducible exact rfl) | exact natI_spec rfl | assumption | exact (Int.toNat_of_nonneg (by omega)).symm))|(apply q_xorN; exact rfl; exact rfl; (first | (with_reducible exact rfl) | exact natI_spec rfl | assumption | exact (Int.toNat_of_nonneg (by omega)).symm); (first | (with_reducible exact rfl) | exact natI_spec rfl | assumption | exact (Int.toNat_of_nonneg (by omega)).symm); (first | (apply hcap1; omega) | (apply hcap2; omega) | (apply hcap3; omega) | (apply hcap4; omega) | (focus (show _ < 9223372036854775808; omega)) | (focus (show _ < 256; omega)) | assumption); (first | (apply hcap1; omega) | (apply hcap2; omega) | (apply hcap3; omega) | (apply hcap4; omega) | (focus (show _ < 9223372036854775808; omega)) | (focus (show _ < 256; omega)) | assumption))|(apply q_shrN; exact rfl; exact rfl; (first | (with_reducible exact rfl) | exact natI_spec rfl | assumption | exact (Int.toNat_of_nonneg (by omega)).symm); (first | (with_reducible exact rfl) | exact natI_spec rfl | assumption | exact (Int.toNat_of_nonneg (by omega)).symm); focus (show _ ≤ 64; omega))|(apply q_ix_osl0; (iterate 4 exact rfl); (first | (with_reducible exact rfl) | exact natI_spec rfl | assumption | exact (Int.toNat_of_nonneg (by omega)).symm); (first | omega | (focus (simp only [List.length_map]; omega)) | (focus (simp; done)) | (focus (simp; omega))))
    | (apply q_ld_rptm; (iterate 4 exact rfl); (first | omega | (focus (simp only [List.length_map]; omega)) | (focus (simp; done)) | (focus (simp; omega))))))|(apply W.ln; (apply l_st_rpt; (iterate 7 exact rfl); exact fun _ => rfl; (first | omega | (focus (simp only [List.length_map]; omega)) | (focus (simp; omega)))))|(apply yA)|(apply yB)|(apply yC; kernel_rfl)|(apply yE)|(apply yG)|(apply yH)|(apply yL)
  | (refine W.cond _ rfl (fun hb => ?_) (fun hb => ?_) <;> ((try simp only [hb, zA, zB]) <;> (try simp only [zC, zD, zE, zF, zG, zH, zI, zJ] at hb) <;> (try (exfalso; omega))))))
      refine ⟨j + 1, by omega, by omega, ?_, iV_eq (by omega), rfl, iV_eq (by rw [← Nat.shiftRight_add, Nat.mul_add]), rfl, rfl, rfl, trivial⟩
      rw [hw, ← hge]
    · have : j = z := by omega
      subst this
      (repeat' (first
  | (apply W.qd; (first
    | (apply q_mv; (conv => lhs; whnf))
    | (apply q_geq; exact rfl; exact rfl)))|(apply yA)|(apply yB)|(apply yC; kernel_rfl)|(apply yE)|(apply yI)|(apply yK)|(apply yL)|(apply yM)
  | (refine W.cond _ rfl (fun hb => ?_) (fun hb => ?_) <;> ((try simp only [hb, zA, zB]) <;> (try simp only [zC, zD, zE, zF, zG, zH, zI, zJ] at hb) <;> (try (exfalso; omega))))))
      exact ⟨rfl, rfl⟩
  (repeat' (first
  | (apply yL)))
  exact ⟨.inr rfl, [0], [], rfl, rfl, trivial, AVle.of_eq rfl, rfl⟩
end Go.Proofs.YtaclmbbiegklcaaDoor
end
section
namespace Go.Proofs.YtaclmbbiegklcaaDoor
open Go.RowKit
set_option maxHeartbeats 4000000
set_option maxRecDepth 100000
attribute [local irreducible] Quiet Eff OpOk AWPG ACont ABlock ACalls AGoto
theorem allF_nats {M : Nat} {cs : List Nat} (hM : FldM M) (h : ∀ c ∈ cs, c < 2 ^ M) : allF M (cs.map fun n : Nat => (n : Int)) = true := by
  have h0 : allF M [((0 : Nat) : Int)] = true := all2 hM (Nat.two_pow_pos M)
  simp only [allF, Bool.and_eq_true, List.all_eq_true] at h0 ⊢
  refine ⟨h0.1, fun x hx => ?_⟩
  obtain ⟨n, hn, rfl⟩ := List.mem_map.1 hx
  exact inF_lt hM (h n hn)
theorem A_combine1 {n : Nat} (x : List Nat) (hx : x.length < 9223372036854775808) : ACalls Tryd.prog 147 [bS x, .opt 0 0] [.box [iV n]] (bV (decide ((x.length : Int) = n))) [.box [iV n]] := by
  refine acalls_of_bodyO Tryd.func147 rfl (Nat.le_of_ble_eq_true rfl) ?_
  (repeat' (first
  | (apply W.qd; (first
    | (apply q_mv; (conv => lhs; whnf))|(apply q_as; (conv => lhs; whnf))|(apply yT; (iterate 4 exact rfl))|(apply q_eql; exact rfl; exact rfl)
    | (apply q_len_bs; exact rfl; exact rfl)))|(apply yA)|(apply yB)|(apply yC; kernel_rfl)|(apply yE)
  | (apply yJ)))
  exact ⟨.inl rfl, [0], [bV (decide ((x.length : Int) = n))], rfl, rfl, ⟨rfl, trivial⟩, AVle.of_eq rfl, rfl⟩
theorem A_fevery1 {n : Nat} (x : List Nat) (hx : x.length < 9223372036854775808) : ACalls Tryd.prog 169 [bS x, .opt 1 0] [.box [iV n], .box [.fn 147 [.opt 0 0]]] (bV (!decide ((x.length : Int) = n))) [.box [iV n], .box [.fn 147 [.opt 0 0]]] := by
  refine acalls_of_bodyO Tryd.func169 rfl (Nat.le_of_ble_eq_true rfl) ?_
  have hg := A_combine1 (n := n) x hx
  (repeat' (first
  | (apply W.qd; (first
    | (apply q_mv; (conv => lhs; whnf))|(apply q_as; (conv => lhs; whnf))|(apply yT; (iterate 4 exact rfl))
    | (apply q_not; exact rfl)))|(apply W.ed; (apply (e_callJ (js := [0]) (hg)); (iterate 5 exact rfl); kernel_rfl; kernel_rfl))|(apply yA)|(apply yB)|(apply yC; kernel_rfl)|(apply yE)
  | (apply yJ)))
  exact ⟨.inl rfl, [0, 1], [bV (!decide ((x.length : Int) = n))], rfl, rfl, ⟨rfl, trivial⟩, AVle.of_eq rfl, rfl⟩
theorem A_fevery {n : Nat} (l : List (List Nat)) (hl : l.length ≤ 1000000000) (hx : ∀ x ∈ l, x.length < 9223372036854775808) : ACalls Tryd.prog 146 [strs l, .fn 147 [.opt 0 0]] [.box [iV n]] (bV (l.all fun x => decide ((x.length : Int) = n))) [.box [iV n]] := by
  refine acalls_of_bodyO Tryd.func146 rfl (Nat.le_of_ble_eq_true rfl) ?_
  have hc := A_contains_str (O := [.box [iV n], .box [.fn 147 [.opt 0 0]]]) (g := 169) (caps := [.opt 1 0]) (fun x => !decide ((x.length : Int) = n)) l hl (by kernel_rfl) (fun x h => A_fevery1 x (hx x h))
  (repeat' (first
  | (apply W.qd; (first
    | (apply q_mv; (conv => lhs; whnf))|(apply q_as; (conv => lhs; whnf))|(apply q_not; exact rfl)
    | (apply q_makeFunc)))
  | (apply W.ed; (first
    | (apply (e_callJ (js := [0, 1]) (hc)); (iterate 5 exact rfl); kernel_rfl; kernel_rfl)
    | (apply yBb; (iterate 3 exact rfl); kernel_rfl; kernel_rfl)))|(apply yA)|(apply yB)|(apply yC; kernel_rfl)|(apply yE)
  | (apply yJ)))
  exact ⟨.inl rfl, [0], [bV (!l.any fun x => !decide ((x.length : Int) = n))], rfl, rfl, ⟨rfl, trivial⟩, AVle.of_eq (by rw [List.all_eq_not_any_not]; rfl), rfl⟩
theorem A_fcombine {M n : Nat} {cs : List Nat} {us : List (List Nat)} (hM : FldM M) (he : FitM M n) (hlen : cs.length = us.length) (hpos : 0 < cs.length) (hcs : ∀ c ∈ cs, c < 2 ^ M) (hus : ∀ u ∈ us, isB u ∧ u.length = n) (hn : n ≤ 1000000) (hk : cs.length ≤ 1000000) :
    ACalls Tryd.prog 117 [iV M, nats cs, strs us] [] (.tup [bS (combM M n cs us (List.replicate n 0)), iV 0]) [] := by
  refine acalls_of_bodyO Tryd.func117 rfl (Nat.le_of_ble_eq_true rfl) ?_
  have hU : 0 < us.length := by omega
  have h0 := (hus (us[0]'hU) (List.getElem_mem _)).2
  have hall := A_all M (cs.map fun n : Nat => (n : Int)) (by rw [List.length_map]; omega) (fun x hx => by
    obtain ⟨c, hc, rfl⟩ := List.mem_map.1 hx
    have := hM.cap (hcs c hc); omega)
  rw [← nats_ints, allF_nats hM hcs] at hall
  have hev := A_fevery (n := n) us (by omega) (fun x hx => by have := (hus x hx).2; omega)
  have hev2 : us.all (fun x => decide ((x.length : Int) = n)) = true := by
    rw [List.all_eq_true]
    intro x hx
    rw [decide_eq_true_eq, (hus x hx).2]
  rw [hev2] at hev
  have hB0 := isB_zero n
  have hz : ((M : Int) / 8) = ((M / 8 : Nat) : Int) := by omega
  have hz1 : 1 ≤ M / 8 ∧ M / 8 ≤ 2 := by rcases hM with rfl | rfl <;> decide
  have hmod : n % (M / 8) = 0 := by
    rcases hM with rfl | rfl
    · show n % 1 = 0; omega
    · exact he rfl
  have hmod2 : (n : Int) % ((M : Int) / 8) = 0 := by rw [hz]; omega
  subst h0
  have hv1 : ((us[0]'hU).length : Int) < 9223372036854775808 := by omega
  (repeat' (first
  | (apply yFb; exact rfl; exact rfl)
  | (apply W.qd; (first
    | (apply (yW (hall)); exact rfl; exact rfl; (iterate 3 kernel_rfl))|(apply q_mv; (conv => lhs; whnf))|(apply q_as; (conv => lhs; whnf))|(apply yT; (iterate 4 exact rfl))|(apply q_eql; exact rfl; exact rfl)|(apply q_neq; exact rfl; exact rfl)|(apply q_not; exact rfl)|(apply q_quo; exact rfl; exact rfl; omega; omega; omega)|(apply q_rem; exact rfl; exact rfl; omega; omega)|(apply yV; exact rfl; exact rfl)|(apply q_len_bs; exact rfl; exact rfl)|(apply yX; (iterate 3 exact rfl); (first | omega | (focus (simp; done))))|(apply q_makeFunc)|(apply yGb; (iterate 4 exact rfl); (first | (with_reducible exact rfl) | exact natI_spec rfl | assumption | exact (Int.toNat_of_nonneg (by omega)).symm); (first | omega | (focus (simp only [List.length_map]; omega)) | (focus (simp; done)) | (focus (simp; omega))))
    | (apply (yDb (u := .d _)); exact rfl; exact rfl)))
  | (apply W.ed; (first
    | (apply (e_callJ (js := [0]) (hev)); (iterate 5 exact rfl); kernel_rfl; kernel_rfl)|(apply yCb; (iterate 3 exact rfl); kernel_rfl)
    | (apply (e_makeG (f := nD) 0); exact rfl; exact rfl; (first | (with_reducible exact rfl) | exact natI_spec rfl | assumption | exact (Int.toNat_of_nonneg (by omega)).symm); (iterate 7 exact rfl); omega)))|(apply W.ln; (apply l_st_box; (iterate 6 exact rfl); (iterate 3 kernel_rfl)))|(apply yA)|(apply yB)|(apply yC; kernel_rfl)|(apply yE)|(apply yG)|(apply yH)|(apply yR; exact rfl)|(refine W.gF _ _ rfl rfl (fun hb => ?_) (fun hb => ?_) <;> ((try simp only [hb, zA, zB]) <;> (try simp only [zC, zD, zE, zF, zG, zH, zI, zJ] at hb) <;> (try (exfalso; omega))))
  | (refine W.cond _ rfl (fun hb => ?_) (fun hb => ?_) <;> ((try simp only [hb, zA, zB]) <;> (try simp only [zC, zD, zE, zF, zG, zH, zI, zJ] at hb) <;> (try (exfalso; omega))))))
  generalize (us[0]'hU).length = n at *
  refine AWP.loopW (α := Nat) (fun k => k ≤ cs.length) (fun k => ⟨[(47, iV k), (46, iV cs.length), (45, nats cs), (9, .osl 1 0 0 n), (0, iV M), (2, strs us)], [.box [iV n], .row 0 1 5 ((combM M n (cs.take k) (us.take k) (List.replicate n 0)).map nD)]⟩) (fun k => cs.length - k) 0 (by omega) ⟨[0, 1], rfl, rfl, rfl, rfl, iV_eq (by simp), rfl, rfl, rfl, rfl, trivial⟩ fun k hk2 => ?_
  by_cases hkl : k < cs.length
  · have hst := combM_step M n cs us (List.replicate n 0) k hkl (by omega)
    have hu := hus (us[k]'(by omega)) (List.getElem_mem _)
    have hok := combM_ok hM he (cs.take k) (us.take k) (List.replicate n 0) (fun c hc => hcs c (List.mem_of_mem_take hc)) (fun u hu => (hus u (List.mem_of_mem_take hu)).2) hB0 (by simp)
    have hcm := hcs cs[k] (List.getElem_mem hkl)
    have hac := A_accumulate (v := 0) (u := us[k]'(by omega)) hM hcm hu.1 (by omega) hok.2.symm (by omega) hok.1 (by rw [hu.2]; exact he)
    rw [← hst] at hac
    (repeat' (first
  | (apply W.qd; (first
    | (apply q_mv; (conv => lhs; whnf))|(apply q_as; (conv => lhs; whnf))|(apply q_lss; exact rfl; exact rfl)|(apply q_add; exact rfl; exact rfl; omega)|(apply yX; (iterate 3 exact rfl); (first | omega | (focus (simp; done))))
    | (apply yGb; (iterate 4 exact rfl); (first | (with_reducible exact rfl) | exact natI_spec rfl | assumption | exact (Int.toNat_of_nonneg (by omega)).symm); (first | omega | (focus (simp only [List.length_map]; omega)) | (focus (simp; done)) | (focus (simp; omega))))))|(apply W.ed; (apply (e_callJ (js := [1]) (hac)); (iterate 5 exact rfl); kernel_rfl; kernel_rfl))|(apply yA)|(apply yB)|(apply yC; kernel_rfl)|(apply yE)|(apply yG)|(apply yH)|(apply yL)
  | (refine W.cond _ rfl (fun hb => ?_) (fun hb => ?_) <;> ((try simp only [hb, zA, zB]) <;> (try simp only [zC, zD, zE, zF, zG, zH, zI, zJ] at hb) <;> (try (exfalso; omega))))))
    exact ⟨k + 1, by omega, by omega, [0, 1], rfl, rfl, rfl, iV_eq (by omega), rfl, rfl, rfl, rfl, rfl, trivial⟩
  · have hok := combM_ok hM he (cs.take k) (us.take k) (List.replicate n 0) (fun c hc => hcs c (List.mem_of_mem_take hc)) (fun u hu => (hus u (List.mem_of_mem_take hu)).2) hB0 (by simp)
    have e1 : cs.take k = cs := List.take_of_length_le (by omega)
    have e2 : us.take k = us := List.take_of_length_le (by omega)
    rw [e1, e2] at hok ⊢
    have hB := hok.1
    have hL := hok.2
    generalize combM M n cs us (List.replicate n 0) = R at *
    subst hL
    (repeat' (first
  | (apply W.qd; (first
    | (apply q_mv; (conv => lhs; whnf))|(apply q_as; (conv => lhs; whnf))|(apply q_lss; exact rfl; exact rfl)
    | (apply q_str_osl; (iterate 4 exact rfl); (first | rfl | (focus (simp; done))); assumption)))|(apply yA)|(apply yB)|(apply yC; kernel_rfl)|(apply yE)|(apply yI)|(apply yJ)|(apply yK)|(apply yM)
  | (refine W.cond _ rfl (fun hb => ?_) (fun hb => ?_) <;> ((try simp only [hb, zA, zB]) <;> (try simp only [zC, zD, zE, zF, zG, zH, zI, zJ] at hb) <;> (try (exfalso; omega))))))
    exact ⟨.inl rfl, [], [bS R, iV 0], rfl, rfl, ⟨rfl, rfl, trivial⟩, AVle.of_eq rfl, rfl⟩
end Go.Proofs.YtaclmbbiegklcaaDoor
end
section
namespace Go.Proofs.YtaclmbbiegklcaaDoor
open Go.RowKit
set_option maxHeartbeats 4000000
set_option maxRecDepth 100000
attribute [local irreducible] Quiet Eff OpOk AWPG ACont ABlock ACalls AGoto
def uniQ (M : Int) (us : List (List Nat)) (x : List Nat) : Bool := decide ((x.length : Int) = ((us.headD []).length : Int)) && (decide (M = 8) || decide ((x.length : Int) % 2 = 0))
def uniB (M : Int) (us : List (List Nat)) : Bool := us.all (uniQ M us)
theorem A_uni1 {M D : Int} {par : List (List Int)} {us : List (List Nat)} (x : List Nat) (h0 : 0 < us.length) (hx : x.length < 9223372036854775808) (hu : (us[0]'h0).length < 9223372036854775808) : ACalls Tryd.prog 145 [bS x, .opt 1 0, .opt 0 0] [.box [.d .any, iV M, iV D, rowsA par, .d .any], .box [strs us]] (bV (uniQ M us x)) [.box [.d .any, iV M, iV D, rowsA par, .d .any], .box [strs us]] := by
  refine acalls_of_bodyO Tryd.func145 rfl (Nat.le_of_ble_eq_true rfl) ?_
  have hd : us.headD [] = us[0]'h0 := by cases us with | nil => simp at h0 | cons a l => rfl
  unfold uniQ
  rw [hd]
  (repeat' (first
  | (apply yFb; exact rfl; exact rfl)
  | (apply W.qd; (first
    | (apply q_mv; (conv => lhs; whnf))|(apply q_as; (conv => lhs; whnf))|(apply yS; (iterate 3 exact rfl))|(apply yT; (iterate 4 exact rfl))|(apply q_eql; exact rfl; exact rfl)|(apply q_rem; exact rfl; exact rfl; omega; omega)|(apply q_len_bs; exact rfl; exact rfl)|(apply yX; (iterate 3 exact rfl); (first | omega | (focus (simp; done))))|(apply yGb; (iterate 4 exact rfl); (first | (with_reducible exact rfl) | exact natI_spec rfl | assumption | exact (Int.toNat_of_nonneg (by omega)).symm); (first | omega | (focus (simp only [List.length_map]; omega)) | (focus (simp; done)) | (focus (simp; omega))))|(apply (yEb (u := .d _)); exact rfl; exact rfl)
    | (apply (yDb (u := .d _)); exact rfl; exact rfl)))|(refine W.gOff _ _ rfl rfl (by intro h; cases h) ?_)|(apply yA)|(apply yB)|(apply yC; kernel_rfl)|(apply yE)|(apply yJ)|(refine W.gT _ _ rfl rfl (fun hb => ?_) (fun hb => ?_) <;> ((try simp only [hb, zA, zB]) <;> (try simp only [zC, zD, zE, zF, zG, zH, zI, zJ] at hb) <;> (try (exfalso; omega))))
  | (refine W.gF _ _ rfl rfl (fun hb => ?_) (fun hb => ?_) <;> ((try simp only [hb, zA, zB]) <;> (try simp only [zC, zD, zE, zF, zG, zH, zI, zJ] at hb) <;> (try (exfalso; omega))))))
  all_goals exact ⟨.inl rfl, [0, 1], [_], rfl, rfl, ⟨rfl, trivial⟩, AVle.of_eq rfl, rfl⟩
theorem A_uniform {M D : Int} {par : List (List Int)} {us : List (List Nat)} (hl : us.length ≤ 1000000000) (hu : ∀ u ∈ us, u.length < 9223372036854775808) : ACalls Tryd.prog 115 [cdA M D par, strs us] [] (bV (uniB M us)) [] := by
  refine acalls_of_bodyO Tryd.func115 rfl (Nat.le_of_ble_eq_true rfl) ?_
  have hev := A_every_str2 (M := M) (D := D) (par := par) (us := us) (uniQ M us) us hl fun x hx => A_uni1 x (List.length_pos_of_mem hx) (hu x hx) (hu _ (List.getElem_mem _))
  (repeat' (first
  | (apply W.qd; (first
    | (apply q_as; (conv => lhs; whnf))|(apply yT; (iterate 4 exact rfl))
    | (apply q_makeFunc)))
  | (apply W.ed; (first
    | (apply (e_callJ (js := [0, 1]) (hev)); (iterate 5 exact rfl); kernel_rfl; kernel_rfl)
    | (apply yBb; (iterate 3 exact rfl); kernel_rfl; kernel_rfl)))|(apply yA)|(apply yB)|(apply yC; kernel_rfl)|(apply yE)
  | (apply yJ)))
  exact ⟨.inl rfl, [], [bV (uniB M us)], rfl, rfl, ⟨rfl, trivial⟩, AVle.of_eq rfl, rfl⟩
theorem A_clone_str {l : List (List Nat)} (h0 : 0 < l.length) (hl : l.length ≤ 1000000) : ACalls Tryd.prog 116 [strs l] [] (.osl 0 1 0 l.length) [.row 1 1 9 (l.map sD)] := by
  refine acalls_of_bodyO Tryd.func116 rfl (Nat.le_of_ble_eq_true rfl) ?_
  have hm : (l.map sD).length = l.length := List.length_map _
  (repeat' (first
  | (apply W.ed; (apply e_lit0F; (iterate 5 exact rfl)))
  | (apply W.qd; (first
    | (apply q_mv; (conv => lhs; whnf))|(apply q_as; (conv => lhs; whnf))
    | (apply q_eqnilm; (iterate 3 exact rfl); (first | assumption | omega))))|(apply W.ed; (apply e_appF; (iterate 8 exact rfl); (first | rfl | simp); (first | exact Nat.zero_lt_one | (focus (simp; done)) | omega); (first | (focus (simp; done)) | (focus (simp; omega)) | omega)))|(apply yA)|(apply yB)|(apply yC; kernel_rfl)|(apply yE)|(apply yH)|(apply yJ)
  | (apply yR; exact rfl)))
  refine ⟨.inl rfl, [0], [.osl 0 1 0 ((([] : List Nat).length) + (l.map sD).length)], rfl, rfl, ⟨rfl, trivial⟩, AVle.of_eq ?_, rfl⟩
  show AV.osl 0 1 0 (0 + (l.map sD).length) = .osl 0 1 0 l.length
  rw [hm, Nat.zero_add]
def havU (us : List (List Nat)) (hv : List Bool) (k : Nat) : List (List Nat) := ((List.range k).filter fun i => hv.getD i false).map fun i => us.getD i []
theorem havU_succ (us : List (List Nat)) (hv : List Bool) (k : Nat) : havU us hv (k + 1) = if hv.getD k false = true then havU us hv k ++ [us.getD k []] else havU us hv k := by
  unfold havU
  rw [List.range_succ, List.filter_append, List.map_append]
  by_cases h : hv.getD k false = true
  · rw [if_pos h, List.filter_cons_of_pos (by simpa using h)]; rfl
  · rw [if_neg h, List.filter_cons_of_neg (by simpa using h)]; simp
theorem havU_length (us : List (List Nat)) (hv : List Bool) (k : Nat) : (havU us hv k).length ≤ k := by
  unfold havU
  rw [List.length_map]
  exact Nat.le_trans (List.length_filter_le _ _) (by simp)
def fitN (M D : Nat) (ps : List (List Nat)) (us : List (List Nat)) (hv : List Bool) : Bool := decide (us.length = D + ps.length) && decide (hv.length = D + ps.length) && uniB M (havU us hv us.length)
theorem A_fit {M D : Nat} {ps us : List (List Nat)} {hv : List Bool} (h : CodeOk M D ps) (hul : us.length ≤ 1000000) (hhl : hv.length ≤ 1000000) (hu : ∀ u ∈ us, u.length < 9223372036854775808) : ACalls Tryd.prog 106 [cdN M D ps, strs us, bools hv] [] (bV (fitN M D ps us hv)) [] := by
  refine acalls_of_bodyO Tryd.func106 rfl (Nat.le_of_ble_eq_true rfl) ?_
  have h1 := h.d
  have h2 := h.w
  have hw := A_ewidthN h
  by_cases hlen : us.length = D + ps.length ∧ hv.length = D + ps.length
  · obtain ⟨hl1, hl2⟩ := hlen
    unfold fitN
    rw [decide_eq_true hl1, decide_eq_true hl2]
    have hv1 : ((D + ps.length : Nat) : Int) ≠ 0 := by omega
    have hlm1 : (us.map sD).length = D + ps.length := by rw [List.length_map]; exact hl1
    have hlm2 : (hv.map tD).length = D + ps.length := by rw [List.length_map]; exact hl2
    have hsucc := fun i => Lib.hid (havU_succ us hv i)
    have hpl0 := fun i => havU_length us hv i
    have hmem : ∀ i, ∀ u ∈ havU us hv i, u.length < 9223372036854775808 := fun i u hx => by
      unfold havU at hx
      obtain ⟨j, _, rfl⟩ := List.mem_map.1 hx
      rw [List.getD_eq_getElem?_getD]
      by_cases hj : j < us.length
      · rw [List.getElem?_eq_getElem hj]
        have := hu _ (List.getElem_mem hj)
        show (us[j]).length < _
        omega
      · rw [List.getElem?_eq_none (by omega)]
        show (0 : Nat) < _
        omega
    have huni : ACalls Tryd.prog 115 [cdN M D ps, strs (havU us hv us.length)] [] (bV (uniB M (havU us hv us.length))) [] := by
      rw [cdN_A]
      exact A_uniform (by have := hpl0 us.length; omega) (hmem us.length)
    (repeat' (first
  | (apply yFb; exact rfl; exact rfl)
  | (apply W.qd; (first
    | (apply (yW (hw)); exact rfl; exact rfl; (iterate 3 kernel_rfl))|(apply q_mv; (conv => lhs; whnf))|(apply q_as; (conv => lhs; whnf))|(apply yU; (iterate 4 exact rfl))|(apply q_eql; exact rfl; exact rfl)|(apply q_neq; exact rfl; exact rfl)|(apply yV; exact rfl; exact rfl)
    | (apply (yDb (u := .d _)); exact rfl; exact rfl)))|(apply W.ed; (apply yBb; (iterate 3 exact rfl); kernel_rfl; kernel_rfl))|(apply yA)|(apply yB)|(apply yC; kernel_rfl)|(apply yE)|(apply yG)|(apply yH)|(refine W.gF _ _ rfl rfl (fun hb => ?_) (fun hb => ?_) <;> ((try simp only [hb, zA, zB]) <;> (try simp only [zC, zD, zE, zF, zG, zH, zI, zJ] at hb) <;> (try (exfalso; omega))))
  | (refine W.cond _ rfl (fun hb => ?_) (fun hb => ?_) <;> ((try simp only [hb, zA, zB]) <;> (try simp only [zC, zD, zE, zF, zG, zH, zI, zJ] at hb) <;> (try (exfalso; omega))))))
    refine AWP.nilRow 8 1 9 rfl (by omega) ?_
    refine AWP.loopW (α := Nat) (fun i => i ≤ us.length) (fun i => ⟨[(29, iV i), (28, iV us.length), (27, strs us), (2, bools hv), (8, .osl 1 (havU us hv i).length 0 (havU us hv i).length), (3, .opt 0 0)], [.box [.d .any, iV M, iV D, rowsN ps, .d .any], .row (havU us hv i).length 1 9 ((havU us hv i).map sD)]⟩) (fun i => us.length - i) 0 (by omega) ?wk0 fun i hi => ?_
    case wk0 =>
      rw [show havU us hv 0 = [] from rfl]
      exact ⟨[0, 1], rfl, rfl, rfl, rfl, iV_eq (by simp), rfl, rfl, rfl, rfl, trivial⟩
    by_cases hil : i < us.length
    · have hs := hsucc i
      have hi0 := hpl0 i
      have hih : i < hv.length := by omega
      rw [List.getD_eq_getElem?_getD, List.getD_eq_getElem?_getD, List.getElem?_eq_getElem hih, List.getElem?_eq_getElem hil] at hs
      generalize havU us hv i = P at *
      (repeat' (first
  | (apply W.qd; (first
    | (apply q_mv; (conv => lhs; whnf))|(apply q_as; (conv => lhs; whnf))|(apply q_lss; exact rfl; exact rfl)|(apply q_add; exact rfl; exact rfl; omega)|(apply yX; (iterate 3 exact rfl); (first | omega | (focus (simp; done))))|(apply q_litF; (iterate 5 exact rfl); kernel_rfl; kernel_rfl; exact rfl)
    | (apply yGb; (iterate 4 exact rfl); (first | (with_reducible exact rfl) | exact natI_spec rfl | assumption | exact (Int.toNat_of_nonneg (by omega)).symm); (first | omega | (focus (simp only [List.length_map]; omega)) | (focus (simp; done)) | (focus (simp; omega))))))|(apply W.ld; (apply l_app1; (iterate 8 exact rfl); (first | omega | (focus (simp; omega)) | (focus (simp; done)))))|(apply yA)|(apply yB)|(apply yC; kernel_rfl)|(apply yE)|(apply yG)|(apply yH)|(apply yL)
  | (refine W.cond _ rfl (fun hb => ?_) (fun hb => ?_) <;> ((try simp only [hb, zA, zB]) <;> (try simp only [zC, zD, zE, zF, zG, zH, zI, zJ] at hb) <;> (try (exfalso; omega))))))
      · rw [if_pos (by simpa using hb)] at hs
        refine ⟨i + 1, by omega, by omega, ?_⟩
        rw [hs.out, show (P ++ [(some us[i]).getD []]).length = P.length + 1 by simp]
        exact ⟨[0, 1], rfl, rfl, rfl, iV_eq (by omega), rfl, rfl, rfl, congrArg (AV.osl 1 (P.length + 1) 0) (by simp), rfl, trivial⟩
      · rw [if_neg (by simpa using hb)] at hs
        refine ⟨i + 1, by omega, by omega, ?_⟩
        rw [hs.out]
        exact ⟨[0, 1], rfl, rfl, rfl, iV_eq (by omega), rfl, rfl, rfl, rfl, rfl, trivial⟩
    · have e : us.length = i := by omega
      subst e
      clear hsucc hpl0 hmem
      generalize havU us hv us.length = P at *
      refine AWP.wk ⟨[(29, iV us.length), (28, iV us.length), (8, strs P), (3, .opt 0 0)], [.box [.d .any, iV M, iV D, rowsN ps, .d .any]]⟩ ⟨[0], rfl, rfl, rfl, rfl, rfl, (frz_rowJ rfl rfl (by simp)).symm, rfl, trivial⟩ ?_
      (repeat' (first
  | (apply W.qd; (first
    | (apply (yW (huni)); exact rfl; exact rfl; (iterate 3 kernel_rfl))|(apply q_mv; (conv => lhs; whnf))|(apply q_as; (conv => lhs; whnf))|(apply yU; (iterate 4 exact rfl))
    | (apply q_lss; exact rfl; exact rfl)))|(apply yA)|(apply yB)|(apply yC; kernel_rfl)|(apply yE)|(apply yI)|(apply yJ)|(apply yK)|(apply yM)
  | (refine W.cond _ rfl (fun hb => ?_) (fun hb => ?_) <;> ((try simp only [hb, zA, zB]) <;> (try simp only [zC, zD, zE, zF, zG, zH, zI, zJ] at hb) <;> (try (exfalso; omega))))))
      exact ⟨.inl rfl, [], [bV (uniB M P)], rfl, rfl, ⟨rfl, trivial⟩, AVle.of_eq rfl, rfl⟩
  · have hf : fitN M D ps us hv = false := by
      unfold fitN
      by_cases h3 : us.length = D + ps.length
      · rw [decide_eq_false (show ¬ hv.length = D + ps.length from fun h4 => hlen ⟨h3, h4⟩)]; simp
      · rw [decide_eq_false h3]; simp
    rw [hf]
    have hlm1 : (us.map sD).length = us.length := List.length_map _
    have hlm2 : (hv.map tD).length = hv.length := List.length_map _
    (repeat' (first
  | (apply yFb; exact rfl; exact rfl)
  | (apply W.qd; (first
    | (apply (yW (hw)); exact rfl; exact rfl; (iterate 3 kernel_rfl))|(apply q_mv; (conv => lhs; whnf))|(apply q_as; (conv => lhs; whnf))|(apply yU; (iterate 4 exact rfl))|(apply q_eql; exact rfl; exact rfl)|(apply q_neq; exact rfl; exact rfl)|(apply yV; exact rfl; exact rfl)|(apply (yEb (u := .d _)); exact rfl; exact rfl)
    | (apply (yDb (u := .d _)); exact rfl; exact rfl)))|(apply W.ed; (apply yBb; (iterate 3 exact rfl); kernel_rfl; kernel_rfl))|(refine W.gOff _ _ rfl rfl (by intro h; cases h) ?_)|(apply yA)|(apply yB)|(apply yC; kernel_rfl)|(apply yE)|(apply yJ)|(apply yP)|(apply yQ; exact rfl)|(refine W.gF _ _ rfl rfl (fun hb => ?_) (fun hb => ?_) <;> ((try simp only [hb, zA, zB]) <;> (try simp only [zC, zD, zE, zF, zG, zH, zI, zJ] at hb) <;> (try (exfalso; omega))))
  | (refine W.cond _ rfl (fun hb => ?_) (fun hb => ?_) <;> ((try simp only [hb, zA, zB]) <;> (try simp only [zC, zD, zE, zF, zG, zH, zI, zJ] at hb) <;> (try (exfalso; omega))))))
    all_goals exact ⟨.inl rfl, [], [bV false], rfl, rfl, ⟨rfl, trivial⟩, AVle.of_eq rfl, rfl⟩
end Go.Proofs.YtaclmbbiegklcaaDoor
end
section
namespace Go.Proofs.YtaclmbbiegklcaaDoor
open Go.RowKit
set_option maxHeartbeats 4000000
set_option maxRecDepth 100000
attribute [local irreducible] Quiet Eff OpOk AWPG ACont ABlock ACalls AGoto
def sumN (M n : Nat) (us : List (List Nat)) (l : List (Nat × Nat)) : List Nat := combM M n (l.map (·.2)) (l.map fun t => us.getD t.1 []) (List.replicate n 0)
theorem A_sum {M D n : Nat} {ps us : List (List Nat)} {l : List (Nat × Nat)} (hM : FldM M) (he : FitM M n) (hl0 : 0 < l.length) (hll : l.length ≤ 1000) (hn : n ≤ 1000000) (ht : ∀ t ∈ l, t.1 < us.length ∧ t.2 < 2 ^ M ∧ isB (us.getD t.1 []) ∧ (us.getD t.1 []).length = n) : ACalls Tryd.prog 108 [cdN M D ps, strs us, tmsA l] [] (bS (sumN M n us l)) [] := by
  refine acalls_of_bodyO Tryd.func108 rfl (Nat.le_of_ble_eq_true rfl) ?_
  have hcomb := A_fcombine (cs := l.map (·.2)) (us := l.map fun t => us.getD t.1 []) hM he (by simp) (by rw [List.length_map]; exact hl0) (fun c hc => by
    obtain ⟨t, h1, rfl⟩ := List.mem_map.1 hc; exact (ht t h1).2.1) (fun u hu => by
    obtain ⟨t, h1, rfl⟩ := List.mem_map.1 hu; exact (ht t h1).2.2) hn (by rw [List.length_map]; omega)
  have hs : combM M n (l.map (·.2)) (l.map fun t => us.getD t.1 []) (List.replicate n 0) = sumN M n us l := rfl
  rw [hs] at hcomb
  have hml : (l.map tmD).length = l.length := List.length_map _
  (repeat' (first
  | (apply W.qd; (first
    | (apply q_mv; (conv => lhs; whnf))|(apply q_as; (conv => lhs; whnf))
    | (apply yV; exact rfl; exact rfl)))|(apply W.ed; (apply yBb; (iterate 3 exact rfl); kernel_rfl; kernel_rfl))|(apply yA)|(apply yB)|(apply yC; kernel_rfl)|(apply yE)
  | (apply yG)))
  refine AWP.nilRow 7 1 3 rfl (by omega) ?_
  refine AWP.nilRow 8 1 9 rfl (by omega) ?_
  refine AWP.loopW (α := Nat) (fun k => k ≤ l.length) (fun k => ⟨[(15, iV k), (14, iV l.length), (13, tmsA l), (1, strs us), (7, .osl 1 k 0 ((l.take k).map fun t : Nat × Nat => t.2).length), (8, .osl 2 k 0 ((l.take k).map fun t => us.getD t.1 []).length), (3, .opt 0 0)], [.box [.d .any, iV M, iV D, rowsN ps, .d .any], .row k 1 3 (((l.take k).map fun t : Nat × Nat => t.2).map kD), .row k 1 9 (((l.take k).map fun t => us.getD t.1 []).map sD)]⟩) (fun k => l.length - k) 0 (by omega) ?wk0 fun k hk => ?_
  case wk0 => exact ⟨[0, 1, 2], rfl, rfl, rfl, rfl, iV_eq (by simp), rfl, rfl, rfl, rfl, rfl, trivial⟩
  by_cases hkl : k < l.length
  · have hx := ht l[k] (List.getElem_mem _)
    have hxl := hx.1
    have h1 : (l.take (k + 1)).map (fun t : Nat × Nat => t.2) = (l.take k).map (fun t : Nat × Nat => t.2) ++ [l[k].2] := by
      rw [← List.take_append_getElem hkl, List.map_append]; rfl
    have h2 : (l.take (k + 1)).map (fun t => us.getD t.1 []) = (l.take k).map (fun t => us.getD t.1 []) ++ [us[l[k].1]'hxl] := by
      rw [← List.take_append_getElem hkl, List.map_append]
      simp [List.getD_eq_getElem?_getD, hxl]
    have hl1 : ((l.take k).map (fun t : Nat × Nat => t.2)).length ≤ 1024 := by simp; omega
    have hl2 : ((l.take k).map (fun t => us.getD t.1 [])).length ≤ 1024 := by simp; omega
    replace h1 := Lib.hid h1
    replace h2 := Lib.hid h2
    clear hx
    generalize (l.take k).map (fun t : Nat × Nat => t.2) = A at *
    generalize (l.take k).map (fun t => us.getD t.1 []) = B at *
    have hmu : (us.map sD).length = us.length := List.length_map _
    (repeat' (first
  | (apply W.qd; (first
    | (apply q_mv; (conv => lhs; whnf))|(apply q_as; (conv => lhs; whnf))|(apply yS; (iterate 3 exact rfl))|(apply yT; (iterate 4 exact rfl))|(apply q_lss; exact rfl; exact rfl)|(apply q_add; exact rfl; exact rfl; omega)|(apply yX; (iterate 3 exact rfl); (first | omega | (focus (simp; done))))|(apply yY; (iterate 3 exact rfl); (first | omega | (focus (simp; done))))|(apply q_litF; (iterate 5 exact rfl); kernel_rfl; kernel_rfl; exact rfl)
    | (apply yGb; (iterate 4 exact rfl); (first | (with_reducible exact rfl) | exact natI_spec rfl | assumption | exact (Int.toNat_of_nonneg (by omega)).symm); (first | omega | (focus (simp only [List.length_map]; omega)) | (focus (simp; done)) | (focus (simp; omega))))))|(apply W.ld; (apply l_app1; (iterate 8 exact rfl); (first | omega | (focus (simp; omega)) | (focus (simp; done)))))|(apply W.ed; (apply yCb; (iterate 3 exact rfl); kernel_rfl))|(apply W.ln; (apply l_st_box; (iterate 6 exact rfl); (iterate 3 kernel_rfl)))|(apply yA)|(apply yB)|(apply yC; kernel_rfl)|(apply yD; exact rfl; kernel_rfl)|(apply yE)|(apply yF; kernel_rfl)|(apply yG)|(apply yH)|(apply yL)
  | (refine W.cond _ rfl (fun hb => ?_) (fun hb => ?_) <;> ((try simp only [hb, zA, zB]) <;> (try simp only [zC, zD, zE, zF, zG, zH, zI, zJ] at hb) <;> (try (exfalso; omega))))))
    refine ⟨k + 1, by omega, by omega, ?_⟩
    rw [h1.out, h2.out]
    exact ⟨[0, 1, 2], rfl, rfl, rfl, iV_eq (by omega), rfl, rfl, rfl, rfl, rfl, rfl, trivial⟩
  · have e : l.length = k := by omega
    subst e
    rw [List.take_length]
    clear ht
    generalize sumN M n us l = R at *
    refine AWP.wk ⟨[(15, iV l.length), (14, iV l.length), (7, nats (l.map (·.2))), (8, strs (l.map fun t => us.getD t.1 [])), (3, .opt 0 0)], [.box [.d .any, iV M, iV D, rowsN ps, .d .any]]⟩ ⟨[0], rfl, rfl, rfl, rfl, rfl, (frz_rowJ rfl rfl (by simp)).symm, (frz_rowJ rfl rfl (by simp)).symm, rfl, trivial⟩ ?_
    (repeat' (first
  | (apply W.qd; (first
    | (apply (yW (hcomb)); exact rfl; exact rfl; (iterate 3 kernel_rfl))|(apply q_mv; (conv => lhs; whnf))|(apply q_as; (conv => lhs; whnf))|(apply yS; (iterate 3 exact rfl))|(apply yT; (iterate 4 exact rfl))|(apply q_lss; exact rfl; exact rfl)
    | (apply yAb; exact rfl; exact rfl)))|(apply yA)|(apply yB)|(apply yC; kernel_rfl)|(apply yE)|(apply yI)|(apply yJ)|(apply yK)|(apply yM)
  | (refine W.cond _ rfl (fun hb => ?_) (fun hb => ?_) <;> ((try simp only [hb, zA, zB]) <;> (try simp only [zC, zD, zE, zF, zG, zH, zI, zJ] at hb) <;> (try (exfalso; omega))))))
    exact ⟨.inl rfl, [], [bS R], rfl, rfl, ⟨rfl, trivial⟩, AVle.of_eq rfl, rfl⟩
def encN (M : Nat) (ps us : List (List Nat)) : List (List Nat) := us ++ ps.map fun r => combM M (us.headD []).length r us (List.replicate (us.headD []).length 0)
theorem A_encode {M D n : Nat} {ps us : List (List Nat)} (h : CodeOk M D ps) (hl : us.length = D) (hu : ∀ u ∈ us, isB u ∧ u.length = n) (hn : n ≤ 1000000) (he : FitM M n) : ACalls Tryd.prog 67 [cdN M D ps, strs us] [] (.tup [strs (encN M ps us), iV 0]) [] := by
  refine acalls_of_bodyO Tryd.func67 rfl (Nat.le_of_ble_eq_true rfl) ?_
  have h1 := h.d
  have h2 := h.w
  have hv := A_evalidN h
  have huh : (us.headD []).length = n := by
    cases us with
    | nil => simp at hl; omega
    | cons a t => exact (hu a (by simp)).2
  have huni : ACalls Tryd.prog 115 [cdN M D ps, strs us] [] (bV true) [] := by
    have := A_uniform (M := M) (D := D) (par := toZ ps) (us := us) (by omega) (fun u h => by have := (hu u h).2; omega)
    rw [← cdN_A] at this
    have e : uniB M us = true := by
      unfold uniB
      rw [List.all_eq_true]
      intro x hx
      unfold uniQ
      rw [huh, (hu x hx).2, decide_eq_true rfl, Bool.true_and]
      rcases h.f with rfl | rfl
      · rfl
      · have := he rfl
        rw [decide_eq_true (show (n : Int) % 2 = 0 by omega), Bool.or_true]
    rwa [e] at this
  have hcl := A_clone_str (l := us) (by omega) (by omega)
  have hml : (us.map sD).length = us.length := List.length_map _
  have hmp : (ps.map rnD).length = ps.length := List.length_map _
  have hen : encN M ps us = us ++ ps.map fun r => combM M n r us (List.replicate n 0) := by unfold encN; rw [huh]
  rw [hen]
  (repeat' (first
  | (apply yFb; exact rfl; exact rfl)
  | (apply W.qd; (first
    | (apply (yW (hv)); exact rfl; exact rfl; (iterate 3 kernel_rfl))|(apply (yW (huni)); exact rfl; exact rfl; (iterate 3 kernel_rfl))|(apply q_mv; (conv => lhs; whnf))|(apply q_as; (conv => lhs; whnf))|(apply yS; (iterate 3 exact rfl))|(apply yT; (iterate 4 exact rfl))|(apply yU; (iterate 4 exact rfl))|(apply q_neq; exact rfl; exact rfl)|(apply q_not; exact rfl)|(apply yV; exact rfl; exact rfl)
    | (apply (yDb (u := .d _)); exact rfl; exact rfl)))
  | (apply W.ed; (first
    | (apply (e_callJ (js := []) (hcl)); (iterate 5 exact rfl); kernel_rfl; kernel_rfl)
    | (apply yBb; (iterate 3 exact rfl); kernel_rfl; kernel_rfl)))|(apply yA)|(apply yB)|(apply yC; kernel_rfl)|(apply yE)|(apply yG)|(apply yH)|(apply yR; exact rfl)
  | (refine W.gF _ _ rfl rfl (fun hb => ?_) (fun hb => ?_) <;> ((try simp only [hb, zA, zB]) <;> (try simp only [zC, zD, zE, zF, zG, zH, zI, zJ] at hb) <;> (try (exfalso; omega))))))
  refine AWP.loopW (α := Nat) (fun k => k ≤ ps.length) (fun k => ⟨[(32, iV k), (31, iV ps.length), (30, rowsN ps), (1, strs us), (6, .osl 1 (k + 1) 0 (us ++ (ps.take k).map fun r => combM M n r us (List.replicate n 0)).length), (2, .opt 0 0)], [.box [.d .any, iV M, iV D, rowsN ps, .d .any], .row (k + 1) 1 9 ((us ++ (ps.take k).map fun r => combM M n r us (List.replicate n 0)).map sD)]⟩) (fun k => ps.length - k) 0 (by omega) ?wk0 fun k hk => ?_
  case wk0 =>
    rw [show (us ++ (ps.take 0).map fun r => combM M n r us (List.replicate n 0)) = us by simp]
    exact ⟨[0, 1], rfl, rfl, rfl, rfl, iV_eq (by simp), rfl, rfl, rfl, rfl, trivial⟩
  by_cases hkl : k < ps.length
  · have hr := h.row ps[k] (List.getElem_mem _)
    have hcomb := A_fcombine (cs := ps[k]) (us := us) h.f he (by rw [hr.1, hl]) (by omega) hr.2.1 hu hn (by omega)
    have h5 : (ps.take (k + 1)).map (fun r => combM M n r us (List.replicate n 0)) = (ps.take k).map (fun r => combM M n r us (List.replicate n 0)) ++ [combM M n ps[k] us (List.replicate n 0)] := by
      rw [← List.take_append_getElem hkl, List.map_append]; rfl
    have h6 : us ++ (ps.take (k + 1)).map (fun r => combM M n r us (List.replicate n 0)) = (us ++ (ps.take k).map (fun r => combM M n r us (List.replicate n 0))) ++ [combM M n ps[k] us (List.replicate n 0)] := by rw [h5, List.append_assoc]
    have hl2 : (us ++ (ps.take k).map (fun r => combM M n r us (List.replicate n 0))).length ≤ 1024 := by simp; omega
    clear h5
    replace h6 := Lib.hid h6
    generalize combM M n ps[k] us (List.replicate n 0) = R at *
    generalize us ++ (ps.take k).map (fun r => combM M n r us (List.replicate n 0)) = A at *
    clear hr
    (repeat' (first
  | (apply W.qd; (first
    | (apply (yW (hcomb)); exact rfl; exact rfl; (iterate 3 kernel_rfl))|(apply q_mv; (conv => lhs; whnf))|(apply q_as; (conv => lhs; whnf))|(apply yS; (iterate 3 exact rfl))|(apply yT; (iterate 4 exact rfl))|(apply q_lss; exact rfl; exact rfl)|(apply q_add; exact rfl; exact rfl; omega)|(apply yAb; exact rfl; exact rfl)|(apply yX; (iterate 3 exact rfl); (first | omega | (focus (simp; done))))|(apply q_litF; (iterate 5 exact rfl); kernel_rfl; kernel_rfl; exact rfl)
    | (apply yGb; (iterate 4 exact rfl); (first | (with_reducible exact rfl) | exact natI_spec rfl | assumption | exact (Int.toNat_of_nonneg (by omega)).symm); (first | omega | (focus (simp only [List.length_map]; omega)) | (focus (simp; done)) | (focus (simp; omega))))))|(apply W.ld; (apply l_app1; (iterate 8 exact rfl); (first | omega | (focus (simp; omega)) | (focus (simp; done)))))|(apply yA)|(apply yB)|(apply yC; kernel_rfl)|(apply yE)|(apply yG)|(apply yH)|(apply yL)
  | (refine W.cond _ rfl (fun hb => ?_) (fun hb => ?_) <;> ((try simp only [hb, zA, zB]) <;> (try simp only [zC, zD, zE, zF, zG, zH, zI, zJ] at hb) <;> (try (exfalso; omega))))))
    refine ⟨k + 1, by omega, by omega, ?_⟩
    rw [h6.out]
    exact ⟨[0, 1], rfl, rfl, rfl, iV_eq (by omega), rfl, rfl, rfl, rfl, rfl, trivial⟩
  · have e : ps.length = k := by omega
    subst e
    rw [List.take_length]
    have hl2 : (us ++ ps.map fun r => combM M n r us (List.replicate n 0)).length ≤ 1024 := by simp; omega
    generalize us ++ ps.map (fun r => combM M n r us (List.replicate n 0)) = A at *
    (repeat' (first
  | (apply W.qd; (first
    | (apply q_mv; (conv => lhs; whnf))|(apply q_as; (conv => lhs; whnf))
    | (apply q_lss; exact rfl; exact rfl)))|(apply yA)|(apply yB)|(apply yC; kernel_rfl)|(apply yE)|(apply yI)|(apply yJ)|(apply yK)|(apply yM)
  | (refine W.cond _ rfl (fun hb => ?_) (fun hb => ?_) <;> ((try simp only [hb, zA, zB]) <;> (try simp only [zC, zD, zE, zF, zG, zH, zI, zJ] at hb) <;> (try (exfalso; omega))))))
    refine ⟨.inl rfl, [], [.osl 1 (ps.length + 1) 0 A.length, iV 0], rfl, rfl, ⟨rfl, rfl, trivial⟩, AVle.tup2 (AVle.of_eq (frz_rowJ rfl rfl (by simp))) (AVle.of_eq rfl), rfl⟩
end Go.Proofs.YtaclmbbiegklcaaDoor
end
section
namespace Go.Proofs.YtaclmbbiegklcaaDoor
open Go.RowKit
set_option maxHeartbeats 4000000
set_option maxRecDepth 100000
attribute [local irreducible] Quiet Eff OpOk AWPG ACont ABlock ACalls AGoto
structure TermsIn (M n : Nat) (us : List (List Nat)) (l : List (Nat × Nat)) : Prop where
  p : 0 < l.length
  le : l.length ≤ 1000
  t : ∀ t ∈ l, t.1 < us.length ∧ t.2 < 2 ^ M ∧ isB (us.getD t.1 []) ∧ (us.getD t.1 []).length = n
theorem A_recover_lost {M D u : Nat} {ps us : List (List Nat)} {hv : List Bool} (h : CodeOk M D ps) (hul : us.length ≤ 1000000) (hhl : hv.length = D + ps.length) (hu : ∀ u ∈ us, u.length < 9223372036854775808) (hf : fitN M D ps us hv = true) (hlt : u < D + ps.length) (hc : combN M D ps hv u = none) : ACalls Tryd.prog 65 [cdN M D ps, strs us, bools hv, iV u] [] (.tup [bS [], iV 11]) [] := by
  refine acalls_of_bodyO Tryd.func65 rfl (Nat.le_of_ble_eq_true rfl) ?_
  have h2 := h.w
  have hfit := A_fit (hv := hv) h hul (by omega) hu
  rw [hf] at hfit
  have hcomb := A_comb h hhl hlt
  rw [hc] at hcomb
  unfold termsA at hcomb
  dsimp only at hcomb
  (repeat' (first
  | (apply W.qd; (first
    | (apply (yW (hfit)); exact rfl; exact rfl; (iterate 3 kernel_rfl))|(apply (yW (hcomb)); exact rfl; exact rfl; (iterate 3 kernel_rfl))|(apply q_mv; (conv => lhs; whnf))|(apply q_as; (conv => lhs; whnf))|(apply yU; (iterate 4 exact rfl))|(apply q_neq; exact rfl; exact rfl)|(apply q_not; exact rfl)
    | (apply yAb; exact rfl; exact rfl)))|(apply W.ed; (apply yBb; (iterate 3 exact rfl); kernel_rfl; kernel_rfl))|(apply yA)|(apply yB)|(apply yC; kernel_rfl)|(apply yE)|(apply yH)|(apply yJ)|(apply yP)|(apply yQ; exact rfl)
  | (apply yR; exact rfl)))
  all_goals exact ⟨.inl rfl, [], [bS [], iV 11], rfl, rfl, ⟨rfl, rfl, trivial⟩, AVle.of_eq rfl, rfl⟩
theorem A_recover_ok {M D u n : Nat} {ps us : List (List Nat)} {hv : List Bool} {l : List (Nat × Nat)} (h : CodeOk M D ps) (hul : us.length ≤ 1000000) (hhl : hv.length = D + ps.length) (hu : ∀ u ∈ us, u.length < 9223372036854775808) (hf : fitN M D ps us hv = true) (hlt : u < D + ps.length) (hc : combN M D ps hv u = some l) (ht : TermsIn M n us l) (he : FitM M n) (hn : n ≤ 1000000) : ACalls Tryd.prog 65 [cdN M D ps, strs us, bools hv, iV u] [] (.tup [bS (sumN M n us l), iV 0]) [] := by
  refine acalls_of_bodyO Tryd.func65 rfl (Nat.le_of_ble_eq_true rfl) ?_
  have h2 := h.w
  have hfit := A_fit (hv := hv) h hul (by omega) hu
  rw [hf] at hfit
  have hcomb := A_comb h hhl hlt
  rw [hc] at hcomb
  unfold termsA at hcomb
  dsimp only at hcomb
  have hsum := A_sum (D := D) (ps := ps) h.f he ht.p ht.le hn ht.t
  generalize sumN M n us l = R at *
  (repeat' (first
  | (apply W.qd; (first
    | (apply (yW (hfit)); exact rfl; exact rfl; (iterate 3 kernel_rfl))|(apply (yW (hcomb)); exact rfl; exact rfl; (iterate 3 kernel_rfl))|(apply (yW (hsum)); exact rfl; exact rfl; (iterate 3 kernel_rfl))|(apply q_mv; (conv => lhs; whnf))|(apply q_as; (conv => lhs; whnf))|(apply yU; (iterate 4 exact rfl))|(apply q_neq; exact rfl; exact rfl)|(apply q_not; exact rfl)
    | (apply yAb; exact rfl; exact rfl)))|(apply W.ed; (apply yBb; (iterate 3 exact rfl); kernel_rfl; kernel_rfl))|(apply yA)|(apply yB)|(apply yC; kernel_rfl)|(apply yE)|(apply yH)|(apply yJ)
  | (apply yR; exact rfl)))
  all_goals exact ⟨.inl rfl, [], [bS R, iV 0], rfl, rfl, ⟨rfl, rfl, trivial⟩, AVle.of_eq rfl, rfl⟩
end Go.Proofs.YtaclmbbiegklcaaDoor
end
section
namespace Go.Proofs.YtaclmbbiegklcaaDoor
open Go.ChangeShapes Go.WideShapes Go.ChangeAt Go.RowKit
section
variable {H : Type} {enc : TypeId × Value → H} {P : Program} {w : World} {base : Nat} {spare : Nat → Bool} {held : Bool}
theorem open_field {t : TypeId} {fs : Array Field} {fuel : Nat} {cs : List Value} {x : DataW H × List MemPlace} (ht : P.underlying t = some (.struct fs)) (h : DataW.trod enc P w base spare held fuel t cs = some x) (i : Nat) (f : Field) (hf : fs[i]? = some f) :
    ∃ y n, DataW.trod enc P w base spare held n f.type ((cs.drop f.offset).take (P.cellsOf f.type)) = some y := by
  obtain ⟨xs, n, _, _, _, hlen, hg⟩ := DataW.trod_struct ht h
  have h1 := hg i f hf
  have hi : i < fs.size := (Array.getElem?_eq_some_iff.1 hf).1
  exact ⟨xs[i]'(by omega), n, by rw [h1]; exact List.getElem?_eq_getElem (by omega)⟩
end
theorem list4 {α : Type} {l : List α} (h : l.length = 4) : ∃ a0 a1 a2 a3, l = [a0, a1, a2, a3] := by
  match l, h with
  | [a0, a1, a2, a3], _ => exact ⟨_, _, _, _, rfl⟩
end Go.Proofs.YtaclmbbiegklcaaDoor
end
section
namespace Go.Proofs.YtaclmbbiegklcaaDoor
open Go.RowKit
theorem calls_of_acalls {P : Program} {f : FuncId} {args : List AV} {b : Bool} {own' : List Ent} (h : ACalls P f args [] (bV b) own') (vs : List Value) (W : World) (hg : ∀ p ∈ glbs, p.1 < W.heap.size ∧ some p.1 ∉ ([] : List (Option Nat)) ∧ ∃ t fz, W.heap[p.1]? = some (.cells p.2 t fz)) (ha : AV.satL (fun _ => False) [] [] W args vs) :
    Calls P f vs.toArray W fun e w' => e = .returned (.bool b) ∧ Below W.heap.size W w' := by
  refine (h (fun _ => False) [] W vs ⟨rfl, (fun _ h => h.elim), (fun _ h => nomatch h), (fun _ _ _ h => by cases h), (fun _ _ h => by cases h), hg⟩ ha).mono ?_
  intro e w' ⟨v, κ', he, hv, _, tr⟩
  refine ⟨?_, tr.os, tr.tape, tr.output, tr.size, fun k hk => tr.old k hk (by simp)⟩
  rw [he]
  have : v = .bool b := by simpa [AV.sat, Dat.sat] using hv
  rw [this]
end Go.Proofs.YtaclmbbiegklcaaDoor
end
section
namespace Go.Proofs.YtaclmbbiegklcaaDoor
open Go.ChangeShapes Go.WideShapes Go.ChangeAt Go.RowKit
section
variable {H : Type} {enc : TypeId × Value → H} {P : Program} {w : World} {base : Nat} {spare : Nat → Bool} {held : Bool}
def Opens (enc : TypeId × Value → H) (P : Program) (w : World) (base : Nat) (spare : Nat → Bool) (held : Bool) (t : TypeId) {α : Type} (f : α → List Dat) (ok : α → Prop) : Prop :=
  ∀ (fuel : Nat) (cs : List Value) (x : DataW H × List MemPlace), DataW.trod enc P w base spare held fuel t cs = some x →
    ∃ a, ok a ∧ (f a).length = cs.length ∧ ∀ (j : Nat) (y : Dat), (f a)[j]? = some y → ∃ u, cs[j]? = some u ∧ u.oneCell' = true ∧ Dat.sat (badK (fun _ => False) []) w y u
theorem opens_one {t : TypeId} {α : Type} {g : α → Dat} {ok : α → Prop} (h : ∀ (fuel : Nat) (cs : List Value) (x : DataW H × List MemPlace), DataW.trod enc P w base spare held fuel t cs = some x → ∃ a u, ok a ∧ cs = [u] ∧ u.oneCell' = true ∧ Dat.sat (badK (fun _ => False) []) w (g a) u) : Opens enc P w base spare held t (fun a => [g a]) ok := fun fuel cs x hx => by
  obtain ⟨a, u, h1, rfl, h2, h3⟩ := h fuel cs x hx
  refine ⟨a, h1, rfl, fun j y hy => ?_⟩
  cases j with
  | succ j => simp at hy
  | zero =>
    simp only [List.getElem?_cons_zero, Option.some.injEq] at hy
    subst hy
    exact ⟨u, rfl, h2, h3⟩
theorem opens_string {t : TypeId} (ht : P.underlying t = some .string) : Opens enc P w base spare held t sD (fun l => isB l ∧ l.length ≤ maxLen) :=
  opens_one fun fuel cs x hx => by
    obtain ⟨s, rfl, _, hs⟩ := DataW.trod_string ht hx
    refine ⟨s.data.toList.map (·.toNat), .string s, ⟨isB_nat s, by rw [List.length_map]; exact hs⟩, rfl, rfl, ?_⟩
    rw [Dat.sat, bytesOf_nat]
theorem opens_int {t : TypeId} (ht : P.underlying t = some (.int .i64)) : Opens enc P w base spare held t iD (fun n => -9223372036854775808 ≤ n ∧ n < 9223372036854775808) :=
  opens_one fun fuel cs x hx => by
    obtain ⟨n, rfl, _, hw⟩ := DataW.trod_int ht hx
    refine ⟨n, _, ?_, rfl, rfl, rfl⟩
    have h1 : IntKind.i64.max = 9223372036854775807 := by decide +kernel
    have h2 : IntKind.i64.min = -9223372036854775808 := by decide +kernel
    simp only [Lit.wf, Bool.and_eq_true, decide_eq_true_eq] at hw
    rw [h1, h2] at hw
    omega
theorem opens_bool {t : TypeId} (ht : P.underlying t = some .bool) : Opens enc P w base spare held t tD (fun _ => True) :=
  opens_one fun fuel cs x hx => by
    obtain ⟨b, rfl, _⟩ := DataW.trod_bool ht hx
    exact ⟨b, _, trivial, rfl, rfl, rfl⟩
theorem choose_list {α : Type} {Q : Nat → α → Prop} : ∀ n, (∀ i, i < n → ∃ a, Q i a) → ∃ l : List α, l.length = n ∧ ∀ i a, l[i]? = some a → Q i a
  | 0, _ => ⟨[], rfl, fun i a h => by simp at h⟩
  | n + 1, h => by
    obtain ⟨l, hl, hq⟩ := choose_list n (fun i hi => h i (by omega))
    obtain ⟨a, ha⟩ := h n (by omega)
    refine ⟨l ++ [a], by simp [hl], fun i b hb => ?_⟩
    by_cases hi : i < n
    · rw [List.getElem?_append_left (by omega)] at hb; exact hq i b hb
    · have : i = n := by
        have := (List.getElem?_eq_some_iff.1 hb).1
        simp [hl] at this; omega
      subst this
      rw [List.getElem?_append_right (by omega), hl, Nat.sub_self] at hb
      simp only [List.getElem?_cons_zero, Option.some.injEq] at hb
      subst hb; exact ha
theorem opens_slice {t e : TypeId} {sz : Nat} {α : Type} {f : α → List Dat} {ok : α → Prop} (ht : P.underlying t = some (.slice e)) (hc : P.cellsOf e = sz) (h0 : 0 < sz) (he : Opens enc P w base spare held e f ok) :
    Opens enc P w base spare held t (fun l : List α => [.sl sz (l.map f)]) (fun l => (∀ a ∈ l, ok a) ∧ l.length ≤ maxLen) :=
  opens_one fun fuel cs x hx => by
    rcases DataW.trod_slice ht hx with ⟨rfl, _⟩ | ⟨a, len, cap, elems, rest, n, _, rfl, _, hb, hl, hm, hlen, hel, _, _⟩
    · refine ⟨[], .slice none 0 0, ⟨fun a h => by simp at h, Nat.zero_le _⟩, rfl, rfl, ?_⟩
      rw [Dat.sat]
      exact ⟨none, 0, rfl, Nat.le_refl _, Nat.zero_le _, fun h => by simp at h⟩
    · have each : ∀ i, i < len → ∃ el, ok el ∧ (f el).length = sz ∧ ∀ (j : Nat) (y : Dat), (f el)[j]? = some y → ∃ u, w.cell? ((a.add (i * sz)).add j) = some u ∧ u.oneCell' = true ∧ Dat.sat (badK (fun _ => False) []) w y u := fun i hi => by
        have h1 := hel i hi
        rw [List.getElem?_eq_getElem (by omega), hc, Option.bind_eq_some_iff] at h1
        obtain ⟨cs', h2, h3⟩ := h1
        obtain ⟨_, h4, h5⟩ := World.cells?_some h2
        obtain ⟨el, k1, k2, k3⟩ := he n cs' _ h3
        refine ⟨el, k1, by omega, fun j y hy => ?_⟩
        obtain ⟨u, k4, k5, k6⟩ := k3 j y hy
        have hj : j < sz := by rw [← h4]; exact (List.getElem?_eq_some_iff.1 k4).1
        exact ⟨u, by rw [h5 j hj]; exact k4, k5, k6⟩
      obtain ⟨l, hll, hlq⟩ := choose_list len each
      refine ⟨l, .slice (some a) len cap, ⟨fun el hel2 => ?_, by omega⟩, rfl, rfl, ?_⟩
      · obtain ⟨i, hi, rfl⟩ := List.getElem_of_mem hel2
        exact (hlq i _ (List.getElem?_eq_getElem hi)).1
      · rw [Dat.sat]
        refine ⟨some a, cap, by rw [List.length_map, hll], by rw [List.length_map]; omega, hm, fun hp => ?_⟩
        rw [List.length_map] at hp
        have hfirst := hlq 0 _ (List.getElem?_eq_getElem hp)
        obtain ⟨_, k2, k3⟩ := hfirst
        obtain ⟨u, k4, _, _⟩ := k3 0 _ (List.getElem?_eq_getElem (by omega))
        have e0 : (a.add (0 * sz)).add 0 = a := by simp [Addr.add]
        rw [e0] at k4
        obtain ⟨b, o, sp⟩ := a
        have hsp : sp = none := by
          unfold World.cell? at k4
          split at k4
          · split at k4
            · cases k4
            · rename_i h1; simpa using h1
          · cases k4
        subst hsp
        have hlt : b < w.heap.size := by
          have := World.block_lt_of_cell? _ _ k4
          exact this
        refine ⟨b, o, rfl, hlt, by simp [badK], Dat.rowsSat_iff.2 fun j el hj => ?_⟩
        rw [List.getElem?_map] at hj
        cases hx : l[j]? with
        | none => rw [hx] at hj; cases hj
        | some v =>
          rw [hx] at hj
          simp only [Option.map_some, Option.some.injEq] at hj
          subst hj
          obtain ⟨_, k2', k3'⟩ := hlq j v hx
          refine ⟨k2', Dat.rowSat_iff.2 fun j2 y hy => ?_⟩
          obtain ⟨u', k4', k5', k6'⟩ := k3' j2 y hy
          refine ⟨u', ?_, k5', k6'⟩
          rw [← k4']
          congr 1
          simp only [Addr.add]
          by_cases h1 : j * sz = 0
          · rw [if_pos h1, h1]
            by_cases h2 : j2 = 0
            · rw [if_pos h2, h2]; simp
            · rw [if_neg h2]; simp
          · rw [if_neg h1]
            by_cases h2 : j2 = 0
            · rw [if_pos h2, h2]; simp
            · rw [if_neg h2]
variable {r : Reach} {b0 : Nat}
theorem cells_sl {t e : TypeId} {v : Value} (ht : P.underlying t = some (.slice e)) (h : Value.okWide P w r b0 t v) : v.cells.toList = [v] := by
  simp only [Value.okWide, ht, Cell.okWide] at h
  cases v <;> simp_all [Cell.ok, Value.cells]
end
end Go.Proofs.YtaclmbbiegklcaaDoor
end
section
namespace Go.Proofs.YtaclmbbiegklcaaDoor
open Go.ChangeShapes Go.WideShapes Go.ChangeAt Go.RowKit
section
variable {H : Type} {enc : TypeId × Value → H} {P : Program} {w : World} {base : Nat} {spare : Nat → Bool} {held : Bool}
def OpensTo (enc : TypeId × Value → H) (P : Program) (w : World) (base : Nat) (spare : Nat → Bool) (held : Bool) (t : TypeId) (k : Nat) {α : Type} (f : α → List Dat) (ok : α → Prop) : Prop :=
  ∀ (fuel : Nat) (cs : List Value) (x : DataW H × List MemPlace), DataW.trod enc P w base spare held fuel t cs = some x →
    ∃ a, ok a ∧ (f a).length = k ∧ ∀ (j : Nat) (y : Dat), (f a)[j]? = some y → ∃ u, cs[j]? = some u ∧ u.oneCell' = true ∧ Dat.sat (badK (fun _ => False) []) w y u
theorem opens_to0 {t : TypeId} : OpensTo enc P w base spare held t 0 (fun _ : Unit => []) (fun _ => True) := fun fuel cs x hx =>
  ⟨(), trivial, rfl, fun j y hy => by simp at hy⟩
theorem opens_toS {t : TypeId} {fs : Array Field} {k m : Nat} (i : Nat) {fd : Field} {α β : Type} {f : α → List Dat} {g : β → List Dat} {okf : α → Prop} {okg : β → Prop} (ht : P.underlying t = some (.struct fs)) (h : OpensTo enc P w base spare held t k f okf) (hi : fs[i]? = some fd) (ho : fd.offset = k) (hc : P.cellsOf fd.type = m) (hn : k + m ≤ P.cellsOf t)
    (hg : Opens enc P w base spare held fd.type g okg) : OpensTo enc P w base spare held t (k + m) (fun p : α × β => f p.1 ++ g p.2) (fun p => okf p.1 ∧ okg p.2) := fun fuel cs x hx => by
  obtain ⟨a, h1, h2, h3⟩ := h fuel cs x hx
  obtain ⟨y, n, hy⟩ := open_field ht hx i fd hi
  obtain ⟨_, _, _, _, hl, _, _⟩ := DataW.trod_struct ht hx
  obtain ⟨b, k1, k2, k3⟩ := hg n _ y hy
  rw [ho, hc] at k2 k3
  have hlen : ((cs.drop k).take m).length = m := by rw [List.length_take, List.length_drop]; omega
  refine ⟨(a, b), ⟨h1, k1⟩, by show (f a ++ g b).length = _; rw [List.length_append, h2, k2, hlen], fun j y hy => ?_⟩
  have hy : (f a ++ g b)[j]? = some y := hy
  by_cases hj : j < k
  · rw [List.getElem?_append_left (by omega)] at hy
    exact h3 j y hy
  · rw [List.getElem?_append_right (by omega), h2] at hy
    obtain ⟨u, q1, q2, q3⟩ := k3 _ y hy
    refine ⟨u, ?_, q2, q3⟩
    have hjm : j - k < m := by
      have := (List.getElem?_eq_some_iff.1 hy).1
      omega
    rw [List.getElem?_take, if_pos hjm, List.getElem?_drop] at q1
    rw [← q1]
    congr 1
    omega
theorem opens_all {t : TypeId} {fs : Array Field} {k : Nat} {α : Type} {f : α → List Dat} {ok : α → Prop} (ht : P.underlying t = some (.struct fs)) (hc : P.cellsOf t = k) (h : OpensTo enc P w base spare held t k f ok) : Opens enc P w base spare held t f ok := fun fuel cs x hx => by
  obtain ⟨a, h1, h2, h3⟩ := h fuel cs x hx
  obtain ⟨_, _, _, _, hl, _, _⟩ := DataW.trod_struct ht hx
  exact ⟨a, h1, by omega, h3⟩
theorem opens_agg {t : TypeId} {α : Type} {f : α → List Dat} {ok : α → Prop} {cs : List Value} {d : DataW H} {ps : List MemPlace} (h : Opens enc P w base spare held t f ok) (hv : (Value.agg cs.toArray).cells.toList = cs) (hx : DataW.Trod enc P w base spare held t (.agg cs.toArray) d ps) : ∃ a, ok a ∧ AV.sat (fun _ => False) [] [] w (.agg ((f a).map .d)) (.agg cs.toArray) := by
  obtain ⟨fuel, hf⟩ := hx
  rw [hv] at hf
  obtain ⟨a, h1, h2, h3⟩ := h fuel cs _ hf
  refine ⟨a, h1, ?_⟩
  rw [AV.sat]
  refine ⟨_, rfl, satL_of (by simp [h2]) fun j x hj => ?_⟩
  rw [List.getElem?_map] at hj
  cases hy : (f a)[j]? with
  | none => rw [hy] at hj; cases hj
  | some y =>
    rw [hy] at hj
    obtain rfl : AV.d y = x := by simpa using hj
    obtain ⟨u, q1, q2, q3⟩ := h3 j y hy
    exact ⟨u, by simpa using q1, by rw [AV.sat]; exact q3⟩
end
end Go.Proofs.YtaclmbbiegklcaaDoor
end
section
namespace Go.Proofs.YtaclmbbiegklcaaDoor
open Go.ChangeShapes Go.WideShapes Go.ChangeAt Go.RowKit
theorem bulk_one {H : Type} (d : DataW H) : 1 ≤ Rows.uptoBulk d := by
  cases d with
  | lit l => cases l <;> simp [Rows.uptoBulk]
  | nil => simp [Rows.uptoBulk]
  | ptr d => simp [Rows.uptoBulk]
  | slice elems spare => simp [Rows.uptoBulk]
  | agg parts => simp [Rows.uptoBulk]
  | iface t d => simp [Rows.uptoBulk]
  | map entries => simp [Rows.uptoBulk]
  | held h => simp [Rows.uptoBulk]
theorem bulk_app {H : Type} (l r : List (DataW H)) : Rows.uptoBulkAll (l ++ r) = Rows.uptoBulkAll l + Rows.uptoBulkAll r := by
  induction l with
  | nil => simp [Rows.uptoBulkAll]
  | cons x l ih => simp only [List.cons_append, Rows.uptoBulkAll, ih]; omega
theorem bulk_take {H : Type} (l : List (DataW H)) (i : Nat) (h : i < l.length) : Rows.uptoBulkAll (l.take (i + 1)) = Rows.uptoBulkAll (l.take i) + Rows.uptoBulk l[i] := by
  rw [List.take_succ_eq_append_getElem h, bulk_app]
  simp [Rows.uptoBulkAll]
theorem bulk_le {H : Type} (l : List (DataW H)) (i : Nat) : Rows.uptoBulkAll (l.take i) ≤ Rows.uptoBulkAll l := by
  have h := bulk_app (l.take i) (l.drop i)
  rw [List.take_append_drop] at h
  omega
theorem bulk_each {H : Type} {α : Type} (wt : α → Nat) : ∀ (l : List α) (ds : List (DataW H)), l.length = ds.length → (∀ i (h1 : i < l.length) (h2 : i < ds.length), wt l[i] ≤ Rows.uptoBulk ds[i]) → (l.map wt).sum ≤ Rows.uptoBulkAll ds
  | [], ds, _, _ => by simp
  | a :: l, [], h, _ => by simp at h
  | a :: l, d :: ds, h, hw => by
    rw [List.map_cons, List.sum_cons, Rows.uptoBulkAll]
    have h1 := hw 0 (by simp) (by simp)
    have h2 := bulk_each wt l ds (by simpa using h) (fun i h3 h4 => by
      have := hw (i + 1) (by simpa using h3) (by simpa using h4)
      simpa using this)
    simp only [List.getElem_cons_zero] at h1
    omega
section
variable {H : Type} {enc : TypeId × Value → H} {P : Program} {w : World} {base : Nat} {spare : Nat → Bool} {held : Bool}
def OpensW (enc : TypeId × Value → H) (P : Program) (w : World) (base : Nat) (spare : Nat → Bool) (held : Bool) (t : TypeId) {α : Type} (f : α → List Dat) (ok : α → Prop) (wt : α → Nat) : Prop :=
  ∀ (fuel : Nat) (cs : List Value) (x : DataW H × List MemPlace), DataW.trod enc P w base spare held fuel t cs = some x →
    ∃ a, (ok a ∧ wt a ≤ Rows.uptoBulk x.1) ∧ (f a).length = cs.length ∧ ∀ (j : Nat) (y : Dat), (f a)[j]? = some y → ∃ u, cs[j]? = some u ∧ u.oneCell' = true ∧ Dat.sat (badK (fun _ => False) []) w y u
theorem opensW_of {t : TypeId} {α : Type} {f : α → List Dat} {ok : α → Prop} (h : Opens enc P w base spare held t f ok) : OpensW enc P w base spare held t f ok (fun _ => 1) := fun fuel cs x hx => by
  obtain ⟨a, h1, h2, h3⟩ := h fuel cs x hx
  exact ⟨a, ⟨h1, bulk_one _⟩, h2, h3⟩
theorem opensW_slice {t e : TypeId} {sz : Nat} {α : Type} {f : α → List Dat} {ok : α → Prop} {wt : α → Nat} (ht : P.underlying t = some (.slice e)) (hc : P.cellsOf e = sz) (h0 : 0 < sz) (he : OpensW enc P w base spare held e f ok wt) :
    OpensW enc P w base spare held t (fun l : List α => [.sl sz (l.map f)]) (fun l => (∀ a ∈ l, ok a) ∧ l.length ≤ maxLen) (fun l => (l.map wt).sum) := fun fuel cs x hx => by
  rcases DataW.trod_slice ht hx with ⟨rfl, rfl⟩ | ⟨a, len, cap, elems, rest, n, _, rfl, rfl, hb, hl, hm, hlen, hel, _, _⟩
  · refine ⟨[], ⟨⟨fun a h => by simp at h, Nat.zero_le _⟩, by simp⟩, rfl, fun j y hy => ?_⟩
    cases j with
    | succ j => simp at hy
    | zero =>
      obtain rfl : Dat.sl sz (([] : List α).map f) = y := by simpa using hy
      refine ⟨.slice none 0 0, rfl, rfl, ?_⟩
      rw [Dat.sat]
      exact ⟨none, 0, rfl, Nat.le_refl _, Nat.zero_le _, fun h => by simp at h⟩
  · have each : ∀ i, i < len → ∃ el, (ok el ∧ ∀ (h : i < elems.length), wt el ≤ Rows.uptoBulk elems[i].1) ∧ (f el).length = sz ∧ ∀ (j : Nat) (y : Dat), (f el)[j]? = some y → ∃ u, w.cell? ((a.add (i * sz)).add j) = some u ∧ u.oneCell' = true ∧ Dat.sat (badK (fun _ => False) []) w y u := fun i hi => by
      have h1 := hel i hi
      rw [List.getElem?_eq_getElem (by omega), hc, Option.bind_eq_some_iff] at h1
      obtain ⟨cs', h2, h3⟩ := h1
      obtain ⟨_, h4, h5⟩ := World.cells?_some h2
      obtain ⟨el, ⟨k1, kw⟩, k2, k3⟩ := he n cs' _ h3
      refine ⟨el, ⟨k1, fun _ => kw⟩, by omega, fun j y hy => ?_⟩
      obtain ⟨u, k4, k5, k6⟩ := k3 j y hy
      have hj : j < sz := by rw [← h4]; exact (List.getElem?_eq_some_iff.1 k4).1
      exact ⟨u, by rw [h5 j hj]; exact k4, k5, k6⟩
    obtain ⟨l, hll, hlq⟩ := choose_list len each
    refine ⟨l, ⟨⟨fun el hel2 => ?_, by omega⟩, ?_⟩, rfl, fun j y hy => ?_⟩
    · obtain ⟨i, hi, rfl⟩ := List.getElem_of_mem hel2
      exact (hlq i _ (List.getElem?_eq_getElem hi)).1.1
    · have hbk := bulk_each wt l (elems.map (·.1)) (by rw [List.length_map]; omega) (fun i h1 h2 => by
        rw [List.length_map] at h2
        rw [List.getElem_map]
        exact (hlq i _ (List.getElem?_eq_getElem h1)).1.2 h2)
      simp only [Rows.uptoBulk]
      omega
    · cases j with
      | succ j => simp at hy
      | zero =>
      obtain rfl : Dat.sl sz (l.map f) = y := by simpa using hy
      refine ⟨.slice (some a) len cap, rfl, rfl, ?_⟩
      rw [Dat.sat]
      refine ⟨some a, cap, by rw [List.length_map, hll], by rw [List.length_map]; omega, hm, fun hp => ?_⟩
      rw [List.length_map] at hp
      have hfirst := hlq 0 _ (List.getElem?_eq_getElem hp)
      obtain ⟨_, k2, k3⟩ := hfirst
      obtain ⟨u, k4, _, _⟩ := k3 0 _ (List.getElem?_eq_getElem (by omega))
      have e0 : (a.add (0 * sz)).add 0 = a := by simp [Addr.add]
      rw [e0] at k4
      obtain ⟨b, o, sp⟩ := a
      have hsp : sp = none := by
        unfold World.cell? at k4
        split at k4
        · split at k4
          · cases k4
          · rename_i h1; simpa using h1
        · cases k4
      subst hsp
      have hlt : b < w.heap.size := by
        have := World.block_lt_of_cell? _ _ k4
        exact this
      refine ⟨b, o, rfl, hlt, by simp [badK], Dat.rowsSat_iff.2 fun j el hj => ?_⟩
      rw [List.getElem?_map] at hj
      cases hx : l[j]? with
      | none => rw [hx] at hj; cases hj
      | some v =>
        rw [hx] at hj
        simp only [Option.map_some, Option.some.injEq] at hj
        subst hj
        obtain ⟨_, k2', k3'⟩ := hlq j v hx
        refine ⟨k2', Dat.rowSat_iff.2 fun j2 y hy => ?_⟩
        obtain ⟨u', k4', k5', k6'⟩ := k3' j2 y hy
        refine ⟨u', ?_, k5', k6'⟩
        rw [← k4']
        congr 1
        simp only [Addr.add]
        by_cases h1 : j * sz = 0
        · rw [if_pos h1, h1]
          by_cases h2 : j2 = 0
          · rw [if_pos h2, h2]; simp
          · rw [if_neg h2]; simp
        · rw [if_neg h1]
          by_cases h2 : j2 = 0
          · rw [if_pos h2, h2]; simp
          · rw [if_neg h2]
def OpensToW (enc : TypeId × Value → H) (P : Program) (w : World) (base : Nat) (spare : Nat → Bool) (held : Bool) (t : TypeId) (i k : Nat) {α : Type} (f : α → List Dat) (ok : α → Prop) (wt : α → Nat) : Prop :=
  ∀ (fuel : Nat) (cs : List Value) (x : DataW H × List MemPlace), DataW.trod enc P w base spare held fuel t cs = some x →
    ∃ a, (ok a ∧ ∀ ds, x.1 = .agg ds → wt a ≤ Rows.uptoBulkAll (ds.take i)) ∧ (f a).length = k ∧ ∀ (j : Nat) (y : Dat), (f a)[j]? = some y → ∃ u, cs[j]? = some u ∧ u.oneCell' = true ∧ Dat.sat (badK (fun _ => False) []) w y u
theorem opensW_to0 {t : TypeId} : OpensToW enc P w base spare held t 0 0 (fun _ : Unit => []) (fun _ => True) (fun _ => 0) := fun fuel cs x hx =>
  ⟨(), ⟨trivial, fun _ _ => Nat.zero_le _⟩, rfl, fun j y hy => by simp at hy⟩
theorem opensW_toS {t : TypeId} {fs : Array Field} {k m : Nat} (i : Nat) {fd : Field} {α β : Type} {f : α → List Dat} {g : β → List Dat} {okf : α → Prop} {okg : β → Prop} {wf : α → Nat} {wg : β → Nat} (ht : P.underlying t = some (.struct fs)) (h : OpensToW enc P w base spare held t i k f okf wf) (hi : fs[i]? = some fd) (ho : fd.offset = k) (hc : P.cellsOf fd.type = m) (hn : k + m ≤ P.cellsOf t)
    (hg : OpensW enc P w base spare held fd.type g okg wg) : OpensToW enc P w base spare held t (i + 1) (k + m) (fun p : α × β => f p.1 ++ g p.2) (fun p => okf p.1 ∧ okg p.2) (fun p => wf p.1 + wg p.2) := fun fuel cs x hx => by
  obtain ⟨a, ⟨h1, hw⟩, h2, h3⟩ := h fuel cs x hx
  obtain ⟨xs, n, _, hxe, hl, hlen2, hget⟩ := DataW.trod_struct ht hx
  have hi2 : i < fs.size := (Array.getElem?_eq_some_iff.1 hi).1
  have hy := hget i fd hi
  rw [List.getElem?_eq_getElem (by omega)] at hy
  obtain ⟨b, ⟨k1, kw⟩, k2, k3⟩ := hg n _ _ hy
  rw [ho, hc] at k2 k3
  have hlen : ((cs.drop k).take m).length = m := by rw [List.length_take, List.length_drop]; omega
  refine ⟨(a, b), ⟨⟨h1, k1⟩, fun ds hds => ?_⟩, by show (f a ++ g b).length = _; rw [List.length_append, h2, k2, hlen], fun j y hy => ?_⟩
  · have hw2 := hw ds hds
    rw [hxe] at hds
    obtain rfl : xs.map (·.1) = ds := by injection hds
    have hil : i < (xs.map (·.1)).length := by rw [List.length_map]; omega
    rw [bulk_take _ i hil, List.getElem_map]
    dsimp only
    omega
  · have hy : (f a ++ g b)[j]? = some y := hy
    by_cases hj : j < k
    · rw [List.getElem?_append_left (by omega)] at hy
      exact h3 j y hy
    · rw [List.getElem?_append_right (by omega), h2] at hy
      obtain ⟨u, q1, q2, q3⟩ := k3 _ y hy
      refine ⟨u, ?_, q2, q3⟩
      have hjm : j - k < m := by
        have := (List.getElem?_eq_some_iff.1 hy).1
        omega
      rw [List.getElem?_take, if_pos hjm, List.getElem?_drop] at q1
      rw [← q1]
      congr 1
      omega
theorem opensW_all {t : TypeId} {fs : Array Field} {i k : Nat} {α : Type} {f : α → List Dat} {ok : α → Prop} {wt : α → Nat} (ht : P.underlying t = some (.struct fs)) (hc : P.cellsOf t = k) (h : OpensToW enc P w base spare held t i k f ok wt) : OpensW enc P w base spare held t f ok (fun a => wt a + 1) := fun fuel cs x hx => by
  obtain ⟨a, ⟨h1, hw⟩, h2, h3⟩ := h fuel cs x hx
  obtain ⟨xs, _, _, hxe, hl, _, _⟩ := DataW.trod_struct ht hx
  refine ⟨a, ⟨h1, ?_⟩, by omega, h3⟩
  have h4 := hw (xs.map (·.1)) (by rw [hxe])
  have h5 := bulk_le (xs.map (·.1)) i
  rw [hxe]
  simp only [Rows.uptoBulk]
  omega
theorem opensW_map {t : TypeId} {α β : Type} {f : α → List Dat} {ok : α → Prop} {wt : α → Nat} (h : OpensW enc P w base spare held t f ok wt) (φ : α → β) {g : β → List Dat} {okg : β → Prop} {wg : β → Nat} (he : ∀ a, ok a → (g (φ a) = f a ∧ okg (φ a)) ∧ wg (φ a) ≤ wt a) : OpensW enc P w base spare held t g okg wg := fun fuel cs x hx => by
  obtain ⟨a, ⟨h1, hw⟩, h2, h3⟩ := h fuel cs x hx
  obtain ⟨⟨e1, e2⟩, e3⟩ := he a h1
  exact ⟨φ a, ⟨e2, Nat.le_trans e3 hw⟩, by rw [e1]; exact h2, by rw [e1]; exact h3⟩
theorem opensW_arg {t : TypeId} {α : Type} {g : α → Dat} {ok : α → Prop} {wt : α → Nat} {v : Value} {d : DataW H} {ps : List MemPlace} (h : OpensW enc P w base spare held t (fun a => [g a]) ok wt) (hv : v.cells.toList = [v]) (hx : DataW.Trod enc P w base spare held t v d ps) : ∃ a, (ok a ∧ wt a ≤ Rows.uptoBulk d) ∧ AV.sat (fun _ => False) [] [] w (.d (g a)) v := by
  obtain ⟨fuel, hf⟩ := hx
  rw [hv] at hf
  obtain ⟨a, h1, _, h3⟩ := h fuel [v] _ hf
  obtain ⟨u, h4, _, h6⟩ := h3 0 (g a) rfl
  simp only [List.getElem?_cons_zero, Option.some.injEq] at h4
  subst h4
  exact ⟨a, h1, by rw [AV.sat]; exact h6⟩
end
end Go.Proofs.YtaclmbbiegklcaaDoor
end
section
namespace Go.Proofs.YtaclmbbiegklcaaDoor
open Go.ChangeShapes Go.WideShapes Go.ChangeAt Go.RowKit
set_option maxRecDepth 100000
section
variable {H : Type} {enc : TypeId × Value → H} {w : World} {base : Nat} {spare : Nat → Bool} {held : Bool}
theorem cellsI : Tryd.prog.cellsOf 3 = 1 := by kernel_rfl
theorem cells125 : Tryd.prog.cellsOf 223 = 2 := by kernel_rfl
theorem cells126 : Tryd.prog.cellsOf 224 = 4 := by kernel_rfl
theorem two_cells {fuel : Nat} {c0 c1 : Value} {a b : Int} {q : List MemPlace} (h : DataW.trod enc Tryd.prog w base spare held fuel 223 [c0, c1] = some (.agg [.lit (.int .i64 a), .lit (.int .i64 b)], q)) : c0 = .int .i64 a ∧ c1 = .int .i64 b := by
  obtain ⟨xs, n, _, hx, _, hlen, hg⟩ := DataW.trod_struct Tryd.underlying223 h
  have h0 := hg 0 _ rfl
  have h1 := hg 1 _ rfl
  obtain ⟨y0, y1, rfl⟩ : ∃ y0 y1, xs = [y0, y1] := by
    match xs, hlen with
    | [y0, y1], _ => exact ⟨_, _, rfl⟩
  replace h0 : DataW.trod enc Tryd.prog w base spare held n 3 [c0] = some y0 := by
    have e : List.take (Tryd.prog.cellsOf 3) [c0, c1] = [c0] := by rw [cellsI]; rfl
    rw [← e]; exact h0
  replace h1 : DataW.trod enc Tryd.prog w base spare held n 3 [c1] = some y1 := by
    have e : List.take (Tryd.prog.cellsOf 3) [c1] = [c1] := by rw [cellsI]; rfl
    rw [← e]; exact h1
  obtain ⟨m0, g0, e0, _⟩ := DataW.trod_int Tryd.underlying3 h0
  obtain ⟨m1, g1, e1, _⟩ := DataW.trod_int Tryd.underlying3 h1
  subst e0; subst e1
  obtain ⟨hx1, _⟩ := Prod.mk.inj hx
  simp only [List.map_cons, List.map_nil, DataW.agg.injEq, List.cons.injEq, DataW.lit.injEq, Lit.int.injEq, and_true, true_and] at hx1
  obtain ⟨rfl, rfl⟩ := hx1
  simp only [List.cons.injEq, and_true] at g0 g1
  exact ⟨g0, g1⟩
theorem fields_cells {fuel : Nat} {cs : Array Value} {q : List MemPlace} (h : DataW.trod enc Tryd.prog w base spare held fuel 224 cs.toList = some (Rows.laid_solvent_field_fields, q)) : cs = #[.int .i64 8, .int .i64 285, .int .i64 16, .int .i64 69643] := by
  obtain ⟨xs, m, _, hx, hcl, hlen, hg⟩ := DataW.trod_array Tryd.underlying224 h
  obtain ⟨l⟩ := cs
  obtain ⟨c0, c1, c2, c3, rfl⟩ := list4 (hcl.trans cells126)
  have h0 := hg 0 (by decide)
  have h1 := hg 1 (by decide)
  obtain ⟨y0, y1, rfl⟩ : ∃ y0 y1, xs = [y0, y1] := by
    match xs, hlen with
    | [y0, y1], _ => exact ⟨_, _, rfl⟩
  rw [cells125] at h0 h1
  replace h0 : DataW.trod enc Tryd.prog w base spare held m 223 [c0, c1] = some y0 := h0
  replace h1 : DataW.trod enc Tryd.prog w base spare held m 223 [c2, c3] = some y1 := h1
  obtain ⟨hx1, _⟩ := Prod.mk.inj hx
  unfold Rows.laid_solvent_field_fields at hx1
  simp only [List.map_cons, List.map_nil, DataW.agg.injEq, List.cons.injEq, and_true] at hx1
  obtain ⟨y00, y01⟩ := y0
  obtain ⟨y10, y11⟩ := y1
  obtain ⟨r0, r1⟩ := hx1
  dsimp only at r0 r1
  subst r0; subst r1
  obtain ⟨rfl, rfl⟩ := two_cells h0
  obtain ⟨rfl, rfl⟩ := two_cells h1
  rfl
theorem satL_cons {F : Nat → Prop} {own : List Ent} {κ : List (Option Nat)} {x : AV} {v : Value} {l : List AV} {vs : List Value} (h : AV.sat F own κ w x v) (hl : AV.satL F own κ w l vs) : AV.satL F own κ w (x :: l) (v :: vs) := by
  rw [AV.satL]; exact ⟨h, hl⟩
theorem satL_nil {F : Nat → Prop} {own : List Ent} {κ : List (Option Nat)} : AV.satL F own κ w [] [] := by rw [AV.satL]; trivial
end
end Go.Proofs.YtaclmbbiegklcaaDoor
end
section
namespace Go.Proofs.YtaclmbbiegklcaaDoor
open Go.RowKit
set_option linter.unusedSectionVars false
set_option maxHeartbeats 4000000
set_option maxRecDepth 100000
theorem ACalls.le {P : Program} {f : FuncId} {args args' : List AV} {r : AV} {own own' : List Ent} (h : ACalls P f args own r own') (hle : ∀ F κ w vs, AV.satL F own κ w args' vs → AV.satL F own κ w args vs) : ACalls P f args' own r own' := fun F κ w vs ho hsat => h F κ w vs ho (hle F κ w vs hsat)
theorem satL_le1 {x x' : AV} {l : List AV} (h : ∀ F own κ w u, AV.sat F own κ w x' u → AV.sat F own κ w x u) : ∀ F own κ w vs, AV.satL F own κ w (x' :: l) vs → AV.satL F own κ w (x :: l) vs := fun F own κ w vs hs => by
  cases vs with
  | nil => simp [AV.satL] at hs
  | cons v vs =>
    rw [AV.satL] at hs ⊢
    exact ⟨h _ _ _ _ _ hs.1, hs.2⟩
attribute [local irreducible] Quiet Eff OpOk AWPG ACont ABlock ACalls AGoto
end Go.Proofs.YtaclmbbiegklcaaDoor
end
section
namespace Go.Proofs.YtaclmbbiegklcaaDoor
open Go.RowKit
set_option maxHeartbeats 4000000
set_option maxRecDepth 100000
def hv0 : List Bool := [true, false, false, false, true]
attribute [local irreducible] Quiet Eff OpOk AWPG ACont ABlock ACalls AGoto
end Go.Proofs.YtaclmbbiegklcaaDoor
end
section
namespace Go.Proofs.YtaclmbbiegklcaaDoor
open Go.RowKit
set_option linter.unusedSectionVars false
abbrev mu (M a b : Nat) : Nat := Gf.mul M (modN M) a b
section
variable {M : Nat} (hM : FldM M)
theorem mu_xor (a b c : Nat) : mu M a (b ^^^ c) = mu M a b ^^^ mu M a c := Gf.mul_xor a b c
theorem xor_mu (a b c : Nat) : mu M (a ^^^ b) c = mu M a c ^^^ mu M b c := Gf.xor_mul a b c
theorem mu_zero (a : Nat) : mu M a 0 = 0 := Gf.mul_zero a
theorem zero_mu (a : Nat) : mu M 0 a = 0 := Gf.zero_mul a
include hM
theorem mu_lt {a : Nat} (ha : a < 2 ^ M) (b : Nat) : mu M a b < 2 ^ M := Gf.mul_lt (FldM.gen hM).hm (FldM.gen hM).top (FldM.gen hM).lt ha b
theorem mu_one {a : Nat} (ha : a < 2 ^ M) : mu M a 1 = a := Gf.mul_one (FldM.gen hM).hm ha
theorem one_mu {a : Nat} (ha : a < 2 ^ M) : mu M 1 a = a := Gf.one_mul ha
theorem mu_comm {a b : Nat} (ha : a < 2 ^ M) (hb : b < 2 ^ M) : mu M a b = mu M b a := Gf.mul_comm ha hb
theorem mu_assoc {a b c : Nat} (ha : a < 2 ^ M) (hb : b < 2 ^ M) (hc : c < 2 ^ M) : mu M (mu M a b) c = mu M a (mu M b c) := Gf.mul_assoc (FldM.gen hM).hm (FldM.gen hM).top (FldM.gen hM).lt ha hb hc
theorem inv_mu {a : Nat} (h0 : a ≠ 0) (ha : a < 2 ^ M) : mu M (invN M a) a = 1 ∧ mu M a (invN M a) = 1 := by
  obtain ⟨b, h1, _, h3⟩ := (FldM.gen hM).inv h0 ha
  have e := invN_eq hM ha h1 h3
  rw [e]
  exact ⟨by rw [mu_comm hM h1 ha]; exact h3, h3⟩
end
theorem xor_lt' {M a b : Nat} (ha : a < 2 ^ M) (hb : b < 2 ^ M) : a ^^^ b < 2 ^ M := Nat.xor_lt_two_pow ha hb
theorem xor_self_cancel (a b : Nat) : (a ^^^ b) ^^^ b = a := by rw [Nat.xor_assoc, Nat.xor_self, Nat.xor_zero]
theorem eq_of_xor {a b : Nat} (h : a ^^^ b = 0) : a = b := by
  have : (a ^^^ b) ^^^ b = 0 ^^^ b := by rw [h]
  rwa [xor_self_cancel, Nat.zero_xor] at this
def sg (f : Nat → Nat) : Nat → Nat
  | 0 => 0
  | n + 1 => sg f n ^^^ f n
theorem sg_congr {f g : Nat → Nat} : ∀ n, (∀ i, i < n → f i = g i) → sg f n = sg g n
  | 0, _ => rfl
  | n + 1, h => by rw [sg, sg, sg_congr n (fun i hi => h i (by omega)), h n (by omega)]
theorem sg_zero (n : Nat) : sg (fun _ => 0) n = 0 := by
  induction n with
  | zero => rfl
  | succ n ih => rw [sg, ih, Nat.xor_zero]
theorem sg_xor (f g : Nat → Nat) (n : Nat) : sg (fun i => f i ^^^ g i) n = sg f n ^^^ sg g n := by
  induction n with
  | zero => simp [sg]
  | succ n ih => rw [sg, sg, sg, ih]; exact Gf.xor4 _ _ _ _
theorem sg_mu {M : Nat} (c : Nat) (f : Nat → Nat) (n : Nat) : mu M c (sg f n) = sg (fun i => mu M c (f i)) n := by
  induction n with
  | zero => exact mu_zero c
  | succ n ih => rw [sg, sg, mu_xor, ih]
theorem sg_one {f : Nat → Nat} {k : Nat} : ∀ n, (∀ i, i < n → i ≠ k → f i = 0) → sg f n = if k < n then f k else 0
  | 0, _ => by simp [sg]
  | n + 1, h => by
    rw [sg, sg_one n (fun i hi => h i (by omega))]
    by_cases e : n = k
    · subst e; rw [if_neg (by omega), if_pos (by omega), Nat.zero_xor]
    · rw [h n (by omega) e, Nat.xor_zero]
      by_cases hk : k < n
      · rw [if_pos hk, if_pos (by omega)]
      · rw [if_neg hk, if_neg (by omega)]
def Vc (M D : Nat) (v : Nat → Nat) : Prop := ∀ x, x < D → v x < 2 ^ M
inductive Sp (M D : Nat) (S : (Nat → Nat) → Prop) : (Nat → Nat) → Prop
  | zero {v : Nat → Nat} (h : ∀ x, x < D → v x = 0) : Sp M D S v
  | step {u s v : Nat → Nat} {c : Nat} (hu : Sp M D S u) (hs : S s) (hc : c < 2 ^ M) (h : ∀ x, x < D → v x = u x ^^^ mu M c (s x)) : Sp M D S v
section
variable {M D : Nat} {S S' : (Nat → Nat) → Prop} {u v s : Nat → Nat}
theorem Sp.congr (h : Sp M D S u) (e : ∀ x, x < D → v x = u x) : Sp M D S v := by
  cases h with
  | zero h => exact .zero fun x hx => by rw [e x hx, h x hx]
  | step hu hs hc h => exact .step hu hs hc fun x hx => by rw [e x hx, h x hx]
theorem Sp.add (hu : Sp M D S u) (hv : Sp M D S v) : Sp M D S (fun x => u x ^^^ v x) := by
  induction hv with
  | zero h => exact hu.congr fun x hx => by rw [h x hx, Nat.xor_zero]
  | step h1 hs hc h ih => exact .step ih hs hc fun x hx => by rw [h x hx, Nat.xor_assoc]
theorem Sp.smul (hM : FldM M) (hS : ∀ s, S s → Vc M D s) {c : Nat} (hc : c < 2 ^ M) (hu : Sp M D S u) : Sp M D S (fun x => mu M c (u x)) := by
  induction hu with
  | zero h => exact .zero fun x hx => by rw [h x hx, mu_zero]
  | step h1 hs hc2 h ih => exact .step ih hs (mu_lt hM hc _) fun x hx => by rw [h x hx, mu_xor, mu_assoc hM hc hc2 (hS _ hs x hx)]
theorem Sp.of (hM : FldM M) (hS : ∀ s, S s → Vc M D s) (hs : S s) : Sp M D S s :=
  .step (.zero (v := fun _ => 0) fun _ _ => rfl) hs (one_lt hM) fun x hx => by rw [Nat.zero_xor, one_mu hM (hS s hs x hx)]
theorem Sp.trans (hM : FldM M) (hS' : ∀ s, S' s → Vc M D s) (h : ∀ s, S s → Sp M D S' s) (hv : Sp M D S v) : Sp M D S' v := by
  induction hv with
  | zero h => exact .zero h
  | step h1 hs hc h2 ih => exact (ih.add ((h _ hs).smul hM hS' hc)).congr h2
theorem Sp.mono (h : ∀ s, S s → S' s) (hv : Sp M D S v) : Sp M D S' v := by
  induction hv with
  | zero h => exact .zero h
  | step h1 hs hc h2 ih => exact .step ih (h _ hs) hc h2
theorem Sp.vc (hM : FldM M) (hS : ∀ s, S s → Vc M D s) (hv : Sp M D S v) : Vc M D v := by
  induction hv with
  | zero h => exact fun x hx => by rw [h x hx]; exact Nat.two_pow_pos M
  | step h1 hs hc h2 ih => exact fun x hx => by rw [h2 x hx]; exact xor_lt' (ih x hx) (mu_lt hM hc _)
theorem Sp.vanish {x : Nat} (hx : x < D) (h : ∀ s, S s → s x = 0) (hv : Sp M D S v) : v x = 0 := by
  induction hv with
  | zero h => exact h x hx
  | step h1 hs hc h2 ih => rw [h2 x hx, ih, h _ hs, mu_zero, Nat.xor_zero]
theorem Sp.sum (hM : FldM M) (hS : ∀ s, S s → Vc M D s) {c : Nat → Nat} {w : Nat → Nat → Nat} : ∀ n, (∀ j, j < n → c j < 2 ^ M ∧ Sp M D S (w j)) → Sp M D S (fun x => sg (fun j => mu M (c j) (w j x)) n)
  | 0, _ => .zero fun _ _ => rfl
  | n + 1, h => (Sp.sum hM hS n fun j hj => h j (by omega)).add ((h n (by omega)).2.smul hM hS (h n (by omega)).1)
theorem Sp.split {r : Nat → Nat} (h : Sp M D (fun s => s = r ∨ S s) v) : ∃ c u, c < 2 ^ M ∧ Sp M D S u ∧ ∀ x, x < D → v x = u x ^^^ mu M c (r x) := by
  induction h with
  | zero h => exact ⟨0, fun _ => 0, Nat.two_pow_pos M, .zero fun _ _ => rfl, fun x hx => by rw [h x hx, zero_mu, Nat.xor_zero]⟩
  | step h1 hs hc h2 ih =>
    obtain ⟨c0, u0, e1, e2, e3⟩ := ih
    rcases hs with rfl | hs
    · exact ⟨_, u0, xor_lt' e1 hc, e2, fun x hx => by rw [h2 x hx, e3 x hx, xor_mu, Nat.xor_assoc]⟩
    · refine ⟨c0, _, e1, .step e2 hs hc fun x hx => rfl, fun x hx => ?_⟩
      rw [h2 x hx, e3 x hx, Nat.xor_assoc, Nat.xor_assoc, Nat.xor_comm (mu M c0 _)]
end
end Go.Proofs.YtaclmbbiegklcaaDoor
end
section
namespace Go.Proofs.YtaclmbbiegklcaaDoor
open Go.RowKit
set_option linter.unusedSectionVars false
structure Iso (M D : Nat) (T S : (Nat → Nat) → Nat → Nat) : Prop where
  congr : ∀ u v, (∀ i, i < D → u i = v i) → ∀ i, i < D → T u i = T v i
  congrS : ∀ u v, (∀ i, i < D → u i = v i) → ∀ i, i < D → S u i = S v i
  lt : ∀ v, Vc M D v → Vc M D (T v)
  ltS : ∀ v, Vc M D v → Vc M D (S v)
  add : ∀ u v i, i < D → T (fun k => u k ^^^ v k) i = T u i ^^^ T v i
  smul : ∀ c v, c < 2 ^ M → Vc M D v → ∀ i, i < D → T (fun k => mu M c (v k)) i = mu M c (T v i)
  ts : ∀ v, Vc M D v → ∀ i, i < D → T (S v) i = v i
  st : ∀ v, Vc M D v → ∀ i, i < D → S (T v) i = v i
theorem Iso.id (M D : Nat) : Iso M D (fun v => v) (fun v => v) := ⟨fun _ _ h => h, fun _ _ h => h, fun _ h => h, fun _ h => h, fun _ _ _ _ => rfl, fun _ _ _ _ _ _ => rfl, fun _ _ _ _ => rfl, fun _ _ _ _ => rfl⟩
section
variable {M D : Nat} {T S T' S' : (Nat → Nat) → Nat → Nat}
theorem Iso.comp (h' : Iso M D T' S') (h : Iso M D T S) : Iso M D (fun v => T' (T v)) (fun v => S (S' v)) where
  congr u v e := h'.congr _ _ (h.congr u v e)
  congrS u v e := h.congrS _ _ (h'.congrS u v e)
  lt v hv := h'.lt _ (h.lt v hv)
  ltS v hv := h.ltS _ (h'.ltS v hv)
  add u v i hi := by
    rw [h'.congr _ _ (fun k hk => h.add u v k hk) i hi]
    exact h'.add _ _ i hi
  smul c v hc hv i hi := by
    rw [h'.congr _ _ (fun k hk => h.smul c v hc hv k hk) i hi]
    exact h'.smul c _ hc (h.lt v hv) i hi
  ts v hv i hi := by
    rw [h'.congr _ _ (fun k hk => h.ts _ (h'.ltS v hv) k hk) i hi]
    exact h'.ts v hv i hi
  st v hv i hi := by
    rw [h.congrS _ _ (fun k hk => h'.st _ (h.lt v hv) k hk) i hi]
    exact h.st v hv i hi
theorem Iso.zero (h : Iso M D T S) {v : Nat → Nat} (hv : ∀ i, i < D → v i = 0) (i : Nat) (hi : i < D) : T v i = 0 := by
  have h1 := h.add v v i hi
  rw [Nat.xor_self] at h1
  rw [← h1]
  exact h.congr _ _ (fun k hk => by rw [hv k hk, Nat.xor_self]) i hi
theorem Iso.sum (h : Iso M D T S) {c : Nat → Nat} {w : Nat → Nat → Nat} : ∀ n, (∀ j, j < n → c j < 2 ^ M ∧ Vc M D (w j)) → ∀ i, i < D → T (fun x => sg (fun j => mu M (c j) (w j x)) n) i = sg (fun j => mu M (c j) (T (w j) i)) n
  | 0, _, i, hi => h.zero (fun _ _ => rfl) i hi
  | n + 1, hc, i, hi => by
    show T (fun x => sg (fun j => mu M (c j) (w j x)) n ^^^ mu M (c n) (w n x)) i = _
    rw [h.add (fun x => sg (fun j => mu M (c j) (w j x)) n) (fun x => mu M (c n) (w n x)) i hi, Iso.sum h n (fun j hj => hc j (by omega)) i hi, h.smul _ _ (hc n (by omega)).1 (hc n (by omega)).2 i hi]
    rfl
theorem Iso.inj (h : Iso M D T S) {u v : Nat → Nat} (hu : Vc M D u) (hv : Vc M D v) (e : ∀ i, i < D → T u i = T v i) : ∀ i, i < D → u i = v i := fun i hi => by
  rw [← h.st u hu i hi, ← h.st v hv i hi]
  exact h.congrS _ _ e i hi
theorem iso_swap {i k : Nat} (hi : i < D) (hk : k < D) : Iso M D (fun v r => if r = i then v k else if r = k then v i else v r) (fun v r => if r = i then v k else if r = k then v i else v r) where
  congr u v e r hr := by
    (try dsimp only)
    split
    · exact e k hk
    · split
      · exact e i hi
      · exact e r hr
  congrS u v e r hr := by
    (try dsimp only)
    split
    · exact e k hk
    · split
      · exact e i hi
      · exact e r hr
  lt v hv r hr := by
    (try dsimp only)
    split
    · exact hv k hk
    · split
      · exact hv i hi
      · exact hv r hr
  ltS v hv r hr := by
    (try dsimp only)
    split
    · exact hv k hk
    · split
      · exact hv i hi
      · exact hv r hr
  add u v r hr := by
    (try dsimp only)
    split
    · rfl
    · split <;> rfl
  smul c v hc hv r hr := by
    (try dsimp only)
    split
    · rfl
    · split <;> rfl
  ts v hv r hr := by
    (try dsimp only)
    by_cases h1 : r = i
    · subst h1
      by_cases h2 : k = r
      · subst h2; simp
      · simp [h2]
    · by_cases h2 : r = k
      · subst h2; simp [h1]
      · simp [h1, h2]
  st v hv r hr := by
    (try dsimp only)
    by_cases h1 : r = i
    · subst h1
      by_cases h2 : k = r
      · subst h2; simp
      · simp [h2]
    · by_cases h2 : r = k
      · subst h2; simp [h1]
      · simp [h1, h2]
theorem iso_scale (hM : FldM M) {p f g : Nat} (hp : p < D) (hf : f < 2 ^ M) (hg : g < 2 ^ M) (h1 : mu M f g = 1) : Iso M D (fun v r => if r = p then mu M f (v p) else v r) (fun v r => if r = p then mu M g (v p) else v r) where
  congr u v e r hr := by
    show (if _ then _ else _) = if _ then _ else _
    split
    · rw [e p hp]
    · exact e r hr
  congrS u v e r hr := by
    show (if _ then _ else _) = if _ then _ else _
    split
    · rw [e p hp]
    · exact e r hr
  lt v hv r hr := by
    (try dsimp only)
    split
    · exact mu_lt hM hf _
    · exact hv r hr
  ltS v hv r hr := by
    (try dsimp only)
    split
    · exact mu_lt hM hg _
    · exact hv r hr
  add u v r hr := by
    (try dsimp only)
    split
    · exact mu_xor _ _ _
    · rfl
  smul c v hc hv r hr := by
    (try dsimp only)
    split
    · rw [← mu_assoc hM hf hc (hv p hp), mu_comm hM hf hc, mu_assoc hM hc hf (hv p hp)]
    · rfl
  ts v hv r hr := by
    (try dsimp only)
    by_cases h : r = p
    · subst h
      rw [if_pos rfl, if_pos rfl, ← mu_assoc hM hf hg (hv r hr), h1, one_mu hM (hv r hr)]
    · rw [if_neg h, if_neg h]
  st v hv r hr := by
    (try dsimp only)
    by_cases h : r = p
    · subst h
      rw [if_pos rfl, if_pos rfl, ← mu_assoc hM hg hf (hv r hr), mu_comm hM hg hf, h1, one_mu hM (hv r hr)]
    · rw [if_neg h, if_neg h]
theorem iso_clear (hM : FldM M) {p : Nat} {g : Nat → Nat} (hp : p < D) (hg : ∀ r, r < D → g r < 2 ^ M) : Iso M D (fun v r => if r = p then v p else v r ^^^ mu M (g r) (v p)) (fun v r => if r = p then v p else v r ^^^ mu M (g r) (v p)) where
  congr u v e r hr := by
    (try dsimp only)
    split
    · exact e p hp
    · rw [e r hr, e p hp]
  congrS u v e r hr := by
    (try dsimp only)
    split
    · exact e p hp
    · rw [e r hr, e p hp]
  lt v hv r hr := by
    (try dsimp only)
    split
    · exact hv p hp
    · exact xor_lt' (hv r hr) (mu_lt hM (hg r hr) _)
  ltS v hv r hr := by
    (try dsimp only)
    split
    · exact hv p hp
    · exact xor_lt' (hv r hr) (mu_lt hM (hg r hr) _)
  add u v r hr := by
    (try dsimp only)
    split
    · rfl
    · rw [mu_xor]; exact Gf.xor4 _ _ _ _
  smul c v hc hv r hr := by
    (try dsimp only)
    split
    · rfl
    · rw [mu_xor, ← mu_assoc hM (hg r hr) hc (hv p hp), mu_comm hM (hg r hr) hc, mu_assoc hM hc (hg r hr) (hv p hp)]
  ts v hv r hr := by
    (try dsimp only)
    by_cases h : r = p
    · subst h; simp
    · rw [if_neg h, if_neg h, if_pos rfl, xor_self_cancel]
  st v hv r hr := by
    (try dsimp only)
    by_cases h : r = p
    · subst h; simp
    · rw [if_neg h, if_neg h, if_pos rfl, xor_self_cancel]
end
structure RedTo (M R C n : Nat) (L A : List Nat) (pv : List Nat) (T S : (Nat → Nat) → Nat → Nat) : Prop where
  iso : Iso M R T S
  col : ∀ c, c < C → ∀ r, r < R → gt C A r c = T (fun r => gt C L r c) r
  piv : ∀ q, q < pv.length → pv.getD q 0 < n ∧ ∀ r, r < R → gt C A r (pv.getD q 0) = if r = q then 1 else 0
  inc : ∀ q q', q < q' → q' < pv.length → pv.getD q 0 < pv.getD q' 0
  low : ∀ j, j < n → ∀ r, r < R → gt C A r j ≠ 0 → r < pv.length ∧ pv.getD r 0 ≤ j
theorem getD_app {α : Type} (l : List α) (x d : α) (q : Nat) : (l ++ [x]).getD q d = if q < l.length then l.getD q d else if q = l.length then x else d := by
  simp only [List.getD_eq_getElem?_getD]
  by_cases h : q < l.length
  · rw [if_pos h, List.getElem?_append_left h]
  · rw [if_neg h, List.getElem?_append_right (by omega)]
    by_cases e : q = l.length
    · subst e; simp
    · rw [if_neg e]
      have : q - l.length ≠ 0 := by omega
      obtain ⟨m, hm⟩ := Nat.exists_eq_succ_of_ne_zero this
      rw [hm]; simp
theorem red_to {M R C : Nat} {L : List Nat} (hM : FldM M) (hn : L.length = R * C) (hL : ∀ x ∈ L, x < 2 ^ M) : ∀ n, n ≤ C → ∃ T S, RedTo M R C n L (red M R C L n).1 (red M R C L n).2 T S
  | 0, _ => ⟨_, _, Iso.id M R, fun _ _ _ _ => rfl, fun q hq => by simp [red] at hq, fun q q' _ hq => by simp [red] at hq, fun j hj => by omega⟩
  | n + 1, hnC => by
    obtain ⟨T, S, ih⟩ := red_to hM hn hL n (by omega)
    have hok := red_ok hM hn hL n
    rw [red]
    generalize red M R C L n = s at ih hok
    obtain ⟨A, pv⟩ := s
    have h1 := hok.len
    have h2 := hok.lt
    have h3 := hok.pr
    dsimp only at ih h1 h2 h3
    have hf := findP_le n A (R - pv.length) pv.length (C := C)
    have hs := findP_spec (C := C) (L := A) n (R - pv.length) pv.length
    rw [redStep]
    dsimp only
    generalize findP C n A (R - pv.length) pv.length = i at hf hs
    have hAl : ∀ r c, gt C A r c < 2 ^ M := fun r c => getD_lt h2 _
    by_cases hiR : i = R
    · rw [if_pos hiR]
      refine ⟨T, S, ih.iso, ih.col, fun q hq => ⟨Nat.lt_succ_of_lt (ih.piv q hq).1, (ih.piv q hq).2⟩, ih.inc, fun j hj r hr h0 => ?_⟩
      by_cases hjn : j < n
      · exact ih.low j hjn r hr h0
      · have : j = n := by omega
        subst this
        by_cases hrp : r < pv.length
        · exact ⟨hrp, Nat.le_of_lt (ih.piv r hrp).1⟩
        · exact absurd (hs.1 r (by omega) (by omega)) h0
    · rw [if_neg hiR]
      have hiR' : i < R := by omega
      have hp : pv.length < R := by omega
      have hne := hs.2 (by omega)
      have hnC' : n < C := by omega
      have s1 : ∀ r c, c < C → gt C (swapAt (i * C) (pv.length * C) A C) r c = if r = i then gt C A pv.length c else if r = pv.length then gt C A i c else gt C A r c := fun r c hc => gt_swap h1 hiR' hp hc
      have l1 : (swapAt (i * C) (pv.length * C) A C).length = R * C := by rw [swapAt_length]; exact h1
      have b1 : ∀ x ∈ swapAt (i * C) (pv.length * C) A C, x < 2 ^ M := swapAt_lt _ _ h2 _
      have hx : gt C (swapAt (i * C) (pv.length * C) A C) pv.length n = gt C A i n := by
        rw [s1 _ _ hnC']
        by_cases e : pv.length = i
        · rw [if_pos e, e]
        · rw [if_neg e, if_pos rfl]
      have hxe : (swapAt (i * C) (pv.length * C) A C).getD (pv.length * C + n) 0 = gt C A i n := hx
      rw [hxe]
      generalize swapAt (i * C) (pv.length * C) A C = L1 at *
      have hxl := hAl i n
      obtain ⟨v1, v2⟩ := inv_mu hM hne hxl
      have hvl : invN M (gt C A i n) < 2 ^ M := invN_lt _
      generalize invN M (gt C A i n) = f at *
      generalize hxx : gt C A i n = x at *
      have s2 : ∀ r c, c < C → gt C (scaleAt M f (pv.length * C) L1 C) r c = if r = pv.length then mu M f (gt C L1 pv.length c) else gt C L1 r c := fun r c hc => gt_scale l1 hp hc
      have l2 : (scaleAt M f (pv.length * C) L1 C).length = R * C := by rw [scaleAt_length]; exact l1
      have b2 : ∀ y ∈ scaleAt M f (pv.length * C) L1 C, y < 2 ^ M := scaleAt_lt hM hvl _ b1 _
      generalize scaleAt M f (pv.length * C) L1 C = L2 at *
      have s3 : ∀ r c, r < R → c < C → gt C (clearAt M C n pv.length L2 R) r c = if r = pv.length then gt C L2 pv.length c else gt C L2 r c ^^^ mu M (gt C L2 r n) (gt C L2 pv.length c) := fun r c hr hc => gt_clear l2 hnC' hr hc
      generalize clearAt M C n pv.length L2 R = A2 at *
      have hg2 : ∀ r, r < R → gt C L2 r n < 2 ^ M := fun r _ => getD_lt b2 _
      -- the column of an earlier pivot or of none: nothing changes there
      have keep : ∀ c, c < C → (∀ r, pv.length ≤ r → r < R → gt C A r c = 0) → ∀ r, r < R → gt C A2 r c = gt C A r c := fun c hc hz r hr => by
        have z1 : ∀ r, r < R → gt C L1 r c = gt C A r c := fun r hr => by
          rw [s1 r c hc]
          by_cases e1 : r = i
          · rw [if_pos e1, e1, hz _ (Nat.le_refl _) hp, hz i (by omega) hiR']
          · rw [if_neg e1]
            by_cases e2 : r = pv.length
            · rw [if_pos e2, e2, hz _ (Nat.le_refl _) hp, hz i (by omega) hiR']
            · rw [if_neg e2]
        have z2 : ∀ r, r < R → gt C L2 r c = gt C A r c := fun r hr => by
          rw [s2 r c hc]
          by_cases e2 : r = pv.length
          · rw [if_pos e2, z1 _ hp, e2, hz _ (Nat.le_refl _) hp, mu_zero]
          · rw [if_neg e2, z1 r hr]
        rw [s3 r c hr hc]
        by_cases e2 : r = pv.length
        · rw [if_pos e2, e2, z2 _ hp]
        · rw [if_neg e2, z2 r hr, z2 _ hp, hz _ (Nat.le_refl _) hp, mu_zero, Nat.xor_zero]
      have pivn : ∀ r, r < R → gt C A2 r n = if r = pv.length then 1 else 0 := fun r hr => by
        have e0 : gt C L2 pv.length n = 1 := by rw [s2 _ _ hnC', if_pos rfl, hx]; exact v1
        rw [s3 r n hr hnC', e0]
        by_cases e2 : r = pv.length
        · rw [if_pos e2, if_pos e2]
        · rw [if_neg e2, if_neg e2, mu_one hM (hg2 r hr), Nat.xor_self]
      have i1 := iso_swap (M := M) (D := R) hiR' hp
      have i2 := iso_scale (M := M) (D := R) hM hp hvl hxl v1
      have i3 := iso_clear (M := M) (D := R) hM hp hg2
      have i4 := (i3.comp (i2.comp i1)).comp ih.iso
      refine ⟨_, _, i4, fun c hc r hr => ?_, fun q hq => ?_, fun q q' hqq hq => ?_, fun j hj r hr h0 => ?_⟩
      · have e1 : ∀ k, k < R → gt C A k c = T (fun r => gt C L r c) k := ih.col c hc
        have := (i3.comp (i2.comp i1)).congr _ _ e1 r hr
        rw [← this]
        rw [s3 r c hr hc, s2 _ _ hc, s2 _ _ hc, s1 _ _ hc, s1 _ _ hc]
      · rw [List.length_append, List.length_singleton] at hq
        rw [getD_app]
        by_cases hq1 : q < pv.length
        · rw [if_pos hq1]
          obtain ⟨q1, q2⟩ := ih.piv q hq1
          refine ⟨by omega, fun r hr => ?_⟩
          rw [keep _ (by omega) (fun r h4 h5 => by rw [q2 r h5, if_neg (by omega)]) r hr, q2 r hr]
        · have : q = pv.length := by omega
          subst this
          rw [if_neg (by omega), if_pos rfl]
          exact ⟨by omega, pivn⟩
      · rw [List.length_append, List.length_singleton] at hq
        rw [getD_app, getD_app, if_pos (by omega)]
        by_cases hq1 : q' < pv.length
        · rw [if_pos hq1]; exact ih.inc q q' hqq hq1
        · rw [if_neg hq1, if_pos (by omega)]
          exact (ih.piv q (by omega)).1
      · rw [List.length_append, List.length_singleton]
        by_cases hjn : j < n
        · have hz : ∀ r, pv.length ≤ r → r < R → gt C A r j = 0 := fun r h4 h5 => by
            by_cases e : gt C A r j = 0
            · exact e
            · have := (ih.low j hjn r h5 e).1; (try dsimp only at this); omega
          rw [keep j (by omega) hz r hr] at h0
          have := ih.low j hjn r hr h0
          (try dsimp only at this)
          refine ⟨by omega, ?_⟩
          rw [getD_app, if_pos this.1]; exact this.2
        · have : j = n := by omega
          subst this
          rw [pivn r hr] at h0
          have e : r = pv.length := by
            by_cases e : r = pv.length
            · exact e
            · rw [if_neg e] at h0; exact absurd rfl h0
          subst e
          refine ⟨by omega, ?_⟩
          rw [getD_app, if_neg (by omega), if_pos rfl]
          exact Nat.le_refl _
end Go.Proofs.YtaclmbbiegklcaaDoor
end
section
namespace Go.Proofs.YtaclmbbiegklcaaDoor
open Go.RowKit
set_option linter.unusedSectionVars false
theorem gt_trAt {R C : Nat} {L B : List Nat} (hB : B.length = C * R) : ∀ n, n ≤ R * C → ∀ r c, r < R → c < C → gt R (trAt R C L B n) c r = if r * C + c < n then gt C L r c else gt R B c r
  | 0, _, r, c, _, _ => by rw [if_neg (by omega)]; rfl
  | n + 1, hn, r, c, hr, hc => by
    have ih := gt_trAt (L := L) hB n (by omega) r c hr hc
    have hC : 0 < C := by omega
    have h1 : n % C < C := Nat.mod_lt _ hC
    have h2 : n / C < R := by
      rw [Nat.div_lt_iff_lt_mul hC]; omega
    have h3 : n / C * C + n % C = n := by rw [Nat.mul_comm]; exact Nat.div_add_mod n C
    rw [trAt, gt_set (R := C) (C := R) (by rw [trAt_length]; exact hB) h1 h2 hr, ih]
    by_cases e : c = n % C ∧ r = n / C
    · obtain ⟨e1, e2⟩ := e
      rw [if_pos ⟨e1, e2⟩, if_pos (by rw [e1, e2, h3]; omega)]
      show L.getD n 0 = L.getD (r * C + c) 0
      rw [e1, e2, h3]
    · rw [if_neg e]
      have hne : r * C + c ≠ n := fun h => e (by
        rw [← h3] at h
        obtain ⟨a, b⟩ := idx_inj hc h1 h
        exact ⟨b, a⟩)
      by_cases hlt : r * C + c < n
      · rw [if_pos hlt, if_pos (by omega)]
      · rw [if_neg hlt, if_neg (by omega)]
theorem gt_tr {R C : Nat} {L : List Nat} {r c : Nat} (hr : r < R) (hc : c < C) : gt R (trN R C L) c r = gt C L r c := by
  unfold trN
  rw [gt_trAt (by simp) _ (Nat.le_refl _) r c hr hc, if_pos (idx_lt hr hc)]
theorem gt_pick {R C : Nat} {l : List Nat} (hn : l.length = R * C) {c : Nat} (hc : c < C) : ∀ (is : List Nat), (∀ i ∈ is, i < R) → ∀ k, k < is.length → gt C (pickN C l is) k c = gt C l (is.getD k 0) c
  | [], _, k, hk => by simp at hk
  | i :: is, h, k, hk => by
    have hi := h i (by simp)
    have h1 := Nat.mul_le_mul_right C (show i + 1 ≤ R from hi)
    rw [Nat.add_mul, Nat.one_mul] at h1
    have hl : ((l.drop (i * C)).take C).length = C := by rw [List.length_take, List.length_drop]; omega
    unfold gt
    rw [pickN, List.getD_eq_getElem?_getD]
    cases k with
    | zero =>
      rw [List.getElem?_append_left (by omega), Nat.zero_mul, Nat.zero_add, List.getElem?_take_of_lt hc, List.getElem?_drop]
      rfl
    | succ k =>
      rw [List.getElem?_append_right (by rw [hl, Nat.add_mul]; omega), hl, show (k + 1) * C + c - C = k * C + c by rw [Nat.add_mul]; omega]
      have := gt_pick hn hc is (fun x hx => h x (by simp [hx])) k (by simpa using hk)
      unfold gt at this
      rw [List.getD_eq_getElem?_getD] at this
      rw [this]
      rfl
def U (D : Nat) (gen : List Nat) (u : Nat) : Nat → Nat := fun x => gt D gen u x
theorem U_vc {M R D : Nat} {gen : List Nat} (h : MxOk M R D gen) (u : Nat) : Vc M D (U D gen u) := fun x _ => getD_lt h.e _
theorem pres_inc (hv : List Bool) (n : Nat) : (presAt hv n).Pairwise (· < ·) := List.Pairwise.filter _ List.pairwise_lt_range
theorem getD_inc {l : List Nat} (h : l.Pairwise (· < ·)) {q q' : Nat} (hq : q < q') (hq' : q' < l.length) : l.getD q 0 < l.getD q' 0 := by
  rw [List.getD_eq_getElem?_getD, List.getD_eq_getElem?_getD, List.getElem?_eq_getElem hq', List.getElem?_eq_getElem (show q < l.length by omega)]
  exact List.pairwise_iff_getElem.1 h q q' _ _ hq
theorem getD_mem {l : List Nat} {q : Nat} (h : q < l.length) : l.getD q 0 ∈ l := by
  rw [List.getD_eq_getElem?_getD, List.getElem?_eq_getElem h]
  exact List.getElem_mem h
theorem mem_pres {hv : List Bool} {u : Nat} : u ∈ presN hv ↔ hv.getD u false = true := by
  unfold presN presAt
  rw [List.mem_filter, List.mem_range]
  constructor
  · exact fun h => h.2
  · intro h
    refine ⟨?_, h⟩
    by_cases hl : u < hv.length
    · exact hl
    · rw [List.getD_eq_getElem?_getD, List.getElem?_eq_none (by omega)] at h
      cases h
structure Bas (M D : Nat) (gen : List Nat) (hv : List Bool) (B : List Nat) (T S : (Nat → Nat) → Nat → Nat) : Prop where
  iso : Iso M D T S
  le : B.length ≤ D
  mem : ∀ q, q < B.length → hv.getD (B.getD q 0) false = true
  inc : ∀ q q', q < q' → q' < B.length → B.getD q 0 < B.getD q' 0
  unit : ∀ q, q < B.length → ∀ r, r < D → T (U D gen (B.getD q 0)) r = if r = q then 1 else 0
  low : ∀ u, hv.getD u false = true → ∀ r, r < D → T (U D gen u) r ≠ 0 → r < B.length ∧ B.getD r 0 ≤ u
theorem map_getD {α : Type} {f : Nat → α} {l : List Nat} {q : Nat} (d : α) (h : q < l.length) : (l.map f).getD q d = f (l.getD q 0) := by
  rw [List.getD_eq_getElem?_getD, List.getD_eq_getElem?_getD, List.getElem?_map, List.getElem?_eq_getElem h]
  rfl
theorem basis_to {M D : Nat} {ps : List (List Nat)} {hv : List Bool} (h : CodeOk M D ps) (hl : hv.length = D + ps.length) : ∃ T S, Bas M D (genN D ps) hv (basisN M D ps hv) T S := by
  have hgok := gen_ok h
  have hplt : ∀ x ∈ presN hv, x < D + ps.length := fun x hx => by have := presAt_lt hx; omega
  have hpl : (presN hv).length ≤ 32 := by have := presAt_length hv hv.length; have := h.w; show (presAt hv hv.length).length ≤ 32; omega
  have hpk := pick_ok hgok hplt hpl
  have hbl := basis_len h hl
  have hcol : ∀ c, c < (presN hv).length → ∀ r, r < D → gt (presN hv).length (trN (presN hv).length D (pickN D (genN D ps) (presN hv))) r c = U D (genN D ps) ((presN hv).getD c 0) r := fun c hc r hr => by
    rw [gt_tr hc hr, gt_pick hgok.n hr _ hplt c hc]
    rfl
  obtain ⟨T, S, hr⟩ := red_to (M := M) (R := D) (C := (presN hv).length) (L := trN (presN hv).length D (pickN D (genN D ps) (presN hv))) h.f (trN_length _ _ _) (trN_lt hpk.e) (presN hv).length (Nat.le_refl _)
  have hB : basisN M D ps hv = (red M D (presN hv).length (trN (presN hv).length D (pickN D (genN D ps) (presN hv))) (presN hv).length).2.map fun j => (presN hv).getD j 0 := rfl
  generalize (red M D (presN hv).length (trN (presN hv).length D (pickN D (genN D ps) (presN hv))) (presN hv).length).1 = A at *
  generalize (red M D (presN hv).length (trN (presN hv).length D (pickN D (genN D ps) (presN hv))) (presN hv).length).2 = pv at *
  have hBl : (basisN M D ps hv).length = pv.length := by rw [hB, List.length_map]
  have hBq : ∀ q, q < pv.length → (basisN M D ps hv).getD q 0 = (presN hv).getD (pv.getD q 0) 0 := fun q hq => by rw [hB]; exact map_getD 0 hq
  have hT : ∀ c, c < (presN hv).length → ∀ r, r < D → T (U D (genN D ps) ((presN hv).getD c 0)) r = gt (presN hv).length A r c := fun c hc r hr' => by
    rw [hr.col c hc r hr']
    exact hr.iso.congr _ _ (fun k hk => (hcol c hc k hk).symm) r hr'
  refine ⟨T, S, hr.iso, hbl, fun q hq => ?_, fun q q' h1 h2 => ?_, fun q hq r hr' => ?_, fun u hu r hr' h0 => ?_⟩
  · rw [hBl] at hq
    rw [hBq q hq]
    exact mem_pres.1 (getD_mem (hr.piv q hq).1)
  · rw [hBl] at h2
    rw [hBq q (by omega), hBq q' h2]
    exact getD_inc (pres_inc hv _) (hr.inc q q' h1 h2) (hr.piv q' h2).1
  · rw [hBl] at hq
    rw [hBq q hq, hT _ (hr.piv q hq).1 r hr']
    exact (hr.piv q hq).2 r hr'
  · obtain ⟨c, hc, e⟩ := List.getElem_of_mem (mem_pres.2 hu)
    have e2 : (presN hv).getD c 0 = u := by rw [List.getD_eq_getElem?_getD, List.getElem?_eq_getElem hc]; exact e
    rw [← e2, hT c hc r hr'] at h0
    obtain ⟨h1, h2⟩ := hr.low c hc r hr' h0
    refine ⟨by omega, ?_⟩
    rw [hBq r h1, ← e2]
    by_cases e3 : pv.getD r 0 = c
    · rw [e3]; exact Nat.le_refl _
    · exact Nat.le_of_lt (getD_inc (pres_inc hv _) (by omega) hc)
section
variable {M D : Nat} {gen : List Nat} {hv : List Bool} {B : List Nat} {T S : (Nat → Nat) → Nat → Nat}
def BS (D : Nat) (gen B : List Nat) : (Nat → Nat) → Prop := fun s => ∃ q, q < B.length ∧ s = U D gen (B.getD q 0)
theorem Bas.span (hM : FldM M) (hg : ∀ u, Vc M D (U D gen u)) (h : Bas M D gen hv B T S) {v : Nat → Nat} (hv' : Vc M D v) (hz : ∀ r, r < D → B.length ≤ r → T v r = 0) : Sp M D (BS D gen B) v := by
  have hS : ∀ s, BS D gen B s → Vc M D s := fun s ⟨q, _, e⟩ => by rw [e]; exact hg _
  have hsum := Sp.sum (M := M) (D := D) (S := BS D gen B) hM hS (c := fun q => T v q) (w := fun q => U D gen (B.getD q 0)) B.length (fun q hq => ⟨h.iso.lt v hv' q (by have := h.le; omega), Sp.of hM hS ⟨q, hq, rfl⟩⟩)
  refine hsum.congr fun x hx => ?_
  have hw : Vc M D (fun x => sg (fun q => mu M (T v q) (U D gen (B.getD q 0) x)) B.length) := hsum.vc hM hS
  refine (h.iso.inj hv' hw fun i hi => ?_) x hx
  rw [h.iso.sum B.length (fun q hq => ⟨h.iso.lt v hv' q (by have := h.le; omega), hg _⟩) i hi]
  rw [sg_congr B.length (fun q hq => show mu M (T v q) (T (U D gen (B.getD q 0)) i) = if q = i then T v i else 0 by
    rw [h.unit q hq i hi]
    by_cases e : i = q
    · subst e; rw [if_pos rfl, if_pos rfl, mu_one hM (h.iso.lt v hv' i hi)]
    · rw [if_neg e, if_neg (fun e2 => e e2.symm), mu_zero])]
  rw [sg_one (k := i) B.length (fun q _ hne => if_neg hne), if_pos rfl]
  by_cases e : i < B.length
  · rw [if_pos e]
  · rw [if_neg e, hz i hi (by omega)]
theorem Bas.present (hM : FldM M) (hg : ∀ u, Vc M D (U D gen u)) (h : Bas M D gen hv B T S) {u : Nat} (hu : hv.getD u false = true) : Sp M D (BS D gen B) (U D gen u) :=
  h.span hM hg (hg u) fun r hr hle => by
    by_cases e : T (U D gen u) r = 0
    · exact e
    · have := (h.low u hu r hr e).1; omega
end
end Go.Proofs.YtaclmbbiegklcaaDoor
end
section
namespace Go.Proofs.YtaclmbbiegklcaaDoor
open Go.RowKit
set_option linter.unusedSectionVars false
theorem addV_get (M f : Nat) (T l : List Nat) : ∀ k, k ≤ T.length → ∀ i, i < T.length → (addV M f T l k).getD i 0 = if i < k then T.getD i 0 ^^^ mu M f (l.getD i 0) else T.getD i 0
  | 0, _, i, _ => by rw [if_neg (by omega)]; rfl
  | k + 1, hk, i, hi => by
    have ih := addV_get M f T l k (by omega)
    rw [addV, set_getD _ _ _ _ (by rw [addV_length]; exact hi)]
    by_cases e : i = k
    · subst e
      rw [if_pos rfl, if_pos (by omega), ih i hi, if_neg (by omega)]
    · rw [if_neg e, ih i hi]
      by_cases h : i < k
      · rw [if_pos h, if_pos (by omega)]
      · rw [if_neg h, if_neg (by omega)]
abbrev Rd := Nat × List Nat × List Nat
section
variable {M D n : Nat} {s : List Nat × List Nat} {r : Rd}
theorem subR_1 (hs : SubOk M D n s) (hr : RedRow M D n r) {x : Nat} (hx : x < D) : (subR M s r).1.getD x 0 = s.1.getD x 0 ^^^ mu M (s.1.getD r.1 0) (r.2.1.getD x 0) := by
  unfold subR
  by_cases e : s.1.getD r.1 0 = 0
  · rw [if_pos e, e, zero_mu, Nat.xor_zero]
  · rw [if_neg e]
    show (addV M _ s.1 r.2.1 r.2.1.length).getD x 0 = _
    rw [addV_get _ _ _ _ _ (by rw [hs.l1, hr.l1]; exact Nat.le_refl _) x (by rw [hs.l1]; exact hx), if_pos (by rw [hr.l1]; exact hx)]
theorem subR_2 (hs : SubOk M D n s) (hr : RedRow M D n r) {q : Nat} (hq : q < n) : (subR M s r).2.getD q 0 = s.2.getD q 0 ^^^ mu M (s.1.getD r.1 0) (r.2.2.getD q 0) := by
  unfold subR
  by_cases e : s.1.getD r.1 0 = 0
  · rw [if_pos e, e, zero_mu, Nat.xor_zero]
  · rw [if_neg e]
    show (addV M _ s.2 r.2.2 r.2.2.length).getD q 0 = _
    rw [addV_get _ _ _ _ _ (by rw [hs.l2, hr.l2]; exact Nat.le_refl _) q (by rw [hs.l2]; exact hq), if_pos (by rw [hr.l2]; exact hq)]
end
structure Rw (M D n : Nat) (W : Nat → Nat → Nat) (r : Rd) : Prop where
  ok : RedRow M D n r
  comb : ∀ x, x < D → r.2.1.getD x 0 = sg (fun q => mu M (r.2.2.getD q 0) (W q x)) n
  lead : r.2.1.getD r.1 0 = 1
def Tri (rows : List Rd) : Prop := rows.Pairwise fun a b => b.2.1.getD a.1 0 = 0
def RS (rows : List Rd) : (Nat → Nat) → Prop := fun s => ∃ r, r ∈ rows ∧ s = fun x => r.2.1.getD x 0
section
variable {M D n : Nat} {W : Nat → Nat → Nat} {rows : List Rd}
theorem RS_vc (h : ∀ r ∈ rows, Rw M D n W r) : ∀ s, RS rows s → Vc M D s := fun s ⟨r, hr, e⟩ x hx => by rw [e]; exact getD_lt (h r hr).ok.e1 _
theorem tri_zero (hM : FldM M) : ∀ {rows : List Rd}, (∀ r ∈ rows, Rw M D n W r) → Tri rows → ∀ {v : Nat → Nat}, Sp M D (RS rows) v → (∀ r ∈ rows, v r.1 = 0) → ∀ x, x < D → v x = 0
  | [], _, _, v, hv, _ => by
    cases hv with
    | zero h => exact h
    | step _ hs _ _ => obtain ⟨r, hr, _⟩ := hs; simp at hr
  | r :: rows, h, ht, v, hv, h0 => by
    have hr := h r (by simp)
    obtain ⟨t1, t2⟩ := List.pairwise_cons.1 ht
    have hv2 : Sp M D (fun s => s = (fun x => r.2.1.getD x 0) ∨ RS rows s) v := hv.mono fun s ⟨a, ha, e⟩ => by
      rcases List.mem_cons.1 ha with rfl | ha
      · exact .inl e
      · exact .inr ⟨a, ha, e⟩
    obtain ⟨c, u, hc, hu, e⟩ := hv2.split
    have hcz : c = 0 := by
      have e1 := e r.1 hr.ok.c
      rw [h0 r (by simp), hr.lead, mu_one hM hc, hu.vanish hr.ok.c (fun s ⟨a, ha, e⟩ => by rw [e]; exact t1 a ha), Nat.zero_xor] at e1
      exact e1.symm
    subst hcz
    have e2 : ∀ x, x < D → v x = u x := fun x hx => by rw [e x hx, zero_mu, Nat.xor_zero]
    intro x hx
    rw [e2 x hx]
    exact tri_zero hM (fun a ha => h a (by simp [ha])) t2 hu (fun a ha => by rw [← e2 a.1 (h a (by simp [ha])).ok.c]; exact h0 a (by simp [ha])) x hx
structure Rst (M D n : Nat) (W : Nat → Nat → Nat) (row : Nat → Nat) (s : List Nat × List Nat) : Prop where
  ok : SubOk M D n s
  sum : ∀ x, x < D → s.1.getD x 0 = row x ^^^ sg (fun q => mu M (s.2.getD q 0) (W q x)) n
theorem fold_rst (hM : FldM M) (hW : ∀ q, Vc M D (W q)) {row : Nat → Nat} : ∀ (rows : List Rd), (∀ r ∈ rows, Rw M D n W r) → ∀ s, Rst M D n W row s → Rst M D n W row (rows.foldl (subR M) s)
  | [], _, s, h => h
  | r :: rows, hr, s, h => by
    refine fold_rst hM hW rows (fun a ha => hr a (by simp [ha])) _ ⟨sub_ok hM h.ok (hr r (by simp)).ok, fun x hx => ?_⟩
    have hr1 := hr r (by simp)
    rw [subR_1 h.ok hr1.ok hx, h.sum x hx, hr1.comb x hx, Nat.xor_assoc, sg_mu, ← sg_xor]
    congr 1
    refine sg_congr n fun q hq => ?_
    rw [subR_2 h.ok hr1.ok hq, xor_mu, mu_assoc hM (getD_lt h.ok.e1 _) (getD_lt hr1.ok.e2 _) (hW q x hx)]
theorem fold_keep {c : Nat} (hc : c < D) (hM : FldM M) : ∀ (rows : List Rd), (∀ r ∈ rows, RedRow M D n r ∧ r.2.1.getD c 0 = 0) → ∀ s, SubOk M D n s → (rows.foldl (subR M) s).1.getD c 0 = s.1.getD c 0
  | [], _, s, _ => rfl
  | r :: rows, hr, s, h => by
    obtain ⟨h1, h2⟩ := hr r (by simp)
    show (rows.foldl (subR M) (subR M s r)).1.getD c 0 = _
    rw [fold_keep hc hM rows (fun a ha => hr a (by simp [ha])) _ (sub_ok hM h h1), subR_1 h h1 hc, h2, mu_zero, Nat.xor_zero]
theorem fold_zero (hM : FldM M) : ∀ (rows : List Rd), (∀ r ∈ rows, Rw M D n W r) → Tri rows → ∀ s, SubOk M D n s → ∀ r ∈ rows, (rows.foldl (subR M) s).1.getD r.1 0 = 0
  | [], _, _, _, _, r, hr => by simp at hr
  | a :: rows, h, ht, s, hs, r, hr => by
    obtain ⟨t1, t2⟩ := List.pairwise_cons.1 ht
    have ha := h a (by simp)
    show (rows.foldl (subR M) (subR M s a)).1.getD r.1 0 = 0
    rcases List.mem_cons.1 hr with rfl | hr
    · rw [fold_keep ha.ok.c hM rows (fun b hb => ⟨(h b (by simp [hb])).ok, t1 b hb⟩) _ (sub_ok hM hs ha.ok), subR_1 hs ha.ok ha.ok.c, ha.lead, mu_one hM (getD_lt hs.e1 _), Nat.xor_self]
    · exact fold_zero hM rows (fun b hb => h b (by simp [hb])) t2 _ (sub_ok hM hs ha.ok) r hr
theorem fold_span (hM : FldM M) {all : List Rd} (hall : ∀ r ∈ all, Rw M D n W r) : ∀ (rows : List Rd), (∀ r ∈ rows, r ∈ all) → ∀ s, SubOk M D n s → Sp M D (RS all) (fun x => s.1.getD x 0 ^^^ (rows.foldl (subR M) s).1.getD x 0)
  | [], _, s, _ => .zero fun x hx => by simp
  | r :: rows, hr, s, hs => by
    have h1 := hall r (hr r (by simp))
    have ih := fold_span hM hall rows (fun a ha => hr a (by simp [ha])) _ (sub_ok hM hs h1.ok)
    refine .step ih ⟨r, hr r (by simp), rfl⟩ (c := s.1.getD r.1 0) (getD_lt hs.e1 _) fun x hx => ?_
    show s.1.getD x 0 ^^^ (rows.foldl (subR M) (subR M s r)).1.getD x 0 = _
    rw [subR_1 hs h1.ok hx]
    generalize s.1.getD x 0 = a
    generalize (rows.foldl (subR M) (subR M s r)).1.getD x 0 = b
    generalize mu M (s.1.getD r.1 0) (r.2.1.getD x 0) = c
    rw [Nat.xor_assoc a c b, Nat.xor_comm c b, ← Nat.xor_assoc, xor_self_cancel]
end
theorem findNZ_lt {l : List Nat} (h : findNZ l < l.length) : l.getD (findNZ l) 0 ≠ 0 := by
  have := List.findIdx_getElem (xs := l) (p := fun x => x != 0) (w := h)
  rw [List.getD_eq_getElem?_getD, List.getElem?_eq_getElem h]
  have h3 : ¬ (l[List.findIdx (fun x => x != 0) l]'h = 0) := by simpa using this
  exact h3
theorem findNZ_ge {l : List Nat} (h : ¬ findNZ l < l.length) (x : Nat) : l.getD x 0 = 0 := by
  rw [List.getD_eq_getElem?_getD]
  by_cases hx : x < l.length
  · rw [List.getElem?_eq_getElem hx]
    have h2 : findNZ l = l.length := by
      have := List.findIdx_le_length (xs := l) (p := fun x => x != 0)
      unfold findNZ at *; omega
    have := List.findIdx_eq_length.1 h2 l[x] (List.getElem_mem hx)
    simpa using this
  · rw [List.getElem?_eq_none (by omega)]; rfl
theorem row_getD {M R D u : Nat} {gen : List Nat} (h : MxOk M R D gen) (hu : u < R) {x : Nat} (hx : x < D) : ((gen.drop (u * D)).take D).getD x 0 = U D gen u x := by
  rw [List.getD_eq_getElem?_getD, List.getElem?_take_of_lt hx, List.getElem?_drop]
  unfold U gt
  rw [List.getD_eq_getElem?_getD]
structure SpTo (M D : Nat) (gen B : List Nat) (k : Nat) (rows : List Rd) : Prop where
  rw : ∀ r ∈ rows, Rw M D B.length (fun q => U D gen (B.getD q 0)) r
  tri : Tri rows
  all : ∀ q, q < k → Sp M D (RS rows) (U D gen (B.getD q 0))
theorem span_to {M R D : Nat} {gen B : List Nat} (hM : FldM M) (hg : MxOk M R D gen) (hB : ∀ u ∈ B, u < R) : ∀ k, k ≤ B.length → SpTo M D gen B k (spanAt M D B.length gen B k)
  | 0, _ => ⟨fun r hr => by simp [spanAt] at hr, List.Pairwise.nil, fun q hq => by omega⟩
  | k + 1, hk => by
    have ih := span_to hM hg hB k (by omega)
    have hok := span_ok (n := B.length) hM hg hB k (by omega)
    rw [spanAt]
    generalize spanAt M D B.length gen B k = rows at ih hok
    have hbk : B.getD k 0 < R := hB _ (getD_mem (by omega))
    obtain ⟨p1, p2⟩ := pick_row hg hbk
    have hW : ∀ q, Vc M D (U D gen (B.getD q 0)) := fun q => U_vc hg _
    have hs0 : SubOk M D B.length ((gen.drop (B.getD k 0 * D)).take D, List.replicate B.length 0) := ⟨p1, List.length_replicate, p2, fun x hx => by rw [List.eq_of_mem_replicate hx]; exact Nat.two_pow_pos M⟩
    have hr0 : Rst M D B.length (fun q => U D gen (B.getD q 0)) (U D gen (B.getD k 0)) ((gen.drop (B.getD k 0 * D)).take D, List.replicate B.length 0) := ⟨hs0, fun x hx => by
      rw [row_getD hg hbk hx, sg_congr B.length (fun q hq => show mu M ((List.replicate B.length 0).getD q 0) _ = 0 by
        rw [List.getD_eq_getElem?_getD, List.getElem?_replicate, if_pos hq]; exact zero_mu _), sg_zero, Nat.xor_zero]⟩
    have hr := fold_rst hM hW rows ih.rw _ hr0
    have hz := fold_zero hM rows ih.rw ih.tri _ hs0
    have hsp := fold_span hM ih.rw rows (fun _ h => h) _ hs0
    unfold spanStep
    dsimp only
    change Rst M D B.length _ _ (redV M B.length ((gen.drop (B.getD k 0 * D)).take D) rows) at hr
    change ∀ r ∈ rows, (redV M B.length ((gen.drop (B.getD k 0 * D)).take D) rows).1.getD r.1 0 = 0 at hz
    change Sp M D (RS rows) (fun x => ((gen.drop (B.getD k 0 * D)).take D).getD x 0 ^^^ (redV M B.length ((gen.drop (B.getD k 0 * D)).take D) rows).1.getD x 0) at hsp
    generalize redV M B.length ((gen.drop (B.getD k 0 * D)).take D) rows = s at *
    have hsp2 : Sp M D (RS rows) (fun x => U D gen (B.getD k 0) x ^^^ s.1.getD x 0) := hsp.congr fun x hx => by rw [row_getD hg hbk hx]
    have h1 := hr.ok
    have hc : ∀ x, x < D → s.1.getD x 0 = sg (fun q => mu M ((s.2.set k (s.2.getD k 0 ^^^ 1)).getD q 0) (U D gen (B.getD q 0) x)) B.length := fun x hx => by
      rw [hr.sum x hx, Nat.xor_comm]
      have e1 : U D gen (B.getD k 0) x = sg (fun q => if q = k then U D gen (B.getD k 0) x else 0) B.length := by
        rw [sg_one (k := k) B.length (fun q _ hne => if_neg hne), if_pos (by omega), if_pos rfl]
      rw [e1, ← sg_xor]
      refine sg_congr _ fun q hq => ?_
      rw [set_getD _ _ _ _ (by rw [h1.l2]; exact hq)]
      by_cases e : q = k
      · subst e
        rw [if_pos rfl, if_pos rfl, xor_mu, one_mu hM (hW q x hx)]
      · rw [if_neg e, if_neg e, Nat.xor_zero]
    have hcl : ∀ x ∈ s.2.set k (s.2.getD k 0 ^^^ 1), x < 2 ^ M := fun x hx => by
      rcases List.mem_or_eq_of_mem_set hx with hx | rfl
      · exact h1.e2 x hx
      · exact xor_lt' (getD_lt h1.e2 _) (one_lt hM)
    have hcn : (s.2.set k (s.2.getD k 0 ^^^ 1)).length = B.length := by rw [List.length_set]; exact h1.l2
    generalize s.2.set k (s.2.getD k 0 ^^^ 1) = c at *
    by_cases hf : findNZ s.1 < D
    · rw [if_pos hf]
      have hne := findNZ_lt (l := s.1) (by rw [h1.l1]; exact hf)
      generalize findNZ s.1 = col at *
      have hxl := getD_lt h1.e1 col
      obtain ⟨v1, v2⟩ := inv_mu hM hne hxl
      have hvl : invN M (s.1.getD col 0) < 2 ^ M := invN_lt _
      generalize invN M (s.1.getD col 0) = f at *
      have hrep : ∀ m i, (List.replicate m 0).getD i 0 = 0 := fun m i => by
        rw [List.getD_eq_getElem?_getD, List.getElem?_replicate]; split <;> rfl
      have hnr : ∀ x, x < D → (addV M f (List.replicate D 0) s.1 D).getD x 0 = mu M f (s.1.getD x 0) := fun x hx => by
        rw [addV_get _ _ _ _ _ (by simp) x (by simpa using hx), if_pos hx, hrep, Nat.zero_xor]
      have hnc : ∀ q, q < B.length → (addV M f (List.replicate B.length 0) c B.length).getD q 0 = mu M f (c.getD q 0) := fun q hq => by
        rw [addV_get _ _ _ _ _ (by simp) q (by simpa using hq), if_pos hq, hrep, Nat.zero_xor]
      have hz0 : ∀ m, ∀ x ∈ List.replicate m 0, x < 2 ^ M := fun m x hx => by rw [List.eq_of_mem_replicate hx]; exact Nat.two_pow_pos M
      have hok1 : RedRow M D B.length (col, addV M f (List.replicate D 0) s.1 D, addV M f (List.replicate B.length 0) c B.length) :=
        ⟨hf, by rw [addV_length, List.length_replicate], by rw [addV_length, List.length_replicate], addV_lt hM hvl (hz0 _) _, addV_lt hM hvl (hz0 _) _⟩
      have hrw1 : Rw M D B.length (fun q => U D gen (B.getD q 0)) (col, addV M f (List.replicate D 0) s.1 D, addV M f (List.replicate B.length 0) c B.length) := by
        refine ⟨hok1, fun x hx => ?_, ?_⟩
        · show (addV M f (List.replicate D 0) s.1 D).getD x 0 = _
          rw [hnr x hx, hc x hx, sg_mu]
          refine sg_congr _ fun q hq => ?_
          show _ = mu M ((addV M f (List.replicate B.length 0) c B.length).getD q 0) _
          rw [hnc q hq, mu_assoc hM hvl (getD_lt hcl _) (hW q x hx)]
        · show (addV M f (List.replicate D 0) s.1 D).getD col 0 = 1
          rw [hnr col hf]; exact v1
      have hmono : ∀ t, RS rows t → RS (rows ++ [(col, addV M f (List.replicate D 0) s.1 D, addV M f (List.replicate B.length 0) c B.length)]) t := fun t ⟨r, hr, e⟩ => ⟨r, by simp [hr], e⟩
      have hrwA : ∀ r ∈ rows ++ [(col, addV M f (List.replicate D 0) s.1 D, addV M f (List.replicate B.length 0) c B.length)], Rw M D B.length (fun q => U D gen (B.getD q 0)) r := fun r hr => by
        rcases List.mem_append.1 hr with hr | hr
        · exact ih.rw r hr
        · rw [List.mem_singleton.1 hr]; exact hrw1
      refine ⟨hrwA, ?_, fun q hq => ?_⟩
      · refine List.pairwise_append.2 ⟨ih.tri, List.pairwise_singleton _ _, fun a ha b hb => ?_⟩
        rw [List.mem_singleton.1 hb]
        show (addV M f (List.replicate D 0) s.1 D).getD a.1 0 = 0
        rw [hnr _ (ih.rw a ha).ok.c, hz a ha, mu_zero]
      · by_cases hqk : q < k
        · exact (ih.all q hqk).mono hmono
        · have : q = k := by omega
          subst this
          refine .step (hsp2.mono hmono) ⟨_, List.mem_append_right _ (List.mem_singleton.2 rfl), rfl⟩ (c := s.1.getD col 0) hxl fun x hx => ?_
          show U D gen (B.getD q 0) x = (U D gen (B.getD q 0) x ^^^ s.1.getD x 0) ^^^ mu M (s.1.getD col 0) ((addV M f (List.replicate D 0) s.1 D).getD x 0)
          rw [hnr x hx, ← mu_assoc hM hxl hvl (getD_lt h1.e1 _), v2, one_mu hM (getD_lt h1.e1 _), xor_self_cancel]
    · rw [if_neg hf]
      refine ⟨ih.rw, ih.tri, fun q hq => ?_⟩
      by_cases hqk : q < k
      · exact ih.all q hqk
      · have : q = k := by omega
        subst this
        exact hsp2.congr fun x hx => by rw [findNZ_ge (l := s.1) (by rw [h1.l1]; exact hf), Nat.xor_zero]
end Go.Proofs.YtaclmbbiegklcaaDoor
end
section
namespace Go.Proofs.YtaclmbbiegklcaaDoor
open Go.RowKit
set_option linter.unusedSectionVars false
def PS (D : Nat) (gen : List Nat) (hv : List Bool) : (Nat → Nat) → Prop := fun s => ∃ u, hv.getD u false = true ∧ s = U D gen u
theorem U_all {M D : Nat} {ps : List (List Nat)} (h : CodeOk M D ps) (u : Nat) : Vc M D (U D (genN D ps) u) := U_vc (gen_ok h) u
section
variable {M D : Nat} {ps : List (List Nat)} {hv : List Bool} (h : CodeOk M D ps) (hl : hv.length = D + ps.length)
include h hl
theorem hv_lt {u : Nat} (hu : hv.getD u false = true) : u < D + ps.length := by
  by_cases e : u < hv.length
  · omega
  · rw [List.getD_eq_getElem?_getD, List.getElem?_eq_none (by omega)] at hu; cases hu
theorem sp_BP {v : Nat → Nat} : Sp M D (BS D (genN D ps) (basisN M D ps hv)) v ↔ Sp M D (PS D (genN D ps) hv) v := by
  obtain ⟨T, S, hb⟩ := basis_to h hl
  constructor
  · exact Sp.mono fun s ⟨q, hq, e⟩ => ⟨_, hb.mem q hq, e⟩
  · exact Sp.trans h.f (fun s ⟨q, _, e⟩ => by rw [e]; exact U_all h _) fun s ⟨u, hu, e⟩ => by rw [e]; exact hb.present h.f (U_all h) hu
theorem red_left {u : Nat} (hu : u < D + ps.length) :
    Rst M D (basisN M D ps hv).length (fun q => U D (genN D ps) ((basisN M D ps hv).getD q 0)) (U D (genN D ps) u) (redV M (basisN M D ps hv).length (((genN D ps).drop (u * D)).take D) (spanN M D ps hv)) ∧
    ((redV M (basisN M D ps hv).length (((genN D ps).drop (u * D)).take D) (spanN M D ps hv)).1.all (fun x => decide (x = 0)) = true ↔ Sp M D (PS D (genN D ps) hv) (U D (genN D ps) u)) := by
  have hg := gen_ok h
  have hM := h.f
  have hsp := span_to hM hg (basis_lt hl) (basisN M D ps hv).length (Nat.le_refl _)
  have hW : ∀ q, Vc M D (U D (genN D ps) ((basisN M D ps hv).getD q 0)) := fun q => U_all h _
  obtain ⟨p1, p2⟩ := pick_row hg hu
  have hs0 : SubOk M D (basisN M D ps hv).length (((genN D ps).drop (u * D)).take D, List.replicate (basisN M D ps hv).length 0) := ⟨p1, List.length_replicate, p2, fun x hx => by rw [List.eq_of_mem_replicate hx]; exact Nat.two_pow_pos M⟩
  have hr0 : Rst M D (basisN M D ps hv).length (fun q => U D (genN D ps) ((basisN M D ps hv).getD q 0)) (U D (genN D ps) u) (((genN D ps).drop (u * D)).take D, List.replicate (basisN M D ps hv).length 0) := ⟨hs0, fun x hx => by
    rw [row_getD hg hu hx, sg_congr (basisN M D ps hv).length (fun q hq => show mu M ((List.replicate (basisN M D ps hv).length 0).getD q 0) _ = 0 by
      rw [List.getD_eq_getElem?_getD, List.getElem?_replicate, if_pos hq]; exact zero_mu _), sg_zero, Nat.xor_zero]⟩
  have hr := fold_rst hM hW (spanN M D ps hv) hsp.rw _ hr0
  have hz := fold_zero hM (spanN M D ps hv) hsp.rw hsp.tri _ hs0
  have hfs := fold_span hM hsp.rw (spanN M D ps hv) (fun _ h => h) _ hs0
  refine ⟨hr, ?_⟩
  rw [← sp_BP h hl]
  have hbs : ∀ s, BS D (genN D ps) (basisN M D ps hv) s → Vc M D s := fun s ⟨q, _, e⟩ => by rw [e]; exact U_all h _
  constructor
  · intro h0
    rw [List.all_eq_true] at h0
    have hsum := Sp.sum (M := M) (D := D) hM hbs (c := fun q => (redV M (basisN M D ps hv).length (((genN D ps).drop (u * D)).take D) (spanN M D ps hv)).2.getD q 0) (w := fun q => U D (genN D ps) ((basisN M D ps hv).getD q 0)) (basisN M D ps hv).length (fun q hq => ⟨getD_lt hr.ok.e2 _, Sp.of hM hbs ⟨q, hq, rfl⟩⟩)
    refine hsum.congr fun x hx => ?_
    have h1 := hr.sum x hx
    have h2 : (List.foldl (subR M) (((genN D ps).drop (u * D)).take D, List.replicate (basisN M D ps hv).length 0) (spanN M D ps hv)).1.getD x 0 = 0 := by
      have hx2 : x < (redV M (basisN M D ps hv).length (((genN D ps).drop (u * D)).take D) (spanN M D ps hv)).1.length := by
        have := hr.ok.l1; unfold redV; omega
      have := h0 _ (List.getElem_mem hx2)
      rw [List.getD_eq_getElem?_getD]
      have e : (redV M (basisN M D ps hv).length (((genN D ps).drop (u * D)).take D) (spanN M D ps hv)).1[x]? = some ((redV M (basisN M D ps hv).length (((genN D ps).drop (u * D)).take D) (spanN M D ps hv)).1[x]) := List.getElem?_eq_getElem hx2
      unfold redV at e this
      rw [e]
      simpa using this
    rw [h2] at h1
    exact eq_of_xor h1.symm
  · intro hs
    have hv2 : Sp M D (RS (spanN M D ps hv)) (U D (genN D ps) u) := Sp.trans hM (RS_vc hsp.rw) (fun s ⟨q, hq, e⟩ => by rw [e]; exact hsp.all q hq) hs
    have hrest : Sp M D (RS (spanN M D ps hv)) (fun x => (redV M (basisN M D ps hv).length (((genN D ps).drop (u * D)).take D) (spanN M D ps hv)).1.getD x 0) := (hv2.add hfs).congr fun x hx => by
      show _ = U D (genN D ps) u x ^^^ ((((genN D ps).drop (u * D)).take D).getD x 0 ^^^ _)
      rw [row_getD hg hu hx, ← Nat.xor_assoc, Nat.xor_self, Nat.zero_xor]
      rfl
    have h0 := tri_zero hM hsp.rw hsp.tri hrest hz
    rw [List.all_eq_true]
    intro y hy
    obtain ⟨x, hx, rfl⟩ := List.getElem_of_mem hy
    have hxD : x < D := by have := hr.ok.l1; unfold redV at hx; omega
    have := h0 x hxD
    rw [List.getD_eq_getElem?_getD, List.getElem?_eq_getElem hx] at this
    simpa using this
theorem comb_some {u : Nat} (hu : u < D + ps.length) {l : List (Nat × Nat)} (hc : combN M D ps hv u = some l) : ∃ K : List Nat, K.length = (basisN M D ps hv).length ∧ (∀ x ∈ K, x < 2 ^ M) ∧ l = tmsAt (basisN M D ps hv) K (basisN M D ps hv).length ∧
    ∀ x, x < D → U D (genN D ps) u x = sg (fun q => mu M (K.getD q 0) (U D (genN D ps) ((basisN M D ps hv).getD q 0) x)) (basisN M D ps hv).length := by
  obtain ⟨hr, _⟩ := red_left h hl hu
  unfold combN termsN at hc
  dsimp only at hc
  generalize redV M (basisN M D ps hv).length (((genN D ps).drop (u * D)).take D) (spanN M D ps hv) = s at *
  split at hc
  · rename_i e
    refine ⟨s.2, hr.ok.l2, hr.ok.e2, (Option.some.inj hc).symm, fun x hx => ?_⟩
    have h1 := hr.sum x hx
    have hx2 : x < s.1.length := by have := hr.ok.l1; omega
    have h2 : s.1.getD x 0 = 0 := by
      rw [List.getD_eq_getElem?_getD, List.getElem?_eq_getElem hx2]
      rw [List.all_eq_true] at e
      simpa using e _ (List.getElem_mem hx2)
    rw [h2] at h1
    exact eq_of_xor h1.symm
  · cases hc
end
def eu' (q : Nat) : Nat → Nat := fun x => if x = q then 1 else 0
theorem Iso.sp {M D : Nat} {T S : (Nat → Nat) → Nat → Nat} (h : Iso M D T S) {A A' : (Nat → Nat) → Prop} (hA : ∀ s, A s → Vc M D s ∧ A' (T s)) {v : Nat → Nat} (hv : Sp M D A v) : Sp M D A' (T v) := by
  induction hv with
  | zero h0 => exact .zero fun x hx => h.zero h0 x hx
  | step h1 hs hc h2 ih =>
    rename_i u s v c
    obtain ⟨a1, a2⟩ := hA _ hs
    refine .step ih a2 hc fun x hx => ?_
    rw [h.congr _ _ h2 x hx, h.add u (fun k => mu M c (s k)) x hx, h.smul c s hc a1 x hx]
end Go.Proofs.YtaclmbbiegklcaaDoor
end
section
namespace Go.Proofs.YtaclmbbiegklcaaDoor
open Go.RowKit
set_option linter.unusedSectionVars false
theorem gt_id {D : Nat} : ∀ n, n ≤ D → ∀ r c, r < D → c < D → gt D (idAt D n) r c = if r < n ∧ r = c then 1 else 0
  | 0, _, r, c, _, _ => by
    rw [if_neg (by omega)]
    unfold gt idAt
    rw [List.getD_eq_getElem?_getD, List.getElem?_replicate]
    split <;> rfl
  | n + 1, hn, r, c, hr, hc => by
    rw [idAt, gt_set (R := D) (by rw [idAt_length]) (by omega) (by omega) hc, gt_id n (by omega) r c hr hc]
    by_cases h : r = n ∧ c = n
    · rw [if_pos h, if_pos (by omega)]
    · rw [if_neg h]
      by_cases h2 : r < n ∧ r = c
      · rw [if_pos h2, if_pos (by omega)]
      · rw [if_neg h2, if_neg (by omega)]
theorem U_data {D : Nat} {ps : List (List Nat)} {u x : Nat} (hu : u < D) (hx : x < D) : U D (genN D ps) u x = eu' u x := by
  have h := gt_id D (Nat.le_refl _) u x hu hx
  unfold U gt genN
  unfold gt at h
  rw [List.getD_eq_getElem?_getD] at h ⊢
  rw [List.getElem?_append_left (by rw [idAt_length]; exact idx_lt hu hx), h]
  unfold eu'
  by_cases e : u = x
  · subst e; rw [if_pos ⟨hu, rfl⟩, if_pos rfl]
  · rw [if_neg (by omega), if_neg (fun e2 => e e2.symm)]
theorem flat_get {D x : Nat} (hx : x < D) : ∀ {ps : List (List Nat)} (_ : ∀ r ∈ ps, r.length = D) (i : Nat), i < ps.length → ps.flatten.getD (i * D + x) 0 = (ps.getD i []).getD x 0
  | [], _, i, h => by simp at h
  | r :: ps, hr, i, h => by
    have h0 := hr r (by simp)
    rw [List.flatten_cons, List.getD_eq_getElem?_getD]
    cases i with
    | zero => rw [List.getElem?_append_left (by omega), Nat.zero_mul, Nat.zero_add, ← List.getD_eq_getElem?_getD]; rfl
    | succ i =>
      have e : (i + 1) * D + x - r.length = i * D + x := by rw [Nat.add_mul]; omega
      rw [List.getElem?_append_right (by rw [Nat.add_mul]; omega), e, ← List.getD_eq_getElem?_getD, flat_get hx (fun s hs => hr s (by simp [hs])) i (by simpa using h)]
      rfl
theorem U_par {M D : Nat} {ps : List (List Nat)} (h : CodeOk M D ps) {i x : Nat} (hi : i < ps.length) (hx : x < D) : U D (genN D ps) (D + i) x = (ps.getD i []).getD x 0 := by
  rw [← flat_get hx (fun r hr => (h.row r hr).1) i hi]
  unfold U gt genN
  have e : (D + i) * D + x - (idAt D D).length = i * D + x := by rw [idAt_length, Nat.add_mul]; omega
  rw [List.getD_eq_getElem?_getD, List.getElem?_append_right (by rw [idAt_length, Nat.add_mul]; omega), e, ← List.getD_eq_getElem?_getD]
theorem U_ne {M D : Nat} {ps : List (List Nat)} (h : CodeOk M D ps) {u : Nat} (hu : u < D + ps.length) : ∃ x, x < D ∧ U D (genN D ps) u x ≠ 0 := by
  by_cases hd : u < D
  · exact ⟨u, hd, by rw [U_data hd hd]; simp [eu']⟩
  · obtain ⟨i, rfl⟩ : ∃ i, u = D + i := ⟨u - D, by omega⟩
    have hi : i < ps.length := by omega
    obtain ⟨h1, h2, y, h3, h4⟩ := h.row _ (List.getElem_mem hi)
    obtain ⟨x, hx, rfl⟩ := List.getElem_of_mem h3
    refine ⟨x, by omega, ?_⟩
    rw [U_par h hi (by omega), List.getD_eq_getElem?_getD (l := ps), List.getElem?_eq_getElem hi, Option.getD_some, List.getD_eq_getElem?_getD, List.getElem?_eq_getElem hx]
    exact h4
def lx {α : Type} (f : α → Nat) : List α → Nat
  | [] => 0
  | a :: l => f a ^^^ lx f l
theorem lx_append {α : Type} (f : α → Nat) : ∀ l l' : List α, lx f (l ++ l') = lx f l ^^^ lx f l'
  | [], l' => by simp [lx]
  | a :: l, l' => by rw [List.cons_append, lx, lx, lx_append f l l', Nat.xor_assoc]
section
variable {M D n : Nat} {ps us : List (List Nat)} (h : CodeOk M D ps) (hl : us.length = D) (hu : ∀ u ∈ us, isB u ∧ u.length = n) (he : FitM M n)
include h hl hu he
end
def Sound (M D : Nat) (ps : List (List Nat)) (u : Nat) (l : List (Nat × Nat)) : Prop := ∀ x, x < D → lx (fun t => mu M t.2 (U D (genN D ps) t.1 x)) l = U D (genN D ps) u x
section
variable {M D n : Nat} {ps us : List (List Nat)} (h : CodeOk M D ps) (hl : us.length = D) (hu : ∀ u ∈ us, isB u ∧ u.length = n) (he : FitM M n)
include h hl hu he
end
theorem lx_tms (M : Nat) (B K : List Nat) (G : Nat → Nat) : ∀ n, lx (fun t => mu M t.2 (G t.1)) (tmsAt B K n) = sg (fun q => mu M (K.getD q 0) (G (B.getD q 0))) n
  | 0 => rfl
  | n + 1 => by
    rw [tmsAt_succ, sg]
    split
    · rename_i e
      rw [e, zero_mu, Nat.xor_zero]; exact lx_tms M B K G n
    · rw [lx_append, lx_tms M B K G n]
      simp [lx]
structure CombOk (M D : Nat) (ps : List (List Nat)) (hv : List Bool) (u : Nat) (l : List (Nat × Nat)) : Prop where
  snd : Sound M D ps u l
  lt : ∀ t ∈ l, t.2 < 2 ^ M ∧ t.2 ≠ 0
  pres : ∀ t ∈ l, hv.getD t.1 false = true
  inc : l.Pairwise fun a b => a.1 < b.1
  le : l.length ≤ (basisN M D ps hv).length
theorem comb_ok {M D : Nat} {ps : List (List Nat)} {hv : List Bool} (h : CodeOk M D ps) (hl : hv.length = D + ps.length) {u : Nat} (hu : u < D + ps.length) {l : List (Nat × Nat)} (hc : combN M D ps hv u = some l) : CombOk M D ps hv u l := by
  obtain ⟨K, k1, k2, rfl, k4⟩ := comb_some h hl hu hc
  obtain ⟨T, S, hb⟩ := basis_to h hl
  have hmem : ∀ t ∈ tmsAt (basisN M D ps hv) K (basisN M D ps hv).length, ∃ q, q < (basisN M D ps hv).length ∧ K.getD q 0 ≠ 0 ∧ t = ((basisN M D ps hv).getD q 0, K.getD q 0) := fun t ht => by
    unfold tmsAt at ht
    obtain ⟨q, hq, rfl⟩ := List.mem_map.1 ht
    obtain ⟨q1, q2⟩ := List.mem_filter.1 hq
    exact ⟨q, List.mem_range.1 q1, by simpa using q2, rfl⟩
  refine ⟨fun x hx => ?_, fun t ht => ?_, fun t ht => ?_, ?_, tmsAt_length _ _ _⟩
  · rw [lx_tms M (basisN M D ps hv) K (fun u => U D (genN D ps) u x), k4 x hx]
  · obtain ⟨q, q1, q2, rfl⟩ := hmem t ht
    exact ⟨getD_lt k2 _, q2⟩
  · obtain ⟨q, q1, q2, rfl⟩ := hmem t ht
    exact hb.mem q q1
  · unfold tmsAt
    rw [List.pairwise_map]
    refine (List.Pairwise.filter _ List.pairwise_lt_range).imp_of_mem fun {a b} ha hb2 hab => ?_
    have hb3 := List.mem_range.1 (List.mem_filter.1 hb2).1
    exact hb.inc a b hab hb3
theorem CombOk.pos {M D : Nat} {ps : List (List Nat)} {hv : List Bool} (h : CodeOk M D ps) {u : Nat} (hu : u < D + ps.length) {l : List (Nat × Nat)} (hc : CombOk M D ps hv u l) : 0 < l.length := by
  cases l with
  | nil =>
    obtain ⟨x, hx, hne⟩ := U_ne h hu
    exact absurd (hc.snd x hx).symm hne
  | cons a l => simp
end Go.Proofs.YtaclmbbiegklcaaDoor
end
section
namespace Go.Proofs.YtaclmbbiegklcaaDoor
theorem nodup_le : ∀ (T L : List Nat), T.Nodup → (∀ x ∈ T, x ∈ L) → T.length ≤ L.length
  | [], L, _, _ => by simp
  | x :: T, L, hn, h => by
    rw [List.nodup_cons] at hn
    have hx := h x (by simp)
    have ih := nodup_le T (L.erase x) hn.2 fun y hy => (List.mem_erase_of_ne (fun e => hn.1 (by rw [← e]; exact hy))).2 (h y (by simp [hy]))
    rw [List.length_erase_of_mem hx] at ih
    have := List.length_pos_of_mem hx
    simp only [List.length_cons]
    omega
end Go.Proofs.YtaclmbbiegklcaaDoor
end
section
namespace Go.Proofs.YtaclmbbiegklcaaDoor
open Go.RowKit
set_option maxHeartbeats 4000000
set_option maxRecDepth 100000
structure SysOk (M D C : Nat) (pm : List Nat) (Bl : List (List Nat)) : Prop where
  pl : pm.length = D
  nd : ∀ q q', q < D → q' < D → pm.getD q 0 = pm.getD q' 0 → q = q'
  lt : ∀ q, q < D → pm.getD q 0 < D
  bl : Bl.length = D
  rl : ∀ l ∈ Bl, l.length = C
  rx : ∀ l ∈ Bl, ∀ x ∈ l, x < 2 ^ M
theorem SysOk.set {M D C : Nat} {pm : List Nat} {Bl : List (List Nat)} (h : SysOk M D C pm Bl) (a : Nat) {l : List Nat} (h1 : l.length = C) (h2 : ∀ x ∈ l, x < 2 ^ M) : SysOk M D C pm (Bl.set a l) :=
  ⟨h.pl, h.nd, h.lt, by rw [List.length_set]; exact h.bl, fun x hx => (List.mem_or_eq_of_mem_set hx).elim (h.rl x) fun e => e ▸ h1, fun x hx => (List.mem_or_eq_of_mem_set hx).elim (h.rx x) fun e => e ▸ h2⟩
attribute [local irreducible] Quiet Eff OpOk AWPG ACont ABlock ACalls AGoto
end Go.Proofs.YtaclmbbiegklcaaDoor
end
section
namespace Go.Proofs.YtaclmbbiegklcaaDoor
open Go.RowKit
set_option maxHeartbeats 4000000
set_option maxRecDepth 100000
theorem mem_havU {us : List (List Nat)} {hv : List Bool} {n : Nat} {x : List Nat} : x ∈ havU us hv n ↔ ∃ i, i < n ∧ hv.getD i false = true ∧ x = us.getD i [] := by
  unfold havU
  rw [List.mem_map]
  constructor
  · rintro ⟨i, h1, rfl⟩
    obtain ⟨h2, h3⟩ := List.mem_filter.1 h1
    exact ⟨i, List.mem_range.1 h2, h3, rfl⟩
  · rintro ⟨i, h1, h2, rfl⟩
    exact ⟨i, List.mem_filter.2 ⟨List.mem_range.2 h1, h2⟩, rfl⟩
attribute [local irreducible] Quiet Eff OpOk AWPG ACont ABlock ACalls AGoto
end Go.Proofs.YtaclmbbiegklcaaDoor
end
section
namespace Go.Proofs.YtaclmbbiegklcaaDoor
structure PackS where
  data : List (List Nat)
  from' : List (Nat × Nat)
  lost : List (Nat × Nat)
def packStep (R : Nat → Nat → Option (List Nat)) (s : PackS) (p : Nat × Nat) : PackS := match R p.1 p.2 with
  | some x => ⟨s.data ++ [x], s.from' ++ [p], s.lost⟩
  | none => ⟨s.data, s.from', s.lost ++ [p]⟩
def packN (R : Nat → Nat → Option (List Nat)) (ps : List (Nat × Nat)) : PackS := ps.foldl (packStep R) ⟨[], [], []⟩
theorem packN_succ (R : Nat → Nat → Option (List Nat)) (ps : List (Nat × Nat)) (p : Nat × Nat) : packN R (ps ++ [p]) = packStep R (packN R ps) p := by
  unfold packN
  rw [List.foldl_append]; rfl
theorem pack_inv (R : Nat → Nat → Option (List Nat)) : ∀ (ps : List (Nat × Nat)) (s : PackS), s.data.length = s.from'.length → ((ps.foldl (packStep R) s).data.length = (ps.foldl (packStep R) s).from'.length) ∧ (∀ q, (ps.foldl (packStep R) s).from'.count q + (ps.foldl (packStep R) s).lost.count q = s.from'.count q + s.lost.count q + ps.count q) ∧ (ps.foldl (packStep R) s).from'.length + (ps.foldl (packStep R) s).lost.length = s.from'.length + s.lost.length + ps.length
  | [], s, h => ⟨h, fun q => by simp, by simp⟩
  | p :: ps, s, h => by
    rw [List.foldl_cons]
    have h1 : (packStep R s p).data.length = (packStep R s p).from'.length := by
      unfold packStep
      cases R p.1 p.2 <;> simp [h]
    obtain ⟨i1, i2, i3⟩ := pack_inv R ps (packStep R s p) h1
    refine ⟨i1, fun q => ?_, ?_⟩
    · rw [i2 q, List.count_cons]
      unfold packStep
      cases R p.1 p.2 <;> simp [List.count_append, List.count_cons] <;> omega
    · rw [i3]
      unfold packStep
      cases R p.1 p.2 <;> simp <;> omega
theorem pack_count (R : Nat → Nat → Option (List Nat)) (ps : List (Nat × Nat)) (q : Nat × Nat) : (packN R ps).from'.count q + (packN R ps).lost.count q = ps.count q := by
  have := (pack_inv R ps ⟨[], [], []⟩ rfl).2.1 q
  unfold packN
  simpa using this
theorem pack_len (R : Nat → Nat → Option (List Nat)) (ps : List (Nat × Nat)) : (packN R ps).data.length = (packN R ps).from'.length ∧ (packN R ps).from'.length + (packN R ps).lost.length = ps.length := by
  obtain ⟨h1, _, h3⟩ := pack_inv R ps ⟨[], [], []⟩ rfl
  unfold packN
  exact ⟨h1, by simpa using h3⟩
theorem pack_data (R : Nat → Nat → Option (List Nat)) : ∀ (ps : List (Nat × Nat)) (s : PackS) (x : List Nat), x ∈ (ps.foldl (packStep R) s).data → x ∈ s.data ∨ ∃ p ∈ ps, R p.1 p.2 = some x
  | [], s, x, h => .inl h
  | p :: ps, s, x, h => by
    rw [List.foldl_cons] at h
    rcases pack_data R ps _ x h with h1 | ⟨p', h1, h2⟩
    · unfold packStep at h1
      cases hq : R p.1 p.2 with
      | none => rw [hq] at h1; exact .inl h1
      | some y =>
        rw [hq] at h1
        rcases List.mem_append.1 h1 with h3 | h3
        · exact .inl h3
        · rw [List.mem_singleton.1 h3]; exact .inr ⟨p, by simp, hq⟩
    · exact .inr ⟨p', by simp [h1], h2⟩
def padN (D : Nat) (z : List Nat) (l : List (List Nat)) : List (List Nat) := l ++ List.replicate ((D - l.length % D) % D) z
theorem pad_mod {D : Nat} (hD : 0 < D) (z : List Nat) (l : List (List Nat)) : (padN D z l).length % D = 0 := by
  unfold padN
  rw [List.length_append, List.length_replicate]
  have h1 := Nat.mod_lt l.length hD
  have h2 := Nat.div_add_mod l.length D
  by_cases h0 : l.length % D = 0
  · rw [h0, Nat.sub_zero, Nat.mod_self, Nat.add_zero]; exact h0
  · rw [Nat.mod_eq_of_lt (show D - l.length % D < D by omega)]
    have h3 : l.length + (D - l.length % D) = D * (l.length / D + 1) := by rw [Nat.mul_add, Nat.mul_one]; omega
    rw [h3, Nat.mul_mod_right]
theorem pad_div {D : Nat} (hD : 0 < D) (z : List Nat) (l : List (List Nat)) : (padN D z l).length / D = (l.length + D - 1) / D := by
  unfold padN
  rw [List.length_append, List.length_replicate]
  have h1 := Nat.mod_lt l.length hD
  have h2 := Nat.div_add_mod l.length D
  by_cases h0 : l.length % D = 0
  · rw [h0, Nat.sub_zero, Nat.mod_self, Nat.add_zero]
    have h3 : l.length + D - 1 = D * (l.length / D) + (D - 1) := by omega
    rw [h3, Nat.mul_add_div hD, Nat.div_eq_of_lt (show D - 1 < D by omega), Nat.add_zero]
  · rw [Nat.mod_eq_of_lt (show D - l.length % D < D by omega)]
    have h3 : l.length + (D - l.length % D) = D * (l.length / D + 1) := by rw [Nat.mul_add, Nat.mul_one]; omega
    have h4 : l.length + D - 1 = D * (l.length / D + 1) + (l.length % D - 1) := by rw [Nat.mul_add, Nat.mul_one]; omega
    rw [h3, h4, Nat.mul_div_cancel_left _ hD, Nat.mul_add_div hD, Nat.div_eq_of_lt (show l.length % D - 1 < D by omega), Nat.add_zero]
theorem pad_step {D : Nat} (hD : 0 < D) (z : List Nat) (l : List (List Nat)) (h : l.length % D ≠ 0) : padN D z (l ++ [z]) = padN D z l := by
  unfold padN
  have h1 := Nat.mod_lt l.length hD
  have h2 := Nat.div_add_mod l.length D
  rw [List.append_assoc, List.length_append, List.length_singleton, Nat.mod_eq_of_lt (show D - l.length % D < D by omega)]
  congr 1
  have h3 : (l.length + 1) % D = if l.length % D + 1 = D then 0 else l.length % D + 1 := by
    split
    · rename_i e
      have : l.length + 1 = D * (l.length / D + 1) := by rw [Nat.mul_add, Nat.mul_one]; omega
      rw [this, Nat.mul_mod_right]
    · rename_i e
      have : l.length + 1 = D * (l.length / D) + (l.length % D + 1) := by omega
      rw [this, Nat.mul_add_mod, Nat.mod_eq_of_lt (by omega)]
  rw [h3]
  split
  · rename_i e
    rw [Nat.sub_zero, Nat.mod_self, show D - l.length % D = 1 by omega]
    rfl
  · rename_i e
    rw [Nat.mod_eq_of_lt (show D - (l.length % D + 1) < D by omega), show D - l.length % D = (D - (l.length % D + 1)) + 1 by omega]
    rfl
theorem pad_done {D : Nat} (z : List Nat) (l : List (List Nat)) (h : l.length % D = 0) : padN D z l = l := by
  unfold padN
  rw [h, Nat.sub_zero, Nat.mod_self]
  simp
end Go.Proofs.YtaclmbbiegklcaaDoor
end
section
namespace Go.Proofs.YtaclmbbiegklcaaDoor
open Go.RowKit
set_option maxHeartbeats 4000000
set_option maxRecDepth 100000
structure SrcOk (M D : Nat) (ps us : List (List Nat)) (hv : List Bool) : Prop where
  c : CodeOk M D ps
  ul : us.length = D + ps.length
  hl : hv.length = D + ps.length
  len : ∀ i, hv.getD i false = true → (us.getD i []).length = 32
  b : ∀ x ∈ us, isB x ∧ x.length < 9223372036854775808
def recN (M D : Nat) (ps us : List (List Nat)) (hv : List Bool) (u : Nat) : Option (List Nat) := (combN M D ps hv u).map (sumN M 32 us)
def recR (o : Option (List Nat)) : AV := match o with | some x => .tup [bS x, iV 0] | none => .tup [bS [], iV 11]
theorem fit32 {M : Nat} (hM : FldM M) : FitM M 32 := fun _ => rfl
theorem SrcOk.fit {M D : Nat} {ps us : List (List Nat)} {hv : List Bool} (h : SrcOk M D ps us hv) : fitN M D ps us hv = true := by
  unfold fitN
  rw [decide_eq_true h.ul, decide_eq_true h.hl, Bool.true_and, Bool.true_and]
  unfold uniB
  rw [List.all_eq_true]
  have key : ∀ x ∈ havU us hv us.length, x.length = 32 := fun x hx => by
    obtain ⟨i, i1, i2, rfl⟩ := mem_havU.1 hx
    exact h.len i i2
  intro x hx
  have hh : ((havU us hv us.length).headD []).length = 32 := by
    cases hl : havU us hv us.length with
    | nil => rw [hl] at hx; cases hx
    | cons a l => exact key a (by rw [hl]; simp)
  unfold uniQ
  rw [Bool.and_eq_true, Bool.or_eq_true, decide_eq_true_eq, decide_eq_true_eq, decide_eq_true_eq, hh, key x hx]
  exact ⟨rfl, .inr rfl⟩
theorem SrcOk.terms {M D u : Nat} {ps us : List (List Nat)} {hv : List Bool} {l : List (Nat × Nat)} (h : SrcOk M D ps us hv) (hu : u < D + ps.length) (hc : combN M D ps hv u = some l) : TermsIn M 32 us l := by
  have hk := comb_ok h.c h.hl hu hc
  have hbl := basis_len h.c h.hl
  have hw := h.c.w
  refine ⟨hk.pos h.c hu, by have := hk.le; omega, fun t ht => ?_⟩
  have hp := hk.pres t ht
  have h1 : t.1 < us.length := by have := hv_lt h.c h.hl hp; have := h.ul; omega
  have hm : us.getD t.1 [] ∈ us := by rw [List.getD_eq_getElem?_getD, List.getElem?_eq_getElem h1]; exact List.getElem_mem h1
  exact ⟨h1, (hk.lt t ht).1, (h.b _ hm).1, h.len _ hp⟩
theorem SrcOk.rec_len {M D u : Nat} {ps us : List (List Nat)} {hv : List Bool} {x : List Nat} (h : SrcOk M D ps us hv) (hu : u < D + ps.length) (hr : recN M D ps us hv u = some x) : isB x ∧ x.length = 32 := by
  unfold recN at hr
  cases hc : combN M D ps hv u with
  | none => rw [hc] at hr; cases hr
  | some l =>
    rw [hc] at hr
    obtain rfl : sumN M 32 us l = x := by simpa using hr
    have ht := h.terms hu hc
    exact combM_ok h.c.f (fit32 h.c.f) _ _ _ (fun c hc => by obtain ⟨t, h1, rfl⟩ := List.mem_map.1 hc; exact (ht.t t h1).2.1) (fun x hx => by obtain ⟨t, h1, rfl⟩ := List.mem_map.1 hx; exact (ht.t t h1).2.2.2) (isB_zero 32) (by simp)
theorem A_erecS {M D u : Nat} {ps us : List (List Nat)} {hv : List Bool} (h : SrcOk M D ps us hv) (hu : u < D + ps.length) : ACalls Tryd.prog 65 [cdN M D ps, strs us, bools hv, iV u] [] (recR (recN M D ps us hv u)) [] := by
  have hw := h.c.w
  have hul := h.ul
  unfold recN
  cases hc : combN M D ps hv u with
  | none => exact A_recover_lost h.c (by omega) h.hl (fun x hx => (h.b x hx).2) h.fit hu hc
  | some l => exact A_recover_ok h.c (by omega) h.hl (fun x hx => (h.b x hx).2) h.fit hu hc (h.terms hu hc) (fit32 h.c.f) (by omega)
end Go.Proofs.YtaclmbbiegklcaaDoor
end
section
namespace Go.Proofs.YtaclmbbiegklcaaDoor
open Go.RowKit
set_option maxHeartbeats 4000000
set_option maxRecDepth 100000
def incB (D : Int) : Int → List Int → Bool
  | _, [] => true
  | last, u :: r => decide (last < u) && decide (u < D) && incB D u r
def lenB (us : List (List Nat)) (hv : List Bool) : Bool := (List.range hv.length).all fun i => !(hv.getD i false) || decide ((us.getD i []).length = 32)
def srcB (M D : Int) (par : List (List Int)) (us : List (List Nat)) (hv : List Bool) (live : List Int) : Bool :=
  validC M D par && decide ((us.length : Int) = D + (par.length : Int)) && decide ((hv.length : Int) = D + (par.length : Int)) && lenB us hv && incB D (-1) live
def srcA (M D : Int) (par : List (List Int)) (us : List (List Nat)) (hv : List Bool) (live : List Int) : AV := .agg [.d .any, iV M, iV D, rowsA par, .d .any, strs us, bools hv, ints live]
def lastI (live : List Int) (k : Nat) : Int := if k = 0 then -1 else live.getD (k - 1) 0
theorem incB_drop (D : Int) : ∀ (live : List Int) (last : Int), incB D last live = true ↔ ∀ k, (h : k < live.length) → (if k = 0 then last else live.getD (k - 1) 0) < live[k] ∧ live[k] < D
  | [], last => by simp [incB]
  | u :: r, last => by
    unfold incB
    rw [Bool.and_eq_true, Bool.and_eq_true, decide_eq_true_eq, decide_eq_true_eq, incB_drop D r u]
    constructor
    · rintro ⟨⟨h1, h2⟩, h3⟩ k hk
      cases k with
      | zero => exact ⟨h1, h2⟩
      | succ k =>
        have := h3 k (by simpa using hk)
        rw [if_neg (by omega)]
        cases k with
        | zero => simpa using this
        | succ k => simpa using this
    · intro h
      have h0 := h 0 (by simp)
      rw [if_pos rfl] at h0
      refine ⟨h0, fun k hk => ?_⟩
      have := h (k + 1) (by simpa using hk)
      cases k with
      | zero => simpa using this
      | succ k => simpa using this
attribute [local irreducible] Quiet Eff OpOk AWPG ACont ABlock ACalls AGoto
theorem A_cvalid {M D : Int} {par : List (List Int)} {us : List (List Nat)} {hv : List Bool} {live : List Int} (hp : CodeIn par) (hus : us.length ≤ 10000000) (hvl : hv.length ≤ 10000000) (hll : live.length ≤ 10000000) (hul : ∀ u ∈ us, u.length < 9223372036854775808) : ACalls Tryd.prog 63 [srcA M D par us hv live] [] (bV (srcB M D par us hv live)) [] := by
  refine acalls_of_body Tryd.func63 rfl (Nat.le_of_ble_eq_true rfl) ?_
  have hmu : (us.map sD).length = us.length := List.length_map _
  have hmh : (hv.map tD).length = hv.length := List.length_map _
  have hml : (live.map iD).length = live.length := List.length_map _
  have hw := A_ewidth (M := M) (D := D) hp
  unfold srcB
  cases hV : validC M D par with
  | false =>
    rw [hV, if_neg (by decide)] at hw
    (repeat' (first
  | (apply W.qd; (first
    | (apply (yW (hw)); exact rfl; exact rfl; (iterate 3 kernel_rfl))|(apply q_mv; (conv => lhs; whnf))|(apply q_as; (conv => lhs; whnf))|(apply yS; (iterate 3 exact rfl))|(apply yU; (iterate 4 exact rfl))|(apply q_eql; exact rfl; exact rfl)
    | (apply (yEb (u := .d _)); exact rfl; exact rfl)))|(apply W.ed; (apply yBb; (iterate 3 exact rfl); kernel_rfl; kernel_rfl))|(refine W.gOff _ _ rfl rfl (by intro h; cases h) ?_)|(apply yA)|(apply yB)|(apply yC; kernel_rfl)|(apply yE)|(apply yJ)|(apply yP)
  | (apply yQ; exact rfl)))
    all_goals exact Ends.b rfl rfl
  | true =>
    rw [hV, if_pos rfl] at hw
    by_cases h1 : (us.length : Int) = D + (par.length : Int)
    · by_cases h2 : (hv.length : Int) = D + (par.length : Int)
      · rw [decide_eq_true h1, decide_eq_true h2, Bool.true_and, Bool.true_and, Bool.true_and]
        have hW0 : D + (par.length : Int) ≠ 0 := by
          have := (ok_valid hV); obtain ⟨m, d, ps, rfl, rfl, rfl, hok⟩ := this; have := hok.d; omega
        (repeat' (first
  | (apply yFb; exact rfl; exact rfl)
  | (apply W.qd; (first
    | (apply (yW (hw)); exact rfl; exact rfl; (iterate 3 kernel_rfl))|(apply q_mv; (conv => lhs; whnf))|(apply q_as; (conv => lhs; whnf))|(apply yS; (iterate 3 exact rfl))|(apply yT; (iterate 4 exact rfl))|(apply yU; (iterate 4 exact rfl))|(apply q_eql; exact rfl; exact rfl)|(apply q_neq; exact rfl; exact rfl)|(apply yV; exact rfl; exact rfl)
    | (apply (yDb (u := .d _)); exact rfl; exact rfl)))|(apply W.ed; (apply yBb; (iterate 3 exact rfl); kernel_rfl; kernel_rfl))|(apply yA)|(apply yB)|(apply (W.regionS 5); exact rfl; kernel_rfl)|(apply yE)|(apply yG)|(apply yH)|(refine W.gF _ _ rfl rfl (fun hb => ?_) (fun hb => ?_) <;> ((try simp only [hb, zA, zB]) <;> (try simp only [zC, zD, zE, zF, zG, zH, zI, zJ] at hb) <;> (try (exfalso; omega))))
  | (refine W.cond _ rfl (fun hb => ?_) (fun hb => ?_) <;> ((try simp only [hb, zA, zB]) <;> (try simp only [zC, zD, zE, zF, zG, zH, zI, zJ] at hb) <;> (try (exfalso; omega))))))
        refine AWP.loopW (α := Nat) (fun i => i ≤ hv.length ∧ ∀ j, j < i → hv.getD j false = true → (us.getD j []).length = 32) (fun i => ⟨[(31, iV i), (30, iV hv.length), (29, bools hv), (1, .opt 0 0)], [.box [.d .any, iV M, iV D, rowsA par, .d .any, strs us, bools hv, ints live]]⟩) (fun i => hv.length - i) 0 ⟨Nat.zero_le _, fun j hj => by omega⟩ ?wk0 fun i hi => ?_
        case wk0 => exact ⟨[0], rfl, rfl, rfl, rfl, iV_eq (by omega), rfl, rfl, trivial⟩
        by_cases hil : i < hv.length
        · have eg : hv.getD i false = hv[i] := by rw [List.getD_eq_getElem?_getD, List.getElem?_eq_getElem hil]; rfl
          have hiu : i < us.length := by omega
          have eu : us.getD i [] = us[i] := by rw [List.getD_eq_getElem?_getD, List.getElem?_eq_getElem hiu]; rfl
          have hun := hul _ (List.getElem_mem hiu)
          cases hb0 : hv[i] with
          | false =>
            (repeat' (first
  | (apply yFb; exact rfl; exact rfl)
  | (apply W.qd; (first
    | (apply q_mv; (conv => lhs; whnf))|(apply q_as; (conv => lhs; whnf))|(apply yS; (iterate 3 exact rfl))|(apply yT; (iterate 4 exact rfl))|(apply q_lss; exact rfl; exact rfl)|(apply q_neq; exact rfl; exact rfl)|(apply q_add; exact rfl; exact rfl; omega)|(apply q_len_bs; exact rfl; exact rfl)|(apply yX; (iterate 3 exact rfl); (first | omega | (focus (simp; done))))|(apply yGb; (iterate 4 exact rfl); (first | (with_reducible exact rfl) | exact natI_spec rfl | assumption | exact (Int.toNat_of_nonneg (by omega)).symm); (first | omega | (focus (simp only [List.length_map]; omega)) | (focus (simp; done)) | (focus (simp; omega))))|(apply (yEb (u := .d _)); exact rfl; exact rfl)
    | (apply (yDb (u := .d _)); exact rfl; exact rfl)))|(refine W.gOff _ _ rfl rfl (by intro h; cases h) ?_)|(apply yA)|(apply yB)|(apply yC; kernel_rfl)|(apply yE)|(apply yG)|(apply yH)|(apply yJ)|(apply yP)|(apply yL)|(apply yN)|(apply yR; exact rfl)|(refine W.gT _ _ rfl rfl (fun hb => ?_) (fun hb => ?_) <;> ((try simp only [hb, zA, zB]) <;> (try simp only [zC, zD, zE, zF, zG, zH, zI, zJ] at hb) <;> (try (exfalso; omega))))
  | (refine W.cond _ rfl (fun hb => ?_) (fun hb => ?_) <;> ((try simp only [hb, zA, zB]) <;> (try simp only [zC, zD, zE, zF, zG, zH, zI, zJ] at hb) <;> (try (exfalso; omega))))))
            (all_goals (try (exfalso; exact absurd ((‹hv[i] = true› : hv[i] = true).symm.trans (‹hv[i] = false› : hv[i] = false)) (by decide))))
            all_goals refine ⟨i + 1, ⟨by omega, fun j hj hh => ?_⟩, by omega, [0], rfl, rfl, rfl, iV_eq (by omega), rfl, rfl, rfl, trivial⟩
            all_goals (by_cases e : j = i <;> first | (subst e; rw [eg, hb0] at hh; cases hh) | exact hi.2 j (by omega) hh)
          | true =>
            by_cases h32 : us[i].length = 32
            · (repeat' (first
  | (apply yFb; exact rfl; exact rfl)
  | (apply W.qd; (first
    | (apply q_mv; (conv => lhs; whnf))|(apply q_as; (conv => lhs; whnf))|(apply yS; (iterate 3 exact rfl))|(apply yT; (iterate 4 exact rfl))|(apply q_lss; exact rfl; exact rfl)|(apply q_neq; exact rfl; exact rfl)|(apply q_add; exact rfl; exact rfl; omega)|(apply q_len_bs; exact rfl; exact rfl)|(apply yX; (iterate 3 exact rfl); (first | omega | (focus (simp; done))))|(apply yGb; (iterate 4 exact rfl); (first | (with_reducible exact rfl) | exact natI_spec rfl | assumption | exact (Int.toNat_of_nonneg (by omega)).symm); (first | omega | (focus (simp only [List.length_map]; omega)) | (focus (simp; done)) | (focus (simp; omega))))|(apply (yEb (u := .d _)); exact rfl; exact rfl)
    | (apply (yDb (u := .d _)); exact rfl; exact rfl)))|(refine W.gOff _ _ rfl rfl (by intro h; cases h) ?_)|(apply yA)|(apply yB)|(apply yC; kernel_rfl)|(apply yE)|(apply yG)|(apply yH)|(apply yL)|(apply yR; exact rfl)|(refine W.gT _ _ rfl rfl (fun hb => ?_) (fun hb => ?_) <;> ((try simp only [hb, zA, zB]) <;> (try simp only [zC, zD, zE, zF, zG, zH, zI, zJ] at hb) <;> (try (exfalso; omega))))
  | (refine W.cond _ rfl (fun hb => ?_) (fun hb => ?_) <;> ((try simp only [hb, zA, zB]) <;> (try simp only [zC, zD, zE, zF, zG, zH, zI, zJ] at hb) <;> (try (exfalso; omega))))))
              (all_goals (try (exfalso; exact absurd ((‹hv[i] = true› : hv[i] = true).symm.trans (‹hv[i] = false› : hv[i] = false)) (by decide))))
              all_goals refine ⟨i + 1, ⟨by omega, fun j hj hh => ?_⟩, by omega, [0], rfl, rfl, rfl, iV_eq (by omega), rfl, rfl, rfl, trivial⟩
              all_goals (by_cases e : j = i <;> first | (subst e; rw [eu]; exact h32) | exact hi.2 j (by omega) hh)
            · have hlb : lenB us hv = false := by
                unfold lenB
                rw [List.all_eq_false]
                refine ⟨i, List.mem_range.2 hil, ?_⟩
                rw [eg, eu, hb0, decide_eq_false h32]; decide
              rw [hlb]
              (repeat' (first
  | (apply yFb; exact rfl; exact rfl)
  | (apply W.qd; (first
    | (apply q_mv; (conv => lhs; whnf))|(apply q_as; (conv => lhs; whnf))|(apply yS; (iterate 3 exact rfl))|(apply yT; (iterate 4 exact rfl))|(apply q_lss; exact rfl; exact rfl)|(apply q_neq; exact rfl; exact rfl)|(apply q_add; exact rfl; exact rfl; omega)|(apply q_len_bs; exact rfl; exact rfl)|(apply yX; (iterate 3 exact rfl); (first | omega | (focus (simp; done))))|(apply yGb; (iterate 4 exact rfl); (first | (with_reducible exact rfl) | exact natI_spec rfl | assumption | exact (Int.toNat_of_nonneg (by omega)).symm); (first | omega | (focus (simp only [List.length_map]; omega)) | (focus (simp; done)) | (focus (simp; omega))))|(apply (yEb (u := .d _)); exact rfl; exact rfl)
    | (apply (yDb (u := .d _)); exact rfl; exact rfl)))|(refine W.gOff _ _ rfl rfl (by intro h; cases h) ?_)|(apply yA)|(apply yB)|(apply yC; kernel_rfl)|(apply yE)|(apply yG)|(apply yH)|(apply yJ)|(apply yP)|(apply yL)|(apply yN)|(apply yR; exact rfl)|(refine W.gT _ _ rfl rfl (fun hb => ?_) (fun hb => ?_) <;> ((try simp only [hb, zA, zB]) <;> (try simp only [zC, zD, zE, zF, zG, zH, zI, zJ] at hb) <;> (try (exfalso; omega))))
  | (refine W.cond _ rfl (fun hb => ?_) (fun hb => ?_) <;> ((try simp only [hb, zA, zB]) <;> (try simp only [zC, zD, zE, zF, zG, zH, zI, zJ] at hb) <;> (try (exfalso; omega))))))
              (all_goals (try (exfalso; exact absurd ((‹hv[i] = true› : hv[i] = true).symm.trans (‹hv[i] = false› : hv[i] = false)) (by decide))))
              all_goals exact Ends.b rfl rfl
        · have hlb : lenB us hv = true := by
            unfold lenB
            rw [List.all_eq_true]
            intro j hj
            cases hq : hv.getD j false with
            | false => rfl
            | true => rw [decide_eq_true (hi.2 j (by have := List.mem_range.1 hj; omega) hq)]; rfl
          rw [hlb, Bool.true_and]
          have hcnd := incB_drop D live (-1)
          have hl0 : lastI live 0 = -1 := rfl
          have hls : ∀ k (h : k < live.length), lastI live (k + 1) = live[k] := fun k h => by
            unfold lastI
            rw [if_neg (by omega), Nat.add_sub_cancel, List.getD_eq_getElem?_getD, List.getElem?_eq_getElem h]; rfl
          have hcnd : incB D (-1) live = true ↔ ∀ k, (h : k < live.length) → lastI live k < live[k] ∧ live[k] < D := hcnd
          (repeat' (first
  | (apply W.qd; (first
    | (apply q_mv; (conv => lhs; whnf))|(apply q_as; (conv => lhs; whnf))|(apply yS; (iterate 3 exact rfl))|(apply yT; (iterate 4 exact rfl))|(apply q_lss; exact rfl; exact rfl)
    | (apply yV; exact rfl; exact rfl)))|(apply yA)|(apply yB)|(apply (W.regionS 12); exact rfl; kernel_rfl)|(apply yE)|(apply yG)|(apply yI)|(apply yK)|(apply yM)
  | (refine W.cond _ rfl (fun hb => ?_) (fun hb => ?_) <;> ((try simp only [hb, zA, zB]) <;> (try simp only [zC, zD, zE, zF, zG, zH, zI, zJ] at hb) <;> (try (exfalso; omega))))))
          refine AWP.loopW (α := Nat) (fun k => k ≤ live.length ∧ ∀ j, (h : j < live.length) → j < k → lastI live j < live[j] ∧ live[j] < D) (fun k => ⟨[(50, iV k), (49, iV live.length), (48, ints live), (6, iV (lastI live k)), (1, .opt 0 0)], [.box [.d .any, iV M, iV D, rowsA par, .d .any, strs us, bools hv, ints live]]⟩) (fun k => live.length - k) 0 ⟨Nat.zero_le _, fun j h hj => by omega⟩ ?wk1 fun k hk => ?_
          case wk1 => exact ⟨[0], rfl, rfl, rfl, rfl, iV_eq (by omega), rfl, rfl, rfl, trivial⟩
          by_cases hkl : k < live.length
          · have hs := hls k hkl
            by_cases hg : lastI live k < live[k] ∧ live[k] < D
            · clear hcnd hls
              (repeat' (first
  | (apply yFb; exact rfl; exact rfl)
  | (apply W.qd; (first
    | (apply q_mv; (conv => lhs; whnf))|(apply q_as; (conv => lhs; whnf))|(apply yS; (iterate 3 exact rfl))|(apply yT; (iterate 4 exact rfl))|(apply q_lss; exact rfl; exact rfl)|(apply q_leq; exact rfl; exact rfl)|(apply q_geq; exact rfl; exact rfl)|(apply q_add; exact rfl; exact rfl; omega)|(apply yX; (iterate 3 exact rfl); (first | omega | (focus (simp; done))))|(apply yGb; (iterate 4 exact rfl); (first | (with_reducible exact rfl) | exact natI_spec rfl | assumption | exact (Int.toNat_of_nonneg (by omega)).symm); (first | omega | (focus (simp only [List.length_map]; omega)) | (focus (simp; done)) | (focus (simp; omega))))
    | (apply (yDb (u := .d _)); exact rfl; exact rfl)))|(apply yA)|(apply yB)|(apply yC; kernel_rfl)|(apply yE)|(apply yG)|(apply yH)|(apply yL)|(refine W.gF _ _ rfl rfl (fun hb => ?_) (fun hb => ?_) <;> ((try simp only [hb, zA, zB]) <;> (try simp only [zC, zD, zE, zF, zG, zH, zI, zJ] at hb) <;> (try (exfalso; omega))))
  | (refine W.cond _ rfl (fun hb => ?_) (fun hb => ?_) <;> ((try simp only [hb, zA, zB]) <;> (try simp only [zC, zD, zE, zF, zG, zH, zI, zJ] at hb) <;> (try (exfalso; omega))))))
              all_goals refine ⟨k + 1, ⟨by omega, fun j h hj => ?_⟩, by omega, ?_⟩
              all_goals first
                | (by_cases e : j = k <;> first | (subst e; exact hg) | exact hk.2 j h (by omega))
                | (rw [hs]; exact ⟨[0], rfl, rfl, rfl, iV_eq (by omega), rfl, rfl, rfl, rfl, trivial⟩)
            · have hf : incB D (-1) live = false := by
                cases hq : incB D (-1) live with
                | false => rfl
                | true => exact absurd (hcnd.1 hq k hkl) hg
              rw [hf]
              clear hcnd hls
              (repeat' (first
  | (apply yFb; exact rfl; exact rfl)
  | (apply W.qd; (first
    | (apply q_mv; (conv => lhs; whnf))|(apply q_as; (conv => lhs; whnf))|(apply yS; (iterate 3 exact rfl))|(apply yT; (iterate 4 exact rfl))|(apply q_lss; exact rfl; exact rfl)|(apply q_leq; exact rfl; exact rfl)|(apply q_geq; exact rfl; exact rfl)|(apply yX; (iterate 3 exact rfl); (first | omega | (focus (simp; done))))|(apply yGb; (iterate 4 exact rfl); (first | (with_reducible exact rfl) | exact natI_spec rfl | assumption | exact (Int.toNat_of_nonneg (by omega)).symm); (first | omega | (focus (simp only [List.length_map]; omega)) | (focus (simp; done)) | (focus (simp; omega))))|(apply (yEb (u := .d _)); exact rfl; exact rfl)
    | (apply (yDb (u := .d _)); exact rfl; exact rfl)))|(refine W.gOff _ _ rfl rfl (by intro h; cases h) ?_)|(apply yA)|(apply yB)|(apply yC; kernel_rfl)|(apply yE)|(apply yG)|(apply yH)|(apply yJ)|(apply yP)|(apply yN)|(apply yQ; exact rfl)|(refine W.gF _ _ rfl rfl (fun hb => ?_) (fun hb => ?_) <;> ((try simp only [hb, zA, zB]) <;> (try simp only [zC, zD, zE, zF, zG, zH, zI, zJ] at hb) <;> (try (exfalso; omega))))
  | (refine W.cond _ rfl (fun hb => ?_) (fun hb => ?_) <;> ((try simp only [hb, zA, zB]) <;> (try simp only [zC, zD, zE, zF, zG, zH, zI, zJ] at hb) <;> (try (exfalso; omega))))))
              all_goals first | exact Ends.b rfl rfl | (exfalso; omega)
          · have ht : incB D (-1) live = true := hcnd.2 fun j h => hk.2 j h (by omega)
            rw [ht]
            clear hcnd hls
            (repeat' (first
  | (apply W.qd; (first
    | (apply q_as; (conv => lhs; whnf))
    | (apply q_lss; exact rfl; exact rfl)))|(apply yA)|(apply yB)|(apply yC; kernel_rfl)|(apply yE)|(apply yI)|(apply yJ)|(apply yK)|(apply yM)
  | (refine W.cond _ rfl (fun hb => ?_) (fun hb => ?_) <;> ((try simp only [hb, zA, zB]) <;> (try simp only [zC, zD, zE, zF, zG, zH, zI, zJ] at hb) <;> (try (exfalso; omega))))))
            all_goals exact Ends.b rfl rfl
      · rw [decide_eq_false h2]
        (repeat' (first
  | (apply yFb; exact rfl; exact rfl)
  | (apply W.qd; (first
    | (apply (yW (hw)); exact rfl; exact rfl; (iterate 3 kernel_rfl))|(apply q_mv; (conv => lhs; whnf))|(apply q_as; (conv => lhs; whnf))|(apply yS; (iterate 3 exact rfl))|(apply yT; (iterate 4 exact rfl))|(apply yU; (iterate 4 exact rfl))|(apply q_eql; exact rfl; exact rfl)|(apply q_neq; exact rfl; exact rfl)|(apply yV; exact rfl; exact rfl)|(apply (yEb (u := .d _)); exact rfl; exact rfl)
    | (apply (yDb (u := .d _)); exact rfl; exact rfl)))|(apply W.ed; (apply yBb; (iterate 3 exact rfl); kernel_rfl; kernel_rfl))|(refine W.gOff _ _ rfl rfl (by intro h; cases h) ?_)|(apply yA)|(apply yB)|(apply yC; kernel_rfl)|(apply yE)|(apply yJ)|(apply yP)|(apply yQ; exact rfl)|(refine W.gF _ _ rfl rfl (fun hb => ?_) (fun hb => ?_) <;> ((try simp only [hb, zA, zB]) <;> (try simp only [zC, zD, zE, zF, zG, zH, zI, zJ] at hb) <;> (try (exfalso; omega))))
  | (refine W.cond _ rfl (fun hb => ?_) (fun hb => ?_) <;> ((try simp only [hb, zA, zB]) <;> (try simp only [zC, zD, zE, zF, zG, zH, zI, zJ] at hb) <;> (try (exfalso; omega))))))
        all_goals exact Ends.b rfl (by simp)
    · rw [decide_eq_false h1]
      (repeat' (first
  | (apply yFb; exact rfl; exact rfl)
  | (apply W.qd; (first
    | (apply (yW (hw)); exact rfl; exact rfl; (iterate 3 kernel_rfl))|(apply q_mv; (conv => lhs; whnf))|(apply q_as; (conv => lhs; whnf))|(apply yS; (iterate 3 exact rfl))|(apply yT; (iterate 4 exact rfl))|(apply yU; (iterate 4 exact rfl))|(apply q_eql; exact rfl; exact rfl)|(apply q_neq; exact rfl; exact rfl)|(apply yV; exact rfl; exact rfl)|(apply (yEb (u := .d _)); exact rfl; exact rfl)
    | (apply (yDb (u := .d _)); exact rfl; exact rfl)))|(apply W.ed; (apply yBb; (iterate 3 exact rfl); kernel_rfl; kernel_rfl))|(refine W.gOff _ _ rfl rfl (by intro h; cases h) ?_)|(apply yA)|(apply yB)|(apply yC; kernel_rfl)|(apply yE)|(apply yJ)|(apply yP)|(apply yQ; exact rfl)
  | (refine W.gF _ _ rfl rfl (fun hb => ?_) (fun hb => ?_) <;> ((try simp only [hb, zA, zB]) <;> (try simp only [zC, zD, zE, zF, zG, zH, zI, zJ] at hb) <;> (try (exfalso; omega))))))
      all_goals exact Ends.b rfl (by simp)
end Go.Proofs.YtaclmbbiegklcaaDoor
end
section
namespace Go.Proofs.YtaclmbbiegklcaaDoor
open Go.RowKit
set_option maxHeartbeats 4000000
set_option maxRecDepth 100000
def letB (c : Nat) : Bool := decide (97 ≤ c) && decide (c ≤ 122)
def digB (c : Nat) : Bool := decide (48 ≤ c) && decide (c ≤ 57)
def wordAt (s : List Nat) (k : Nat) : Bool := letB (s.getD k 0) || (decide (k ≠ 0) && digB (s.getD k 0))
def wordB (s : List Nat) : Bool := decide (s ≠ []) && (List.range s.length).all (wordAt s)
def chkC (nm : List Nat) (M D : Int) (par : List (List Int)) (dom : Int) : Bool :=
  (wordB nm && decide (nm.length ≤ 12)) && (decide (M = 8 ∨ M = 16) && decide (1 ≤ D) && decide (D ≤ 31) && decide (par.length ≠ 0) && decide (D + (par.length : Int) ≤ 32)) && par.all (rowOk M D) && (decide (1 ≤ dom) && decide (dom ≤ D + (par.length : Int)))
theorem chk_valid {nm : List Nat} {M D dom : Int} {par : List (List Int)} (h : chkC nm M D par dom = true) : validC M D par = true := by
  unfold chkC at h
  simp only [Bool.and_eq_true, decide_eq_true_eq] at h
  obtain ⟨⟨⟨h1, ⟨⟨⟨h2, h3⟩, h4⟩, h5⟩, h6⟩, h7⟩, h8⟩ := h
  unfold validC
  simp only [Bool.and_eq_true, decide_eq_true_eq]
  refine ⟨⟨⟨⟨?_, h3⟩, by omega⟩, by omega⟩, h7⟩
  unfold allF
  rw [decide_eq_true h2]
  rcases h2 with rfl | rfl <;> rfl
abbrev cdF (nm : List Nat) (M D : Int) (par : List (List Int)) (dom : Int) : AV := .agg [bS nm, iV M, iV D, rowsA par, iV dom]
theorem cdF_le {nm : List Nat} {M D dom : Int} {par : List (List Int)} {F : Nat → Prop} {own : List Ent} {κ : List (Option Nat)} {w : World} {u : Value} (h : AV.sat F own κ w (cdF nm M D par dom) u) : AV.sat F own κ w (cdA M D par) u := by
  rw [AV.sat] at h ⊢
  obtain ⟨us, h1, h2⟩ := h
  refine ⟨us, h1, ?_⟩
  generalize us.toList = l at h2
  rcases l with _ | ⟨a, _ | ⟨b, _ | ⟨c, _ | ⟨d, _ | ⟨e, l⟩⟩⟩⟩⟩ <;> simp only [AV.satL, and_false, and_assoc] at h2 ⊢
  obtain ⟨h3, h4, h5, h6, h7, h8⟩ := h2
  rw [sat_v] at h3 h7
  subst h3; subst h7
  refine ⟨?_, h4, h5, h6, ?_, h8⟩
  · rw [AV.sat, Dat.sat]; rfl
  · rw [AV.sat, Dat.sat]; rfl
theorem ACalls.cdF {P : Program} {f : FuncId} {nm : List Nat} {M D dom : Int} {par : List (List Int)} {l : List AV} {r : AV} {own own' : List Ent} (h : ACalls P f (cdA M D par :: l) own r own') : ACalls P f (cdF nm M D par dom :: l) own r own' :=
  h.le fun F κ w vs => satL_le1 (fun F own κ w u => cdF_le) F own κ w vs
attribute [local irreducible] Quiet Eff OpOk AWPG ACont ABlock ACalls AGoto
end Go.Proofs.YtaclmbbiegklcaaDoor
end
section
namespace Go.Proofs.YtaclmbbiegklcaaDoor
open Go.Shelf Go.RowKit
def layRepeat_ren : Go.Shelf.Ren := ⟨fun | 105 => 66 | 212 => 109 | 99 => 110 | 165 => 111 | 166 => 112 | 170 => 113 | 169 => 114 | 263 => 139 | 264 => 140 | 206 => 141 | 240 => 142 | 241 => 143 | 276 => 165 | 277 => 166 | n => n, fun | 9 => 9 | 3 => 3 | 4 => 4 | 20 => 20 | 0 => 0 | 46 => 153 | 109 => 154 | 5 => 5 | 72 => 160 | 76 => 164 | 51 => 191 | 146 => 192 | 53 => 194 | 148 => 195 | 70 => 157 | 37 => 158 | 75 => 163 | 127 => 197 | 164 => 217 | 80 => 167 | n => n, fun | n => n⟩
theorem layRepeat : Go.Proofs.Lays.n105 Tryd.prog layRepeat_ren := {
  mixed := by kernel_rfl
  f99 := Tryd.func110.trans (congrArg some (by kernel_rfl))
  f105 := Tryd.func66.trans (congrArg some (by kernel_rfl))
  f165 := Tryd.func111.trans (congrArg some (by kernel_rfl))
  f166 := Tryd.func112.trans (congrArg some (by kernel_rfl))
  f169 := Tryd.func114.trans (congrArg some (by kernel_rfl))
  f170 := Tryd.func113.trans (congrArg some (by kernel_rfl))
  f206 := Tryd.func141.trans (congrArg some (by kernel_rfl))
  f212 := Tryd.func109.trans (congrArg some (by kernel_rfl))
  f240 := Tryd.func142.trans (congrArg some (by kernel_rfl))
  f241 := Tryd.func143.trans (congrArg some (by kernel_rfl))
  f263 := Tryd.func139.trans (congrArg some (by kernel_rfl))
  f264 := Tryd.func140.trans (congrArg some (by kernel_rfl))
  f276 := Tryd.func165.trans (congrArg some (by kernel_rfl))
  f277 := Tryd.func166.trans (congrArg some (by kernel_rfl))
  t0 := Tryd.underlying0
  a0 := Tryd.isAgg0
  z0 := Tryd.sizeOf0
  v0 := Tryd.zeroValue0
  t3 := Tryd.underlying3
  a3 := Tryd.isAgg3
  z3 := Tryd.sizeOf3
  v3 := Tryd.zeroValue3
  t4 := Tryd.underlying4
  a4 := Tryd.isAgg4
  z4 := Tryd.sizeOf4
  v4 := Tryd.zeroValue4
  t5 := Tryd.underlying5
  a5 := Tryd.isAgg5
  z5 := Tryd.sizeOf5
  v5 := Tryd.zeroValue5
  t9 := Tryd.underlying9
  a9 := Tryd.isAgg9
  z9 := Tryd.sizeOf9
  v9 := Tryd.zeroValue9
  t20 := Tryd.underlying20
  a20 := Tryd.isAgg20
  z20 := Tryd.sizeOf20
  v20 := Tryd.zeroValue20
  t37 := Tryd.underlying158
  a37 := Tryd.isAgg158
  z37 := Tryd.sizeOf158
  v37 := Tryd.zeroValue158
  t46 := Tryd.underlying153
  a46 := Tryd.isAgg153
  z46 := Tryd.sizeOf153
  v46 := Tryd.zeroValue153
  t51 := Tryd.underlying191
  a51 := Tryd.isAgg191
  z51 := Tryd.sizeOf191
  v51 := Tryd.zeroValue191
  t53 := Tryd.underlying194
  a53 := Tryd.isAgg194
  z53 := Tryd.sizeOf194
  v53 := Tryd.zeroValue194
  t70 := Tryd.underlying157
  a70 := Tryd.isAgg157
  z70 := Tryd.sizeOf157
  v70 := Tryd.zeroValue157
  t72 := Tryd.underlying160
  a72 := Tryd.isAgg160
  z72 := Tryd.sizeOf160
  v72 := Tryd.zeroValue160
  t75 := Tryd.underlying163
  a75 := Tryd.isAgg163
  z75 := Tryd.sizeOf163
  v75 := Tryd.zeroValue163
  t76 := Tryd.underlying164
  a76 := Tryd.isAgg164
  z76 := Tryd.sizeOf164
  v76 := Tryd.zeroValue164
  t109 := Tryd.underlying154
  a109 := Tryd.isAgg154
  z109 := Tryd.sizeOf154
  v109 := Tryd.zeroValue154
  t127 := Tryd.underlying197
  a127 := Tryd.isAgg197
  z127 := Tryd.sizeOf197
  v127 := Tryd.zeroValue197
  t146 := Tryd.underlying192
  a146 := Tryd.isAgg192
  z146 := Tryd.sizeOf192
  v146 := Tryd.zeroValue192
  t148 := Tryd.underlying195
  a148 := Tryd.isAgg195
  z148 := Tryd.sizeOf195
  v148 := Tryd.zeroValue195
  t164 := Tryd.underlying217
  a164 := Tryd.isAgg217
  z164 := Tryd.sizeOf217
  v164 := Tryd.zeroValue217 }
end Go.Proofs.YtaclmbbiegklcaaDoor
end
section
namespace Go.Proofs.YtaclmbbiegklcaaDoor
open Go.Shelf Go.RowKit
theorem extra_repeat : Builder.Extra Tryd.prog layRepeat_ren where
  sizeBuilder := by kernel_rfl
  liesBuilder := by kernel_rfl
  t5 := layRepeat.t5
  a5 := layRepeat.a5
  z5 := layRepeat.z5
  v5 := layRepeat.v5
  infoByte := by kernel_rfl
  cellsByte := by kernel_rfl
  sizeByte := by kernel_rfl
  neB5 := by decide
theorem A_zero : ACalls Tryd.prog 66 [.d (.v (.string ⟨#[0]⟩)), iV 32] [] (bS (List.replicate 32 0)) [] :=
  acalls_of_exact rfl fun w => Any.strings_Repeat layRepeat extra_repeat ⟨#[0]⟩ 32 w (by omega) (by decide)
end Go.Proofs.YtaclmbbiegklcaaDoor
end
section
namespace Go.Proofs.YtaclmbbiegklcaaDoor
open Go.RowKit
set_option maxHeartbeats 4000000
set_option maxRecDepth 100000
structure FIn (nm : List Nat) (D : Int) (par : List (List Int)) : Prop where
  n : isB nm
  l : nm.length < 9223372036854775808
  d : 0 ≤ D ∧ D ≤ 1000000
  p : par.length ≤ 1000000
theorem toZ_back (ps : List (List Nat)) : ((toZ ps).map fun r => r.map Int.toNat) = ps := by
  unfold toZ
  rw [List.map_map]
  have : ((fun r : List Int => r.map Int.toNat) ∘ fun r : List Nat => r.map fun n : Nat => (n : Int)) = id := by
    funext r
    simp [Function.comp_def]
  rw [this]; simp
attribute [local irreducible] Quiet Eff OpOk AWPG ACont ABlock ACalls AGoto
end Go.Proofs.YtaclmbbiegklcaaDoor
end
section
namespace Go.Proofs.YtaclmbbiegklcaaDoor
open Go.RowKit
inductive Lf where
  | i (o : Nat)
  | s (o : Nat)
def fldsD (P : Program) : Nat → Nat → Nat → List Field → Option (List Lf)
  | 0, _, _, _ => none
  | n + 1, off, sz, [] => some []
  | n + 1, off, sz, f :: fs =>
    if f.name = "_" then none else
    match fldsD P n off sz fs with
    | none => none
    | some rest =>
      match P.underlying f.type with
      | some (.int _) => if f.offset < sz then some (.i (off + f.offset) :: rest) else none
      | some .string => if f.offset < sz then some (.s (off + f.offset) :: rest) else none
      | some (.struct fs2) => if P.stoodInHeld f.type then none else
        match P.info? f.type with
        | none => none
        | some inf => if f.offset + inf.size ≤ sz then (match fldsD P n (off + f.offset) inf.size fs2.toList with | some l => some (l ++ rest) | none => none) else none
      | _ => none
def eqLf (xs ys : Array Value) : List Lf → Option Bool
  | [] => some true
  | .i o :: os => match xs[o]?, ys[o]?, eqLf xs ys os with
    | some (.int k a), some (.int k' b), some r => if k = k' then some (decide (a = b) && r) else none
    | _, _, _ => none
  | .s o :: os => match xs[o]?, ys[o]?, eqLf xs ys os with
    | some (.string a), some (.string b), some r => some ((a.toList == b.toList) && r)
    | _, _, _ => none
theorem eqLf_app {xs ys : Array Value} : ∀ {A B : List Lf} {b : Bool}, eqLf xs ys (A ++ B) = some b → ∃ b1 b2, eqLf xs ys A = some b1 ∧ eqLf xs ys B = some b2 ∧ b = (b1 && b2)
  | [], B, b, h => ⟨true, b, rfl, h, by simp⟩
  | .i o :: A, B, b, h => by
    simp only [List.cons_append, eqLf] at h ⊢
    split at h
    · rename_i k a k' a' r h1 h2 h3
      split at h
      · rename_i hk
        obtain ⟨b1, b2, e1, e2, rfl⟩ := eqLf_app h3
        rw [h1, h2, e1]
        simp only [Option.some.injEq] at h
        exact ⟨decide (a = a') && b1, b2, by simp [hk], e2, by rw [← h, Bool.and_assoc]⟩
      · cases h
    · cases h
  | .s o :: A, B, b, h => by
    simp only [List.cons_append, eqLf] at h ⊢
    split at h
    · rename_i a a' r h1 h2 h3
      obtain ⟨b1, b2, e1, e2, rfl⟩ := eqLf_app h3
      rw [h1, h2, e1]
      simp only [Option.some.injEq] at h
      exact ⟨(a.toList == a'.toList) && b1, b2, rfl, e2, by rw [← h, Bool.and_assoc]⟩
    · cases h
theorem run_eqD {P : Program} {w : World} : ∀ (n d off sz : Nat) (fs : List Field) (os : List Lf) (xs ys X Y : Array Value) (b : Bool), fldsD P n off sz fs = some os → (∀ i, i < sz → X[i]? = xs[off + i]?) → (∀ i, i < sz → Y[i]? = ys[off + i]?) → eqLf xs ys os = some b → (Op.eqFields (d + n) X Y fs).run P w = .ok b w
  | 0, d, off, sz, fs, os, xs, ys, X, Y, b, h, hX, hY, hb => by simp [fldsD] at h
  | n + 1, d, off, sz, [], os, xs, ys, X, Y, b, h, hX, hY, hb => by
    simp only [fldsD, Option.some.injEq] at h
    subst h
    simp only [eqLf, Option.some.injEq] at hb
    subst hb
    rfl
  | n + 1, d, off, sz, f :: fs, os, xs, ys, X, Y, b, h, hX, hY, hb => by
    simp only [fldsD] at h
    split at h
    · cases h
    · rename_i hne
      split at h
      · cases h
      · rename_i rest hrest
        have tail : ∀ r, eqLf xs ys rest = some r → (Op.eqFields (d + (n + 1)) X Y fs).run P w = .ok r w := fun r hr => by
          have := run_eqD (w := w) n (d + 1) off sz fs rest xs ys X Y r hrest hX hY hr
          rwa [show d + 1 + n = d + (n + 1) by omega] at this
        have fin : ∀ (a c : Value) (q r : Bool), (part f.type X f.offset).run P w = .ok a w → (part f.type Y f.offset).run P w = .ok c w → (Op.equalIn (d + (n + 1)) f.type a c).run P w = .ok q w → eqLf xs ys rest = some r → (Op.eqFields (d + (n + 1)) X Y (f :: fs)).run P w = .ok (q && r) w := fun a c q r e1 e2 e3 hr => by
          simp only [Op.eqFields, hne, ne_eq, not_false_eq_true, if_true, Sem.run_bind, e1, e2, e3, Result.andThen_ok, Sem.run_ite]
          cases q with
          | true => simpa using tail r hr
          | false => simp
        split at h
        · rename_i k hk
          split at h
          · rename_i hlt
            obtain rfl : Lf.i (off + f.offset) :: rest = os := by simpa using h
            simp only [eqLf] at hb
            split at hb
            · rename_i k1 a k2 c r h1 h2 h3
              split at hb
              · rename_i hkk
                subst hkk
                obtain rfl : (decide (a = c) && r) = b := by simpa using hb
                have hia : (isAgg f.type).run P w = .ok false w := by simp [isAgg, run_underlying hk]
                refine fin (.int k1 a) (.int k1 c) (decide (a = c)) r (by simp [part, hia, hX _ hlt, h1]) (by simp [part, hia, hY _ hlt, h2]) ?_ h3
                rw [show d + (n + 1) = (d + n) + 1 by omega, run_equalIn_int w (d + n) f.type k1 k a c hk]
                congr 1
              · cases hb
            · cases hb
          · cases h
        · rename_i hk
          split at h
          · rename_i hlt
            obtain rfl : Lf.s (off + f.offset) :: rest = os := by simpa using h
            simp only [eqLf] at hb
            split at hb
            · rename_i a c r h1 h2 h3
              obtain rfl : ((a.toList == c.toList) && r) = b := by simpa using hb
              have hia : (isAgg f.type).run P w = .ok false w := by simp [isAgg, run_underlying hk]
              refine fin (.string a) (.string c) (a.toList == c.toList) r (by simp [part, hia, hX _ hlt, h1]) (by simp [part, hia, hY _ hlt, h2]) ?_ h3
              rw [show d + (n + 1) = (d + n) + 1 by omega, run_equalIn_string w (d + n) f.type a c hk]
            · cases hb
          · cases h
        · rename_i fs2 hk
          split at h
          · cases h
          · rename_i hst
            split at h
            · cases h
            · rename_i inf hi
              split at h
              · rename_i hfit
                split at h
                · rename_i l hl
                  obtain rfl : l ++ rest = os := by simpa using h
                  obtain ⟨b1, b2, g1, g2, rfl⟩ := eqLf_app hb
                  have hia : (isAgg f.type).run P w = .ok true w := by simp [isAgg, run_underlying hk]
                  have hsz : (sizeOf f.type).run P w = .ok inf.size w := by simp [sizeOf, typeInfo, hi]
                  have hfo : P.fieldsOf f.type = fs2 := by simp [Program.fieldsOf, hk]
                  refine fin (.agg (X.extract f.offset (f.offset + inf.size))) (.agg (Y.extract f.offset (f.offset + inf.size))) b1 b2 (by simp [part, hia, hsz]) (by simp [part, hia, hsz]) ?_ g2
                  rw [show d + (n + 1) = (d + n) + 1 by omega, run_equalIn_struct w (d + n) f.type _ _ (by rw [hfo]; exact hk) (by simpa using hst), hfo]
                  refine run_eqD n d (off + f.offset) inf.size fs2.toList l xs ys _ _ b1 hl (fun i hi => ?_) (fun i hi => ?_) g1
                  · have := hX (f.offset + i) (by omega)
                    rw [show off + f.offset + i = off + (f.offset + i) by omega, ← this, Array.getElem?_extract]
                    split
                    · rfl
                    · rename_i hne2
                      rw [Array.getElem?_eq_none (by omega)]
                  · have := hY (f.offset + i) (by omega)
                    rw [show off + f.offset + i = off + (f.offset + i) by omega, ← this, Array.getElem?_extract]
                    split
                    · rfl
                    · rename_i hne2
                      rw [Array.getElem?_eq_none (by omega)]
                · cases h
              · cases h
        · cases h
def fldsT (P : Program) (t : TypeId) : Option (List Lf) :=
  match P.underlying t, P.info? t with
  | some (.struct fs), some inf => if P.stoodInHeld t || P.eqGuardType P.depth t then none else fldsD P 30 0 inf.size fs.toList
  | _, _ => none
theorem run_eqT {P : Program} {t : TypeId} {os : List Lf} (h : fldsT P t = some os) {xs ys : Array Value} {b : Bool} (hb : eqLf xs ys os = some b) (x y : Operand) (w : World) :
    (do eqGuard .eql t x y (.agg xs) (.agg ys); binOp .eql t (.agg xs) (.agg ys) : Sem Value).run P w = .ok (.bool b) w ∧ (do eqGuard .neq t x y (.agg xs) (.agg ys); binOp .neq t (.agg xs) (.agg ys) : Sem Value).run P w = .ok (.bool (!b)) w := by
  unfold fldsT at h
  split at h
  · rename_i fs inf hu hi
    split at h
    · cases h
    · rename_i hc
      simp only [Bool.or_eq_true, not_or, Bool.not_eq_true] at hc
      have hfo : P.fieldsOf t = fs := by simp [Program.fieldsOf, hu]
      have e := run_eqD (P := P) (w := w) 30 9969 0 inf.size fs.toList os xs ys xs ys b h (fun i _ => by rw [Nat.zero_add]) (fun i _ => by rw [Nat.zero_add]) hb
      have e2 : (Op.equalIn 10000 t (.agg xs) (.agg ys)).run P w = .ok b w := by
        rw [run_equalIn_struct w 9999 t xs ys (by rw [hfo]; exact hu) hc.1, hfo]; exact e
      constructor
      · rw [Sem.run_bind, run_eqGuard_agg _ _ _ _ _ _ _ hc.2, Result.andThen_ok, run_eql_struct, e2]; rfl
      · rw [Sem.run_bind, run_eqGuard_agg _ _ _ _ _ _ _ hc.2, Result.andThen_ok, run_neq_struct, e2]; rfl
  · cases h
section
variable {P : Program} {m : Nat} {dst : Option Tmp} {ty : TypeId} {pos : String} {af : Array Edge} {env : List (Nat × AV)} {own : List Ent} {gd : Option (Nat × Bool)}
theorem q_eqT {t t' : TypeId} {os : List Lf} {x y : Operand} {l1 l2 : List AV} {vs1 vs2 : List Value} {b b' : Bool} (hf : fldsT P t = some os) (hx : lookO env x = .agg l1) (hy : lookO env y = .agg l2) (h1 : l1.mapM valA = some vs1) (h2 : l2.mapM valA = some vs2) (hb : eqLf vs1.toArray vs2.toArray os = some b) (he : b = b') :
    Quiet P m ⟨dst, .binOp .eql t x y t', ty, pos, af, gd⟩ env own [] (bV b') := Quiet.val fun F own' κ a w hs _ _ _ => by
  subst he
  have g1 := hs x (by simp [Op.operands]); rw [hx] at g1
  have g2 := hs y (by simp [Op.operands]); rw [hy] at g2
  refine ⟨.bool b, exec_v ?_, sat_v.2 rfl⟩
  rw [valL_eq h1 g1, valL_eq h2 g2]; exact (run_eqT hf hb x y w).1
end
end Go.Proofs.YtaclmbbiegklcaaDoor
end
section
namespace Go.Proofs.YtaclmbbiegklcaaDoor
open Go.RowKit
set_option maxHeartbeats 4000000
set_option maxRecDepth 100000
abbrev Cd := List Nat × Int × Int × List (List Int) × Int
abbrev Sv := List Nat × Int × Int × Int × Int
def cdD (c : Cd) : List Dat := [.v (.string (bytesOf c.1)), .v (.int .i64 c.2.1), .v (.int .i64 c.2.2.1), .sl 1 (c.2.2.2.1.map rD), .v (.int .i64 c.2.2.2.2)]
abbrev cdA1 (c : Cd) : AV := .agg ((cdD c).map .d)
def cd0 : Cd := ([], 0, 0, [], 0)
def chkD (c : Cd) : Bool := chkC c.1 c.2.1 c.2.2.1 c.2.2.2.1 c.2.2.2.2
def FInD (c : Cd) : Prop := FIn c.1 c.2.2.1 c.2.2.2.1
structure NameIn (s : List Nat) : Prop where
  b : isB s
  l : s.length < 9223372036854775808
def fcI (cs : List Cd) (nm : List Nat) : Int := idxA (fun c => decide (c.1 = nm)) cs
attribute [local irreducible] Quiet Eff OpOk AWPG ACont ABlock ACalls AGoto
end Go.Proofs.YtaclmbbiegklcaaDoor
end
section
namespace Go.Proofs.YtaclmbbiegklcaaDoor
open Go.RowKit
set_option maxHeartbeats 4000000
set_option maxRecDepth 100000
theorem fin_chk {c : Cd} (h : chkD c = true) (hn : NameIn c.1) : FInD c := by
  have hv := chk_valid h
  unfold validC at hv
  simp only [Bool.and_eq_true, decide_eq_true_eq] at hv
  exact ⟨hn.b, hn.l, by omega, by omega⟩
attribute [local irreducible] Quiet Eff OpOk AWPG ACont ABlock ACalls AGoto
end Go.Proofs.YtaclmbbiegklcaaDoor
end
section
namespace Go.Proofs.YtaclmbbiegklcaaDoor
open Go.RowKit
set_option maxHeartbeats 4000000
set_option maxRecDepth 100000
structure LibOk (cs : List Cd) (vs : List Sv) : Prop where
  cn : ∀ c ∈ cs, NameIn c.1
  ck : ∀ c ∈ cs, chkD c = true
  vn : ∀ v ∈ vs, NameIn v.1
  cl : cs.length ≤ 1000
  vl : vs.length ≤ 1000
abbrev Lb := List Cd × List Sv
def lb0 : Lb := ([], [])
def addCN (cs : List Cd) (vs : List Sv) (c : Cd) : Lb × Int × Int :=
  if chkD c = false then (lb0, 0, 1) else if 0 ≤ fcI cs c.1 then (lb0, 0, 20) else if 8 ≤ cs.length then (lb0, 0, 2) else ((cs ++ [c], vs), (cs.length : Int), 0)
theorem LibOk.fin {cs : List Cd} {vs : List Sv} (h : LibOk cs vs) : ∀ c ∈ cs, FInD c := fun c hc => fin_chk (h.ck c hc) (h.cn c hc)
attribute [local irreducible] Quiet Eff OpOk AWPG ACont ABlock ACalls AGoto
end Go.Proofs.YtaclmbbiegklcaaDoor
end
section
namespace Go.Proofs.YtaclmbbiegklcaaDoor
open Go.RowKit
set_option maxHeartbeats 4000000
set_option maxRecDepth 100000
def few30 (c : Cd) : Bool := decide (0 ≤ c.2.2.1) && (decide (c.2.2.1 ≤ 5) && (decide (c.2.2.2.1.length ≤ 5) && decide (c.2.2.1 + (c.2.2.2.1.length : Int) ≤ 7)))
theorem LibOk.nil : LibOk [] [] := ⟨by simp, by simp, by simp, by decide, by decide⟩
theorem LibOk.addC {cs : List Cd} {vs : List Sv} (h : LibOk cs vs) (c : Cd) (h1 : NameIn c.1) (h2 : chkD c = true) (h3 : cs.length < 900) : LibOk (cs ++ [c]) vs where
  cn x hx := by
    rcases List.mem_append.1 hx with h4 | h4
    · exact h.cn x h4
    · rw [List.mem_singleton.1 h4]; exact h1
  ck x hx := by
    rcases List.mem_append.1 hx with h4 | h4
    · exact h.ck x h4
    · rw [List.mem_singleton.1 h4]; exact h2
  vn := h.vn
  cl := by simp; omega
  vl := h.vl
theorem LibOk.addV {cs : List Cd} {vs : List Sv} (h : LibOk cs vs) (v : Sv) (h1 : NameIn v.1) (h3 : vs.length < 900) : LibOk cs (vs ++ [v]) where
  cn := h.cn
  ck := h.ck
  vn x hx := by
    rcases List.mem_append.1 hx with h4 | h4
    · exact h.vn x h4
    · rw [List.mem_singleton.1 h4]; exact h1
  cl := h.cl
  vl := by simp; omega
def rs30 : Cd := ([114, 115], 8, 2, [[1, 1], [1, 2]], 1)
def pa30 : Cd := ([112, 97, 114], 8, 2, [[1, 1]], 1)
def pb30 : Cd := ([112, 97, 114], 8, 2, [[1, 2]], 1)
def pc30 : Cd := ([112, 97, 114, 50], 8, 2, [[1, 2]], 1)
theorem n_rs : NameIn rs30.1 := ⟨by unfold isB rs30; decide, by decide⟩
theorem n_pa : NameIn pa30.1 := ⟨by unfold isB pa30; decide, by decide⟩
theorem L1 : LibOk [rs30] [] := LibOk.nil.addC rs30 n_rs (by kernel_rfl) (by decide)
theorem L2 : LibOk [rs30, pa30] [] := L1.addC pa30 n_pa (by kernel_rfl) (by decide)
theorem r1 : addCN [] [] rs30 = (([rs30], []), 0, 0) := by kernel_rfl
theorem r2 : addCN [rs30] [] pa30 = (([rs30, pa30], []), 1, 0) := by kernel_rfl
theorem r3 : addCN [rs30, pa30] [] pb30 = (lb0, 0, 20) := by kernel_rfl
theorem r4 : addCN [rs30, pa30] [] pc30 = (([rs30, pa30, pc30], []), 2, 0) := by kernel_rfl
attribute [local irreducible] Quiet Eff OpOk AWPG ACont ABlock ACalls AGoto
end Go.Proofs.YtaclmbbiegklcaaDoor
end
section
namespace Go.Proofs.YtaclmbbiegklcaaDoor
open Go.RowKit
section
variable {P : Program} {m : Nat} {env : List (Nat × AV)} {own : List Ent} {dst : Option Tmp} {ty : TypeId} {pos : String} {af : Array Edge} {gd : Option (Nat × Bool)}
theorem q_ld_mapp {α : Type} {f : α → List Dat} {l : List α} {t : TypeId} {k : Nat} {x : Operand} {sz j o : Nat} {r : List AV} (ht : tyInfo P t = some (true, k)) (hx : lookO env x = .fpt sz (l.map f) j o) (hj : j < l.length) (hr : takeF k (((f (l[j]'hj)).map AV.d).drop o) = some r) :
    Quiet P m ⟨dst, .load t x, ty, pos, af, gd⟩ env own [] (.agg r) :=
  Quiet.val fun F own' κ a w hs _ _ _ => by
    have h1 := hs x (by simp [Op.operands]); rw [hx, AV.sat] at h1
    obtain ⟨b, q, h2, h3, h4, h5⟩ := h1
    obtain ⟨h6, h7⟩ := Dat.rowsSat_iff.1 h5 j (f l[j]) (by rw [List.getElem?_map, List.getElem?_eq_getElem hj]; rfl)
    have h7 := Dat.rowSat_iff.1 h7
    generalize f l[j] = e at *
    obtain ⟨hr1, hr2⟩ := takeF_spec hr
    rw [List.length_drop, List.length_map] at hr2
    rcases Nat.lt_or_ge o e.length with ho | ho
    · let us := (List.range k).map fun i => ((w.cell? ⟨b, q + j * sz + (o + i), none⟩).getD undef)
      have hus : ∀ (i : Nat) (y : Dat), i < k → e[o + i]? = some y → ∃ u, us[i]? = some u ∧ w.cell? ⟨b, q + j * sz + (o + i), none⟩ = some u ∧ Dat.sat (badK F κ) w y u := fun i y hi hy => by
        obtain ⟨u, h8, h9, h10⟩ := h7 (o + i) y hy
        exact ⟨u, by simp [us, hi, h8], h8, h10⟩
      have hrun : (Instr.loadAt t (.pointer (some ⟨b, q + j * sz + o, none⟩))).run P w = .ok (.agg us.toArray) w := by
        refine run_loadAt_agg ht us (by simp [us]) fun i u hu => ?_
        have hlt : i < k := by have := (List.getElem?_eq_some_iff.1 hu).1; simpa [us] using this
        obtain ⟨u', h8, h9, _⟩ := hus i _ hlt (List.getElem?_eq_getElem (by omega))
        rw [hu] at h8; obtain rfl : u = u' := by simpa using h8
        rw [show q + j * sz + o + i = q + j * sz + (o + i) from by omega]; exact h9
      refine ⟨.agg us.toArray, exec_v (by rw [h2]; exact hrun), ?_⟩
      rw [AV.sat]
      refine ⟨_, rfl, satL_of (by simp [us, hr1]; omega) fun i y hy => ?_⟩
      rw [hr1, List.getElem?_take] at hy
      split at hy
      · rename_i hik
        rw [List.getElem?_drop, List.getElem?_map] at hy
        cases he' : e[o + i]? with
        | none => simp [he'] at hy
        | some d =>
          obtain rfl : AV.d d = y := by simpa [he'] using hy
          obtain ⟨u, h8, _, h9⟩ := hus i d hik he'
          exact ⟨u, by simpa using h8, by rw [AV.sat]; exact h9⟩
      · cases hy
    · obtain rfl : k = 0 := by omega
      have hrun : (Instr.loadAt t (.pointer (some ⟨b, q + j * sz + o, none⟩))).run P w = .ok (.agg ([] : List Value).toArray) w := by
        refine run_loadAt_agg ht [] rfl fun i u hu => by simp at hu
      refine ⟨.agg ([] : List Value).toArray, exec_v (by rw [h2]; exact hrun), ?_⟩
      rw [AV.sat]
      refine ⟨_, rfl, ?_⟩
      rw [hr1]
      simp [AV.satL]
end
end Go.Proofs.YtaclmbbiegklcaaDoor
end
section
namespace Go.Proofs.YtaclmbbiegklcaaDoor
open Go.RowKit
set_option maxHeartbeats 4000000
set_option maxRecDepth 100000
abbrev Sr := Cd × List (List Nat) × List Bool × List Int
def sr0 : Sr := (cd0, [], [], [])
def srD (s : Sr) : List Dat := [.v (.string (bytesOf s.1.1)), .v (.int .i64 s.1.2.1), .v (.int .i64 s.1.2.2.1), .sl 1 (s.1.2.2.2.1.map rD), .v (.int .i64 s.1.2.2.2.2), .sl 1 (s.2.1.map sD), .sl 1 (s.2.2.1.map tD), .sl 1 (s.2.2.2.map iD)]
abbrev srcs (l : List Sr) : AV := .d (.sl 8 (l.map srD))
abbrev srA1 (s : Sr) : AV := .agg ((srD s).map .d)
def srB (s : Sr) : Bool := srcB s.1.2.1 s.1.2.2.1 s.1.2.2.2.1 s.2.1 s.2.2.1 s.2.2.2
structure SrIn (s : Sr) : Prop where
  c : CodeIn s.1.2.2.2.1
  us : s.2.1.length ≤ 10000000
  hv : s.2.2.1.length ≤ 10000000
  ll : s.2.2.2.length ≤ 10000000
  b : ∀ x ∈ s.2.1, isB x ∧ x.length < 9223372036854775808
def recSr (s : Sr) (u : Nat) : Option (List Nat) := recN s.1.2.1.toNat s.1.2.2.1.toNat (s.1.2.2.2.1.map fun r => r.map Int.toNat) s.2.1 s.2.2.1 u
theorem getDs {ss : List Sr} {i : Nat} (h : i < ss.length) : ss.getD i sr0 = ss[i] := by rw [List.getD_eq_getElem?_getD, List.getElem?_eq_getElem h]; rfl
theorem sr_ok {s : Sr} (h : srB s = true) (hb : ∀ x ∈ s.2.1, isB x ∧ x.length < 9223372036854775808) : ∃ (M D : Nat) (ps : List (List Nat)), s.1.2.1 = M ∧ s.1.2.2.1 = D ∧ s.1.2.2.2.1 = toZ ps ∧ SrcOk M D ps s.2.1 s.2.2.1 ∧ ∀ k (hk : k < s.2.2.2.length), 0 ≤ s.2.2.2[k] ∧ s.2.2.2[k] < (D : Int) := by
  unfold srB srcB at h
  simp only [Bool.and_eq_true, decide_eq_true_eq] at h
  obtain ⟨⟨⟨⟨h1, h2⟩, h3⟩, h4⟩, h5⟩ := h
  obtain ⟨M, D, ps, e1, e2, e3, hok⟩ := ok_valid h1
  have hpl : (toZ ps).length = ps.length := List.length_map _
  rw [e2, e3, hpl] at h2 h3
  refine ⟨M, D, ps, e1, e2, e3, ⟨hok, by omega, by omega, fun i hi => ?_, hb⟩, fun k hk => ?_⟩
  · unfold lenB at h4
    rw [List.all_eq_true] at h4
    have hil : i < s.2.2.1.length := by
      rcases Nat.lt_or_ge i s.2.2.1.length with h6 | h6
      · exact h6
      · rw [List.getD_eq_getElem?_getD, List.getElem?_eq_none h6] at hi; cases hi
    have := h4 i (List.mem_range.2 hil)
    rw [hi] at this
    simpa using this
  · have h6 := (incB_drop _ _ _).1 h5
    have hall : ∀ j (hj : j < s.2.2.2.length), 0 ≤ s.2.2.2[j] ∧ s.2.2.2[j] < s.1.2.2.1 := fun j => by
      induction j with
      | zero =>
        intro hj
        have := h6 0 hj
        rw [if_pos rfl] at this
        omega
      | succ j ih =>
        intro hj
        have h7 := h6 (j + 1) hj
        have h8 := ih (by omega)
        rw [if_neg (by omega), Nat.add_sub_cancel, List.getD_eq_getElem?_getD, List.getElem?_eq_getElem (by omega)] at h7
        simp only [Option.getD_some] at h7
        omega
    have := hall k hk
    rw [e2] at this
    exact this
theorem sr_rec {s : Sr} {M D : Nat} {ps : List (List Nat)} (e1 : s.1.2.1 = M) (e2 : s.1.2.2.1 = D) (e3 : s.1.2.2.2.1 = toZ ps) (u : Nat) : recSr s u = recN M D ps s.2.1 s.2.2.1 u := by
  unfold recSr
  rw [e1, e2, e3, toZ_back, Int.toNat_natCast, Int.toNat_natCast]
def liveTo (ss : List Sr) (n : Nat) : List (Nat × Nat) := ((List.range n).map fun j => (ss.getD j sr0).2.2.2.map fun u => (j, u.toNat)).flatten
def preL (ss : List Sr) (i k : Nat) : List (Nat × Nat) := liveTo ss i ++ ((ss.getD i sr0).2.2.2.take k).map fun u => (i, u.toNat)
theorem liveTo_succ (ss : List Sr) (n : Nat) : liveTo ss (n + 1) = liveTo ss n ++ (ss.getD n sr0).2.2.2.map fun u => (n, u.toNat) := by
  unfold liveTo
  rw [List.range_succ, List.map_append, List.flatten_append]
  simp
theorem preL_zero (ss : List Sr) (i : Nat) : preL ss i 0 = liveTo ss i := by unfold preL; simp
theorem preL_succ {ss : List Sr} {i k : Nat} (hi : i < ss.length) (hk : k < ss[i].2.2.2.length) : preL ss i (k + 1) = preL ss i k ++ [(i, ss[i].2.2.2[k].toNat)] := by
  unfold preL
  rw [getDs hi, List.take_succ_eq_append_getElem hk, List.map_append, List.append_assoc]; rfl
theorem preL_next {ss : List Sr} {i : Nat} (hi : i < ss.length) : preL ss i ss[i].2.2.2.length = preL ss (i + 1) 0 := by
  rw [preL_zero, liveTo_succ]
  unfold preL
  rw [getDs hi, List.take_length]
theorem liveTo_le (ss : List Sr) {n m : Nat} (h : n ≤ m) : (liveTo ss n).length ≤ (liveTo ss m).length := by
  induction m with
  | zero => obtain rfl : n = 0 := by omega
            exact Nat.le_refl _
  | succ m ih =>
    by_cases e : n = m + 1
    · rw [e]; exact Nat.le_refl _
    · rw [liveTo_succ, List.length_append]
      have := ih (by omega)
      omega
theorem preL_le {ss : List Sr} {i k : Nat} (hi : i < ss.length) : (preL ss i k).length ≤ (liveTo ss ss.length).length := by
  refine Nat.le_trans ?_ (liveTo_le ss (show i + 1 ≤ ss.length by omega))
  rw [liveTo_succ]
  unfold preL
  rw [List.length_append, List.length_append, List.length_map, List.length_map, List.length_take]
  omega
theorem live_cnt (ss : List Sr) (i u : Nat) : ∀ n, (liveTo ss n).count (i, u) = if i < n then ((ss.getD i sr0).2.2.2.map Int.toNat).count u else 0
  | 0 => by simp [liveTo]
  | n + 1 => by
    rw [liveTo_succ, List.count_append, live_cnt ss i u n]
    have h1 : ∀ l : List Int, (l.map fun u => (n, u.toNat)).count (i, u) = if n = i then (l.map Int.toNat).count u else 0 := fun l => by
      induction l with
      | nil => simp
      | cons a l ih =>
        rw [List.map_cons, List.count_cons, ih, List.map_cons, List.count_cons]
        by_cases e : n = i
        · subst e
          rw [if_pos rfl, if_pos rfl]
          by_cases e2 : a.toNat = u
          · rw [e2]; simp
          · have h3 : ((n, a.toNat) == (n, u)) = false := by simpa using e2
            have h4 : (a.toNat == u) = false := by simpa using e2
            rw [h3, h4]
        · rw [if_neg e, if_neg e]
          have h3 : ((n, a.toNat) == (i, u)) = false := by
            rw [beq_eq_false_iff_ne]; intro e2; exact e (by injection e2)
          rw [h3]; rfl
    rw [h1]
    by_cases e : n = i
    · subst e
      rw [if_neg (by omega), if_pos rfl, if_pos (by omega), Nat.zero_add]
    · rw [if_neg e, Nat.add_zero]
      by_cases e2 : i < n
      · rw [if_pos e2, if_pos (by omega)]
      · rw [if_neg e2, if_neg (by omega)]
def recAt (ss : List Sr) (i u : Nat) : Option (List Nat) := recSr (ss.getD i sr0) u
abbrev Mv := Nat × Nat × Nat × Nat
def mvD (m : Mv) : List Dat := [.v (.int .i64 m.1), .v (.int .i64 m.2.1), .v (.int .i64 m.2.2.1), .v (.int .i64 m.2.2.2)]
def stD (u : List (List Nat)) : List Dat := [.sl 1 (u.map sD)]
def movN (D : Nat) (l : List (Nat × Nat)) : List Mv := l.zipIdx.map fun p => (p.1.1, p.1.2, p.2 / D, p.2 % D)
theorem movN_len (D : Nat) (l : List (Nat × Nat)) : (movN D l).length = l.length := by unfold movN; simp
theorem movN_snoc (D : Nat) (l : List (Nat × Nat)) (p : Nat × Nat) : movN D (l ++ [p]) = movN D l ++ [(p.1, p.2, l.length / D, l.length % D)] := by
  unfold movN
  rw [List.zipIdx_append, List.map_append]; simp
abbrev pkA (st : List (List (List Nat))) (mv : List Mv) (lo : List (Nat × Nat)) : AV := .agg [.d (.sl 1 (st.map stD)), .d (.sl 4 (mv.map mvD)), .d (.sl 2 (lo.map tmD))]
def cutN (M D : Nat) (ps : List (List Nat)) (pd : List (List Nat)) (q : Nat) : List (List (List Nat)) := (List.range q).map fun j => encN M ps ((pd.drop (j * D)).take D)
theorem cutN_succ (M D : Nat) (ps : List (List Nat)) (pd : List (List Nat)) (q : Nat) : cutN M D ps pd (q + 1) = cutN M D ps pd q ++ [encN M ps ((pd.drop (q * D)).take D)] := by
  unfold cutN
  rw [List.range_succ, List.map_append]; rfl
theorem cutN_len (M D : Nat) (ps : List (List Nat)) (pd : List (List Nat)) (q : Nat) : (cutN M D ps pd q).length = q := by unfold cutN; simp
def zero32 : List Nat := List.replicate 32 0
theorem pad_ge (D : Nat) (z : List Nat) (l : List (List Nat)) : l.length ≤ (padN D z l).length ∧ (padN D z l).length ≤ l.length + D := by
  unfold padN
  rw [List.length_append, List.length_replicate]
  refine ⟨by omega, ?_⟩
  rcases Nat.eq_zero_or_pos D with h | h
  · subst h; simp
  · have := Nat.mod_lt (D - l.length % D) h; omega
theorem pad_mem {D : Nat} {z : List Nat} {l : List (List Nat)} {x : List Nat} (h : x ∈ padN D z l) : x ∈ l ∨ x = z := by
  unfold padN at h
  rcases List.mem_append.1 h with h1 | h1
  · exact .inl h1
  · exact .inr (List.eq_of_mem_replicate h1)
structure Pkd where
  st : List (List (List Nat))
  mv : List Mv
  lo : List (Nat × Nat)
  e : Int
def packS (ss : List Sr) : PackS := packN (recAt ss) (liveTo ss ss.length)
def padS (D : Nat) (ss : List Sr) : List (List Nat) := padN D zero32 (packS ss).data
def repOk (M D : Nat) (ps : List (List Nat)) (ss : List Sr) : Pkd := ⟨cutN M D ps (padS D ss) ((padS D ss).length / D), movN D (packS ss).from', (packS ss).lost, 0⟩
def repN (tc : Cd) (ss : List Sr) : Pkd := if validC tc.2.1 tc.2.2.1 tc.2.2.2.1 = true ∧ ss.all srB = true then repOk tc.2.1.toNat tc.2.2.1.toNat (tc.2.2.2.1.map fun r => r.map Int.toNat) ss else ⟨[], [], [], 1⟩
abbrev repA (p : Pkd) : AV := .tup [pkA p.st p.mv p.lo, iV p.e]
theorem srA1_le {s : Sr} {F : Nat → Prop} {own : List Ent} {κ : List (Option Nat)} {w : World} {u : Value} (h : AV.sat F own κ w (srA1 s) u) : AV.sat F own κ w (srcA s.1.2.1 s.1.2.2.1 s.1.2.2.2.1 s.2.1 s.2.2.1 s.2.2.2) u := by
  unfold srA1 srD at h
  unfold srcA
  rw [AV.sat] at h ⊢
  obtain ⟨us, h1, h2⟩ := h
  refine ⟨us, h1, ?_⟩
  generalize us.toList = l at h2
  simp only [List.map_cons, List.map_nil] at h2
  rcases l with _ | ⟨a, _ | ⟨b, _ | ⟨c, _ | ⟨d, _ | ⟨e, _ | ⟨f, _ | ⟨g, _ | ⟨i, l⟩⟩⟩⟩⟩⟩⟩⟩ <;> simp only [AV.satL, and_false, and_assoc] at h2 ⊢
  obtain ⟨h3, h4, h5, h6, h7, h8⟩ := h2
  rw [sat_v] at h3 h7
  subst h3; subst h7
  refine ⟨?_, h4, h5, h6, ?_, h8⟩
  · rw [AV.sat, Dat.sat]; rfl
  · rw [AV.sat, Dat.sat]; rfl
theorem ACalls.srF {P : Program} {f : FuncId} {s : Sr} {l : List AV} {r : AV} {own own' : List Ent} (h : ACalls P f (srcA s.1.2.1 s.1.2.2.1 s.1.2.2.2.1 s.2.1 s.2.2.1 s.2.2.2 :: l) own r own') : ACalls P f (srA1 s :: l) own r own' :=
  h.le fun F κ w vs => satL_le1 (fun F own κ w u => srA1_le) F own κ w vs
attribute [local irreducible] Quiet Eff OpOk AWPG ACont ABlock ACalls AGoto
theorem A_srv {s : Sr} (h : SrIn s) : ACalls Tryd.prog 63 [srA1 s] [] (bV (srB s)) [] :=
  (A_cvalid h.c h.us h.hv h.ll (fun u hu => (h.b u hu).2)).srF
theorem A_srec {s : Sr} (hv : srB s = true) (h : SrIn s) {k : Nat} (hk : k < s.2.2.2.length) : ACalls Tryd.prog 65 [cdA1 s.1, strs s.2.1, bools s.2.2.1, iV s.2.2.2[k]] [] (recR (recSr s s.2.2.2[k].toNat)) [] := by
  obtain ⟨M, D, ps, e1, e2, e3, hs, hl⟩ := sr_ok hv h.b
  have hk2 := hl k hk
  have hw := hs.c.w
  have := A_erecS (u := s.2.2.2[k].toNat) hs (by omega)
  rw [← sr_rec e1 e2 e3, Int.toNat_of_nonneg hk2.1, cdN_A, ← e1, ← e2, ← e3] at this
  exact this.cdF (nm := s.1.1) (dom := s.1.2.2.2.2)
theorem sr_rlen {s : Sr} (hv : srB s = true) (h : SrIn s) {k : Nat} (hk : k < s.2.2.2.length) {x : List Nat} (hr : recSr s s.2.2.2[k].toNat = some x) : isB x ∧ x.length = 32 := by
  obtain ⟨M, D, ps, e1, e2, e3, hs, hl⟩ := sr_ok hv h.b
  have hk2 := hl k hk
  rw [sr_rec e1 e2 e3] at hr
  exact hs.rec_len (by have := hs.c.w; omega) hr
end Go.Proofs.YtaclmbbiegklcaaDoor
end
section
namespace Go.Proofs.YtaclmbbiegklcaaDoor
open Go.RowKit
set_option maxHeartbeats 4000000
set_option maxRecDepth 100000
attribute [local irreducible] Quiet Eff OpOk AWPG ACont ABlock ACalls AGoto
theorem A_live0 {ss : List Sr} : ACalls Tryd.prog 64 [srcs ss] [] (.fn 105 [.opt 0 0]) [.box [srcs ss]] := by
  refine acalls_of_bodyO Tryd.func64 rfl (Nat.le_of_ble_eq_true rfl) ?_
  (repeat' (first
  | (apply W.qd; (first
    | (apply q_as; (conv => lhs; whnf))
    | (apply q_makeFunc)))|(apply W.ed; (apply yBb; (iterate 3 exact rfl); kernel_rfl; kernel_rfl))|(apply yA)|(apply yB)|(apply yC; kernel_rfl)|(apply yE)
  | (apply yJ)))
  exact ⟨.inl rfl, [0], [.fn 105 [.opt 0 0]], rfl, rfl, ⟨rfl, trivial⟩, AVle.of_eq rfl, rfl⟩
theorem A_liveIter {ss : List Sr} {E0 E1 E2 E5 L : Ent} {e3 e4 e6 e7 e8 : List (Nat × Nat) → Ent} (hl : ss.length ≤ 10000000) (hll : ∀ s ∈ ss, s.2.2.2.length ≤ 10000000)
    (hcl : ∀ (p : List (Nat × Nat)) (Y : List Ent), selOwn (E0 :: E1 :: E2 :: e3 p :: e4 p :: E5 :: e6 p :: e7 p :: e8 p :: .box [srcs ss] :: L :: Y) [0, 1, 2, 3, 4, 5, 6, 7, 8, 9, 10] = [E0, E1, E2, e3 p, e4 p, E5, e6 p, e7 p, e8 p, .box [srcs ss], L])
    (h : ∀ i (hi : i < ss.length) k (hk : k < ss[i].2.2.2.length), YAt Tryd.prog 10 [E0, E1, E2, e3 (preL ss i k), e4 (preL ss i k), E5, e6 (preL ss i k), e7 (preL ss i k), e8 (preL ss i k), .box [srcs ss], L, .box ((srD ss[i]).map .d)] [iV i, iV ss[i].2.2.2[k]] true [E0, E1, E2, e3 (preL ss i (k + 1)), e4 (preL ss i (k + 1)), E5, e6 (preL ss i (k + 1)), e7 (preL ss i (k + 1)), e8 (preL ss i (k + 1)), .box [srcs ss], L, .box ((srD ss[i]).map .d)]) :
    ACalls Tryd.prog 105 [.yl 10, .opt 9 0] [E0, E1, E2, e3 (preL ss 0 0), e4 (preL ss 0 0), E5, e6 (preL ss 0 0), e7 (preL ss 0 0), e8 (preL ss 0 0), .box [srcs ss], L] (.tup []) [E0, E1, E2, e3 (preL ss ss.length 0), e4 (preL ss ss.length 0), E5, e6 (preL ss ss.length 0), e7 (preL ss ss.length 0), e8 (preL ss ss.length 0), .box [srcs ss], L] := by
  refine acalls_of_bodyS Tryd.func105 rfl (Nat.le_of_ble_eq_true rfl) ?_
  have hm : (ss.map srD).length = ss.length := List.length_map _
  (repeat' (first
  | (apply W.qd; (first
    | (apply q_mv; (conv => lhs; whnf))|(apply yT; (iterate 4 exact rfl))
    | (apply yV; exact rfl; exact rfl)))|(apply yA)|(apply yB)|(apply (W.regionS 1); exact rfl; kernel_rfl)|(apply yE)
  | (apply yG)))
  refine AWP.loopW (α := Nat) (fun i => i ≤ ss.length) (fun i => ⟨[(9, iV i), (8, iV ss.length), (7, srcs ss), (0, .yl 10), (1, .opt 9 0)], [E0, E1, E2, e3 (preL ss i 0), e4 (preL ss i 0), E5, e6 (preL ss i 0), e7 (preL ss i 0), e8 (preL ss i 0), .box [srcs ss], L]⟩) (fun i => ss.length - i) 0 (Nat.zero_le _) ?wkA fun i hi => ?_
  case wkA =>
    refine ⟨[0, 1, 2, 3, 4, 5, 6, 7, 8, 9, 10], rfl, rfl, ?_, rfl, iV_eq (by rw [hm]), rfl, rfl, rfl, trivial⟩
    exact (hcl (preL ss 0 0) []).symm
  by_cases hil : i < ss.length
  · have hli := hll _ (List.getElem_mem hil)
    have hmi : (ss[i].2.2.2.map iD).length = ss[i].2.2.2.length := List.length_map _
    have hY := h i hil
    have hnx := preL_next hil
    (repeat' (first
  | (apply W.qd; (first
    | (apply q_mv; (conv => lhs; whnf))|(apply q_as; (conv => lhs; whnf))|(apply yS; (iterate 3 exact rfl))|(apply yT; (iterate 4 exact rfl))|(apply q_lss; exact rfl; exact rfl)|(apply yV; exact rfl; exact rfl)|(apply yY; (iterate 3 exact rfl); (first | omega | (focus (simp; done))))
    | (apply yGb; (iterate 4 exact rfl); (first | (with_reducible exact rfl) | exact natI_spec rfl | assumption | exact (Int.toNat_of_nonneg (by omega)).symm); (first | omega | (focus (simp only [List.length_map]; omega)) | (focus (simp; done)) | (focus (simp; omega))))))|(apply W.ed; (apply yCb; (iterate 3 exact rfl); kernel_rfl))|(apply W.ln; (apply l_st_box; (iterate 6 exact rfl); (iterate 3 kernel_rfl)))|(apply yA)|(apply yB)|(apply (W.regionS 4); exact rfl; kernel_rfl)|(apply yE)|(apply yG)|(apply yH)
  | (refine W.cond _ rfl (fun hb => ?_) (fun hb => ?_) <;> ((try simp only [hb, zA, zB]) <;> (try simp only [zC, zD, zE, zF, zG, zH, zI, zJ] at hb) <;> (try (exfalso; omega))))))
    refine AWP.loopE (α := Nat) (fun k => k ≤ ss[i].2.2.2.length) (fun k => ⟨[(17, iV k), (16, iV ss[i].2.2.2.length), (15, ints ss[i].2.2.2), (3, iV i), (9, iV i), (8, iV ss.length), (7, srcs ss), (0, .yl 10), (1, .opt 9 0)], [E0, E1, E2, e3 (preL ss i k), e4 (preL ss i k), E5, e6 (preL ss i k), e7 (preL ss i k), e8 (preL ss i k), .box [srcs ss], L, .box ((srD ss[i]).map .d)]⟩) (fun k => ss[i].2.2.2.length - k) 0 (Nat.zero_le _) ⟨rfl, rfl, iV_eq (by rw [hmi]), rfl, rfl, rfl, rfl, rfl, rfl, rfl, trivial⟩ fun k hk => ?_
    by_cases hkl : k < ss[i].2.2.2.length
    · (repeat' (first
  | (apply W.qd; (first
    | (apply q_mv; (conv => lhs; whnf))|(apply q_as; (conv => lhs; whnf))|(apply q_lss; exact rfl; exact rfl)|(apply q_not; exact rfl)|(apply q_add; exact rfl; exact rfl; omega)|(apply yX; (iterate 3 exact rfl); (first | omega | (focus (simp; done))))
    | (apply yGb; (iterate 4 exact rfl); (first | (with_reducible exact rfl) | exact natI_spec rfl | assumption | exact (Int.toNat_of_nonneg (by omega)).symm); (first | omega | (focus (simp only [List.length_map]; omega)) | (focus (simp; done)) | (focus (simp; omega))))))|(apply W.ed; ((exact e_yield (hY k hkl) rfl rfl)))|(apply yA)|(apply yB)|(apply yC; kernel_rfl)|(apply yE)|(apply yG)|(apply yH)|(apply yL)|(apply yR; exact rfl)
  | (refine W.cond _ rfl (fun hb => ?_) (fun hb => ?_) <;> ((try simp only [hb, zA, zB]) <;> (try simp only [zC, zD, zE, zF, zG, zH, zI, zJ] at hb) <;> (try (exfalso; omega))))))
      exact ⟨k + 1, by omega, by omega, rfl, iV_eq (by omega), rfl, rfl, rfl, rfl, rfl, rfl, rfl, rfl, trivial⟩
    · obtain rfl : k = ss[i].2.2.2.length := by omega
      rw [hnx]
      (repeat' (first
  | (apply W.qd; (first
    | (apply q_mv; (conv => lhs; whnf))|(apply q_lss; exact rfl; exact rfl)
    | (apply q_add; exact rfl; exact rfl; omega)))|(apply yA)|(apply yB)|(apply yC; kernel_rfl)|(apply yE)|(apply yI)|(apply yK)|(apply yL)|(apply yM)
  | (refine W.cond _ rfl (fun hb => ?_) (fun hb => ?_) <;> ((try simp only [hb, zA, zB]) <;> (try simp only [zC, zD, zE, zF, zG, zH, zI, zJ] at hb) <;> (try (exfalso; omega))))))
      refine ⟨i + 1, by omega, by omega, [0, 1, 2, 3, 4, 5, 6, 7, 8, 9, 10], rfl, rfl, ?_, iV_eq (by omega), rfl, rfl, rfl, rfl, trivial⟩
      exact (hcl (preL ss (i + 1) 0) [_]).symm
  · obtain rfl : i = ss.length := by omega
    (repeat' (first
  | (apply W.qd; (apply q_lss; exact rfl; exact rfl))|(apply yA)|(apply yB)|(apply yC; kernel_rfl)|(apply yE)|(apply yI)|(apply yK)|(apply yM)
  | (refine W.cond _ rfl (fun hb => ?_) (fun hb => ?_) <;> ((try simp only [hb, zA, zB]) <;> (try simp only [zC, zD, zE, zF, zG, zH, zI, zJ] at hb) <;> (try (exfalso; omega))))))
    exact ⟨.inr rfl, [], trivial, AVle.of_eq rfl, rfl⟩
end Go.Proofs.YtaclmbbiegklcaaDoor
end
