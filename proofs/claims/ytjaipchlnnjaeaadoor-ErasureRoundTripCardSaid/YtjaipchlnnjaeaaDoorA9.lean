import Derived.Test.YtjaipchlnnjaeaaDoorA4
import Derived.Test.YtjaipchlnnjaeaaDoorA5
/- Joined texts: Fd6 Fd7 Fd8. -/
section
/- Package field over the machine of abstract values: symbols, accumulate. -/
namespace Go.Proofs.YtjaipchlnnjaeaaDoor
open Go.RowKit
set_option linter.unusedVariables false
set_option linter.unusedSimpArgs false
set_option maxHeartbeats 4000000
set_option maxRecDepth 100000

/-- The number that bytes spell. -/
def symF (l : List Nat) : Nat := l.foldl (fun x b => x <<< 8 ||| b) 0
theorem symF_snoc (l : List Nat) (b : Nat) : symF (l ++ [b]) = symF l <<< 8 ||| b := by simp [symF]
theorem symF_one (a : Nat) : symF [a] = a := by simp [symF]
theorem symF_two {a b : Nat} (hb : b < 256) : symF [a, b] = 256 * a + b := by
  show (0 <<< 8 ||| a) <<< 8 ||| b = _
  have h0 : (0 <<< 8 ||| a) = a := by simp
  rw [h0]
  have h1 : a <<< 8 ||| b = a <<< 8 + b := by
    have := Nat.shiftLeft_add_eq_or_of_lt (b := b) (i := 8) (by omega) a
    exact this.symm
  rw [h1, Nat.shiftLeft_eq]
  omega
theorem symF_lt : ∀ (l : List Nat), isB l → l.length ≤ 2 → symF l < 2 ^ (8 * l.length)
  | [], _, _ => by simp [symF]
  | [a], h, _ => by rw [symF_one]; exact h a (by simp)
  | [a, b], h, _ => by
    have h1 := h a (by simp)
    have h2 := h b (by simp)
    rw [symF_two h2]
    show _ < 2 ^ 16
    omega
  | _ :: _ :: _ :: _, _, h => by simp at h
/-- Bytes of x are added to a list, the lowest first, from behind. -/
def wrS (T : List Nat) (at' z x : Nat) : Nat → List Nat
  | 0 => T
  | j + 1 => (wrS T at' z x j).set (at' + z - 1 - j) ((wrS T at' z x j).getD (at' + z - 1 - j) 0 ^^^ (x >>> (8 * j)) % 256)
theorem wrS_length (T : List Nat) (at' z x : Nat) : ∀ j, (wrS T at' z x j).length = T.length
  | 0 => rfl
  | j + 1 => by rw [wrS, List.length_set, wrS_length T at' z x j]
/-- A sum after k symbols were added. -/
def accS (M c : Nat) (u T : List Nat) : Nat → List Nat
  | 0 => T
  | k + 1 => wrS (accS M c u T k) (k * (M / 8)) (M / 8) (Gf.mul M (modN M) c (symF ((u.drop (k * (M / 8))).take (M / 8)))) (M / 8)
theorem accS_length (M c : Nat) (u T : List Nat) : ∀ k, (accS M c u T k).length = T.length
  | 0 => rfl
  | k + 1 => by rw [accS, wrS_length, accS_length M c u T k]
theorem isB_set {l : List Nat} (h : isB l) (k : Nat) {v : Nat} (hv : v < 256) : isB (l.set k v) := fun x hx => by
  rcases List.mem_or_eq_of_mem_set hx with hx | rfl
  · exact h x hx
  · exact hv
theorem isB_getD {l : List Nat} (h : isB l) (k : Nat) : l.getD k 0 < 256 := by
  rw [List.getD_eq_getElem?_getD]
  cases hk : l[k]? with
  | none => simp
  | some v => exact h v (List.mem_of_getElem? hk)
theorem isB_wrS {T : List Nat} (h : isB T) (at' z x : Nat) : ∀ j, isB (wrS T at' z x j)
  | 0 => h
  | j + 1 => isB_set (isB_wrS h at' z x j) _ (Nat.xor_lt_two_pow (n := 8) (isB_getD (isB_wrS h at' z x j) _) (by omega))
theorem isB_accS {M c : Nat} {u T : List Nat} (h : isB T) : ∀ k, isB (accS M c u T k)
  | 0 => h
  | k + 1 => isB_wrS (isB_accS h k) _ _ _ _
theorem set_getD (l : List Nat) (k v i : Nat) (hi : i < l.length) : (l.set k v).getD i 0 = if i = k then v else l.getD i 0 := by
  simp only [List.getD_eq_getElem?_getD, List.getElem?_set]
  by_cases e : k = i
  · subst e; simp [hi]
  · rw [if_neg e, if_neg (fun h => e h.symm)]
theorem accS_get8 {c : Nat} {u T : List Nat} (hc : c < 2 ^ 8) (hu : isB u) (hT : T.length = u.length) : ∀ k, k ≤ u.length → ∀ i, i < u.length → (accS 8 c u T k).getD i 0 = if i < k then T.getD i 0 ^^^ (scale8 c u).getD i 0 else T.getD i 0
  | 0, _, i, _ => by simp [accS]
  | k + 1, hk, i, hi => by
    have ih := accS_get8 hc hu hT k (by omega)
    have hlen := accS_length 8 c u T k
    have hkl : k < u.length := by omega
    have e1 : (u.drop k).take 1 = [u[k]] := by
      rw [List.drop_eq_getElem_cons hkl]; rfl
    have e2 : accS 8 c u T (k + 1) = (accS 8 c u T k).set k ((accS 8 c u T k).getD k 0 ^^^ (Gf.mul 8 (modN 8) c u[k]) % 256) := by
      show wrS (accS 8 c u T k) (k * 1) 1 (Gf.mul 8 (modN 8) c (symF ((u.drop (k * 1)).take 1))) 1 = _
      rw [Nat.mul_one, e1, symF_one]
      simp only [wrS, Nat.mul_zero, Nat.shiftRight_zero, Nat.add_sub_cancel, Nat.sub_zero]
    have hm : Gf.mul 8 (modN 8) c u[k] < 256 := isB_scale8 (l := u) hc _ (List.mem_map.2 ⟨_, List.getElem_mem hkl, rfl⟩)
    have e3 : (scale8 c u).getD k 0 = Gf.mul 8 (modN 8) c u[k] := by
      rw [List.getD_eq_getElem?_getD, scale8, List.getElem?_map, List.getElem?_eq_getElem hkl]; rfl
    rw [e2, set_getD _ _ _ _ (by omega), Nat.mod_eq_of_lt hm]
    by_cases h : i = k
    · subst h
      rw [if_pos rfl, if_pos (by omega), ih i hi, if_neg (by omega), e3]
    · rw [if_neg h, ih i hi]
      by_cases h2 : i < k
      · rw [if_pos h2, if_pos (by omega)]
      · rw [if_neg h2, if_neg (by omega)]
theorem accS_get16 {c : Nat} {u T : List Nat} (hc : c < 2 ^ 16) (hu : isB u) (hT : T.length = u.length) : ∀ k, 2 * k ≤ u.length → ∀ i, i < u.length → (accS 16 c u T k).getD i 0 = if i < 2 * k then T.getD i 0 ^^^ (scale16 c u).getD i 0 else T.getD i 0
  | 0, _, i, _ => by simp [accS]
  | k + 1, hk, i, hi => by
    have ih := accS_get16 hc hu hT k (by omega)
    have hlen := accS_length 16 c u T k
    have hkl : 2 * k + 1 < u.length := by omega
    have e1 : (u.drop (k * 2)).take 2 = [u[2 * k], u[2 * k + 1]] := by
      rw [Nat.mul_comm, List.drop_eq_getElem_cons (show 2 * k < u.length by omega), List.drop_eq_getElem_cons hkl]; rfl
    have hb := hu u[2 * k + 1] (List.getElem_mem _)
    have hm : Gf.mul 16 (modN 16) c (256 * u[2 * k] + u[2 * k + 1]) < 2 ^ 16 := Gf.mul_lt (FldM.gen f16).hm (FldM.gen f16).top (FldM.gen f16).lt hc (256 * u[2 * k] + u[2 * k + 1])
    obtain ⟨g1, g2⟩ := scale16_get c k u hkl
    generalize hz : Gf.mul 16 (modN 16) c (256 * u[2 * k] + u[2 * k + 1]) = v at *
    have e2 : accS 16 c u T (k + 1) = ((accS 16 c u T k).set (2 * k + 1) ((accS 16 c u T k).getD (2 * k + 1) 0 ^^^ v % 256)).set (2 * k) ((accS 16 c u T k).getD (2 * k) 0 ^^^ v / 256) := by
      show wrS (accS 16 c u T k) (k * 2) 2 (Gf.mul 16 (modN 16) c (symF ((u.drop (k * 2)).take 2))) 2 = _
      rw [e1, symF_two hb, hz]
      have i1 : k * 2 + 2 - 1 - 0 = 2 * k + 1 := by omega
      have i2 : k * 2 + 2 - 1 - (0 + 1) = 2 * k := by omega
      simp only [wrS, Nat.mul_zero, Nat.shiftRight_zero, i1]
      rw [show k * 2 + 2 - 1 - (0 + 1) = 2 * k from i2, set_getD _ _ _ _ (by omega), if_neg (by omega), show 8 * (0 + 1) = 8 from rfl, Nat.shiftRight_eq_div_pow, show 2 ^ 8 = 256 from rfl, Nat.mod_eq_of_lt (show v / 256 < 256 by omega)]
    rw [e2, set_getD _ _ _ _ (by rw [List.length_set]; omega)]
    by_cases h : i = 2 * k
    · subst h
      rw [if_pos rfl, if_pos (by omega), ih _ hi, if_neg (by omega)]
      simp only [List.getD_eq_getElem?_getD, g1, Option.getD_some]
    · rw [if_neg h, set_getD _ _ _ _ (by omega)]
      by_cases h1 : i = 2 * k + 1
      · subst h1
        rw [if_pos rfl, if_pos (by omega), ih _ hi, if_neg (by omega)]
        simp only [List.getD_eq_getElem?_getD, g2, Option.getD_some]
      · rw [if_neg h1, ih i hi]
        by_cases h2 : i < 2 * k
        · rw [if_pos h2, if_pos (by omega)]
        · rw [if_neg h2, if_neg (by omega)]
theorem ext_getD {a b : List Nat} (hl : a.length = b.length) (h : ∀ i, i < a.length → a.getD i 0 = b.getD i 0) : a = b := by
  refine List.ext_getElem hl fun i h1 h2 => ?_
  have := h i h1
  rw [List.getD_eq_getElem?_getD, List.getD_eq_getElem?_getD, List.getElem?_eq_getElem h1, List.getElem?_eq_getElem h2] at this
  exact this
theorem xorL_getD {a b : List Nat} (h : a.length = b.length) (i : Nat) (hi : i < a.length) : (xorL a b).getD i 0 = a.getD i 0 ^^^ b.getD i 0 := by
  have h1 := xorL_length a b h
  rw [List.getD_eq_getElem?_getD, List.getD_eq_getElem?_getD, List.getD_eq_getElem?_getD, List.getElem?_eq_getElem (by omega), List.getElem?_eq_getElem hi, List.getElem?_eq_getElem (show i < b.length by omega)]
  exact xorL_get a b i (by omega) hi (by omega)
theorem accS_all {M c : Nat} {u T : List Nat} (hM : FldM M) (hc : c < 2 ^ M) (hu : isB u) (hT : T.length = u.length) (he : FitM M u.length) : accS M c u T (u.length / (M / 8)) = xorL T (scaleM M c u) := by
  have hsl := scaleM_length (c := c) (l := u) hM he
  refine ext_getD (by rw [accS_length, xorL_length _ _ (by omega)]) fun i hi => ?_
  rw [accS_length] at hi
  rw [xorL_getD (by omega) i hi]
  rcases hM with rfl | rfl
  · rw [show u.length / (8 / 8) = u.length by simp, accS_get8 hc hu hT _ (Nat.le_refl _) i (by omega), if_pos (by omega)]; rfl
  · have := he rfl
    rw [show u.length / (16 / 8) = u.length / 2 from rfl, accS_get16 hc hu hT _ (by omega) i (by omega), if_pos (by omega)]; rfl
attribute [local irreducible] Quiet Eff OpOk AWPG ACont ABlock ACalls AGoto

theorem A_symbols {M : Nat} {u : List Nat} : ACalls Tryd.prog 89 [iV M, bS u] [] (.fn 105 [.opt 0 0, .opt 1 0]) [.box [iV M], .box [bS u]] := by
  refine acalls_of_bodyO Tryd.func89 rfl (Nat.le_of_ble_eq_true rfl) ?_
  (repeat' (first
  | (apply W.qd; (first
    | (apply q_as; (first
    | exact Eq.refl (AV.d _)
    | exact Eq.refl (AV.osl _ _ _ _)
    | exact Eq.refl (AV.opt _ _)
    | exact Eq.refl (AV.agg _)
    | exact Eq.refl (AV.fpt _ _ _ _)
    | exact Eq.refl (AV.rpt _ _ _ _)
    | exact Eq.refl (AV.fn _ _)
    | exact Eq.refl (AV.tup _)
    | exact Eq.refl AV.top))
    | (apply q_makeFunc)))
  | (apply W.ed; (apply e_boxF; exact rfl; exact rfl; exact rfl; kernel_rfl; kernel_rfl))
  | (apply AWP.seq)
  | (apply ACont_normal)
  | (apply W.region; kernel_rfl)
  | (apply Walk.nil)
  | (apply AWP.ret)))
  exact ⟨.inl rfl, [0, 1], [.fn 105 [.opt 0 0, .opt 1 0]], rfl, rfl, ⟨rfl, trivial⟩, AVle.of_eq rfl, rfl⟩
end Go.Proofs.YtjaipchlnnjaeaaDoor
end

section
/- Package field over the machine of abstract values: accumulate, Combine. -/
namespace Go.Proofs.YtjaipchlnnjaeaaDoor
open Go.RowKit
set_option linter.unusedVariables false
set_option linter.unusedSimpArgs false
set_option maxHeartbeats 4000000
set_option maxRecDepth 100000
attribute [local irreducible] Quiet Eff OpOk AWPG ACont ABlock ACalls AGoto

/-- Memory of accumulate. -/
def accO (e : TypeId) (v M c n : Nat) (u T : List Nat) : List Ent := [.row v 1 e (T.map nD), .box [.osl 0 v 0 n], .box [iV M], .box [iV c], .box [iV M], .box [bS u]]
def accEnv : List (Nat × AV) := [(13, .fn 105 [.opt 4 0, .opt 5 0]), (4, .opt 1 0), (5, .opt 2 0), (6, .opt 3 0)]
theorem A_accumulate {M c v n : Nat} {u T : List Nat} (hM : FldM M) (hc : c < 2 ^ M) (hu : isB u) (hn : u.length ≤ 1000000) (hnT : n = T.length) (hT : T.length = u.length) (hTb : isB T) (he : FitM M u.length) :
    ACalls Tryd.prog 68 [.osl 0 v 0 n, iV M, iV c, bS u] [.row v 1 5 (T.map nD)] (.tup []) [.row v 1 5 ((xorL T (scaleM M c u)).map nD)] := by
  refine acalls_of_range (f := 68) (js := [0]) (s1 := ⟨accEnv, accO 5 v M c n u T⟩) (ownN := accO 5 v M c n u (xorL T (scaleM M c u))) (caps := [.opt 4 0, .opt 5 0]) rfl rfl rfl (Nat.le_of_ble_eq_true rfl) ?_ rfl rfl rfl rfl (Nat.le_of_ble_eq_true rfl) (by kernel_rfl) ?_ rfl rfl rfl rfl
  · refine AWP.chain (sA := ⟨[(3, bS u), (4, .opt 1 0), (5, .opt 2 0), (6, .opt 3 0)], [.row v 1 5 (T.map nD), .box [.osl 0 v 0 n], .box [iV M], .box [iV c]]⟩) ?_ ?_
    · (repeat' (first
  | (apply W.ed; (apply e_boxF; exact rfl; exact rfl; exact rfl; kernel_rfl; kernel_rfl))
  | (apply W.region; kernel_rfl)
  | (apply Walk.nil)))
      exact ⟨rfl, ⟨[0, 1, 2, 3], rfl, rfl, rfl, by (repeat (first | exact trivial | refine ⟨rfl, ?_⟩))⟩⟩
    · have hsy := A_symbols (M := M) (u := u)
      (repeat' (first
  | (apply W.qd; (first
    | (apply q_mv; (first
    | exact Eq.refl (AV.d _)
    | exact Eq.refl (AV.osl _ _ _ _)
    | exact Eq.refl (AV.opt _ _)
    | exact Eq.refl (AV.agg _)
    | exact Eq.refl (AV.fpt _ _ _ _)
    | exact Eq.refl (AV.rpt _ _ _ _)
    | exact Eq.refl (AV.fn _ _)
    | exact Eq.refl (AV.tup _)
    | exact Eq.refl AV.top))
    | (apply q_ld_box; exact rfl; exact rfl; exact rfl; exact rfl)))
  | (apply W.ed; (apply (e_callJ (js := []) (hsy)); exact rfl; exact rfl; exact rfl; exact rfl; exact rfl; kernel_rfl; kernel_rfl))
  | (apply W.region; kernel_rfl)
  | (apply Walk.nil)))
      exact ⟨rfl, ⟨[0, 1, 2, 3, 4, 5], rfl, rfl, rfl, by (repeat (first | exact trivial | refine ⟨rfl, ?_⟩))⟩⟩
  intro l D rec hps hra hrb
  have hz : ((M : Int) / 8) = ((M / 8 : Nat) : Int) := by omega
  have hz1 : 1 ≤ M / 8 ∧ M / 8 ≤ 2 ∧ M = 8 * (M / 8) := by rcases hM with rfl | rfl <;> decide
  have hcap := hM.cap hc
  have hall := accS_all (T := T) hM hc hu hT he
  have hL : u.length = u.length / (M / 8) * (M / 8) := by
    rcases hM with rfl | rfl
    · show u.length = u.length / 1 * 1; omega
    · have := he rfl
      show u.length = u.length / 2 * 2; omega
  generalize hN : u.length / (M / 8) = N at *
  rw [← hall]
  show AWPG _ _ _ 6 _ _ _
  have hround : ∀ k, k < N → AWPG (Ctx.round l) Tryd.prog 40 6 rec.body (fun e s => e = .normal ∧ s.own = accO 5 v M c n u (accS M c u T (k + 1))) ⟨[(8, iV (k * (M / 8) : Nat)), (9, iV (symF ((u.drop (k * (M / 8))).take (M / 8)) : Nat)), (4, .opt 1 0), (5, .opt 2 0), (6, .opt 3 0)], accO 5 v M c n u (accS M c u T k)⟩ := fun k hk => by
    rw [hrb]
    refine AWP.toO ?_
    have hle : k * (M / 8) + M / 8 ≤ u.length := by
      rw [hL]
      have := Nat.mul_le_mul_right (M / 8) (show k + 1 ≤ N by omega)
      rw [Nat.add_mul, Nat.one_mul] at this
      exact this
    have hsub : ((u.drop (k * (M / 8))).take (M / 8)).length = M / 8 := by rw [List.length_take, List.length_drop]; omega
    have hx := symF_lt _ (isB_sub hu (k * (M / 8)) (M / 8)) (by omega)
    rw [hsub, ← hz1.2.2] at hx
    have hacc : accS M c u T (k + 1) = wrS (accS M c u T k) (k * (M / 8)) (M / 8) (Gf.mul M (modN M) c (symF ((u.drop (k * (M / 8))).take (M / 8)))) (M / 8) := rfl
    have hp := A_product hM hc hx
    have hm : Gf.mul M (modN M) c (symF ((u.drop (k * (M / 8))).take (M / 8))) < 2 ^ M := Gf.mul_lt (FldM.gen hM).hm (FldM.gen hM).top (FldM.gen hM).lt hc _
    have hm2 := hM.cap hm
    rw [hacc]
    have hAl := accS_length M c u T k
    have hAb := isB_accS (M := M) (c := c) (u := u) hTb k
    generalize symF ((u.drop (k * (M / 8))).take (M / 8)) = s0 at *
    generalize Gf.mul M (modN M) c s0 = x at *
    generalize accS M c u T k = A at *
    generalize k * (M / 8) = at' at *
    unfold accO
    generalize hzz : M / 8 = z at *
    (repeat' (first
  | (apply W.qd; (first
    | (apply (q_callC (hp)); exact rfl; exact rfl; kernel_rfl; kernel_rfl; kernel_rfl)
    | (apply q_mv; (first
    | exact Eq.refl (AV.d _)
    | exact Eq.refl (AV.osl _ _ _ _)
    | exact Eq.refl (AV.opt _ _)
    | exact Eq.refl (AV.agg _)
    | exact Eq.refl (AV.fpt _ _ _ _)
    | exact Eq.refl (AV.rpt _ _ _ _)
    | exact Eq.refl (AV.fn _ _)
    | exact Eq.refl (AV.tup _)
    | exact Eq.refl AV.top))
    | (apply q_as; (first
    | exact Eq.refl (AV.d _)
    | exact Eq.refl (AV.osl _ _ _ _)
    | exact Eq.refl (AV.opt _ _)
    | exact Eq.refl (AV.agg _)
    | exact Eq.refl (AV.fpt _ _ _ _)
    | exact Eq.refl (AV.rpt _ _ _ _)
    | exact Eq.refl (AV.fn _ _)
    | exact Eq.refl (AV.tup _)
    | exact Eq.refl AV.top))
    | (apply q_ld_box; exact rfl; exact rfl; exact rfl; exact rfl)
    | (apply q_add; exact rfl; exact rfl; omega)
    | (apply q_sub; exact rfl; exact rfl; omega)
    | (apply q_quo; exact rfl; exact rfl; omega; omega; omega)))
  | (apply AWP.seq)
  | (apply ACont_normal)
  | (apply W.region; kernel_rfl)
  | (apply Walk.nil)
  | (apply AWP.block)))
    refine AWP.loopW (α := Nat) (fun j => j ≤ z) (fun j => ⟨[(10, iV ((at' : Int) + z - 1 - j)), (8, iV at'), (9, iV (x >>> (8 * j) : Nat)), (4, .opt 1 0), (5, .opt 2 0), (6, .opt 3 0)], [.row v 1 5 ((wrS A at' z x j).map nD), .box [.osl 0 v 0 n], .box [iV M], .box [iV c], .box [iV M], .box [bS u]]⟩) (fun j => z - j) 0 (by omega) ⟨[0, 1, 2, 3, 4, 5], rfl, rfl, rfl, iV_eq (by omega), rfl, rfl, rfl, rfl, rfl, trivial⟩ fun j hj => ?_
    by_cases hjz : j < z
    · have hi : (at' : Int) + z - 1 - j = ((at' + z - 1 - j : Nat) : Int) := by omega
      have hw : wrS A at' z x (j + 1) = (wrS A at' z x j).set (at' + z - 1 - j) ((wrS A at' z x j).getD (at' + z - 1 - j) 0 ^^^ (x >>> (8 * j)) % 256) := rfl
      have hwl := wrS_length A at' z x j
      have hwb := isB_wrS hAb at' z x j
      generalize wrS A at' z x j = B at *
      rw [hi]
      have hil : at' + z - 1 - j < B.length := by omega
      have hge := List.getElem_eq_getD (h := hil) 0
      have hgb := isB_getD hwb (at' + z - 1 - j)
      have hgb2 : B[at' + z - 1 - j] < 256 := by rw [hge]; exact hgb
      have hgm : (x >>> (8 * j)) % 256 < 256 := Nat.mod_lt _ (by omega)
      have hsh : x >>> (8 * j) ≤ x := by rw [Nat.shiftRight_eq_div_pow]; exact Nat.div_le_self _ _
      generalize hI : at' + z - 1 - j = I at *
      (repeat' (first
  | (apply W.qd; (first
    | (apply q_mv; (first
    | exact Eq.refl (AV.d _)
    | exact Eq.refl (AV.osl _ _ _ _)
    | exact Eq.refl (AV.opt _ _)
    | exact Eq.refl (AV.agg _)
    | exact Eq.refl (AV.fpt _ _ _ _)
    | exact Eq.refl (AV.rpt _ _ _ _)
    | exact Eq.refl (AV.fn _ _)
    | exact Eq.refl (AV.tup _)
    | exact Eq.refl AV.top))
    | (apply q_as; (first
    | exact Eq.refl (AV.d _)
    | exact Eq.refl (AV.osl _ _ _ _)
    | exact Eq.refl (AV.opt _ _)
    | exact Eq.refl (AV.agg _)
    | exact Eq.refl (AV.fpt _ _ _ _)
    | exact Eq.refl (AV.rpt _ _ _ _)
    | exact Eq.refl (AV.fn _ _)
    | exact Eq.refl (AV.tup _)
    | exact Eq.refl AV.top))
    | (apply q_ld_box; exact rfl; exact rfl; exact rfl; exact rfl)
    | (apply q_geq; exact rfl; exact rfl)
    | (apply q_sub; exact rfl; exact rfl; omega)
    | (apply q_conv8w; exact rfl; exact rfl; exact rfl; (first | (with_reducible exact rfl) | exact natI_spec rfl | assumption | exact (Int.toNat_of_nonneg (by omega)).symm))
    | (apply q_xorN; exact rfl; exact rfl; (first | (with_reducible exact rfl) | exact natI_spec rfl | assumption | exact (Int.toNat_of_nonneg (by omega)).symm); (first | (with_reducible exact rfl) | exact natI_spec rfl | assumption | exact (Int.toNat_of_nonneg (by omega)).symm); (first | (apply hcap1; omega) | (apply hcap2; omega) | (apply hcap3; omega) | (apply hcap4; omega) | (focus (show _ < 9223372036854775808; omega)) | (focus (show _ < 256; omega)) | assumption); (first | (apply hcap1; omega) | (apply hcap2; omega) | (apply hcap3; omega) | (apply hcap4; omega) | (focus (show _ < 9223372036854775808; omega)) | (focus (show _ < 256; omega)) | assumption))
    | (apply q_shrN; exact rfl; exact rfl; (first | (with_reducible exact rfl) | exact natI_spec rfl | assumption | exact (Int.toNat_of_nonneg (by omega)).symm); (first | (with_reducible exact rfl) | exact natI_spec rfl | assumption | exact (Int.toNat_of_nonneg (by omega)).symm); focus (show _ ≤ 64; omega))
    | (apply q_ix_osl0; exact rfl; exact rfl; exact rfl; exact rfl; (first | (with_reducible exact rfl) | exact natI_spec rfl | assumption | exact (Int.toNat_of_nonneg (by omega)).symm); (first | omega | (focus (simp only [List.length_map]; omega)) | (focus (simp; done)) | (focus (simp; omega))))
    | (apply q_ld_rptm; exact rfl; exact rfl; exact rfl; exact rfl; (first | omega | (focus (simp only [List.length_map]; omega)) | (focus (simp; done)) | (focus (simp; omega))))))
  | (apply W.ln; (apply l_st_rpt; exact rfl; exact rfl; exact rfl; exact rfl; exact rfl; exact rfl; exact rfl; exact fun _ => rfl; (first | omega | (focus (simp only [List.length_map]; omega)) | (focus (simp; omega)))))
  | (apply AWP.seq)
  | (apply ACont_normal)
  | (apply W.region; kernel_rfl)
  | (apply Walk.nil)
  | (apply AWP.block)
  | (apply AWP.skip)
  | (apply ABlock_normal)
  | (refine W.cond _ rfl (fun hb => ?_) (fun hb => ?_) <;> ((try simp only [hb, Bool.not_true, Bool.not_false]) <;> (try simp only [decide_eq_true_eq, decide_eq_false_iff_not, Bool.not_eq_true', Bool.not_eq_false', Int.not_lt, Int.not_le, List.length_map, not_true_eq_false] at hb) <;> (try (exfalso; omega))))))
      refine ⟨j + 1, by omega, by omega, [0, 1, 2, 3, 4, 5], rfl, rfl, ?_, iV_eq (by omega), rfl, iV_eq (by rw [← Nat.shiftRight_add, Nat.mul_add]), rfl, rfl, rfl, trivial⟩
      rw [hw, ← hge]; rfl
    · have : j = z := by omega
      subst this
      (repeat' (first
  | (apply W.qd; (first
    | (apply q_mv; (first
    | exact Eq.refl (AV.d _)
    | exact Eq.refl (AV.osl _ _ _ _)
    | exact Eq.refl (AV.opt _ _)
    | exact Eq.refl (AV.agg _)
    | exact Eq.refl (AV.fpt _ _ _ _)
    | exact Eq.refl (AV.rpt _ _ _ _)
    | exact Eq.refl (AV.fn _ _)
    | exact Eq.refl (AV.tup _)
    | exact Eq.refl AV.top))
    | (apply q_geq; exact rfl; exact rfl)))
  | (apply AWP.seq)
  | (apply ACont_normal)
  | (apply W.region; kernel_rfl)
  | (apply Walk.nil)
  | (apply AWP.exit)
  | (apply ACont_exit)
  | (apply ABlock_normal)
  | (apply ABlock_exit)
  | (refine W.cond _ rfl (fun hb => ?_) (fun hb => ?_) <;> ((try simp only [hb, Bool.not_true, Bool.not_false]) <;> (try simp only [decide_eq_true_eq, decide_eq_false_iff_not, Bool.not_eq_true', Bool.not_eq_false', Int.not_lt, Int.not_le, List.length_map, not_true_eq_false] at hb) <;> (try (exfalso; omega))))))
      exact ⟨rfl, ⟨[0, 1, 2, 3, 4, 5], rfl, rfl, rfl, by (repeat (first | exact trivial | refine ⟨rfl, ?_⟩))⟩⟩
  have hO0 : accO 5 v M c n u T = accO 5 v M c n u (accS M c u T 0) := rfl
  rw [hO0]
  unfold accO
  (repeat' (first
  | (apply W.qd; (first
    | (apply q_as; (first
    | exact Eq.refl (AV.d _)
    | exact Eq.refl (AV.osl _ _ _ _)
    | exact Eq.refl (AV.opt _ _)
    | exact Eq.refl (AV.agg _)
    | exact Eq.refl (AV.fpt _ _ _ _)
    | exact Eq.refl (AV.rpt _ _ _ _)
    | exact Eq.refl (AV.fn _ _)
    | exact Eq.refl (AV.tup _)
    | exact Eq.refl AV.top))
    | (apply q_ld_box; exact rfl; exact rfl; exact rfl; exact rfl)
    | (apply q_quo; exact rfl; exact rfl; omega; omega; omega)))
  | (apply AWP.seq)
  | (apply ACont_normal)
  | (apply (W.regionS 10); exact rfl; kernel_rfl)
  | (apply Walk.nil)
  | (apply AWP.block)))
  refine AWP.loopW (α := Nat) (fun k => k ≤ N) (fun k => ⟨[(5, iV (k * (M / 8) : Nat)), (4, iV (M / 8 : Nat)), (0, .d (.v (.func (.yield l) #[] #[]))), (1, .opt 4 0), (2, .opt 5 0)], accO 5 v M c n u (accS M c u T k)⟩) (fun k => N - k) 0 (by omega) ⟨[0, 1, 2, 3, 4, 5], rfl, rfl, rfl, iV_eq (by simp), iV_eq (by omega), rfl, rfl, rfl, trivial⟩ fun k hk => ?_
  by_cases hkN : k < N
  · have hle : k * (M / 8) + M / 8 ≤ u.length := by
      rw [hL]
      have := Nat.mul_le_mul_right (M / 8) (show k + 1 ≤ N by omega)
      rw [Nat.add_mul, Nat.one_mul] at this
      exact this
    have hr := hround k hkN
    unfold accO at hr ⊢
    have hkz : (k + 1) * (M / 8) = k * (M / 8) + M / 8 := by rw [Nat.add_mul, Nat.one_mul]
    generalize hat : k * (M / 8) = at' at *
    have hsub : ((u.drop at').take (M / 8)).length = M / 8 := by rw [List.length_take, List.length_drop]; omega
    have hlb := isB_sub hu at' (M / 8)
    have hx := symF_lt _ hlb (by omega)
    have e0 : ((u.drop at').take (at' + M / 8 - at')) = (u.drop at').take (M / 8) := by rw [Nat.add_sub_cancel_left]
    (repeat' (first
  | (apply W.qd; (first
    | (apply q_mv; (first
    | exact Eq.refl (AV.d _)
    | exact Eq.refl (AV.osl _ _ _ _)
    | exact Eq.refl (AV.opt _ _)
    | exact Eq.refl (AV.agg _)
    | exact Eq.refl (AV.fpt _ _ _ _)
    | exact Eq.refl (AV.rpt _ _ _ _)
    | exact Eq.refl (AV.fn _ _)
    | exact Eq.refl (AV.tup _)
    | exact Eq.refl AV.top))
    | (apply q_as; (first
    | exact Eq.refl (AV.d _)
    | exact Eq.refl (AV.osl _ _ _ _)
    | exact Eq.refl (AV.opt _ _)
    | exact Eq.refl (AV.agg _)
    | exact Eq.refl (AV.fpt _ _ _ _)
    | exact Eq.refl (AV.rpt _ _ _ _)
    | exact Eq.refl (AV.fn _ _)
    | exact Eq.refl (AV.tup _)
    | exact Eq.refl AV.top))
    | (apply q_ld_box; exact rfl; exact rfl; exact rfl; exact rfl)
    | (apply q_leq; exact rfl; exact rfl)
    | (apply q_add; exact rfl; exact rfl; omega)
    | (apply q_len_sl; exact rfl; exact rfl)
    | (apply q_len_bs; exact rfl; exact rfl)
    | (apply q_bytes; exact rfl; exact rfl; exact rfl; (first | assumption | exact isB_sub (by assumption) _ _); (first | omega | (focus (simp only [List.length_map]; omega)) | (focus (simp; done)) | (focus (simp; omega))))
    | (apply q_slc_bs; exact rfl; exact rfl; (first | exact ⟨_, _, rfl, rfl⟩ | exact ⟨_, _, rfl, natI_spec rfl⟩ | exact ⟨_, _, rfl, (Int.toNat_of_nonneg (by omega)).symm⟩ | exact rfl); (first | exact ⟨_, _, rfl, rfl⟩ | exact ⟨_, _, rfl, natI_spec rfl⟩ | exact ⟨_, _, rfl, (Int.toNat_of_nonneg (by omega)).symm⟩ | exact rfl); (first | omega | (focus (simp only [List.length_map]; omega)) | (focus (simp; done)) | (focus (simp; omega))); (first | omega | (focus (simp only [List.length_map]; omega)) | (focus (simp; done)) | (focus (simp; omega))))))
  | (apply AWP.seq)
  | (apply ACont_normal)
  | (apply (W.regionS 10); exact rfl; kernel_rfl)
  | (apply Walk.nil)
  | (apply AWP.block)
  | (apply AWP.skip)
  | (refine W.cond _ rfl (fun hb => ?_) (fun hb => ?_) <;> ((try simp only [hb, Bool.not_true, Bool.not_false]) <;> (try simp only [decide_eq_true_eq, decide_eq_false_iff_not, Bool.not_eq_true', Bool.not_eq_false', Int.not_lt, Int.not_le, List.length_map, not_true_eq_false] at hb) <;> (try (exfalso; omega))))))
    generalize hl2 : (u.drop at').take (M / 8) = l2 at *
    refine AWP.loopW (α := Nat) (fun q => q ≤ l2.length) (fun q => ⟨[(28, iV q), (27, iV l2.length), (26, .d (.sl 1 (l2.map nD))), (6, iV (symF (l2.take q) : Nat)), (5, iV at'), (4, iV (M / 8 : Nat)), (0, .d (.v (.func (.yield l) #[] #[]))), (1, .opt 4 0), (2, .opt 5 0)], [.row v 1 5 ((accS M c u T k).map nD), .box [.osl 0 v 0 n], .box [iV M], .box [iV c], .box [iV M], .box [bS u]]⟩) (fun q => l2.length - q) 0 (by omega) ⟨[0, 1, 2, 3, 4, 5], rfl, rfl, rfl, rfl, by rw [e0]; exact iV_eq (by simp), by rw [e0]; rfl, rfl, rfl, rfl, rfl, rfl, rfl, trivial⟩ fun q hq => ?_
    by_cases hql : q < l2.length
    · have hs := symF_snoc (l2.take q) l2[q]
      rw [← List.take_succ_eq_append_getElem hql] at hs
      have hb1 := hlb l2[q] (List.getElem_mem hql)
      have h1 := symF_lt (l2.take q) (fun x hx => hlb x (List.mem_of_mem_take hx)) (by rw [List.length_take]; omega)
      rw [List.length_take, show min q l2.length = q by omega] at h1
      have hcap1 : symF (l2.take q) < 9223372036854775808 := by
        have : (2 : Nat) ^ (8 * q) ≤ 2 ^ 8 := Nat.pow_le_pow_right (by omega) (by omega)
        omega
      have hcap2 : ∀ s, s ≤ 8 → symF (l2.take q) <<< s < 9223372036854775808 := fun s hs => by
        have : (2 : Nat) ^ (8 * q) ≤ 2 ^ 8 := Nat.pow_le_pow_right (by omega) (by omega)
        have h3 : (2 : Nat) ^ s ≤ 2 ^ 8 := Nat.pow_le_pow_right (by omega) hs
        rw [Nat.shiftLeft_eq]
        have : symF (l2.take q) * 2 ^ s ≤ 256 * 256 := Nat.mul_le_mul (by omega) h3
        omega
      (repeat' (first
  | (apply W.qd; (first
    | (apply q_mv; (first
    | exact Eq.refl (AV.d _)
    | exact Eq.refl (AV.osl _ _ _ _)
    | exact Eq.refl (AV.opt _ _)
    | exact Eq.refl (AV.agg _)
    | exact Eq.refl (AV.fpt _ _ _ _)
    | exact Eq.refl (AV.rpt _ _ _ _)
    | exact Eq.refl (AV.fn _ _)
    | exact Eq.refl (AV.tup _)
    | exact Eq.refl AV.top))
    | (apply q_as; (first
    | exact Eq.refl (AV.d _)
    | exact Eq.refl (AV.osl _ _ _ _)
    | exact Eq.refl (AV.opt _ _)
    | exact Eq.refl (AV.agg _)
    | exact Eq.refl (AV.fpt _ _ _ _)
    | exact Eq.refl (AV.rpt _ _ _ _)
    | exact Eq.refl (AV.fn _ _)
    | exact Eq.refl (AV.tup _)
    | exact Eq.refl AV.top))
    | (apply q_lss; exact rfl; exact rfl)
    | (apply q_add; exact rfl; exact rfl; omega)
    | (apply q_ld_map; exact rfl; exact rfl; exact rfl; (first | omega | (focus (simp; done))))
    | (apply q_ix_slF; exact rfl; exact rfl; exact rfl; exact rfl; (first | (with_reducible exact rfl) | exact natI_spec rfl | assumption | exact (Int.toNat_of_nonneg (by omega)).symm); (first | omega | (focus (simp only [List.length_map]; omega)) | (focus (simp; done)) | (focus (simp; omega))))
    | (apply q_convI; exact rfl; exact rfl; exact rfl; omega)
    | (apply q_orN; exact rfl; exact rfl; (first | (with_reducible exact rfl) | exact natI_spec rfl | assumption | exact (Int.toNat_of_nonneg (by omega)).symm); (first | (with_reducible exact rfl) | exact natI_spec rfl | assumption | exact (Int.toNat_of_nonneg (by omega)).symm); (first | (apply hcap1; omega) | (apply hcap2; omega) | (apply hcap3; omega) | (apply hcap4; omega) | (focus (show _ < 9223372036854775808; omega)) | (focus (show _ < 256; omega)) | assumption); (first | (apply hcap1; omega) | (apply hcap2; omega) | (apply hcap3; omega) | (apply hcap4; omega) | (focus (show _ < 9223372036854775808; omega)) | (focus (show _ < 256; omega)) | assumption))
    | (apply q_shlN; exact rfl; exact rfl; (first | (with_reducible exact rfl) | exact natI_spec rfl | assumption | exact (Int.toNat_of_nonneg (by omega)).symm); (first | (with_reducible exact rfl) | exact natI_spec rfl | assumption | exact (Int.toNat_of_nonneg (by omega)).symm); exact rfl; omega; (first | (apply hcap1; omega) | (apply hcap2; omega) | (apply hcap3; omega) | (apply hcap4; omega) | (focus (show _ < 9223372036854775808; omega)) | (focus (show _ < 256; omega)) | assumption))))
  | (apply AWP.seq)
  | (apply ACont_normal)
  | (apply (W.regionS 10); exact rfl; kernel_rfl)
  | (apply Walk.nil)
  | (apply AWP.block)
  | (apply AWP.skip)
  | (apply ABlock_normal)
  | (refine W.cond _ rfl (fun hb => ?_) (fun hb => ?_) <;> ((try simp only [hb, Bool.not_true, Bool.not_false]) <;> (try simp only [decide_eq_true_eq, decide_eq_false_iff_not, Bool.not_eq_true', Bool.not_eq_false', Int.not_lt, Int.not_le, List.length_map, not_true_eq_false] at hb) <;> (try (exfalso; omega))))))
      exact ⟨q + 1, by omega, by omega, [0, 1, 2, 3, 4, 5], rfl, rfl, rfl, iV_eq (by omega), rfl, rfl, iV_eq (by rw [hs]), rfl, rfl, rfl, rfl, rfl, trivial⟩
    · have : q = l2.length := by omega
      subst this
      rw [List.take_length]
      (repeat' (first
  | (apply W.qd; (apply q_lss; exact rfl; exact rfl))
  | (apply AWP.seq)
  | (apply ACont_normal)
  | (apply (W.regionS 10); exact rfl; kernel_rfl)
  | (apply Walk.nil)
  | (apply AWP.exit)
  | (apply ACont_exit)
  | (apply ABlock_exit)
  | (refine W.cond _ rfl (fun hb => ?_) (fun hb => ?_) <;> ((try simp only [hb, Bool.not_true, Bool.not_false]) <;> (try simp only [decide_eq_true_eq, decide_eq_false_iff_not, Bool.not_eq_true', Bool.not_eq_false', Int.not_lt, Int.not_le, List.length_map, not_true_eq_false] at hb) <;> (try (exfalso; omega))))))
      refine AWP.yield (s2 := ⟨[(8, iV at'), (9, iV (symF l2 : Nat)), (4, .opt 1 0), (5, .opt 2 0), (6, .opt 3 0)], _⟩) (own' := accO 5 v M c n u (accS M c u T (k + 1))) rfl hps (by decide) (by decide) (by decide) rfl rfl rfl rfl rfl ?_ rfl hr ?_
      · rw [hra]
        refine AWP.toW ?_
        unfold accEnv
        (repeat' (first
  | (apply W.qd; (apply q_as; (first
    | exact Eq.refl (AV.d _)
    | exact Eq.refl (AV.osl _ _ _ _)
    | exact Eq.refl (AV.opt _ _)
    | exact Eq.refl (AV.agg _)
    | exact Eq.refl (AV.fpt _ _ _ _)
    | exact Eq.refl (AV.rpt _ _ _ _)
    | exact Eq.refl (AV.fn _ _)
    | exact Eq.refl (AV.tup _)
    | exact Eq.refl AV.top)))
  | (apply AWP.seq)
  | (apply ACont_normal)
  | (apply W.region; kernel_rfl)
  | (apply Walk.nil)))
        exact ⟨rfl, ⟨[0, 1, 2, 3, 4, 5], rfl, rfl, rfl, by (repeat (first | exact trivial | refine ⟨rfl, ?_⟩))⟩⟩
      unfold accO
      (repeat' (first
  | (apply W.qd; (first
    | (apply q_mv; (first
    | exact Eq.refl (AV.d _)
    | exact Eq.refl (AV.osl _ _ _ _)
    | exact Eq.refl (AV.opt _ _)
    | exact Eq.refl (AV.agg _)
    | exact Eq.refl (AV.fpt _ _ _ _)
    | exact Eq.refl (AV.rpt _ _ _ _)
    | exact Eq.refl (AV.fn _ _)
    | exact Eq.refl (AV.tup _)
    | exact Eq.refl AV.top))
    | (apply q_as; (first
    | exact Eq.refl (AV.d _)
    | exact Eq.refl (AV.osl _ _ _ _)
    | exact Eq.refl (AV.opt _ _)
    | exact Eq.refl (AV.agg _)
    | exact Eq.refl (AV.fpt _ _ _ _)
    | exact Eq.refl (AV.rpt _ _ _ _)
    | exact Eq.refl (AV.fn _ _)
    | exact Eq.refl (AV.tup _)
    | exact Eq.refl AV.top))
    | (apply q_add; exact rfl; exact rfl; omega)))
  | (apply ACont_normal)
  | (apply W.region; kernel_rfl)
  | (apply Walk.nil)
  | (apply AWP.skip)
  | (apply ABlock_normal)
  | (apply W.condF; exact rfl)))
      exact ⟨k + 1, by omega, by omega, [0, 1, 2, 3, 4, 5], rfl, rfl, rfl, iV_eq (by omega), rfl, rfl, rfl, rfl, trivial⟩
  · have : k = N := by omega
    subst this
    unfold accO
    (repeat' (first
  | (apply W.qd; (first
    | (apply q_mv; (first
    | exact Eq.refl (AV.d _)
    | exact Eq.refl (AV.osl _ _ _ _)
    | exact Eq.refl (AV.opt _ _)
    | exact Eq.refl (AV.agg _)
    | exact Eq.refl (AV.fpt _ _ _ _)
    | exact Eq.refl (AV.rpt _ _ _ _)
    | exact Eq.refl (AV.fn _ _)
    | exact Eq.refl (AV.tup _)
    | exact Eq.refl AV.top))
    | (apply q_ld_box; exact rfl; exact rfl; exact rfl; exact rfl)
    | (apply q_leq; exact rfl; exact rfl)
    | (apply q_add; exact rfl; exact rfl; omega)
    | (apply q_len_bs; exact rfl; exact rfl)))
  | (apply AWP.seq)
  | (apply ACont_normal)
  | (apply W.region; kernel_rfl)
  | (apply Walk.nil)
  | (apply AWP.exit)
  | (apply ACont_exit)
  | (apply ABlock_exit)
  | (refine W.cond _ rfl (fun hb => ?_) (fun hb => ?_) <;> ((try simp only [hb, Bool.not_true, Bool.not_false]) <;> (try simp only [decide_eq_true_eq, decide_eq_false_iff_not, Bool.not_eq_true', Bool.not_eq_false', Int.not_lt, Int.not_le, List.length_map, not_true_eq_false] at hb) <;> (try (exfalso; omega))))))
    exact ⟨.inr rfl, rfl⟩
end Go.Proofs.YtjaipchlnnjaeaaDoor
end

section
/- Package field over the machine of abstract values: Combine. -/
namespace Go.Proofs.YtjaipchlnnjaeaaDoor
open Go.RowKit
set_option linter.unusedVariables false
set_option linter.unusedSimpArgs false
set_option maxHeartbeats 4000000
set_option maxRecDepth 100000
attribute [local irreducible] Quiet Eff OpOk AWPG ACont ABlock ACalls AGoto

theorem allF_nats {M : Nat} {cs : List Nat} (hM : FldM M) (h : ∀ c ∈ cs, c < 2 ^ M) : allF M (cs.map fun n : Nat => (n : Int)) = true := by
  have h0 : allF M [((0 : Nat) : Int)] = true := all2 hM (Nat.two_pow_pos M)
  simp only [allF, Bool.and_eq_true, List.all_eq_true] at h0 ⊢
  refine ⟨h0.1, fun x hx => ?_⟩
  obtain ⟨n, hn, rfl⟩ := List.mem_map.1 hx
  exact inF_lt hM (h n hn)
theorem A_combine1 {n : Nat} (x : List Nat) (hx : x.length < 9223372036854775808) : ACalls Tryd.prog 67 [bS x, .opt 0 0] [.box [iV n]] (bV (decide ((x.length : Int) = n))) [.box [iV n]] := by
  refine acalls_of_bodyO Tryd.func67 rfl (Nat.le_of_ble_eq_true rfl) ?_
  (repeat' (first
  | (apply W.qd; (first
    | (apply q_mv; (first
    | exact Eq.refl (AV.d _)
    | exact Eq.refl (AV.osl _ _ _ _)
    | exact Eq.refl (AV.opt _ _)
    | exact Eq.refl (AV.agg _)
    | exact Eq.refl (AV.fpt _ _ _ _)
    | exact Eq.refl (AV.rpt _ _ _ _)
    | exact Eq.refl (AV.fn _ _)
    | exact Eq.refl (AV.tup _)
    | exact Eq.refl AV.top))
    | (apply q_as; (first
    | exact Eq.refl (AV.d _)
    | exact Eq.refl (AV.osl _ _ _ _)
    | exact Eq.refl (AV.opt _ _)
    | exact Eq.refl (AV.agg _)
    | exact Eq.refl (AV.fpt _ _ _ _)
    | exact Eq.refl (AV.rpt _ _ _ _)
    | exact Eq.refl (AV.fn _ _)
    | exact Eq.refl (AV.tup _)
    | exact Eq.refl AV.top))
    | (apply q_ld_box; exact rfl; exact rfl; exact rfl; exact rfl)
    | (apply q_eql; exact rfl; exact rfl)
    | (apply q_len_bs; exact rfl; exact rfl)))
  | (apply AWP.seq)
  | (apply ACont_normal)
  | (apply W.region; kernel_rfl)
  | (apply Walk.nil)
  | (apply AWP.ret)))
  exact ⟨.inl rfl, [0], [bV (decide ((x.length : Int) = n))], rfl, rfl, ⟨rfl, trivial⟩, AVle.of_eq rfl, rfl⟩
theorem A_fevery1 {n : Nat} (x : List Nat) (hx : x.length < 9223372036854775808) : ACalls Tryd.prog 88 [bS x, .opt 1 0] [.box [iV n], .box [.fn 67 [.opt 0 0]]] (bV (!decide ((x.length : Int) = n))) [.box [iV n], .box [.fn 67 [.opt 0 0]]] := by
  refine acalls_of_bodyO Tryd.func88 rfl (Nat.le_of_ble_eq_true rfl) ?_
  have hg := A_combine1 (n := n) x hx
  (repeat' (first
  | (apply W.qd; (first
    | (apply q_mv; (first
    | exact Eq.refl (AV.d _)
    | exact Eq.refl (AV.osl _ _ _ _)
    | exact Eq.refl (AV.opt _ _)
    | exact Eq.refl (AV.agg _)
    | exact Eq.refl (AV.fpt _ _ _ _)
    | exact Eq.refl (AV.rpt _ _ _ _)
    | exact Eq.refl (AV.fn _ _)
    | exact Eq.refl (AV.tup _)
    | exact Eq.refl AV.top))
    | (apply q_as; (first
    | exact Eq.refl (AV.d _)
    | exact Eq.refl (AV.osl _ _ _ _)
    | exact Eq.refl (AV.opt _ _)
    | exact Eq.refl (AV.agg _)
    | exact Eq.refl (AV.fpt _ _ _ _)
    | exact Eq.refl (AV.rpt _ _ _ _)
    | exact Eq.refl (AV.fn _ _)
    | exact Eq.refl (AV.tup _)
    | exact Eq.refl AV.top))
    | (apply q_ld_box; exact rfl; exact rfl; exact rfl; exact rfl)
    | (apply q_not; exact rfl)))
  | (apply W.ed; (apply (e_callJ (js := [0]) (hg)); exact rfl; exact rfl; exact rfl; exact rfl; exact rfl; kernel_rfl; kernel_rfl))
  | (apply AWP.seq)
  | (apply ACont_normal)
  | (apply W.region; kernel_rfl)
  | (apply Walk.nil)
  | (apply AWP.ret)))
  exact ⟨.inl rfl, [0, 1], [bV (!decide ((x.length : Int) = n))], rfl, rfl, ⟨rfl, trivial⟩, AVle.of_eq rfl, rfl⟩
theorem A_fevery {n : Nat} (l : List (List Nat)) (hl : l.length ≤ 1000000000) (hx : ∀ x ∈ l, x.length < 9223372036854775808) : ACalls Tryd.prog 66 [strs l, .fn 67 [.opt 0 0]] [.box [iV n]] (bV (l.all fun x => decide ((x.length : Int) = n))) [.box [iV n]] := by
  refine acalls_of_bodyO Tryd.func66 rfl (Nat.le_of_ble_eq_true rfl) ?_
  have hc := A_contains_str (O := [.box [iV n], .box [.fn 67 [.opt 0 0]]]) (g := 88) (caps := [.opt 1 0]) (fun x => !decide ((x.length : Int) = n)) l hl (by kernel_rfl) (fun x h => A_fevery1 x (hx x h))
  (repeat' (first
  | (apply W.qd; (first
    | (apply q_mv; (first
    | exact Eq.refl (AV.d _)
    | exact Eq.refl (AV.osl _ _ _ _)
    | exact Eq.refl (AV.opt _ _)
    | exact Eq.refl (AV.agg _)
    | exact Eq.refl (AV.fpt _ _ _ _)
    | exact Eq.refl (AV.rpt _ _ _ _)
    | exact Eq.refl (AV.fn _ _)
    | exact Eq.refl (AV.tup _)
    | exact Eq.refl AV.top))
    | (apply q_as; (first
    | exact Eq.refl (AV.d _)
    | exact Eq.refl (AV.osl _ _ _ _)
    | exact Eq.refl (AV.opt _ _)
    | exact Eq.refl (AV.agg _)
    | exact Eq.refl (AV.fpt _ _ _ _)
    | exact Eq.refl (AV.rpt _ _ _ _)
    | exact Eq.refl (AV.fn _ _)
    | exact Eq.refl (AV.tup _)
    | exact Eq.refl AV.top))
    | (apply q_not; exact rfl)
    | (apply q_makeFunc)))
  | (apply W.ed; (first
    | (apply (e_callJ (js := [0, 1]) (hc)); exact rfl; exact rfl; exact rfl; exact rfl; exact rfl; kernel_rfl; kernel_rfl)
    | (apply e_boxF; exact rfl; exact rfl; exact rfl; kernel_rfl; kernel_rfl)))
  | (apply AWP.seq)
  | (apply ACont_normal)
  | (apply W.region; kernel_rfl)
  | (apply Walk.nil)
  | (apply AWP.ret)))
  exact ⟨.inl rfl, [0], [bV (!l.any fun x => !decide ((x.length : Int) = n))], rfl, rfl, ⟨rfl, trivial⟩, AVle.of_eq (by rw [List.all_eq_not_any_not]; rfl), rfl⟩

theorem A_fcombine {M n : Nat} {cs : List Nat} {us : List (List Nat)} (hM : FldM M) (he : FitM M n) (hlen : cs.length = us.length) (hpos : 0 < cs.length) (hcs : ∀ c ∈ cs, c < 2 ^ M) (hus : ∀ u ∈ us, isB u ∧ u.length = n) (hn : n ≤ 1000000) (hk : cs.length ≤ 1000000) :
    ACalls Tryd.prog 43 [iV M, nats cs, strs us] [] (.tup [bS (combM M n cs us (List.replicate n 0)), iV 0]) [] := by
  refine acalls_of_bodyO Tryd.func43 rfl (Nat.le_of_ble_eq_true rfl) ?_
  have hU : 0 < us.length := by omega
  have h0 := (hus (us[0]'hU) (List.getElem_mem _)).2
  have hall := A_all M (cs.map fun n : Nat => (n : Int)) (by rw [List.length_map]; omega) (fun x hx => by
    obtain ⟨c, hc, rfl⟩ := List.mem_map.1 hx
    have := hM.cap (hcs c hc); omega)
  rw [← nats_ints, allF_nats hM hcs] at hall
  have hev := A_fevery (n := n) us (by omega) (fun x hx => by have := (hus x hx).2; omega)
  have hev2 : us.all (fun x => decide ((x.length : Int) = n)) = true := by
    rw [List.all_eq_true]
    intro x hx
    rw [decide_eq_true_eq, (hus x hx).2]
  rw [hev2] at hev
  have hB0 := isB_zero n
  have hz : ((M : Int) / 8) = ((M / 8 : Nat) : Int) := by omega
  have hz1 : 1 ≤ M / 8 ∧ M / 8 ≤ 2 := by rcases hM with rfl | rfl <;> decide
  have hmod : n % (M / 8) = 0 := by
    rcases hM with rfl | rfl
    · show n % 1 = 0; omega
    · exact he rfl
  have hmod2 : (n : Int) % ((M : Int) / 8) = 0 := by rw [hz]; omega
  subst h0
  have hv1 : ((us[0]'hU).length : Int) < 9223372036854775808 := by omega
  (repeat' (first
  | (apply W.gOn; exact rfl; exact rfl)
  | (apply W.qd; (first
    | (apply (q_callC (hall)); exact rfl; exact rfl; kernel_rfl; kernel_rfl; kernel_rfl)
    | (apply q_mv; (first
    | exact Eq.refl (AV.d _)
    | exact Eq.refl (AV.osl _ _ _ _)
    | exact Eq.refl (AV.opt _ _)
    | exact Eq.refl (AV.agg _)
    | exact Eq.refl (AV.fpt _ _ _ _)
    | exact Eq.refl (AV.rpt _ _ _ _)
    | exact Eq.refl (AV.fn _ _)
    | exact Eq.refl (AV.tup _)
    | exact Eq.refl AV.top))
    | (apply q_as; (first
    | exact Eq.refl (AV.d _)
    | exact Eq.refl (AV.osl _ _ _ _)
    | exact Eq.refl (AV.opt _ _)
    | exact Eq.refl (AV.agg _)
    | exact Eq.refl (AV.fpt _ _ _ _)
    | exact Eq.refl (AV.rpt _ _ _ _)
    | exact Eq.refl (AV.fn _ _)
    | exact Eq.refl (AV.tup _)
    | exact Eq.refl AV.top))
    | (apply q_ld_box; exact rfl; exact rfl; exact rfl; exact rfl)
    | (apply q_eql; exact rfl; exact rfl)
    | (apply q_neq; exact rfl; exact rfl)
    | (apply q_not; exact rfl)
    | (apply q_quo; exact rfl; exact rfl; omega; omega; omega)
    | (apply q_rem; exact rfl; exact rfl; omega; omega)
    | (apply q_len_sl; exact rfl; exact rfl)
    | (apply q_len_bs; exact rfl; exact rfl)
    | (apply q_ld_map; exact rfl; exact rfl; exact rfl; (first | omega | (focus (simp; done))))
    | (apply q_makeFunc)
    | (apply q_ix_slF; exact rfl; exact rfl; exact rfl; exact rfl; (first | (with_reducible exact rfl) | exact natI_spec rfl | assumption | exact (Int.toNat_of_nonneg (by omega)).symm); (first | omega | (focus (simp only [List.length_map]; omega)) | (focus (simp; done)) | (focus (simp; omega))))
    | (apply (q_pickF (u := .d _)); exact rfl; exact rfl)))
  | (apply W.ed; (first
    | (apply (e_callJ (js := [0]) (hev)); exact rfl; exact rfl; exact rfl; exact rfl; exact rfl; kernel_rfl; kernel_rfl)
    | (apply e_allocF; exact rfl; exact rfl; exact rfl; kernel_rfl)
    | (apply (e_makeG (f := nD) 0); exact rfl; exact rfl; (first | (with_reducible exact rfl) | exact natI_spec rfl | assumption | exact (Int.toNat_of_nonneg (by omega)).symm); exact rfl; exact rfl; exact rfl; exact rfl; exact rfl; exact rfl; exact rfl; omega)))
  | (apply W.ln; (apply l_st_box; exact rfl; exact rfl; exact rfl; exact rfl; exact rfl; exact rfl; kernel_rfl; kernel_rfl; kernel_rfl))
  | (apply AWP.seq)
  | (apply ACont_normal)
  | (apply W.region; kernel_rfl)
  | (apply Walk.nil)
  | (apply AWP.block)
  | (apply AWP.skip)
  | (apply W.condF; exact rfl)
  | (refine W.gF _ _ rfl rfl (fun hb => ?_) (fun hb => ?_) <;> ((try simp only [hb, Bool.not_true, Bool.not_false]) <;> (try simp only [decide_eq_true_eq, decide_eq_false_iff_not, Bool.not_eq_true', Bool.not_eq_false', Int.not_lt, Int.not_le, List.length_map, not_true_eq_false] at hb) <;> (try (exfalso; omega))))
  | (refine W.cond _ rfl (fun hb => ?_) (fun hb => ?_) <;> ((try simp only [hb, Bool.not_true, Bool.not_false]) <;> (try simp only [decide_eq_true_eq, decide_eq_false_iff_not, Bool.not_eq_true', Bool.not_eq_false', Int.not_lt, Int.not_le, List.length_map, not_true_eq_false] at hb) <;> (try (exfalso; omega))))))
  generalize (us[0]'hU).length = n at *
  refine AWP.loopW (α := Nat) (fun k => k ≤ cs.length) (fun k => ⟨[(47, iV k), (46, iV cs.length), (45, nats cs), (9, .osl 1 0 0 n), (0, iV M), (2, strs us)], [.box [iV n], .row 0 1 5 ((combM M n (cs.take k) (us.take k) (List.replicate n 0)).map nD)]⟩) (fun k => cs.length - k) 0 (by omega) ⟨[0, 1], rfl, rfl, rfl, rfl, iV_eq (by simp), rfl, rfl, rfl, rfl, trivial⟩ fun k hk2 => ?_
  by_cases hkl : k < cs.length
  · have hst := combM_step M n cs us (List.replicate n 0) k hkl (by omega)
    have hu := hus (us[k]'(by omega)) (List.getElem_mem _)
    have hok := combM_ok hM he (cs.take k) (us.take k) (List.replicate n 0) (fun c hc => hcs c (List.mem_of_mem_take hc)) (fun u hu => (hus u (List.mem_of_mem_take hu)).2) hB0 (by simp)
    have hcm := hcs cs[k] (List.getElem_mem hkl)
    have hac := A_accumulate (v := 0) (u := us[k]'(by omega)) hM hcm hu.1 (by omega) hok.2.symm (by omega) hok.1 (by rw [hu.2]; exact he)
    rw [← hst] at hac
    (repeat' (first
  | (apply W.qd; (first
    | (apply q_mv; (first
    | exact Eq.refl (AV.d _)
    | exact Eq.refl (AV.osl _ _ _ _)
    | exact Eq.refl (AV.opt _ _)
    | exact Eq.refl (AV.agg _)
    | exact Eq.refl (AV.fpt _ _ _ _)
    | exact Eq.refl (AV.rpt _ _ _ _)
    | exact Eq.refl (AV.fn _ _)
    | exact Eq.refl (AV.tup _)
    | exact Eq.refl AV.top))
    | (apply q_as; (first
    | exact Eq.refl (AV.d _)
    | exact Eq.refl (AV.osl _ _ _ _)
    | exact Eq.refl (AV.opt _ _)
    | exact Eq.refl (AV.agg _)
    | exact Eq.refl (AV.fpt _ _ _ _)
    | exact Eq.refl (AV.rpt _ _ _ _)
    | exact Eq.refl (AV.fn _ _)
    | exact Eq.refl (AV.tup _)
    | exact Eq.refl AV.top))
    | (apply q_lss; exact rfl; exact rfl)
    | (apply q_add; exact rfl; exact rfl; omega)
    | (apply q_ld_map; exact rfl; exact rfl; exact rfl; (first | omega | (focus (simp; done))))
    | (apply q_ix_slF; exact rfl; exact rfl; exact rfl; exact rfl; (first | (with_reducible exact rfl) | exact natI_spec rfl | assumption | exact (Int.toNat_of_nonneg (by omega)).symm); (first | omega | (focus (simp only [List.length_map]; omega)) | (focus (simp; done)) | (focus (simp; omega))))))
  | (apply W.ed; (apply (e_callJ (js := [1]) (hac)); exact rfl; exact rfl; exact rfl; exact rfl; exact rfl; kernel_rfl; kernel_rfl))
  | (apply AWP.seq)
  | (apply ACont_normal)
  | (apply W.region; kernel_rfl)
  | (apply Walk.nil)
  | (apply AWP.block)
  | (apply AWP.skip)
  | (apply ABlock_normal)
  | (refine W.cond _ rfl (fun hb => ?_) (fun hb => ?_) <;> ((try simp only [hb, Bool.not_true, Bool.not_false]) <;> (try simp only [decide_eq_true_eq, decide_eq_false_iff_not, Bool.not_eq_true', Bool.not_eq_false', Int.not_lt, Int.not_le, List.length_map, not_true_eq_false] at hb) <;> (try (exfalso; omega))))))
    exact ⟨k + 1, by omega, by omega, [0, 1], rfl, rfl, rfl, iV_eq (by omega), rfl, rfl, rfl, rfl, rfl, trivial⟩
  · have hok := combM_ok hM he (cs.take k) (us.take k) (List.replicate n 0) (fun c hc => hcs c (List.mem_of_mem_take hc)) (fun u hu => (hus u (List.mem_of_mem_take hu)).2) hB0 (by simp)
    have e1 : cs.take k = cs := List.take_of_length_le (by omega)
    have e2 : us.take k = us := List.take_of_length_le (by omega)
    rw [e1, e2] at hok ⊢
    have hB := hok.1
    have hL := hok.2
    generalize combM M n cs us (List.replicate n 0) = R at *
    subst hL
    (repeat' (first
  | (apply W.qd; (first
    | (apply q_mv; (first
    | exact Eq.refl (AV.d _)
    | exact Eq.refl (AV.osl _ _ _ _)
    | exact Eq.refl (AV.opt _ _)
    | exact Eq.refl (AV.agg _)
    | exact Eq.refl (AV.fpt _ _ _ _)
    | exact Eq.refl (AV.rpt _ _ _ _)
    | exact Eq.refl (AV.fn _ _)
    | exact Eq.refl (AV.tup _)
    | exact Eq.refl AV.top))
    | (apply q_as; (first
    | exact Eq.refl (AV.d _)
    | exact Eq.refl (AV.osl _ _ _ _)
    | exact Eq.refl (AV.opt _ _)
    | exact Eq.refl (AV.agg _)
    | exact Eq.refl (AV.fpt _ _ _ _)
    | exact Eq.refl (AV.rpt _ _ _ _)
    | exact Eq.refl (AV.fn _ _)
    | exact Eq.refl (AV.tup _)
    | exact Eq.refl AV.top))
    | (apply q_lss; exact rfl; exact rfl)
    | (apply q_str_osl; exact rfl; exact rfl; exact rfl; exact rfl; (first | rfl | (focus (simp; done))); assumption)))
  | (apply AWP.seq)
  | (apply ACont_normal)
  | (apply W.region; kernel_rfl)
  | (apply Walk.nil)
  | (apply AWP.exit)
  | (apply AWP.ret)
  | (apply ACont_exit)
  | (apply ABlock_exit)
  | (refine W.cond _ rfl (fun hb => ?_) (fun hb => ?_) <;> ((try simp only [hb, Bool.not_true, Bool.not_false]) <;> (try simp only [decide_eq_true_eq, decide_eq_false_iff_not, Bool.not_eq_true', Bool.not_eq_false', Int.not_lt, Int.not_le, List.length_map, not_true_eq_false] at hb) <;> (try (exfalso; omega))))))
    exact ⟨.inl rfl, [], [bS R, iV 0], rfl, rfl, ⟨rfl, rfl, trivial⟩, AVle.of_eq rfl, rfl⟩
end Go.Proofs.YtjaipchlnnjaeaaDoor
end
