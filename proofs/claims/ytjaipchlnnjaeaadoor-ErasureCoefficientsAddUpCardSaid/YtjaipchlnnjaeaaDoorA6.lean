import Derived.Test.YtjaipchlnnjaeaaDoorA5
import Derived.Test.YtjaipchlnnjaeaaDoorA4
/- Joined texts: Mx1 Mx2 Mx3 Mx4 Mx4b Mx5 Mx6 Mx7. -/
section
/- Package matrix over the machine of abstract values: times, Valid, row, zero. -/
namespace Go.Proofs.YtjaipchlnnjaeaaDoor
open Go.RowKit
set_option linter.unusedVariables false
set_option linter.unusedSimpArgs false
set_option maxHeartbeats 4000000
set_option maxRecDepth 100000
attribute [local irreducible] Quiet Eff OpOk AWPG ACont ABlock ACalls

theorem A_mtimes {M : Nat} {a b : Nat} (hM : FldM M) (ha : a < 2 ^ M) (hb : b < 2 ^ M) : ACalls Tryd.prog 100 [iV M, iV a, iV b] [] (iV (Gf.mul M (modN M) a b : Nat)) [] := by
  refine acalls_of_body Tryd.func100 rfl (Nat.le_of_ble_eq_true rfl) ?_
  have hm := A_mul hM ha hb
  (repeat' (first
  | (apply W.qd; (first
    | (apply (q_callC (hm)); exact rfl; exact rfl; kernel_rfl; kernel_rfl; kernel_rfl)
    | (apply q_mv; (first
    | exact Eq.refl (AV.d _)
    | exact Eq.refl (AV.osl _ _ _ _)
    | exact Eq.refl (AV.opt _ _)
    | exact Eq.refl (AV.agg _)
    | exact Eq.refl (AV.fpt _ _ _ _)
    | exact Eq.refl (AV.rpt _ _ _ _)
    | exact Eq.refl (AV.fn _ _)
    | exact Eq.refl (AV.tup _)
    | exact Eq.refl AV.top))
    | (apply q_as; (first
    | exact Eq.refl (AV.d _)
    | exact Eq.refl (AV.osl _ _ _ _)
    | exact Eq.refl (AV.opt _ _)
    | exact Eq.refl (AV.agg _)
    | exact Eq.refl (AV.fpt _ _ _ _)
    | exact Eq.refl (AV.rpt _ _ _ _)
    | exact Eq.refl (AV.fn _ _)
    | exact Eq.refl (AV.tup _)
    | exact Eq.refl AV.top))
    | (apply q_extract; exact rfl; exact rfl)))
  | (apply AWP.seq)
  | (apply ACont_normal)
  | (apply W.region; kernel_rfl)
  | (apply Walk.nil)
  | (apply AWP.ret)))
  exact Ends.i rfl rfl
/-- A matrix as data: R rows, C columns. -/
abbrev mx (M R C : Nat) (l : List Nat) : AV := .agg [iV M, iV R, iV C, nats l]
/-- A matrix: a field, few rows and columns, as many elements as these say. -/
structure MxOk (M R C : Nat) (l : List Nat) : Prop where
  f : FldM M
  r : R ≤ 32
  c : C ≤ 32
  n : l.length = R * C
  e : ∀ x ∈ l, x < 2 ^ M
theorem A_mrow {M R C : Nat} {l : List Nat} (h : MxOk M R C l) {i : Nat} (hi : i < R) : ACalls Tryd.prog 80 [mx M R C l, iV i] [] (nats ((l.drop (i * C)).take C)) [] := by
  refine acalls_of_body Tryd.func80 rfl (Nat.le_of_ble_eq_true rfl) ?_
  have h1 := h.r
  have h2 := h.c
  have h3 := h.n
  have h4 : i * C ≤ 1024 := Nat.mul_le_mul (show i ≤ 32 by omega) h2
  have h5 : (i + 1) * C ≤ R * C := Nat.mul_le_mul_right C hi
  have h6 : ((i : Int) + 1) * (C : Int) = ((i : Int) * (C : Int)) + C := by rw [Int.add_mul, Int.one_mul]
  have h7 : (i + 1) * C = i * C + C := by rw [Nat.add_mul, Nat.one_mul]
  have h8 : -9223372036854775808 ≤ ((i : Int) + 1) * (C : Int) ∧ ((i : Int) + 1) * (C : Int) < 9223372036854775808 := by rw [h6]; omega
  (repeat' (first
  | (apply W.qd; (first
    | (apply q_mv; (first
    | exact Eq.refl (AV.d _)
    | exact Eq.refl (AV.osl _ _ _ _)
    | exact Eq.refl (AV.opt _ _)
    | exact Eq.refl (AV.agg _)
    | exact Eq.refl (AV.fpt _ _ _ _)
    | exact Eq.refl (AV.rpt _ _ _ _)
    | exact Eq.refl (AV.fn _ _)
    | exact Eq.refl (AV.tup _)
    | exact Eq.refl AV.top))
    | (apply q_as; (first
    | exact Eq.refl (AV.d _)
    | exact Eq.refl (AV.osl _ _ _ _)
    | exact Eq.refl (AV.opt _ _)
    | exact Eq.refl (AV.agg _)
    | exact Eq.refl (AV.fpt _ _ _ _)
    | exact Eq.refl (AV.rpt _ _ _ _)
    | exact Eq.refl (AV.fn _ _)
    | exact Eq.refl (AV.tup _)
    | exact Eq.refl AV.top))
    | (apply q_fld_optF; exact rfl; exact rfl; exact rfl)
    | (apply q_ld_box; exact rfl; exact rfl; exact rfl; exact rfl)
    | (apply q_add; exact rfl; exact rfl; omega)
    | (apply q_mul; exact rfl; exact rfl; (first | omega | assumption))
    | (apply q_slc_map; exact rfl; exact rfl; (first | exact ⟨_, _, rfl, rfl⟩ | exact ⟨_, _, rfl, natI_spec rfl⟩ | exact ⟨_, _, rfl, (Int.toNat_of_nonneg (by omega)).symm⟩ | exact rfl); (first | exact ⟨_, _, rfl, rfl⟩ | exact ⟨_, _, rfl, natI_spec rfl⟩ | exact ⟨_, _, rfl, (Int.toNat_of_nonneg (by omega)).symm⟩ | exact rfl); (first | omega | (focus (simp only [List.length_map]; omega)) | (focus (simp; done)) | (focus (simp; omega))); (first | omega | (focus (simp only [List.length_map]; omega)) | (focus (simp; done)) | (focus (simp; omega))); exact Or.inl rfl)))
  | (apply W.ed; (apply e_boxF; exact rfl; exact rfl; exact rfl; kernel_rfl; kernel_rfl))
  | (apply AWP.seq)
  | (apply ACont_normal)
  | (apply W.region; kernel_rfl)
  | (apply Walk.nil)
  | (apply AWP.ret)))
  exact Ends.sl rfl (by rw [h7, Nat.add_sub_cancel_left])
theorem A_mzero (M R C : Nat) (hr : R ≤ 32) (hc : C ≤ 32) : ACalls Tryd.prog 98 [iV M, iV R, iV C] [] (mx M R C (List.replicate (R * C) 0)) [] := by
  refine acalls_of_body Tryd.func98 rfl (Nat.le_of_ble_eq_true rfl) ?_
  have h4 : R * C ≤ 1024 := Nat.mul_le_mul hr hc
  (repeat' (first
  | (apply W.qd; (first
    | (apply q_mv; (first
    | exact Eq.refl (AV.d _)
    | exact Eq.refl (AV.osl _ _ _ _)
    | exact Eq.refl (AV.opt _ _)
    | exact Eq.refl (AV.agg _)
    | exact Eq.refl (AV.fpt _ _ _ _)
    | exact Eq.refl (AV.rpt _ _ _ _)
    | exact Eq.refl (AV.fn _ _)
    | exact Eq.refl (AV.tup _)
    | exact Eq.refl AV.top))
    | (apply q_mul; exact rfl; exact rfl; (first | omega | assumption))
    | (apply q_buildF; exact rfl; exact rfl; kernel_rfl)))
  | (apply W.ed; (first
    | (apply e_allocF; exact rfl; exact rfl; exact rfl; kernel_rfl)
    | (apply (e_makeG (f := iD) 0); exact rfl; exact rfl; (first | (with_reducible exact rfl) | exact natI_spec rfl | assumption | exact (Int.toNat_of_nonneg (by omega)).symm); exact rfl; exact rfl; exact rfl; exact rfl; exact rfl; exact rfl; exact rfl; omega)))
  | (apply W.en; (apply e_st_boxF; exact rfl; exact rfl; exact rfl; exact rfl; exact rfl; exact rfl; kernel_rfl; kernel_rfl; kernel_rfl))
  | (apply AWP.seq)
  | (apply ACont_normal)
  | (apply W.region; kernel_rfl)
  | (apply Walk.nil)
  | (apply AWP.ret)))
  refine Ends.cell1 rfl rfl rfl ?_
  have e : ((R : Int) * (C : Int)).toNat = R * C := by rw [← Int.natCast_mul, Int.toNat_natCast]
  rw [e]
  have hz := frz_row (own := [Ent.box [iV M, iV R, iV C, .osl 1 0 0 (R * C)], Ent.row 0 1 3 ((List.replicate (R * C) 0).map iD)]) (i := 1) rfl (by simp : R * C = ((List.replicate (R * C) 0).map iD).length)
  have h2 : (List.replicate (R * C) 0).map iD = (List.replicate (R * C) 0).map kD := by simp only [List.map_replicate]; rfl
  show AV.agg [iV M, iV R, iV C, AV.frz _ _ (.osl 1 0 0 (R * C))] = _
  refine congrArg (fun z => AV.agg [iV M, iV R, iV C, z]) ?_
  exact hz.trans (congrArg (fun z => AV.d (.sl 1 z)) h2)
theorem A_mvalid1 {M R C : Nat} {l : List Nat} (h : MxOk M R C l) (x : Nat) (hx : x < 2 ^ M) : ACalls Tryd.prog 97 [iV x, .opt 0 0] [.box [iV M, iV R, iV C, nats l]] (bV false) [.box [iV M, iV R, iV C, nats l]] := by
  refine acalls_of_bodyS Tryd.func97 rfl (Nat.le_of_ble_eq_true rfl) ?_
  have hpw := h.f.pow
  have hM := h.f
  have hM16 : 1 ≤ M ∧ M ≤ 16 := by unfold FldM at hM; omega
  have h1 := one_shl M
  have hcap1 : ∀ s : Nat, s ≤ M → 1 <<< s < 9223372036854775808 := fun s hs => by
    rw [one_shl]
    have := Nat.pow_le_pow_right (show 0 < 2 by omega) hs
    omega
  (repeat' (first
  | (apply W.gOn; exact rfl; exact rfl)
  | (apply W.qd; (first
    | (apply q_mv; (first
    | exact Eq.refl (AV.d _)
    | exact Eq.refl (AV.osl _ _ _ _)
    | exact Eq.refl (AV.opt _ _)
    | exact Eq.refl (AV.agg _)
    | exact Eq.refl (AV.fpt _ _ _ _)
    | exact Eq.refl (AV.rpt _ _ _ _)
    | exact Eq.refl (AV.fn _ _)
    | exact Eq.refl (AV.tup _)
    | exact Eq.refl AV.top))
    | (apply q_as; (first
    | exact Eq.refl (AV.d _)
    | exact Eq.refl (AV.osl _ _ _ _)
    | exact Eq.refl (AV.opt _ _)
    | exact Eq.refl (AV.agg _)
    | exact Eq.refl (AV.fpt _ _ _ _)
    | exact Eq.refl (AV.rpt _ _ _ _)
    | exact Eq.refl (AV.fn _ _)
    | exact Eq.refl (AV.tup _)
    | exact Eq.refl AV.top))
    | (apply q_fld_optF; exact rfl; exact rfl; exact rfl)
    | (apply q_ld_box; exact rfl; exact rfl; exact rfl; exact rfl)
    | (apply q_lss; exact rfl; exact rfl)
    | (apply q_geq; exact rfl; exact rfl)
    | (apply (q_pickF (u := .d _)); exact rfl; exact rfl)
    | (apply q_shlN; exact rfl; exact rfl; (first | (with_reducible exact rfl) | exact natI_spec rfl | assumption | exact (Int.toNat_of_nonneg (by omega)).symm); (first | (with_reducible exact rfl) | exact natI_spec rfl | assumption | exact (Int.toNat_of_nonneg (by omega)).symm); exact rfl; omega; (first | (apply hcap1; omega) | (apply hcap2; omega) | (apply hcap3; omega) | (apply hcap4; omega) | (focus (show _ < 9223372036854775808; omega)) | (focus (show _ < 256; omega)) | assumption))))
  | (apply AWP.seq)
  | (apply ACont_normal)
  | (apply W.region; kernel_rfl)
  | (apply Walk.nil)
  | (apply AWP.ret)))
  exact EndsS.b rfl (decide_eq_false (by rw [one_shl]; have h8 : ((2 ^ M : Nat) : Int) > (x : Int) := by omega
                                         omega))
theorem A_mvalid {M R C : Nat} {l : List Nat} (h : MxOk M R C l) : ACalls Tryd.prog 79 [mx M R C l] [] (bV true) [] := by
  refine acalls_of_body Tryd.func79 rfl (Nat.le_of_ble_eq_true rfl) ?_
  have h1 := h.r
  have h2 := h.c
  have h3 := h.n
  have h4 : R * C ≤ 1024 := Nat.mul_le_mul h1 h2
  have hM := h.f
  have hM16 : M = 8 ∨ M = 16 := by unfold FldM at hM; omega
  have hmap : (l.map fun n : Nat => (n : Int)).any (fun _ => false) = false := by simp
  have hc := A_contains_int (O := [.box [iV M, iV R, iV C, nats l]]) (g := 97) (caps := [.opt 0 0]) (fun _ => false) (l.map fun n : Nat => (n : Int)) (by simp; omega) (by kernel_rfl) (fun x hx => by
    obtain ⟨n, hn, rfl⟩ := List.mem_map.1 hx
    exact A_mvalid1 h n (h.e n hn))
  rw [← nats_ints, hmap] at hc
  (repeat' (first
  | (apply W.gOn; exact rfl; exact rfl)
  | (apply W.qd; (first
    | (apply q_mv; (first
    | exact Eq.refl (AV.d _)
    | exact Eq.refl (AV.osl _ _ _ _)
    | exact Eq.refl (AV.opt _ _)
    | exact Eq.refl (AV.agg _)
    | exact Eq.refl (AV.fpt _ _ _ _)
    | exact Eq.refl (AV.rpt _ _ _ _)
    | exact Eq.refl (AV.fn _ _)
    | exact Eq.refl (AV.tup _)
    | exact Eq.refl AV.top))
    | (apply q_as; (first
    | exact Eq.refl (AV.d _)
    | exact Eq.refl (AV.osl _ _ _ _)
    | exact Eq.refl (AV.opt _ _)
    | exact Eq.refl (AV.agg _)
    | exact Eq.refl (AV.fpt _ _ _ _)
    | exact Eq.refl (AV.rpt _ _ _ _)
    | exact Eq.refl (AV.fn _ _)
    | exact Eq.refl (AV.tup _)
    | exact Eq.refl AV.top))
    | (apply q_fld_optF; exact rfl; exact rfl; exact rfl)
    | (apply q_ld_box; exact rfl; exact rfl; exact rfl; exact rfl)
    | (apply q_lss; exact rfl; exact rfl)
    | (apply q_gtr; exact rfl; exact rfl)
    | (apply q_neq; exact rfl; exact rfl)
    | (apply q_not; exact rfl)
    | (apply q_mul; exact rfl; exact rfl; (first | omega | assumption))
    | (apply q_len_sl; exact rfl; exact rfl)
    | (apply q_makeFunc)
    | (apply q_min; exact rfl; exact rfl)
    | (apply q_max; exact rfl; exact rfl)
    | (apply (q_pickT (u := .d _)); exact rfl; exact rfl)
    | (apply (q_pickF (u := .d _)); exact rfl; exact rfl)))
  | (apply W.ed; (first
    | (apply (e_callS (hc)); exact rfl; exact rfl; (first | assumption | kernel_rfl))
    | (apply e_boxF; exact rfl; exact rfl; exact rfl; kernel_rfl; kernel_rfl)))
  | (refine W.gOff _ _ rfl rfl (by intro h; cases h) ?_)
  | (apply AWP.seq)
  | (apply ACont_normal)
  | (apply W.region; kernel_rfl)
  | (apply Walk.nil)
  | (apply AWP.skip)
  | (apply AWP.ret)
  | (refine W.gT _ _ rfl rfl (fun hb => ?_) (fun hb => ?_) <;> ((try simp only [hb, Bool.not_true, Bool.not_false]) <;> (try simp only [decide_eq_true_eq, decide_eq_false_iff_not, Bool.not_eq_true', Bool.not_eq_false', Int.not_lt, Int.not_le, List.length_map, not_true_eq_false] at hb) <;> (try (exfalso; omega))))
  | (refine W.gF _ _ rfl rfl (fun hb => ?_) (fun hb => ?_) <;> ((try simp only [hb, Bool.not_true, Bool.not_false]) <;> (try simp only [decide_eq_true_eq, decide_eq_false_iff_not, Bool.not_eq_true', Bool.not_eq_false', Int.not_lt, Int.not_le, List.length_map, not_true_eq_false] at hb) <;> (try (exfalso; omega))))
  | (refine W.cond _ rfl (fun hb => ?_) (fun hb => ?_) <;> ((try simp only [hb, Bool.not_true, Bool.not_false]) <;> (try simp only [decide_eq_true_eq, decide_eq_false_iff_not, Bool.not_eq_true', Bool.not_eq_false', Int.not_lt, Int.not_le, List.length_map, not_true_eq_false] at hb) <;> (try (exfalso; omega))))))
  all_goals exact Ends.b rfl rfl
/-- to + f from, in a field. -/
def addR (M f : Nat) (t r : List Nat) : List Nat := List.zipWith (fun x y => x ^^^ Gf.mul M (modN M) f y) t r
end Go.Proofs.YtjaipchlnnjaeaaDoor
end

section
/- Package matrix over the machine of abstract values: row and add in a matrix of the caller's own. -/
namespace Go.Proofs.YtjaipchlnnjaeaaDoor
open Go.RowKit
set_option linter.unusedVariables false
set_option linter.unusedSimpArgs false
set_option maxHeartbeats 4000000
set_option maxRecDepth 100000
attribute [local irreducible] Quiet Eff OpOk AWPG ACont ABlock ACalls

/-- A row of a matrix whose elements are memory of the caller's own. -/
theorem A_mrowO {M R C v : Nat} {l : List Nat} (hr : R ≤ 32) (hc : C ≤ 32) (hn : l.length = R * C) {i : Nat} (hi : i < R) : ACalls Tryd.prog 80 [.agg [iV M, iV R, iV C, .osl 0 v 0 (R * C)], iV i] [.row v 1 3 (l.map kD)] (.osl 0 v (i * C) C) [.row v 1 3 (l.map kD)] := by
  refine acalls_of_bodyO Tryd.func80 rfl (Nat.le_of_ble_eq_true rfl) ?_
  have h4 : i * C ≤ 1024 := Nat.mul_le_mul (show i ≤ 32 by omega) hc
  have h5 : (i + 1) * C ≤ R * C := Nat.mul_le_mul_right C hi
  have h6 : ((i : Int) + 1) * (C : Int) = ((i : Int) * (C : Int)) + C := by rw [Int.add_mul, Int.one_mul]
  have h7 : (i + 1) * C = i * C + C := by rw [Nat.add_mul, Nat.one_mul]
  have h8 : -9223372036854775808 ≤ ((i : Int) + 1) * (C : Int) ∧ ((i : Int) + 1) * (C : Int) < 9223372036854775808 := by rw [h6]; omega
  (repeat' (first
  | (apply W.qd; (first
    | (apply q_mv; (first
    | exact Eq.refl (AV.d _)
    | exact Eq.refl (AV.osl _ _ _ _)
    | exact Eq.refl (AV.opt _ _)
    | exact Eq.refl (AV.agg _)
    | exact Eq.refl (AV.fpt _ _ _ _)
    | exact Eq.refl (AV.rpt _ _ _ _)
    | exact Eq.refl (AV.fn _ _)
    | exact Eq.refl (AV.tup _)
    | exact Eq.refl AV.top))
    | (apply q_as; (first
    | exact Eq.refl (AV.d _)
    | exact Eq.refl (AV.osl _ _ _ _)
    | exact Eq.refl (AV.opt _ _)
    | exact Eq.refl (AV.agg _)
    | exact Eq.refl (AV.fpt _ _ _ _)
    | exact Eq.refl (AV.rpt _ _ _ _)
    | exact Eq.refl (AV.fn _ _)
    | exact Eq.refl (AV.tup _)
    | exact Eq.refl AV.top))
    | (apply q_fld_optF; exact rfl; exact rfl; exact rfl)
    | (apply q_ld_box; exact rfl; exact rfl; exact rfl; exact rfl)
    | (apply q_add; exact rfl; exact rfl; omega)
    | (apply q_mul; exact rfl; exact rfl; (first | omega | assumption))))
  | (apply W.ed; (apply e_boxF; exact rfl; exact rfl; exact rfl; kernel_rfl; kernel_rfl))
  | (apply AWP.seq)
  | (apply ACont_normal)
  | (apply W.region; kernel_rfl)
  | (apply Walk.nil)))
  refine W.q (fp := [0]) (r := .osl 0 v (0 + i * C) ((i + 1) * C - i * C)) ?q0 ?q1
  case q0 => exact q_slc_osl (i * C) ((i + 1) * C) rfl rfl rfl ⟨_, _, rfl, rfl⟩ ⟨_, _, rfl, rfl⟩ (by omega) (by omega)
  (repeat' (first
  | (apply W.qd; (apply q_as; (first
    | exact Eq.refl (AV.d _)
    | exact Eq.refl (AV.osl _ _ _ _)
    | exact Eq.refl (AV.opt _ _)
    | exact Eq.refl (AV.agg _)
    | exact Eq.refl (AV.fpt _ _ _ _)
    | exact Eq.refl (AV.rpt _ _ _ _)
    | exact Eq.refl (AV.fn _ _)
    | exact Eq.refl (AV.tup _)
    | exact Eq.refl AV.top)))
  | (apply ACont_normal)
  | (apply Walk.nil)
  | (apply AWP.ret)))
  refine ⟨.inl rfl, [0], [.osl 0 v (0 + i * C) ((i + 1) * C - i * C)], rfl, rfl, ?_, ?_, rfl⟩
  · exact ⟨rfl, trivial⟩
  · rw [Nat.zero_add, h7, Nat.add_sub_cancel_left]
    exact AVle.of_eq (by simp [tupA, AV.frz, plc])
/-- Element o + k gets f times element o' + k added, for all k below n, in order. -/
def addAt (M f o o' : Nat) (L : List Nat) : Nat → List Nat
  | 0 => L
  | k + 1 => (addAt M f o o' L k).set (o + k) ((addAt M f o o' L k).getD (o + k) 0 ^^^ Gf.mul M (modN M) f ((addAt M f o o' L k).getD (o' + k) 0))
theorem addAt_length (M f o o' : Nat) (L : List Nat) (k : Nat) : (addAt M f o o' L k).length = L.length := by
  induction k with
  | zero => rfl
  | succ k ih => rw [addAt, List.length_set, ih]
theorem getD_lt {M : Nat} {L : List Nat} (h : ∀ x ∈ L, x < 2 ^ M) (i : Nat) : L.getD i 0 < 2 ^ M := by
  rw [List.getD_eq_getElem?_getD]
  cases hx : L[i]? with
  | none => exact Nat.two_pow_pos M
  | some x => exact h x (List.mem_of_getElem? hx)
theorem addAt_lt {M f : Nat} (hM : FldM M) (hf : f < 2 ^ M) (o o' : Nat) {L : List Nat} (h : ∀ x ∈ L, x < 2 ^ M) (k : Nat) : ∀ x ∈ addAt M f o o' L k, x < 2 ^ M := by
  induction k with
  | zero => exact h
  | succ k ih =>
    intro x hx
    rw [addAt] at hx
    rcases List.mem_or_eq_of_mem_set hx with hx | rfl
    · exact ih x hx
    · exact Nat.xor_lt_two_pow (getD_lt ih _) (Gf.mul_lt (FldM.gen hM).hm (FldM.gen hM).top (FldM.gen hM).lt hf _)
theorem A_madd {M f o o' n v : Nat} {L : List Nat} (hM : FldM M) (hf : f < 2 ^ M) (hL : ∀ x ∈ L, x < 2 ^ M) (h1 : o + n ≤ L.length) (h2 : o' + n ≤ L.length) (hn : n ≤ 1000000) : ACalls Tryd.prog 101 [iV M, .osl 0 v o n, .osl 0 v o' n, iV f] [.row v 1 3 (L.map kD)] (.tup []) [.row v 1 3 ((addAt M f o o' L n).map kD)] := by
  refine acalls_of_bodyO Tryd.func101 rfl (Nat.le_of_ble_eq_true rfl) ?_
  (repeat' (first
  | (apply W.qd; (first
    | (apply q_mv; (first
    | exact Eq.refl (AV.d _)
    | exact Eq.refl (AV.osl _ _ _ _)
    | exact Eq.refl (AV.opt _ _)
    | exact Eq.refl (AV.agg _)
    | exact Eq.refl (AV.fpt _ _ _ _)
    | exact Eq.refl (AV.rpt _ _ _ _)
    | exact Eq.refl (AV.fn _ _)
    | exact Eq.refl (AV.tup _)
    | exact Eq.refl AV.top))
    | (apply q_len_osl; exact rfl; exact rfl; exact rfl)))
  | (apply AWP.seq)
  | (apply ACont_normal)
  | (apply W.region; kernel_rfl)
  | (apply Walk.nil)
  | (apply AWP.block)))
  refine AWP.loopW (α := Nat) (fun k => k ≤ n) (fun k => ⟨[(12, iV k), (11, iV n), (10, .osl 0 v o' n), (0, iV M), (1, .osl 0 v o n), (2, .osl 0 v o' n), (3, iV f)], [.row v 1 3 ((addAt M f o o' L k).map kD)]⟩) (fun k => n - k) 0 (by omega) ⟨[0], rfl, rfl, rfl, by (repeat (first | exact trivial | refine ⟨rfl, ?_⟩))⟩ fun k hk => ?_
  have hlen := addAt_length M f o o' L k
  have hall := addAt_lt hM hf o o' hL k
  by_cases hkl : k < n
  · have c1 := hall (addAt M f o o' L k)[o' + k] (List.getElem_mem (by omega))
    have c2 := hall (addAt M f o o' L k)[o + k] (List.getElem_mem (by omega))
    have ht := A_mtimes hM hf c1
    have c3 := hM.cap c1
    have c4 := hM.cap c2
    have hm : Gf.mul M (modN M) f ((addAt M f o o' L k)[o' + k]'(by omega)) < 2 ^ M := Gf.mul_lt (FldM.gen hM).hm (FldM.gen hM).top (FldM.gen hM).lt hf _
    have c5 := hM.cap hm
    (repeat' (first
  | (apply W.qd; (first
    | (apply (q_callC (ht)); exact rfl; exact rfl; kernel_rfl; kernel_rfl; kernel_rfl)
    | (apply q_mv; (first
    | exact Eq.refl (AV.d _)
    | exact Eq.refl (AV.osl _ _ _ _)
    | exact Eq.refl (AV.opt _ _)
    | exact Eq.refl (AV.agg _)
    | exact Eq.refl (AV.fpt _ _ _ _)
    | exact Eq.refl (AV.rpt _ _ _ _)
    | exact Eq.refl (AV.fn _ _)
    | exact Eq.refl (AV.tup _)
    | exact Eq.refl AV.top))
    | (apply q_as; (first
    | exact Eq.refl (AV.d _)
    | exact Eq.refl (AV.osl _ _ _ _)
    | exact Eq.refl (AV.opt _ _)
    | exact Eq.refl (AV.agg _)
    | exact Eq.refl (AV.fpt _ _ _ _)
    | exact Eq.refl (AV.rpt _ _ _ _)
    | exact Eq.refl (AV.fn _ _)
    | exact Eq.refl (AV.tup _)
    | exact Eq.refl AV.top))
    | (apply q_lss; exact rfl; exact rfl)
    | (apply q_add; exact rfl; exact rfl; omega)
    | (apply q_xorN; exact rfl; exact rfl; (first | (with_reducible exact rfl) | exact natI_spec rfl | assumption | exact (Int.toNat_of_nonneg (by omega)).symm); (first | (with_reducible exact rfl) | exact natI_spec rfl | assumption | exact (Int.toNat_of_nonneg (by omega)).symm); (first | (apply hcap1; omega) | (apply hcap2; omega) | (apply hcap3; omega) | (apply hcap4; omega) | (focus (show _ < 9223372036854775808; omega)) | (focus (show _ < 256; omega)) | assumption); (first | (apply hcap1; omega) | (apply hcap2; omega) | (apply hcap3; omega) | (apply hcap4; omega) | (focus (show _ < 9223372036854775808; omega)) | (focus (show _ < 256; omega)) | assumption))
    | (apply q_ix_oslm; exact rfl; exact rfl; exact rfl; exact rfl; (first | (with_reducible exact rfl) | exact natI_spec rfl | assumption | exact (Int.toNat_of_nonneg (by omega)).symm); (first | omega | (focus (simp only [List.length_map]; omega)) | (focus (simp; done)) | (focus (simp; omega))))
    | (apply q_ld_rptm; exact rfl; exact rfl; exact rfl; exact rfl; (first | omega | (focus (simp only [List.length_map]; omega)) | (focus (simp; done)) | (focus (simp; omega))))))
  | (apply W.en; (apply e_st_rptm; exact rfl; exact rfl; exact rfl; exact rfl; exact rfl; exact rfl; exact rfl; exact fun _ => rfl; (first | omega | (focus (simp only [List.length_map]; omega)) | (focus (simp; omega)))))
  | (apply AWP.seq)
  | (apply ACont_normal)
  | (apply W.region; kernel_rfl)
  | (apply W.regionD; exact rfl; kernel_rfl)
  | (apply Walk.nil)
  | (apply W.chk; kernel_rfl)
  | (apply AWP.block)
  | (apply AWP.skip)
  | (apply ABlock_normal)
  | (refine W.cond _ rfl (fun hb => ?_) (fun hb => ?_) <;> ((try simp only [hb, Bool.not_true, Bool.not_false]) <;> (try simp only [decide_eq_true_eq, decide_eq_false_iff_not, Bool.not_eq_true', Bool.not_eq_false', Int.not_lt, Int.not_le, List.length_map, not_true_eq_false] at hb) <;> (try (exfalso; omega))))))
    refine ⟨k + 1, by omega, by omega, [0], rfl, rfl, ?_, iV_eq (by omega), rfl, rfl, rfl, rfl, rfl, rfl, trivial⟩
    refine congrArg (fun z : List Nat => [Ent.row v 1 3 (z.map kD)]) ?_
    rw [addAt, List.getD_eq_getElem?_getD, List.getD_eq_getElem?_getD, List.getElem?_eq_getElem (show o + k < _ by omega), List.getElem?_eq_getElem (show o' + k < _ by omega)]
    rfl
  · have e : k = n := by omega
    subst e
    (repeat' (first
  | (apply W.qd; (apply q_lss; exact rfl; exact rfl))
  | (apply AWP.seq)
  | (apply ACont_normal)
  | (apply W.region; kernel_rfl)
  | (apply Walk.nil)
  | (apply AWP.exit)
  | (apply ACont_exit)
  | (apply ABlock_exit)
  | (refine W.cond _ rfl (fun hb => ?_) (fun hb => ?_) <;> ((try simp only [hb, Bool.not_true, Bool.not_false]) <;> (try simp only [decide_eq_true_eq, decide_eq_false_iff_not, Bool.not_eq_true', Bool.not_eq_false', Int.not_lt, Int.not_le, List.length_map, not_true_eq_false] at hb) <;> (try (exfalso; omega))))))
    exact ⟨.inr rfl, [0], [], rfl, rfl, trivial, AVle.of_eq rfl, rfl⟩
end Go.Proofs.YtjaipchlnnjaeaaDoor
end

section
/- Package matrix over the machine of abstract values: the exchange of two rows. -/
namespace Go.Proofs.YtjaipchlnnjaeaaDoor
open Go.RowKit
set_option linter.unusedVariables false
set_option linter.unusedSimpArgs false
set_option maxHeartbeats 4000000
set_option maxRecDepth 100000
attribute [local irreducible] Quiet Eff OpOk AWPG ACont ABlock ACalls

/-- Elements o + j and o' + j change places, for all j below n, in order. -/
def swapAt (o o' : Nat) (L : List Nat) : Nat → List Nat
  | 0 => L
  | k + 1 => ((swapAt o o' L k).set (o + k) ((swapAt o o' L k).getD (o' + k) 0)).set (o' + k) ((swapAt o o' L k).getD (o + k) 0)
theorem swapAt_length (o o' : Nat) (L : List Nat) (k : Nat) : (swapAt o o' L k).length = L.length := by
  induction k with
  | zero => rfl
  | succ k ih => rw [swapAt, List.length_set, List.length_set, ih]
theorem swapAt_lt {M : Nat} (o o' : Nat) {L : List Nat} (h : ∀ x ∈ L, x < 2 ^ M) (k : Nat) : ∀ x ∈ swapAt o o' L k, x < 2 ^ M := by
  induction k with
  | zero => exact h
  | succ k ih =>
    intro x hx
    rw [swapAt] at hx
    rcases List.mem_or_eq_of_mem_set hx with hx | rfl
    · rcases List.mem_or_eq_of_mem_set hx with hx | rfl
      · exact ih x hx
      · exact getD_lt ih _
    · exact getD_lt ih _
theorem A_mswap {M R C v i k : Nat} {L : List Nat} (hM : FldM M) (hr : R ≤ 32) (hc : C ≤ 32) (hn : L.length = R * C) (hL : ∀ x ∈ L, x < 2 ^ M) (hi : i < R) (hk : k < R) : ACalls Tryd.prog 99 [iV i, iV k, .opt 1 0] [.row v 1 3 (L.map kD), .box [iV M, iV R, iV C, .osl 0 v 0 (R * C)]] (.tup []) [.row v 1 3 ((swapAt (i * C) (k * C) L C).map kD), .box [iV M, iV R, iV C, .osl 0 v 0 (R * C)]] := by
  refine acalls_of_bodyO Tryd.func99 rfl (Nat.le_of_ble_eq_true rfl) ?_
  have r1 := A_mrowO (M := M) (v := v) hr hc hn hi
  have r2 := A_mrowO (M := M) (v := v) hr hc hn hk
  (repeat' (first
  | (apply W.qd; (first
    | (apply q_mv; (first
    | exact Eq.refl (AV.d _)
    | exact Eq.refl (AV.osl _ _ _ _)
    | exact Eq.refl (AV.opt _ _)
    | exact Eq.refl (AV.agg _)
    | exact Eq.refl (AV.fpt _ _ _ _)
    | exact Eq.refl (AV.rpt _ _ _ _)
    | exact Eq.refl (AV.fn _ _)
    | exact Eq.refl (AV.tup _)
    | exact Eq.refl AV.top))
    | (apply q_as; (first
    | exact Eq.refl (AV.d _)
    | exact Eq.refl (AV.osl _ _ _ _)
    | exact Eq.refl (AV.opt _ _)
    | exact Eq.refl (AV.agg _)
    | exact Eq.refl (AV.fpt _ _ _ _)
    | exact Eq.refl (AV.rpt _ _ _ _)
    | exact Eq.refl (AV.fn _ _)
    | exact Eq.refl (AV.tup _)
    | exact Eq.refl AV.top))
    | (apply q_ld_boxF; exact rfl; exact rfl; exact rfl; exact rfl)
    | (apply q_len_osl; exact rfl; exact rfl; exact rfl)))
  | (apply W.ed; (first
    | (apply (e_callJ (js := [0]) (r1)); exact rfl; exact rfl; exact rfl; exact rfl; exact rfl; kernel_rfl; kernel_rfl)
    | (apply (e_callJ (js := [0]) (r2)); exact rfl; exact rfl; exact rfl; exact rfl; exact rfl; kernel_rfl; kernel_rfl)))
  | (apply AWP.seq)
  | (apply ACont_normal)
  | (apply W.region; kernel_rfl)
  | (apply W.regionD; exact rfl; kernel_rfl)
  | (apply Walk.nil)
  | (apply W.chk; kernel_rfl)
  | (apply AWP.block)))
  have h1 : i * C + C ≤ L.length := by
    have := Nat.mul_le_mul_right C (show i + 1 ≤ R from hi)
    rw [Nat.add_mul, Nat.one_mul] at this
    omega
  have h2 : k * C + C ≤ L.length := by
    have := Nat.mul_le_mul_right C (show k + 1 ≤ R from hk)
    rw [Nat.add_mul, Nat.one_mul] at this
    omega
  clear r1 r2
  generalize R * C = n at *
  generalize i * C = o at *
  generalize k * C = o' at *
  refine AWP.loopW (α := Nat) (fun j => j ≤ C) (fun j => ⟨[(16, iV j), (15, iV C), (5, .osl 0 v o C), (6, .osl 0 v o' C)], [.row v 1 3 ((swapAt o o' L j).map kD), .box [iV M, iV R, iV C, .osl 0 v 0 n]]⟩) (fun j => C - j) 0 (by omega) ⟨[0, 1], rfl, rfl, rfl, rfl, rfl, rfl, rfl, trivial⟩ fun j hj => ?_
  have hlen := swapAt_length o o' L j
  have hall := swapAt_lt o o' hL j
  by_cases hjl : j < C
  · have c1 := hM.cap (hall (swapAt o o' L j)[o' + j] (List.getElem_mem (by omega)))
    have c2 := hM.cap (hall (swapAt o o' L j)[o + j] (List.getElem_mem (by omega)))
    (repeat' (first
  | (apply W.qd; (first
    | (apply q_mv; (first
    | exact Eq.refl (AV.d _)
    | exact Eq.refl (AV.osl _ _ _ _)
    | exact Eq.refl (AV.opt _ _)
    | exact Eq.refl (AV.agg _)
    | exact Eq.refl (AV.fpt _ _ _ _)
    | exact Eq.refl (AV.rpt _ _ _ _)
    | exact Eq.refl (AV.fn _ _)
    | exact Eq.refl (AV.tup _)
    | exact Eq.refl AV.top))
    | (apply q_as; (first
    | exact Eq.refl (AV.d _)
    | exact Eq.refl (AV.osl _ _ _ _)
    | exact Eq.refl (AV.opt _ _)
    | exact Eq.refl (AV.agg _)
    | exact Eq.refl (AV.fpt _ _ _ _)
    | exact Eq.refl (AV.rpt _ _ _ _)
    | exact Eq.refl (AV.fn _ _)
    | exact Eq.refl (AV.tup _)
    | exact Eq.refl AV.top))
    | (apply q_lss; exact rfl; exact rfl)
    | (apply q_add; exact rfl; exact rfl; omega)
    | (apply q_ix_oslm; exact rfl; exact rfl; exact rfl; exact rfl; (first | (with_reducible exact rfl) | exact natI_spec rfl | assumption | exact (Int.toNat_of_nonneg (by omega)).symm); (first | omega | (focus (simp only [List.length_map]; omega)) | (focus (simp; done)) | (focus (simp; omega))))
    | (apply q_ld_rptm; exact rfl; exact rfl; exact rfl; exact rfl; (first | omega | (focus (simp only [List.length_map]; omega)) | (focus (simp; done)) | (focus (simp; omega))))))
  | (apply W.en; (apply e_st_rptm; exact rfl; exact rfl; exact rfl; exact rfl; exact rfl; exact rfl; exact rfl; exact fun _ => rfl; (first | omega | (focus (simp only [List.length_map]; omega)) | (focus (simp; omega)))))
  | (apply AWP.seq)
  | (apply ACont_normal)
  | (apply W.region; kernel_rfl)
  | (apply W.regionD; exact rfl; kernel_rfl)
  | (apply Walk.nil)
  | (apply W.chk; kernel_rfl)
  | (apply AWP.block)
  | (apply AWP.skip)
  | (apply ABlock_normal)
  | (refine W.cond _ rfl (fun hb => ?_) (fun hb => ?_) <;> ((try simp only [hb, Bool.not_true, Bool.not_false]) <;> (try simp only [decide_eq_true_eq, decide_eq_false_iff_not, Bool.not_eq_true', Bool.not_eq_false', Int.not_lt, Int.not_le, List.length_map, not_true_eq_false] at hb) <;> (try (exfalso; omega))))))
    refine ⟨j + 1, by omega, by omega, [0, 1], rfl, rfl, ?_, iV_eq (by omega), rfl, rfl, rfl, trivial⟩
    refine congrArg (fun z : List Nat => [Ent.row v 1 3 (z.map kD), .box [iV M, iV R, iV C, .osl 0 v 0 n]]) ?_
    rw [swapAt, List.getD_eq_getElem?_getD, List.getD_eq_getElem?_getD, List.getElem?_eq_getElem (show o + j < _ by omega), List.getElem?_eq_getElem (show o' + j < _ by omega)]
    rfl
  · have e : j = C := by omega
    subst e
    (repeat' (first
  | (apply W.qd; (apply q_lss; exact rfl; exact rfl))
  | (apply AWP.seq)
  | (apply ACont_normal)
  | (apply W.region; kernel_rfl)
  | (apply Walk.nil)
  | (apply AWP.exit)
  | (apply ACont_exit)
  | (apply ABlock_exit)
  | (refine W.cond _ rfl (fun hb => ?_) (fun hb => ?_) <;> ((try simp only [hb, Bool.not_true, Bool.not_false]) <;> (try simp only [decide_eq_true_eq, decide_eq_false_iff_not, Bool.not_eq_true', Bool.not_eq_false', Int.not_lt, Int.not_le, List.length_map, not_true_eq_false] at hb) <;> (try (exfalso; omega))))))
    exact ⟨.inr rfl, [0, 1], [], rfl, rfl, trivial, AVle.of_eq rfl, rfl⟩
end Go.Proofs.YtjaipchlnnjaeaaDoor
end

section
/- Package matrix over the machine of abstract values: reduce. -/
namespace Go.Proofs.YtjaipchlnnjaeaaDoor
open Go.RowKit
set_option linter.unusedVariables false
set_option linter.unusedSimpArgs false
set_option maxHeartbeats 4000000
set_option maxRecDepth 100000
attribute [local irreducible] Quiet Eff OpOk AWPG ACont ABlock ACalls

/-- The first row from i on, below R, with an element in column j; else R. -/
def findP (C j : Nat) (L : List Nat) : Nat → Nat → Nat
  | 0, i => i
  | n + 1, i => if L.getD (i * C + j) 0 = 0 then findP C j L n (i + 1) else i
/-- Elements o and on get multiplied by f. -/
def scaleAt (M f o : Nat) (L : List Nat) : Nat → List Nat
  | 0 => L
  | k + 1 => (scaleAt M f o L k).set (o + k) (Gf.mul M (modN M) f ((scaleAt M f o L k).getD (o + k) 0))
/-- Row p is taken from all other rows, so that column j gets empty there. -/
def clearAt (M C j p : Nat) (L : List Nat) : Nat → List Nat
  | 0 => L
  | r + 1 => if r = p then clearAt M C j p L r else addAt M ((clearAt M C j p L r).getD (r * C + j) 0) (r * C) (p * C) (clearAt M C j p L r) C
theorem scaleAt_length (M f o : Nat) (L : List Nat) (k : Nat) : (scaleAt M f o L k).length = L.length := by
  induction k with
  | zero => rfl
  | succ k ih => rw [scaleAt, List.length_set, ih]
theorem clearAt_length (M C j p : Nat) (L : List Nat) (r : Nat) : (clearAt M C j p L r).length = L.length := by
  induction r with
  | zero => rfl
  | succ r ih =>
    rw [clearAt]
    by_cases h : r = p
    · rw [if_pos h, ih]
    · rw [if_neg h, addAt_length, ih]
theorem scaleAt_lt {M f : Nat} (hM : FldM M) (hf : f < 2 ^ M) (o : Nat) {L : List Nat} (h : ∀ x ∈ L, x < 2 ^ M) (k : Nat) : ∀ x ∈ scaleAt M f o L k, x < 2 ^ M := by
  induction k with
  | zero => exact h
  | succ k ih =>
    intro x hx
    rw [scaleAt] at hx
    rcases List.mem_or_eq_of_mem_set hx with hx | rfl
    · exact ih x hx
    · exact Gf.mul_lt (FldM.gen hM).hm (FldM.gen hM).top (FldM.gen hM).lt hf _
theorem clearAt_lt {M : Nat} (hM : FldM M) (C j p : Nat) {L : List Nat} (h : ∀ x ∈ L, x < 2 ^ M) (r : Nat) : ∀ x ∈ clearAt M C j p L r, x < 2 ^ M := by
  induction r with
  | zero => exact h
  | succ r ih =>
    rw [clearAt]
    by_cases hr : r = p
    · rw [if_pos hr]; exact ih
    · rw [if_neg hr]; exact addAt_lt hM (getD_lt ih _) _ _ ih C
/-- One column: the state is the matrix and the pivots. -/
def redStep (M R C j : Nat) (s : List Nat × List Nat) : List Nat × List Nat :=
  let p := s.2.length
  let i := findP C j s.1 (R - p) p
  if i = R then s else
    let L1 := swapAt (i * C) (p * C) s.1 C
    let L2 := scaleAt M (invN M (L1.getD (p * C + j) 0)) (p * C) L1 C
    (clearAt M C j p L2 R, s.2 ++ [j])
/-- The first n columns. -/
def red (M R C : Nat) (L : List Nat) : Nat → List Nat × List Nat
  | 0 => (L, [])
  | n + 1 => redStep M R C n (red M R C L n)
theorem findP_le (C j : Nat) (L : List Nat) : ∀ n i, i ≤ findP C j L n i ∧ findP C j L n i ≤ i + n
  | 0, i => ⟨Nat.le_refl _, Nat.le_refl _⟩
  | n + 1, i => by
    rw [findP]
    by_cases h : L.getD (i * C + j) 0 = 0
    · rw [if_pos h]
      have := findP_le C j L n (i + 1)
      omega
    · rw [if_neg h]; omega
/-- What holds of the state. -/
structure RedOk (M R C n : Nat) (s : List Nat × List Nat) : Prop where
  len : s.1.length = R * C
  lt : ∀ x ∈ s.1, x < 2 ^ M
  pr : s.2.length ≤ R
  pn : s.2.length ≤ n
theorem invN_lt {M : Nat} (a : Nat) : invN M a < 2 ^ M := by
  unfold invN
  cases h : (List.range (2 ^ M)).find? fun b => Gf.mul M (modN M) a b == 1 with
  | none => exact Nat.two_pow_pos M
  | some b => exact List.mem_range.1 (List.mem_of_find?_eq_some h)
theorem red_ok {M R C : Nat} {L : List Nat} (hM : FldM M) (hn : L.length = R * C) (hL : ∀ x ∈ L, x < 2 ^ M) (n : Nat) : RedOk M R C n (red M R C L n) := by
  induction n with
  | zero => exact ⟨hn, hL, Nat.zero_le _, Nat.zero_le _⟩
  | succ n ih =>
    rw [red]
    generalize red M R C L n = s at ih
    obtain ⟨A, pv⟩ := s
    have hf := findP_le C n A (R - pv.length) pv.length
    have h1 := ih.pr
    have h2 := ih.pn
    have h3 := ih.len
    have h4 := ih.lt
    dsimp only at h1 h2 h3 h4
    rw [redStep]
    dsimp only
    by_cases hi : findP C n A (R - pv.length) pv.length = R
    · rw [if_pos hi]
      exact ⟨h3, h4, h1, by show pv.length ≤ n + 1; omega⟩
    · rw [if_neg hi]
      refine ⟨?_, ?_, ?_, ?_⟩
      · show (clearAt ..).length = _
        rw [clearAt_length, scaleAt_length, swapAt_length, h3]
      · exact clearAt_lt hM _ _ _ (scaleAt_lt hM (invN_lt _) _ (swapAt_lt _ _ h4 _) _) _
      · show (pv ++ [n]).length ≤ R
        rw [List.length_append]; simp only [List.length_cons, List.length_nil]; omega
      · show (pv ++ [n]).length ≤ n + 1
        rw [List.length_append]; simp only [List.length_cons, List.length_nil]; omega
end Go.Proofs.YtjaipchlnnjaeaaDoor
end

section
/- Package matrix: what the steps of reduce do to the element of a row and a column. -/
namespace Go.Proofs.YtjaipchlnnjaeaaDoor
open Go.RowKit
set_option linter.unusedVariables false
set_option linter.unusedSimpArgs false

/-- The element of row r and column c. -/
def gt (C : Nat) (L : List Nat) (r c : Nat) : Nat := L.getD (r * C + c) 0
theorem idx_inj {C r c r' c' : Nat} (hc : c < C) (hc' : c' < C) (h : r * C + c = r' * C + c') : r = r' ∧ c = c' := by
  have h1 : (r * C + c) / C = r := by rw [Nat.mul_comm, Nat.mul_add_div (by omega), Nat.div_eq_of_lt hc, Nat.add_zero]
  have h2 : (r' * C + c') / C = r' := by rw [Nat.mul_comm, Nat.mul_add_div (by omega), Nat.div_eq_of_lt hc', Nat.add_zero]
  have : r = r' := by rw [← h1, ← h2, h]
  subst this
  exact ⟨rfl, by omega⟩
theorem idx_lt {R C r c : Nat} (hr : r < R) (hc : c < C) : r * C + c < R * C := by
  have := Nat.mul_le_mul_right C (show r + 1 ≤ R from hr)
  rw [Nat.add_mul, Nat.one_mul] at this
  omega
theorem getD_set_eq {L : List Nat} {i x : Nat} (h : i < L.length) : (L.set i x).getD i 0 = x := by
  simp [List.getD_eq_getElem?_getD, List.getElem?_set, h]
theorem getD_set_ne' {L : List Nat} {i j x : Nat} (h : i ≠ j) : (L.set i x).getD j 0 = L.getD j 0 := by
  simp [List.getD_eq_getElem?_getD, List.getElem?_set, h]
section
variable {M R C : Nat} {L : List Nat}
theorem gt_set {r c r' c' x : Nat} (hn : L.length = R * C) (hr : r < R) (hc : c < C) (hc' : c' < C) : gt C (L.set (r * C + c) x) r' c' = if r' = r ∧ c' = c then x else gt C L r' c' := by
  unfold gt
  by_cases h : r' = r ∧ c' = c
  · obtain ⟨rfl, rfl⟩ := h
    rw [if_pos ⟨rfl, rfl⟩, getD_set_eq (by rw [hn]; exact idx_lt hr hc)]
  · rw [if_neg h, getD_set_ne']
    intro e
    obtain ⟨rfl, rfl⟩ := idx_inj hc hc' e
    exact h ⟨rfl, rfl⟩
theorem gt_swapAt {i k : Nat} (hn : L.length = R * C) (hi : i < R) (hk : k < R) : ∀ {n : Nat}, n ≤ C → ∀ r c : Nat, c < C → gt C (swapAt (i * C) (k * C) L n) r c = if c < n then (if r = i then gt C L k c else if r = k then gt C L i c else gt C L r c) else gt C L r c := by
  intro n
  induction n with
  | zero => intro _ r c _; rw [swapAt, if_neg (by omega)]
  | succ n ih =>
    intro hnC r c hc
    have key := ih (by omega)
    have hl := swapAt_length (i * C) (k * C) L n
    rw [swapAt, gt_set (R := R) (by rw [List.length_set, hl, hn]) hk (by omega) hc, gt_set (R := R) (by rw [hl, hn]) hi (by omega) hc]
    have e1 : (swapAt (i * C) (k * C) L n).getD (i * C + n) 0 = gt C L i n := by
      have := key i n (by omega); rw [if_neg (by omega)] at this; exact this
    have e2 : (swapAt (i * C) (k * C) L n).getD (k * C + n) 0 = gt C L k n := by
      have := key k n (by omega); rw [if_neg (by omega)] at this; exact this
    rw [e1, e2, key r c hc]
    by_cases hcn : c = n
    · subst hcn
      simp only [Nat.lt_irrefl, if_false, and_true, Nat.lt_succ_self, if_true]
      by_cases h1 : r = k
      · subst h1
        by_cases h2 : r = i
        · subst h2; simp
        · simp [h2]
      · by_cases h2 : r = i
        · subst h2; simp [h1]
        · simp [h1, h2]
    · simp only [hcn, and_false, if_false]
      by_cases h3 : c < n
      · rw [if_pos h3, if_pos (show c < n + 1 by omega)]
      · rw [if_neg h3, if_neg (show ¬ c < n + 1 by omega)]
/-- Rows i and k changed places. -/
theorem gt_swap {i k r c : Nat} (hn : L.length = R * C) (hi : i < R) (hk : k < R) (hc : c < C) : gt C (swapAt (i * C) (k * C) L C) r c = if r = i then gt C L k c else if r = k then gt C L i c else gt C L r c := by
  rw [gt_swapAt hn hi hk (Nat.le_refl C) r c hc, if_pos hc]
theorem gt_scaleAt {p f : Nat} (hn : L.length = R * C) (hp : p < R) : ∀ {n : Nat}, n ≤ C → ∀ r c : Nat, c < C → gt C (scaleAt M f (p * C) L n) r c = if r = p ∧ c < n then Gf.mul M (modN M) f (gt C L p c) else gt C L r c := by
  intro n
  induction n with
  | zero => intro _ r c _; rw [scaleAt, if_neg (by omega)]
  | succ n ih =>
    intro hnC r c hc
    have key := ih (by omega)
    have hl := scaleAt_length M f (p * C) L n
    rw [scaleAt, gt_set (R := R) (by rw [hl, hn]) hp (by omega) hc]
    have e1 : (scaleAt M f (p * C) L n).getD (p * C + n) 0 = gt C L p n := by
      have := key p n (by omega); rw [if_neg (by omega)] at this; exact this
    rw [e1, key r c hc]
    by_cases hcn : c = n
    · subst hcn
      by_cases h1 : r = p
      · subst h1; simp
      · simp [h1]
    · simp only [hcn, and_false, if_false]
      by_cases h1 : r = p
      · subst h1
        by_cases h3 : c < n
        · rw [if_pos ⟨rfl, h3⟩, if_pos ⟨rfl, by omega⟩]
        · rw [if_neg (by omega), if_neg (by omega)]
      · rw [if_neg (by omega), if_neg (by omega)]
/-- Row p was multiplied by f. -/
theorem gt_scale {p f r c : Nat} (hn : L.length = R * C) (hp : p < R) (hc : c < C) : gt C (scaleAt M f (p * C) L C) r c = if r = p then Gf.mul M (modN M) f (gt C L p c) else gt C L r c := by
  rw [gt_scaleAt hn hp (Nat.le_refl C) r c hc]
  by_cases h : r = p
  · rw [if_pos ⟨h, hc⟩, if_pos h]
  · rw [if_neg (by omega), if_neg h]
theorem gt_addAt {i k f : Nat} (hn : L.length = R * C) (hi : i < R) (hik : i ≠ k) : ∀ {n : Nat}, n ≤ C → ∀ r c : Nat, c < C → gt C (addAt M f (i * C) (k * C) L n) r c = if r = i ∧ c < n then gt C L i c ^^^ Gf.mul M (modN M) f (gt C L k c) else gt C L r c := by
  intro n
  induction n with
  | zero => intro _ r c _; rw [addAt, if_neg (by omega)]
  | succ n ih =>
    intro hnC r c hc
    have key := ih (by omega)
    have hl := addAt_length M f (i * C) (k * C) L n
    rw [addAt, gt_set (R := R) (by rw [hl, hn]) hi (by omega) hc]
    have e1 : (addAt M f (i * C) (k * C) L n).getD (i * C + n) 0 = gt C L i n := by
      have := key i n (by omega); rw [if_neg (by omega)] at this; exact this
    have e2 : (addAt M f (i * C) (k * C) L n).getD (k * C + n) 0 = gt C L k n := by
      have := key k n (by omega); rw [if_neg (by omega)] at this; exact this
    rw [e1, e2, key r c hc]
    by_cases hcn : c = n
    · subst hcn
      by_cases h1 : r = i
      · subst h1; simp
      · simp [h1]
    · simp only [hcn, and_false, if_false]
      by_cases h1 : r = i
      · subst h1
        by_cases h3 : c < n
        · rw [if_pos ⟨rfl, h3⟩, if_pos ⟨rfl, by omega⟩]
        · rw [if_neg (by omega), if_neg (by omega)]
      · rw [if_neg (by omega), if_neg (by omega)]
/-- A multiple of row k was added to row i. -/
theorem gt_add {i k f r c : Nat} (hn : L.length = R * C) (hi : i < R) (hik : i ≠ k) (hc : c < C) : gt C (addAt M f (i * C) (k * C) L C) r c = if r = i then gt C L i c ^^^ Gf.mul M (modN M) f (gt C L k c) else gt C L r c := by
  rw [gt_addAt hn hi hik (Nat.le_refl C) r c hc]
  by_cases h : r = i
  · rw [if_pos ⟨h, hc⟩, if_pos h]
  · rw [if_neg (by omega), if_neg h]
/-- Row p was taken from the rows below n, but for itself. -/
theorem gt_clearAt {j p : Nat} (hn : L.length = R * C) (hj : j < C) : ∀ {n : Nat}, n ≤ R → ∀ r c : Nat, c < C → gt C (clearAt M C j p L n) r c = if r < n ∧ r ≠ p then gt C L r c ^^^ Gf.mul M (modN M) (gt C L r j) (gt C L p c) else gt C L r c := by
  intro n
  induction n with
  | zero => intro _ r c _; rw [clearAt, if_neg (by omega)]
  | succ n ih =>
    intro hnR r c hc
    have key := ih (by omega)
    have hl := clearAt_length M C j p L n
    rw [clearAt]
    by_cases hnp : n = p
    · rw [if_pos hnp, key r c hc]
      by_cases h : r < n ∧ r ≠ p
      · rw [if_pos h, if_pos (by omega)]
      · rw [if_neg h, if_neg (by omega)]
    · rw [if_neg hnp, gt_add (R := R) (by rw [hl, hn]) (by omega) hnp hc]
      have e1 : (clearAt M C j p L n).getD (n * C + j) 0 = gt C L n j := by
        have := key n j hj; rw [if_neg (by omega)] at this; exact this
      have e2 := key p c hc
      rw [if_neg (by omega)] at e2
      have e3 := key n c hc
      rw [if_neg (by omega)] at e3
      rw [e1, e2, e3, key r c hc]
      by_cases h : r = n
      · subst h; rw [if_pos rfl, if_pos ⟨by omega, hnp⟩]
      · rw [if_neg h]
        by_cases h2 : r < n ∧ r ≠ p
        · rw [if_pos h2, if_pos (by omega)]
        · rw [if_neg h2, if_neg (by omega)]
theorem gt_clear {j p r c : Nat} (hn : L.length = R * C) (hj : j < C) (hr : r < R) (hc : c < C) : gt C (clearAt M C j p L R) r c = if r = p then gt C L p c else gt C L r c ^^^ Gf.mul M (modN M) (gt C L r j) (gt C L p c) := by
  rw [gt_clearAt hn hj (Nat.le_refl R) r c hc]
  by_cases h : r = p
  · subst h; rw [if_neg (by omega), if_pos rfl]
  · rw [if_pos ⟨hr, h⟩, if_neg h]
theorem findP_spec (j : Nat) : ∀ n i : Nat, (∀ r, i ≤ r → r < findP C j L n i → gt C L r j = 0) ∧ (findP C j L n i < i + n → gt C L (findP C j L n i) j ≠ 0)
  | 0, i => ⟨fun r h1 h2 => by rw [findP] at h2; omega, fun h => by rw [findP] at h; omega⟩
  | n + 1, i => by
    rw [findP]
    by_cases h : L.getD (i * C + j) 0 = 0
    · rw [if_pos h]
      obtain ⟨h1, h2⟩ := findP_spec j n (i + 1)
      refine ⟨fun r h3 h4 => ?_, fun h3 => h2 (by omega)⟩
      by_cases e : r = i
      · subst e; exact h
      · exact h1 r (by omega) h4
    · rw [if_neg h]
      exact ⟨fun r h1 h2 => by omega, fun _ => h⟩
end
end Go.Proofs.YtjaipchlnnjaeaaDoor
end

section
/- Package matrix over the machine of abstract values: the walk of reduce. -/
namespace Go.Proofs.YtjaipchlnnjaeaaDoor
open Go.RowKit
set_option linter.unusedVariables false
set_option linter.unusedSimpArgs false
set_option maxHeartbeats 4000000
set_option maxRecDepth 100000
attribute [local irreducible] Quiet Eff OpOk AWPG ACont ABlock ACalls AGoto

def hfE (A1 : List Nat) (p j C M : Nat) : Nat := invN M (A1.getD (p * C + j) 0)
theorem A_mreduce {M R C v n : Nat} {L : List Nat} (hM : FldM M) (hr : R ≤ 32) (hc : C ≤ 32) (hn : L.length = R * C) (hL : ∀ x ∈ L, x < 2 ^ M) (hnC : n ≤ C) : ACalls Tryd.prog 82 [.agg [iV M, iV R, iV C, .osl 0 v 0 (R * C)], iV n] [.row v 1 3 (L.map kD)] (nats (red M R C L n).2) [.row v 1 3 ((red M R C L n).1.map kD)] := by
  refine acalls_of_bodyO Tryd.func82 rfl (Nat.le_of_ble_eq_true rfl) ?_
  (repeat' (first
  | (apply W.qd; (first
    | (apply q_mv; (first
    | exact Eq.refl (AV.d _)
    | exact Eq.refl (AV.osl _ _ _ _)
    | exact Eq.refl (AV.opt _ _)
    | exact Eq.refl (AV.agg _)
    | exact Eq.refl (AV.fpt _ _ _ _)
    | exact Eq.refl (AV.rpt _ _ _ _)
    | exact Eq.refl (AV.fn _ _)
    | exact Eq.refl (AV.tup _)
    | exact Eq.refl AV.top))
    | (apply q_as; (first
    | exact Eq.refl (AV.d _)
    | exact Eq.refl (AV.osl _ _ _ _)
    | exact Eq.refl (AV.opt _ _)
    | exact Eq.refl (AV.agg _)
    | exact Eq.refl (AV.fpt _ _ _ _)
    | exact Eq.refl (AV.rpt _ _ _ _)
    | exact Eq.refl (AV.fn _ _)
    | exact Eq.refl (AV.tup _)
    | exact Eq.refl AV.top))
    | (apply q_makeFunc)))
  | (apply W.ed; (apply e_boxF; exact rfl; exact rfl; exact rfl; kernel_rfl; kernel_rfl))
  | (apply AWP.seq)
  | (apply ACont_normal)
  | (apply W.region; kernel_rfl)
  | (apply Walk.nil)
  | (apply AWP.block)
  | (apply AWP.label)
  | (apply AWP.scope)))
  refine AWP.nilRow 4 1 3 rfl (by omega) ?_
  refine AWP.loopW (α := Nat) (fun j => j ≤ n) (fun j => ⟨[(16, iV j), (15, iV n), (4, .osl 2 (red M R C L j).2.length 0 (red M R C L j).2.length), (2, .opt 1 0), (5, .fn 99 [.opt 1 0])], [.row v 1 3 ((red M R C L j).1.map kD), .box [iV M, iV R, iV C, .osl 0 v 0 (R * C)], .row (red M R C L j).2.length 1 3 ((red M R C L j).2.map kD)]⟩) (fun j => n - j) 0 (by omega) ?wk0 fun j hj => ?_
  case wk0 =>
    rw [show red M R C L 0 = (L, []) from rfl]
    exact ⟨[0, 1, 2], rfl, rfl, rfl, rfl, rfl, rfl, rfl, rfl, trivial⟩
  by_cases hjn : j < n
  · have hst : red M R C L (j + 1) = redStep M R C j (red M R C L j) := rfl
    have hok := red_ok hM hn hL j
    generalize red M R C L j = st at hst hok ⊢
    obtain ⟨A, pv⟩ := st
    have o1 := hok.pr
    have o2 := hok.pn
    have o3 := hok.len
    have o4 := hok.lt
    dsimp only at o1 o2 o3 o4 ⊢
    have rowC : ∀ (B : List Nat), B.length = R * C → ∀ i, i < R → ACalls Tryd.prog 80 [.agg [iV M, iV R, iV C, .osl 0 v 0 (R * C)], iV i] [.row v 1 3 (B.map kD)] (.osl 0 v (i * C) C) [.row v 1 3 (B.map kD)] := fun B hB i hi => A_mrowO hr hc hB hi
    have swC : ∀ i, i < R → pv.length < R → ACalls Tryd.prog 99 [iV i, iV pv.length, .opt 1 0] [.row v 1 3 (A.map kD), .box [iV M, iV R, iV C, .osl 0 v 0 (R * C)]] (.tup []) [.row v 1 3 ((swapAt (i * C) (pv.length * C) A C).map kD), .box [iV M, iV R, iV C, .osl 0 v 0 (R * C)]] := fun i hi hp => A_mswap hM hr hc o3 o4 hi hp
    clear hn hL
    have hgsw : ∀ {i : Nat}, i < R → pv.length < R → gt C (swapAt (i * C) (pv.length * C) A C) pv.length j = gt C A i j := fun {i} hi hp => by
      rw [gt_swap o3 hi hp (by omega)]
      by_cases e : pv.length = i
      · rw [if_pos e, e]
      · rw [if_neg e, if_pos rfl]
    generalize hRC : R * C = RC at *
    have hrow : ∀ {i : Nat}, i < R → i * C + C ≤ RC := fun {i} hi => by
      have := Nat.mul_le_mul_right C (show i + 1 ≤ R from hi)
      rw [Nat.add_mul, Nat.one_mul] at this
      omega
    (repeat' (first
  | (apply W.qd; (first
    | (apply q_mv; (first
    | exact Eq.refl (AV.d _)
    | exact Eq.refl (AV.osl _ _ _ _)
    | exact Eq.refl (AV.opt _ _)
    | exact Eq.refl (AV.agg _)
    | exact Eq.refl (AV.fpt _ _ _ _)
    | exact Eq.refl (AV.rpt _ _ _ _)
    | exact Eq.refl (AV.fn _ _)
    | exact Eq.refl (AV.tup _)
    | exact Eq.refl AV.top))
    | (apply q_as; (first
    | exact Eq.refl (AV.d _)
    | exact Eq.refl (AV.osl _ _ _ _)
    | exact Eq.refl (AV.opt _ _)
    | exact Eq.refl (AV.agg _)
    | exact Eq.refl (AV.fpt _ _ _ _)
    | exact Eq.refl (AV.rpt _ _ _ _)
    | exact Eq.refl (AV.fn _ _)
    | exact Eq.refl (AV.tup _)
    | exact Eq.refl AV.top))
    | (apply q_lss; exact rfl; exact rfl)
    | (apply q_len_osl; exact rfl; exact rfl; exact rfl)))
  | (apply AWP.seq)
  | (apply ACont_normal)
  | (apply W.region; kernel_rfl)
  | (apply Walk.nil)
  | (apply AWP.block)
  | (apply AWP.skip)
  | (refine W.cond _ rfl (fun hb => ?_) (fun hb => ?_) <;> ((try simp only [hb, Bool.not_true, Bool.not_false]) <;> (try simp only [decide_eq_true_eq, decide_eq_false_iff_not, Bool.not_eq_true', Bool.not_eq_false', Int.not_lt, Int.not_le, List.length_map, not_true_eq_false] at hb) <;> (try (exfalso; omega))))))
    refine AWP.loopW (α := Nat) (fun i => pv.length ≤ i ∧ i ≤ R ∧ findP C j A (R - i) i = findP C j A (R - pv.length) pv.length) (fun i => ⟨[(8, iV i), (7, iV pv.length), (6, iV j), (16, iV j), (15, iV n), (4, .osl 2 pv.length 0 pv.length), (2, .opt 1 0), (5, .fn 99 [.opt 1 0])], [.row v 1 3 (A.map kD), .box [iV M, iV R, iV C, .osl 0 v 0 RC], .row pv.length 1 3 (pv.map kD)]⟩) (fun i => R - i) pv.length ⟨Nat.le_refl _, o1, rfl⟩ ⟨[0, 1, 2], rfl, rfl, rfl, by (repeat (first | exact trivial | refine ⟨rfl, ?_⟩))⟩ fun i hi => ?_
    obtain ⟨i1, i2, i3⟩ := hi
    replace i3 := Lib.hid i3
    replace hRC := Lib.hid hRC
    replace hst := Lib.hid hst
    by_cases hiR : i = R
    · (repeat' (first
  | (apply W.qd; (first
    | (apply q_mv; (first
    | exact Eq.refl (AV.d _)
    | exact Eq.refl (AV.osl _ _ _ _)
    | exact Eq.refl (AV.opt _ _)
    | exact Eq.refl (AV.agg _)
    | exact Eq.refl (AV.fpt _ _ _ _)
    | exact Eq.refl (AV.rpt _ _ _ _)
    | exact Eq.refl (AV.fn _ _)
    | exact Eq.refl (AV.tup _)
    | exact Eq.refl AV.top))
    | (apply q_fld_optF; exact rfl; exact rfl; exact rfl)
    | (apply q_ld_box; exact rfl; exact rfl; exact rfl; exact rfl)
    | (apply q_eql; exact rfl; exact rfl)
    | (apply q_add; exact rfl; exact rfl; omega)))
  | (apply AWP.seq)
  | (apply ACont_normal)
  | (apply W.region; kernel_rfl)
  | (apply Walk.nil)
  | (apply AWP.block)
  | (apply AWP.exit)
  | (apply ACont_exit)
  | (apply ABlock_exit)
  | (apply ABlock_exit'; exact rfl)
  | (refine W.cond _ rfl (fun hb => ?_) (fun hb => ?_) <;> ((try simp only [hb, Bool.not_true, Bool.not_false]) <;> (try simp only [decide_eq_true_eq, decide_eq_false_iff_not, Bool.not_eq_true', Bool.not_eq_false', Int.not_lt, Int.not_le, List.length_map, not_true_eq_false] at hb) <;> (try (exfalso; omega))))))
      have hs2 : red M R C L (j + 1) = (A, pv) := by
        rw [hst.out, redStep]
        dsimp only
        rw [if_pos]
        rw [← i3.out, hiR, Nat.sub_self]; rfl
      have h1 : (red M R C L (j + 1)).1 = A := by rw [hs2]
      have h2 : (red M R C L (j + 1)).2 = pv := by rw [hs2]
      have h3 : (red M R C L (j + 1)).2.length = pv.length := by rw [hs2]
      refine ⟨j + 1, by omega, by omega, ?_⟩
      rw [h3, h2, h1]
      exact ⟨[0, 1, 2], rfl, rfl, rfl, iV_eq (by omega), rfl, rfl, rfl, rfl, trivial⟩
    · have hiR : i < R := by omega
      have hpR : pv.length < R := by omega
      have r1 := rowC A o3 i hiR
      have s1 := swC i hiR hpR
      have hb1 := hrow hiR
      have hb2 := hrow hpR
      (repeat' (first
  | (apply W.qd; (first
    | (apply q_mv; (first
    | exact Eq.refl (AV.d _)
    | exact Eq.refl (AV.osl _ _ _ _)
    | exact Eq.refl (AV.opt _ _)
    | exact Eq.refl (AV.agg _)
    | exact Eq.refl (AV.fpt _ _ _ _)
    | exact Eq.refl (AV.rpt _ _ _ _)
    | exact Eq.refl (AV.fn _ _)
    | exact Eq.refl (AV.tup _)
    | exact Eq.refl AV.top))
    | (apply q_as; (first
    | exact Eq.refl (AV.d _)
    | exact Eq.refl (AV.osl _ _ _ _)
    | exact Eq.refl (AV.opt _ _)
    | exact Eq.refl (AV.agg _)
    | exact Eq.refl (AV.fpt _ _ _ _)
    | exact Eq.refl (AV.rpt _ _ _ _)
    | exact Eq.refl (AV.fn _ _)
    | exact Eq.refl (AV.tup _)
    | exact Eq.refl AV.top))
    | (apply q_fld_optF; exact rfl; exact rfl; exact rfl)
    | (apply q_ld_box; exact rfl; exact rfl; exact rfl; exact rfl)
    | (apply q_ld_boxF; exact rfl; exact rfl; exact rfl; exact rfl)
    | (apply q_eql; exact rfl; exact rfl)
    | (apply q_neq; exact rfl; exact rfl)
    | (apply q_add; exact rfl; exact rfl; omega)
    | (apply q_ix_oslm; exact rfl; exact rfl; exact rfl; exact rfl; (first | (with_reducible exact rfl) | exact natI_spec rfl | assumption | exact (Int.toNat_of_nonneg (by omega)).symm); (first | omega | (focus (simp only [List.length_map]; omega)) | (focus (simp; done)) | (focus (simp; omega))))
    | (apply q_ld_rptm; exact rfl; exact rfl; exact rfl; exact rfl; (first | omega | (focus (simp only [List.length_map]; omega)) | (focus (simp; done)) | (focus (simp; omega))))))
  | (apply W.ed; (first
    | (apply (e_callJ (js := [0]) (r1)); exact rfl; exact rfl; exact rfl; exact rfl; exact rfl; kernel_rfl; kernel_rfl)
    | (apply (e_callJ (js := [0, 1]) (s1)); exact rfl; exact rfl; exact rfl; exact rfl; exact rfl; kernel_rfl; kernel_rfl)))
  | (apply AWP.seq)
  | (apply ACont_normal)
  | (apply W.region; kernel_rfl)
  | (apply W.regionD; exact rfl; kernel_rfl)
  | (apply Walk.nil)
  | (apply AWP.block)
  | (apply AWP.skip)
  | (apply AWP.exit)
  | (apply ACont_exit)
  | (apply ABlock_normal)
  | (apply ABlock_exit)
  | (apply ABlock_exit'; exact rfl)
  | (refine W.cond _ rfl (fun hb => ?_) (fun hb => ?_) <;> ((try simp only [hb, Bool.not_true, Bool.not_false]) <;> (try simp only [decide_eq_true_eq, decide_eq_false_iff_not, Bool.not_eq_true', Bool.not_eq_false', Int.not_lt, Int.not_le, List.length_map, not_true_eq_false] at hb) <;> (try (exfalso; omega))))))
      · have hgs := hgsw hiR hpR
        have hl1 := swapAt_length (i * C) (pv.length * C) A C
        have hlt1 := swapAt_lt (M := M) (i * C) (pv.length * C) o4 C
        have hne : gt C A i j ≠ 0 := by
          intro e
          apply hb
          unfold gt at e
          rw [List.getD_eq_getElem?_getD, List.getElem?_eq_getElem (by omega)] at e
          simp only [Option.getD_some] at e; omega
        have hnz := Lib.hid hne
        rw [← hgs] at hne
        clear s1 r1
        generalize hA1 : swapAt (i * C) (pv.length * C) A C = A1 at *
        replace hA1 := Lib.hid hA1
        have e1 : gt C A1 pv.length j = A1[pv.length * C + j]'(by omega) := by
          unfold gt
          rw [List.getD_eq_getElem?_getD, List.getElem?_eq_getElem (by omega)]
          rfl
        have hl1 : A1.length = RC := hl1.trans o3
        have l1 : A1[pv.length * C + j]'(by omega) < 2 ^ M := hlt1 _ (List.getElem_mem _)
        rw [e1] at hne
        have r2 := rowC A1 hl1 pv.length hpR
        have v1 := A_inv hM l1 hne
        (repeat' (first
  | (apply W.qd; (first
    | (apply (q_callC (v1)); exact rfl; exact rfl; kernel_rfl; kernel_rfl; kernel_rfl)
    | (apply q_mv; (first
    | exact Eq.refl (AV.d _)
    | exact Eq.refl (AV.osl _ _ _ _)
    | exact Eq.refl (AV.opt _ _)
    | exact Eq.refl (AV.agg _)
    | exact Eq.refl (AV.fpt _ _ _ _)
    | exact Eq.refl (AV.rpt _ _ _ _)
    | exact Eq.refl (AV.fn _ _)
    | exact Eq.refl (AV.tup _)
    | exact Eq.refl AV.top))
    | (apply q_as; (first
    | exact Eq.refl (AV.d _)
    | exact Eq.refl (AV.osl _ _ _ _)
    | exact Eq.refl (AV.opt _ _)
    | exact Eq.refl (AV.agg _)
    | exact Eq.refl (AV.fpt _ _ _ _)
    | exact Eq.refl (AV.rpt _ _ _ _)
    | exact Eq.refl (AV.fn _ _)
    | exact Eq.refl (AV.tup _)
    | exact Eq.refl AV.top))
    | (apply q_ld_boxF; exact rfl; exact rfl; exact rfl; exact rfl)
    | (apply q_extract; exact rfl; exact rfl)
    | (apply q_len_osl; exact rfl; exact rfl; exact rfl)
    | (apply q_ix_oslm; exact rfl; exact rfl; exact rfl; exact rfl; (first | (with_reducible exact rfl) | exact natI_spec rfl | assumption | exact (Int.toNat_of_nonneg (by omega)).symm); (first | omega | (focus (simp only [List.length_map]; omega)) | (focus (simp; done)) | (focus (simp; omega))))
    | (apply q_ld_rptm; exact rfl; exact rfl; exact rfl; exact rfl; (first | omega | (focus (simp only [List.length_map]; omega)) | (focus (simp; done)) | (focus (simp; omega))))))
  | (apply W.ed; (apply (e_callJ (js := [0]) (r2)); exact rfl; exact rfl; exact rfl; exact rfl; exact rfl; kernel_rfl; kernel_rfl))
  | (apply AWP.seq)
  | (apply ACont_normal)
  | (apply W.region; kernel_rfl)
  | (apply Walk.nil)
  | (apply W.chk; kernel_rfl)
  | (apply AWP.block)))
        have hf : invN M (A1[pv.length * C + j]'(by omega)) < 2 ^ M := invN_lt _
        have hst1 : hfE A1 pv.length j C M = invN M (A1[pv.length * C + j]'(by omega)) := by
          unfold hfE
          rw [List.getD_eq_getElem?_getD, List.getElem?_eq_getElem (by omega)]
          rfl
        clear v1 r2 e1
        generalize invN M (A1[pv.length * C + j]'(by omega)) = f at *
        replace hst1 := Lib.hid hst1
        refine AWP.loopW (α := Nat) (fun k => k ≤ C) (fun k => ⟨[(55, iV k), (54, iV C), (53, .osl 0 v (pv.length * C) C), (9, iV f), (7, iV pv.length), (6, iV j), (16, iV j), (15, iV n), (4, .osl 2 pv.length 0 pv.length), (2, .opt 1 0), (5, .fn 99 [.opt 1 0])], [.row v 1 3 ((scaleAt M f (pv.length * C) A1 k).map kD), .box [iV M, iV R, iV C, .osl 0 v 0 RC], .row pv.length 1 3 (pv.map kD)]⟩) (fun k => C - k) 0 (by omega) ⟨[0, 1, 2], rfl, rfl, rfl, by (repeat (first | exact trivial | refine ⟨rfl, ?_⟩))⟩ fun k hk => ?_
        by_cases hkC : k < C
        · have q1 := scaleAt_length M f (pv.length * C) A1 k
          have q2 := scaleAt_lt hM hf (pv.length * C) hlt1 k
          have q3 : scaleAt M f (pv.length * C) A1 (k + 1) = (scaleAt M f (pv.length * C) A1 k).set (pv.length * C + k) (Gf.mul M (modN M) f ((scaleAt M f (pv.length * C) A1 k).getD (pv.length * C + k) 0)) := rfl
          replace q3 := Lib.hid q3
          generalize scaleAt M f (pv.length * C) A1 k = B at *
          have q1 : B.length = RC := q1.trans hl1
          have m1 := A_mtimes hM hf (q2 (B[pv.length * C + k]'(by omega)) (List.getElem_mem _))
          have r2 := rowC B q1 pv.length hpR
          have c4 := hM.cap (q2 (B[pv.length * C + k]'(by omega)) (List.getElem_mem _))
          (repeat' (first
  | (apply W.qd; (first
    | (apply (q_callC (m1)); exact rfl; exact rfl; kernel_rfl; kernel_rfl; kernel_rfl)
    | (apply q_mv; (first
    | exact Eq.refl (AV.d _)
    | exact Eq.refl (AV.osl _ _ _ _)
    | exact Eq.refl (AV.opt _ _)
    | exact Eq.refl (AV.agg _)
    | exact Eq.refl (AV.fpt _ _ _ _)
    | exact Eq.refl (AV.rpt _ _ _ _)
    | exact Eq.refl (AV.fn _ _)
    | exact Eq.refl (AV.tup _)
    | exact Eq.refl AV.top))
    | (apply q_as; (first
    | exact Eq.refl (AV.d _)
    | exact Eq.refl (AV.osl _ _ _ _)
    | exact Eq.refl (AV.opt _ _)
    | exact Eq.refl (AV.agg _)
    | exact Eq.refl (AV.fpt _ _ _ _)
    | exact Eq.refl (AV.rpt _ _ _ _)
    | exact Eq.refl (AV.fn _ _)
    | exact Eq.refl (AV.tup _)
    | exact Eq.refl AV.top))
    | (apply q_fld_optF; exact rfl; exact rfl; exact rfl)
    | (apply q_ld_box; exact rfl; exact rfl; exact rfl; exact rfl)
    | (apply q_ld_boxF; exact rfl; exact rfl; exact rfl; exact rfl)
    | (apply q_lss; exact rfl; exact rfl)
    | (apply q_add; exact rfl; exact rfl; omega)
    | (apply q_ix_oslm; exact rfl; exact rfl; exact rfl; exact rfl; (first | (with_reducible exact rfl) | exact natI_spec rfl | assumption | exact (Int.toNat_of_nonneg (by omega)).symm); (first | omega | (focus (simp only [List.length_map]; omega)) | (focus (simp; done)) | (focus (simp; omega))))
    | (apply q_ld_rptm; exact rfl; exact rfl; exact rfl; exact rfl; (first | omega | (focus (simp only [List.length_map]; omega)) | (focus (simp; done)) | (focus (simp; omega))))))
  | (apply W.ed; (apply (e_callJ (js := [0]) (r2)); exact rfl; exact rfl; exact rfl; exact rfl; exact rfl; kernel_rfl; kernel_rfl))
  | (apply W.en; (apply e_st_rptm; exact rfl; exact rfl; exact rfl; exact rfl; exact rfl; exact rfl; exact rfl; exact fun _ => rfl; (first | omega | (focus (simp only [List.length_map]; omega)) | (focus (simp; omega)))))
  | (apply AWP.seq)
  | (apply ACont_normal)
  | (apply W.region; kernel_rfl)
  | (apply W.regionD; exact rfl; kernel_rfl)
  | (apply Walk.nil)
  | (apply W.chk; kernel_rfl)
  | (apply AWP.block)
  | (apply AWP.skip)
  | (apply ABlock_normal)
  | (refine W.cond _ rfl (fun hb => ?_) (fun hb => ?_) <;> ((try simp only [hb, Bool.not_true, Bool.not_false]) <;> (try simp only [decide_eq_true_eq, decide_eq_false_iff_not, Bool.not_eq_true', Bool.not_eq_false', Int.not_lt, Int.not_le, List.length_map, not_true_eq_false] at hb) <;> (try (exfalso; omega))))))
          refine ⟨k + 1, by omega, by omega, [0, 1, 2], rfl, rfl, ?_, iV_eq (by omega), rfl, rfl, rfl, rfl, rfl, rfl, rfl, rfl, rfl, rfl, trivial⟩
          refine congrArg (fun z : List Nat => [Ent.row v 1 3 (z.map kD), .box [iV M, iV R, iV C, .osl 0 v 0 RC], .row pv.length 1 3 (pv.map kD)]) ?_
          rw [q3.out, List.getD_eq_getElem?_getD, List.getElem?_eq_getElem (show pv.length * C + k < _ by omega)]
          rfl
        · have e : C = k := by omega
          subst e
          have q1 := scaleAt_length M f (pv.length * C) A1 C
          have q2 := scaleAt_lt hM hf (pv.length * C) hlt1 C
          (repeat' (first
  | (apply W.qd; (first
    | (apply q_mv; (first
    | exact Eq.refl (AV.d _)
    | exact Eq.refl (AV.osl _ _ _ _)
    | exact Eq.refl (AV.opt _ _)
    | exact Eq.refl (AV.agg _)
    | exact Eq.refl (AV.fpt _ _ _ _)
    | exact Eq.refl (AV.rpt _ _ _ _)
    | exact Eq.refl (AV.fn _ _)
    | exact Eq.refl (AV.tup _)
    | exact Eq.refl AV.top))
    | (apply q_fld_optF; exact rfl; exact rfl; exact rfl)
    | (apply q_ld_box; exact rfl; exact rfl; exact rfl; exact rfl)
    | (apply q_lss; exact rfl; exact rfl)))
  | (apply AWP.seq)
  | (apply ACont_normal)
  | (apply W.region; kernel_rfl)
  | (apply Walk.nil)
  | (apply AWP.block)
  | (apply AWP.exit)
  | (apply ACont_exit)
  | (apply ABlock_exit)
  | (refine W.cond _ rfl (fun hb => ?_) (fun hb => ?_) <;> ((try simp only [hb, Bool.not_true, Bool.not_false]) <;> (try simp only [decide_eq_true_eq, decide_eq_false_iff_not, Bool.not_eq_true', Bool.not_eq_false', Int.not_lt, Int.not_le, List.length_map, not_true_eq_false] at hb) <;> (try (exfalso; omega))))))
          generalize hL2 : scaleAt M f (pv.length * C) A1 C = L2 at *
          replace hL2 := Lib.hid hL2
          have q1 : L2.length = RC := q1.trans hl1
          refine AWP.loopW (α := Nat) (fun r => r ≤ R) (fun r => ⟨[(73, iV r), (72, iV R), (7, iV pv.length), (6, iV j), (16, iV j), (15, iV n), (4, .osl 2 pv.length 0 pv.length), (2, .opt 1 0), (5, .fn 99 [.opt 1 0])], [.row v 1 3 ((clearAt M C j pv.length L2 r).map kD), .box [iV M, iV R, iV C, .osl 0 v 0 RC], .row pv.length 1 3 (pv.map kD)]⟩) (fun r => R - r) 0 (by omega) ⟨[0, 1, 2], rfl, rfl, rfl, by (repeat (first | exact trivial | refine ⟨rfl, ?_⟩))⟩ fun r hr2 => ?_
          have y1 := clearAt_length M C j pv.length L2 r
          have y2 := clearAt_lt hM C j pv.length q2 r
          by_cases hrR : r < R
          · have y3 : clearAt M C j pv.length L2 (r + 1) = if r = pv.length then clearAt M C j pv.length L2 r else addAt M ((clearAt M C j pv.length L2 r).getD (r * C + j) 0) (r * C) (pv.length * C) (clearAt M C j pv.length L2 r) C := rfl
            replace y3 := Lib.hid y3
            generalize clearAt M C j pv.length L2 r = B at *
            have y1 : B.length = RC := y1.trans q1
            have hb3 := hrow hrR
            by_cases hrp : r = pv.length
            · (repeat' (first
  | (apply W.qd; (first
    | (apply q_mv; (first
    | exact Eq.refl (AV.d _)
    | exact Eq.refl (AV.osl _ _ _ _)
    | exact Eq.refl (AV.opt _ _)
    | exact Eq.refl (AV.agg _)
    | exact Eq.refl (AV.fpt _ _ _ _)
    | exact Eq.refl (AV.rpt _ _ _ _)
    | exact Eq.refl (AV.fn _ _)
    | exact Eq.refl (AV.tup _)
    | exact Eq.refl AV.top))
    | (apply q_as; (first
    | exact Eq.refl (AV.d _)
    | exact Eq.refl (AV.osl _ _ _ _)
    | exact Eq.refl (AV.opt _ _)
    | exact Eq.refl (AV.agg _)
    | exact Eq.refl (AV.fpt _ _ _ _)
    | exact Eq.refl (AV.rpt _ _ _ _)
    | exact Eq.refl (AV.fn _ _)
    | exact Eq.refl (AV.tup _)
    | exact Eq.refl AV.top))
    | (apply q_lss; exact rfl; exact rfl)
    | (apply q_neq; exact rfl; exact rfl)
    | (apply q_add; exact rfl; exact rfl; omega)))
  | (apply AWP.seq)
  | (apply ACont_normal)
  | (apply W.region; kernel_rfl)
  | (apply Walk.nil)
  | (apply AWP.block)
  | (apply AWP.skip)
  | (apply ABlock_normal)
  | (refine W.cond _ rfl (fun hb => ?_) (fun hb => ?_) <;> ((try simp only [hb, Bool.not_true, Bool.not_false]) <;> (try simp only [decide_eq_true_eq, decide_eq_false_iff_not, Bool.not_eq_true', Bool.not_eq_false', Int.not_lt, Int.not_le, List.length_map, not_true_eq_false] at hb) <;> (try (exfalso; omega))))))
              refine ⟨r + 1, by omega, by omega, [0, 1, 2], rfl, rfl, ?_, iV_eq (by omega), rfl, rfl, rfl, rfl, rfl, rfl, rfl, rfl, trivial⟩
              refine congrArg (fun z : List Nat => [Ent.row v 1 3 (z.map kD), .box [iV M, iV R, iV C, .osl 0 v 0 RC], .row pv.length 1 3 (pv.map kD)]) ?_
              rw [y3.out, if_pos hrp]
            · have r2 := rowC B y1 pv.length hpR
              have r3 := rowC B y1 r hrR
              have m1 := A_madd (v := v) (o := r * C) (o' := pv.length * C) (n := C) hM (y2 (B[r * C + j]'(by omega)) (List.getElem_mem _)) y2 (by omega) (by omega) (by omega)
              (repeat' (first
  | (apply W.qd; (first
    | (apply q_mv; (first
    | exact Eq.refl (AV.d _)
    | exact Eq.refl (AV.osl _ _ _ _)
    | exact Eq.refl (AV.opt _ _)
    | exact Eq.refl (AV.agg _)
    | exact Eq.refl (AV.fpt _ _ _ _)
    | exact Eq.refl (AV.rpt _ _ _ _)
    | exact Eq.refl (AV.fn _ _)
    | exact Eq.refl (AV.tup _)
    | exact Eq.refl AV.top))
    | (apply q_as; (first
    | exact Eq.refl (AV.d _)
    | exact Eq.refl (AV.osl _ _ _ _)
    | exact Eq.refl (AV.opt _ _)
    | exact Eq.refl (AV.agg _)
    | exact Eq.refl (AV.fpt _ _ _ _)
    | exact Eq.refl (AV.rpt _ _ _ _)
    | exact Eq.refl (AV.fn _ _)
    | exact Eq.refl (AV.tup _)
    | exact Eq.refl AV.top))
    | (apply q_fld_optF; exact rfl; exact rfl; exact rfl)
    | (apply q_ld_box; exact rfl; exact rfl; exact rfl; exact rfl)
    | (apply q_ld_boxF; exact rfl; exact rfl; exact rfl; exact rfl)
    | (apply q_lss; exact rfl; exact rfl)
    | (apply q_neq; exact rfl; exact rfl)
    | (apply q_add; exact rfl; exact rfl; omega)
    | (apply q_ix_oslm; exact rfl; exact rfl; exact rfl; exact rfl; (first | (with_reducible exact rfl) | exact natI_spec rfl | assumption | exact (Int.toNat_of_nonneg (by omega)).symm); (first | omega | (focus (simp only [List.length_map]; omega)) | (focus (simp; done)) | (focus (simp; omega))))
    | (apply q_ld_rptm; exact rfl; exact rfl; exact rfl; exact rfl; (first | omega | (focus (simp only [List.length_map]; omega)) | (focus (simp; done)) | (focus (simp; omega))))))
  | (apply W.ed; (first
    | (apply (e_callJ (js := [0]) (r2)); exact rfl; exact rfl; exact rfl; exact rfl; exact rfl; kernel_rfl; kernel_rfl)
    | (apply (e_callJ (js := [0]) (r3)); exact rfl; exact rfl; exact rfl; exact rfl; exact rfl; kernel_rfl; kernel_rfl)
    | (apply (e_callJ (js := [0]) (m1)); exact rfl; exact rfl; exact rfl; exact rfl; exact rfl; kernel_rfl; kernel_rfl)))
  | (apply AWP.seq)
  | (apply ACont_normal)
  | (apply W.region; kernel_rfl)
  | (apply W.regionD; exact rfl; kernel_rfl)
  | (apply Walk.nil)
  | (apply W.chk; kernel_rfl)
  | (apply AWP.block)
  | (apply AWP.skip)
  | (apply ABlock_normal)
  | (refine W.cond _ rfl (fun hb => ?_) (fun hb => ?_) <;> ((try simp only [hb, Bool.not_true, Bool.not_false]) <;> (try simp only [decide_eq_true_eq, decide_eq_false_iff_not, Bool.not_eq_true', Bool.not_eq_false', Int.not_lt, Int.not_le, List.length_map, not_true_eq_false] at hb) <;> (try (exfalso; omega))))))
              refine ⟨r + 1, by omega, by omega, [0, 1, 2], rfl, rfl, ?_, iV_eq (by omega), rfl, rfl, rfl, rfl, rfl, rfl, rfl, rfl, trivial⟩
              refine congrArg (fun z : List Nat => [Ent.row v 1 3 (z.map kD), .box [iV M, iV R, iV C, .osl 0 v 0 RC], .row pv.length 1 3 (pv.map kD)]) ?_
              rw [y3.out, if_neg hrp, List.getD_eq_getElem?_getD, List.getElem?_eq_getElem (show r * C + j < _ by omega)]
              rfl
          · have e : R = r := by omega
            subst e
            (repeat' (first
  | (apply W.qd; (first
    | (apply q_mv; (first
    | exact Eq.refl (AV.d _)
    | exact Eq.refl (AV.osl _ _ _ _)
    | exact Eq.refl (AV.opt _ _)
    | exact Eq.refl (AV.agg _)
    | exact Eq.refl (AV.fpt _ _ _ _)
    | exact Eq.refl (AV.rpt _ _ _ _)
    | exact Eq.refl (AV.fn _ _)
    | exact Eq.refl (AV.tup _)
    | exact Eq.refl AV.top))
    | (apply q_as; (first
    | exact Eq.refl (AV.d _)
    | exact Eq.refl (AV.osl _ _ _ _)
    | exact Eq.refl (AV.opt _ _)
    | exact Eq.refl (AV.agg _)
    | exact Eq.refl (AV.fpt _ _ _ _)
    | exact Eq.refl (AV.rpt _ _ _ _)
    | exact Eq.refl (AV.fn _ _)
    | exact Eq.refl (AV.tup _)
    | exact Eq.refl AV.top))
    | (apply q_lss; exact rfl; exact rfl)
    | (apply q_add; exact rfl; exact rfl; omega)
    | (apply q_litF; exact rfl; exact rfl; exact rfl; exact rfl; exact rfl; kernel_rfl; kernel_rfl; exact rfl)))
  | (apply W.ed; (apply e_app1F; exact rfl; exact rfl; exact rfl; exact rfl; exact rfl; exact rfl; exact rfl; exact rfl; (first | omega | (focus (simp; omega)) | (focus (simp; done)))))
  | (apply AWP.seq)
  | (apply ACont_normal)
  | (apply W.region; kernel_rfl)
  | (apply Walk.nil)
  | (apply AWP.exit)
  | (apply ACont_exit)
  | (apply ABlock_normal)
  | (apply ABlock_exit)
  | (refine W.cond _ rfl (fun hb => ?_) (fun hb => ?_) <;> ((try simp only [hb, Bool.not_true, Bool.not_false]) <;> (try simp only [decide_eq_true_eq, decide_eq_false_iff_not, Bool.not_eq_true', Bool.not_eq_false', Int.not_lt, Int.not_le, List.length_map, not_true_eq_false] at hb) <;> (try (exfalso; omega))))))
            have hfi : findP C j A (R - pv.length) pv.length = i := by
              rw [← i3.out, show R - i = (R - i - 1) + 1 by omega, findP, if_neg (show A.getD (i * C + j) 0 ≠ 0 from hnz.out)]
            have hs2 : red M R C L (j + 1) = (clearAt M C j pv.length L2 R, pv ++ [j]) := by
              have q := hst1.out
              unfold hfE at q
              rw [hst.out, redStep]
              dsimp only
              rw [hfi, if_neg (by omega), hA1.out, q, hL2.out]
            have h1 : (red M R C L (j + 1)).1 = clearAt M C j pv.length L2 R := by rw [hs2]
            have h2 : (red M R C L (j + 1)).2 = pv ++ [j] := by rw [hs2]
            have h3 : (red M R C L (j + 1)).2.length = pv.length + 1 := by rw [h2, List.length_append]; rfl
            have h4 : (pv ++ [j]).length = pv.length + 1 := by rw [List.length_append]; rfl
            refine ⟨j + 1, by omega, by omega, ?_⟩
            rw [h3, h2, h1]
            exact ⟨[0, 1, 2], rfl, rfl, rfl, iV_eq (by omega), rfl, congrArg (AV.osl 2 (pv.length + 1) 0) h4.symm, rfl, rfl, trivial⟩
      · refine ⟨i + 1, ⟨by omega, by omega, ?_⟩, by omega, [0, 1, 2], rfl, rfl, rfl, iV_eq (by omega), rfl, rfl, rfl, rfl, rfl, rfl, rfl, trivial⟩
        have e : A.getD (i * C + j) 0 = 0 := by
          rw [List.getD_eq_getElem?_getD, List.getElem?_eq_getElem (by omega)]
          simp only [Option.getD_some]; omega
        have h2 : findP C j A (R - i) i = findP C j A (R - (i + 1)) (i + 1) := by
          rw [show R - i = (R - (i + 1)) + 1 by omega, findP, if_pos e]
        exact h2.symm.trans i3.out
  · have e : j = n := by omega
    subst e
    generalize red M R C L j = st
    obtain ⟨A, pv⟩ := st
    dsimp only
    generalize R * C = RC
    (repeat' (first
  | (apply W.qd; (first
    | (apply q_mv; (first
    | exact Eq.refl (AV.d _)
    | exact Eq.refl (AV.osl _ _ _ _)
    | exact Eq.refl (AV.opt _ _)
    | exact Eq.refl (AV.agg _)
    | exact Eq.refl (AV.fpt _ _ _ _)
    | exact Eq.refl (AV.rpt _ _ _ _)
    | exact Eq.refl (AV.fn _ _)
    | exact Eq.refl (AV.tup _)
    | exact Eq.refl AV.top))
    | (apply q_as; (first
    | exact Eq.refl (AV.d _)
    | exact Eq.refl (AV.osl _ _ _ _)
    | exact Eq.refl (AV.opt _ _)
    | exact Eq.refl (AV.agg _)
    | exact Eq.refl (AV.fpt _ _ _ _)
    | exact Eq.refl (AV.rpt _ _ _ _)
    | exact Eq.refl (AV.fn _ _)
    | exact Eq.refl (AV.tup _)
    | exact Eq.refl AV.top))
    | (apply q_lss; exact rfl; exact rfl)))
  | (apply AWP.seq)
  | (apply ACont_normal)
  | (apply W.region; kernel_rfl)
  | (apply Walk.nil)
  | (apply AWP.exit)
  | (apply AWP.ret)
  | (apply ACont_exit)
  | (apply AGoto_ret)
  | (apply ABlock_exit)
  | (refine W.cond _ rfl (fun hb => ?_) (fun hb => ?_) <;> ((try simp only [hb, Bool.not_true, Bool.not_false]) <;> (try simp only [decide_eq_true_eq, decide_eq_false_iff_not, Bool.not_eq_true', Bool.not_eq_false', Int.not_lt, Int.not_le, List.length_map, not_true_eq_false] at hb) <;> (try (exfalso; omega))))))
    refine ⟨.inl rfl, [0], [.osl 2 pv.length 0 pv.length], rfl, rfl, ⟨rfl, trivial⟩, AVle.of_eq ?_, rfl⟩
    simp only [tupA, AV.frz, plc, frzSl, List.getElem?_cons_succ, List.getElem?_cons_zero, if_true, List.drop_zero]
    rw [List.take_of_length_le (by simp)]
    rfl
end Go.Proofs.YtjaipchlnnjaeaaDoor
end

section
/- Package matrix over the machine of abstract values: zero in new memory, Transpose, Pick, Independent. -/
namespace Go.Proofs.YtjaipchlnnjaeaaDoor
open Go.RowKit
set_option linter.unusedVariables false
set_option linter.unusedSimpArgs false
set_option maxHeartbeats 4000000
set_option maxRecDepth 100000
attribute [local irreducible] Quiet Eff OpOk AWPG ACont ABlock ACalls AGoto

theorem A_mzeroO (M R C : Nat) (hr : R ≤ 32) (hc : C ≤ 32) : ACalls Tryd.prog 98 [iV M, iV R, iV C] [] (.agg [iV M, iV R, iV C, .osl 0 0 0 (R * C)]) [.row 0 1 3 ((List.replicate (R * C) 0).map kD)] := by
  refine acalls_of_bodyO Tryd.func98 rfl (Nat.le_of_ble_eq_true rfl) ?_
  have h4 : R * C ≤ 1024 := Nat.mul_le_mul hr hc
  (repeat' (first
  | (apply W.qd; (first
    | (apply q_mv; (first
    | exact Eq.refl (AV.d _)
    | exact Eq.refl (AV.osl _ _ _ _)
    | exact Eq.refl (AV.opt _ _)
    | exact Eq.refl (AV.agg _)
    | exact Eq.refl (AV.fpt _ _ _ _)
    | exact Eq.refl (AV.rpt _ _ _ _)
    | exact Eq.refl (AV.fn _ _)
    | exact Eq.refl (AV.tup _)
    | exact Eq.refl AV.top))
    | (apply q_mul; exact rfl; exact rfl; (first | omega | assumption))
    | (apply q_buildF; exact rfl; exact rfl; kernel_rfl)))
  | (apply W.ed; (first
    | (apply e_allocF; exact rfl; exact rfl; exact rfl; kernel_rfl)
    | (apply (e_makeG (f := iD) 0); exact rfl; exact rfl; (first | (with_reducible exact rfl) | exact natI_spec rfl | assumption | exact (Int.toNat_of_nonneg (by omega)).symm); exact rfl; exact rfl; exact rfl; exact rfl; exact rfl; exact rfl; exact rfl; omega)))
  | (apply W.en; (apply e_st_boxF; exact rfl; exact rfl; exact rfl; exact rfl; exact rfl; exact rfl; kernel_rfl; kernel_rfl; kernel_rfl))
  | (apply AWP.seq)
  | (apply ACont_normal)
  | (apply W.region; kernel_rfl)
  | (apply Walk.nil)
  | (apply AWP.ret)))
  have e : ((R : Int) * (C : Int)).toNat = R * C := by rw [← Int.natCast_mul, Int.toNat_natCast]
  rw [e]
  refine ⟨.inl rfl, [1], [.agg [iV M, iV R, iV C, .osl 1 0 0 (R * C)]], rfl, rfl, ⟨⟨0, _, true, rfl, rfl, rfl, rfl⟩, trivial⟩, AVle.of_eq rfl, ?_⟩
  have h2 : (List.replicate (R * C) 0).map iD = (List.replicate (R * C) 0).map kD := by simp only [List.map_replicate]; rfl
  exact congrArg (fun z => [Ent.row 0 1 3 z]) h2
/-- The elements of the transposed matrix, when the first n of the elements of a (row by row) were put in their places. -/
def trAt (R C : Nat) (L B : List Nat) : Nat → List Nat
  | 0 => B
  | n + 1 => (trAt R C L B n).set (n % C * R + n / C) (L.getD n 0)
theorem trAt_length (R C : Nat) (L B : List Nat) (n : Nat) : (trAt R C L B n).length = B.length := by
  induction n with
  | zero => rfl
  | succ n ih => rw [trAt, List.length_set, ih]
/-- The transposed matrix. -/
def trN (R C : Nat) (L : List Nat) : List Nat := trAt R C L (List.replicate (C * R) 0) (R * C)
theorem A_mtranspose {M R C : Nat} {l : List Nat} (h : MxOk M R C l) : ACalls Tryd.prog 81 [mx M R C l] [] (.tup [.agg [iV M, iV C, iV R, .osl 0 0 0 (C * R)], iV 0]) [.row 0 1 3 ((trN R C l).map kD)] := by
  refine acalls_of_bodyO Tryd.func81 rfl (Nat.le_of_ble_eq_true rfl) ?_
  have hr := h.r
  have hc := h.c
  have hn := h.n
  have hv := A_mvalid h
  have hz := A_mzeroO M C R hc hr
  have h4 : C * R ≤ 1024 := Nat.mul_le_mul hc hr
  have hz0 : (List.replicate (C * R) 0).length = C * R := List.length_replicate
  (repeat' (first
  | (apply W.qd; (first
    | (apply (q_callC (hv)); exact rfl; exact rfl; kernel_rfl; kernel_rfl; kernel_rfl)
    | (apply q_mv; (first
    | exact Eq.refl (AV.d _)
    | exact Eq.refl (AV.osl _ _ _ _)
    | exact Eq.refl (AV.opt _ _)
    | exact Eq.refl (AV.agg _)
    | exact Eq.refl (AV.fpt _ _ _ _)
    | exact Eq.refl (AV.rpt _ _ _ _)
    | exact Eq.refl (AV.fn _ _)
    | exact Eq.refl (AV.tup _)
    | exact Eq.refl AV.top))
    | (apply q_as; (first
    | exact Eq.refl (AV.d _)
    | exact Eq.refl (AV.osl _ _ _ _)
    | exact Eq.refl (AV.opt _ _)
    | exact Eq.refl (AV.agg _)
    | exact Eq.refl (AV.fpt _ _ _ _)
    | exact Eq.refl (AV.rpt _ _ _ _)
    | exact Eq.refl (AV.fn _ _)
    | exact Eq.refl (AV.tup _)
    | exact Eq.refl AV.top))
    | (apply q_fld_optF; exact rfl; exact rfl; exact rfl)
    | (apply q_ld_box; exact rfl; exact rfl; exact rfl; exact rfl)
    | (apply q_ld_boxF; exact rfl; exact rfl; exact rfl; exact rfl)
    | (apply q_not; exact rfl)))
  | (apply W.ed; (first
    | (apply (e_callJ (js := []) (hz)); exact rfl; exact rfl; exact rfl; exact rfl; exact rfl; kernel_rfl; kernel_rfl)
    | (apply e_boxF; exact rfl; exact rfl; exact rfl; kernel_rfl; kernel_rfl)
    | (apply e_allocF; exact rfl; exact rfl; exact rfl; kernel_rfl)))
  | (apply W.en; (apply e_st_boxF; exact rfl; exact rfl; exact rfl; exact rfl; exact rfl; exact rfl; kernel_rfl; kernel_rfl; kernel_rfl))
  | (apply AWP.seq)
  | (apply ACont_normal)
  | (apply W.region; kernel_rfl)
  | (apply Walk.nil)
  | (apply AWP.block)
  | (apply AWP.skip)
  | (apply W.condF; exact rfl)))
  have rowB : ∀ (B : List Nat), B.length = C * R → ∀ j, j < C → ACalls Tryd.prog 80 [.agg [iV M, iV C, iV R, .osl 0 0 0 (C * R)], iV j] [.row 0 1 3 (B.map kD)] (.osl 0 0 (j * R) R) [.row 0 1 3 (B.map kD)] := fun B hB j hj => A_mrowO hc hr hB hj
  have hrow : ∀ {j : Nat}, j < C → j * R + R ≤ C * R := fun {j} hj => by
    have := Nat.mul_le_mul_right R (show j + 1 ≤ C from hj)
    rw [Nat.add_mul, Nat.one_mul] at this
    omega
  have hrow2 : ∀ {i : Nat}, i < R → i * C + C ≤ R * C := fun {i} hi => by
    have := Nat.mul_le_mul_right C (show i + 1 ≤ R from hi)
    rw [Nat.add_mul, Nat.one_mul] at this
    omega
  have rowA : ∀ i, i < R → ∃ Z : List Nat, Z.length = C ∧ (∀ j, j < C → ∀ hj : j < Z.length, Z[j] = l.getD (i * C + j) 0) ∧ ACalls Tryd.prog 80 [mx M R C l, iV i] [] (nats Z) [] := fun i hi => by
    have hb1 := hrow2 hi
    refine ⟨(l.drop (i * C)).take C, by simp; omega, fun j hj hj' => ?_, A_mrow h hi⟩
    rw [List.getElem_take, List.getElem_drop, List.getD_eq_getElem?_getD, List.getElem?_eq_getElem (show i * C + j < l.length by omega)]
    rfl
  have hS : trN R C l = trAt R C l (List.replicate (C * R) 0) (R * C) := rfl
  have hT : ∀ n, (trAt R C l (List.replicate (C * R) 0) n).length = C * R := fun n => by rw [trAt_length, hz0]
  have hT1 : ∀ i j, j < C → trAt R C l (List.replicate (C * R) 0) (i * C + j + 1) = (trAt R C l (List.replicate (C * R) 0) (i * C + j)).set (j * R + i) (l.getD (i * C + j) 0) := fun i j hj => by
    rw [trAt, show (i * C + j) % C = j by rw [Nat.mul_comm, Nat.mul_add_mod, Nat.mod_eq_of_lt hj], show (i * C + j) / C = i by rw [Nat.mul_comm, Nat.mul_add_div (by omega), Nat.div_eq_of_lt hj, Nat.add_zero]]
  have hT0 : trAt R C l (List.replicate (C * R) 0) 0 = List.replicate (C * R) 0 := rfl
  generalize trAt R C l (List.replicate (C * R) 0) = T at *
  generalize trN R C l = F at *
  generalize hCR : C * R = CR at *
  replace hCR := Lib.hid hCR
  clear hv hz hz0
  replace hS := Lib.hid hS
  refine AWP.loopW (α := Nat) (fun i => i ≤ R) (fun i => ⟨[(21, iV i), (20, iV R), (4, .opt 3 0), (2, .opt 1 0), (1, .opt 0 0), (3, iV 0)], [.box [iV M, iV R, iV C, nats l], .box [iV 0, iV 0, iV 0, .d (.v (.slice none 0 0))], .row 0 1 3 ((T (i * C)).map kD), .box [iV M, iV C, iV R, .osl 2 0 0 CR]]⟩) (fun i => R - i) 0 (by omega) ?wk0 fun i hi => ?_
  case wk0 =>
    rw [Nat.zero_mul, hT0]
    exact ⟨[0, 1, 2, 3], rfl, rfl, rfl, rfl, rfl, rfl, rfl, rfl, rfl, trivial⟩
  by_cases hiR : i < R
  · have hb1 := hrow2 hiR
    obtain ⟨Z, hlen, hget, r1⟩ := rowA i hiR
    (repeat' (first
  | (apply W.qd; (first
    | (apply (q_callC (r1)); exact rfl; exact rfl; kernel_rfl; kernel_rfl; kernel_rfl)
    | (apply q_mv; (first
    | exact Eq.refl (AV.d _)
    | exact Eq.refl (AV.osl _ _ _ _)
    | exact Eq.refl (AV.opt _ _)
    | exact Eq.refl (AV.agg _)
    | exact Eq.refl (AV.fpt _ _ _ _)
    | exact Eq.refl (AV.rpt _ _ _ _)
    | exact Eq.refl (AV.fn _ _)
    | exact Eq.refl (AV.tup _)
    | exact Eq.refl AV.top))
    | (apply q_as; (first
    | exact Eq.refl (AV.d _)
    | exact Eq.refl (AV.osl _ _ _ _)
    | exact Eq.refl (AV.opt _ _)
    | exact Eq.refl (AV.agg _)
    | exact Eq.refl (AV.fpt _ _ _ _)
    | exact Eq.refl (AV.rpt _ _ _ _)
    | exact Eq.refl (AV.fn _ _)
    | exact Eq.refl (AV.tup _)
    | exact Eq.refl AV.top))
    | (apply q_ld_boxF; exact rfl; exact rfl; exact rfl; exact rfl)
    | (apply q_lss; exact rfl; exact rfl)
    | (apply q_len_sl; exact rfl; exact rfl)))
  | (apply AWP.seq)
  | (apply ACont_normal)
  | (apply W.region; kernel_rfl)
  | (apply Walk.nil)
  | (apply AWP.block)
  | (apply AWP.skip)
  | (refine W.cond _ rfl (fun hb => ?_) (fun hb => ?_) <;> ((try simp only [hb, Bool.not_true, Bool.not_false]) <;> (try simp only [decide_eq_true_eq, decide_eq_false_iff_not, Bool.not_eq_true', Bool.not_eq_false', Int.not_lt, Int.not_le, List.length_map, not_true_eq_false] at hb) <;> (try (exfalso; omega))))))
    refine AWP.loopW (α := Nat) (fun j => j ≤ C) (fun j => ⟨[(28, iV j), (27, iV C), (26, nats Z), (5, iV i), (21, iV i), (20, iV R), (4, .opt 3 0), (2, .opt 1 0), (1, .opt 0 0), (3, iV 0)], [.box [iV M, iV R, iV C, nats l], .box [iV 0, iV 0, iV 0, .d (.v (.slice none 0 0))], .row 0 1 3 ((T (i * C + j)).map kD), .box [iV M, iV C, iV R, .osl 2 0 0 CR]]⟩) (fun j => C - j) 0 (by omega) ?wk1 fun j hj => ?_
    case wk1 =>
      exact ⟨[0, 1, 2, 3], rfl, rfl, rfl, rfl, iV_eq (by simp [hlen]), rfl, rfl, rfl, rfl, rfl, rfl, rfl, rfl, trivial⟩
    by_cases hjC : j < C
    · have hg := hget j hjC (by omega)
      have y1 := hT (i * C + j)
      have y2 := hT1 i j hjC
      replace y2 := Lib.hid y2
      have hb2 := hrow hjC
      generalize T (i * C + j) = B at *
      have r2 := rowB B y1 j hjC
      (repeat' (first
  | (apply W.qd; (first
    | (apply q_mv; (first
    | exact Eq.refl (AV.d _)
    | exact Eq.refl (AV.osl _ _ _ _)
    | exact Eq.refl (AV.opt _ _)
    | exact Eq.refl (AV.agg _)
    | exact Eq.refl (AV.fpt _ _ _ _)
    | exact Eq.refl (AV.rpt _ _ _ _)
    | exact Eq.refl (AV.fn _ _)
    | exact Eq.refl (AV.tup _)
    | exact Eq.refl AV.top))
    | (apply q_as; (first
    | exact Eq.refl (AV.d _)
    | exact Eq.refl (AV.osl _ _ _ _)
    | exact Eq.refl (AV.opt _ _)
    | exact Eq.refl (AV.agg _)
    | exact Eq.refl (AV.fpt _ _ _ _)
    | exact Eq.refl (AV.rpt _ _ _ _)
    | exact Eq.refl (AV.fn _ _)
    | exact Eq.refl (AV.tup _)
    | exact Eq.refl AV.top))
    | (apply q_ld_boxF; exact rfl; exact rfl; exact rfl; exact rfl)
    | (apply q_lss; exact rfl; exact rfl)
    | (apply q_add; exact rfl; exact rfl; omega)
    | (apply q_ld_map; exact rfl; exact rfl; exact rfl; (first | omega | (focus (simp; done))))
    | (apply q_ix_slF; exact rfl; exact rfl; exact rfl; exact rfl; (first | (with_reducible exact rfl) | exact natI_spec rfl | assumption | exact (Int.toNat_of_nonneg (by omega)).symm); (first | omega | (focus (simp only [List.length_map]; omega)) | (focus (simp; done)) | (focus (simp; omega))))
    | (apply q_ix_oslm; exact rfl; exact rfl; exact rfl; exact rfl; (first | (with_reducible exact rfl) | exact natI_spec rfl | assumption | exact (Int.toNat_of_nonneg (by omega)).symm); (first | omega | (focus (simp only [List.length_map]; omega)) | (focus (simp; done)) | (focus (simp; omega))))))
  | (apply W.ed; (apply (e_callJ (js := [2]) (r2)); exact rfl; exact rfl; exact rfl; exact rfl; exact rfl; kernel_rfl; kernel_rfl))
  | (apply W.en; (apply e_st_rptm; exact rfl; exact rfl; exact rfl; exact rfl; exact rfl; exact rfl; exact rfl; exact fun _ => rfl; (first | omega | (focus (simp only [List.length_map]; omega)) | (focus (simp; omega)))))
  | (apply AWP.seq)
  | (apply ACont_normal)
  | (apply W.region; kernel_rfl)
  | (apply Walk.nil)
  | (apply AWP.block)
  | (apply AWP.skip)
  | (apply ABlock_normal)
  | (refine W.cond _ rfl (fun hb => ?_) (fun hb => ?_) <;> ((try simp only [hb, Bool.not_true, Bool.not_false]) <;> (try simp only [decide_eq_true_eq, decide_eq_false_iff_not, Bool.not_eq_true', Bool.not_eq_false', Int.not_lt, Int.not_le, List.length_map, not_true_eq_false] at hb) <;> (try (exfalso; omega))))))
      refine ⟨j + 1, by omega, by omega, [0, 1, 2, 3], rfl, rfl, ?_, iV_eq (by omega), rfl, rfl, rfl, rfl, rfl, rfl, rfl, rfl, rfl, trivial⟩
      refine congrArg (fun z : List Nat => [Ent.box [iV M, iV R, iV C, nats l], .box [iV 0, iV 0, iV 0, .d (.v (.slice none 0 0))], .row 0 1 3 (z.map kD), .box [iV M, iV C, iV R, .osl 2 0 0 CR]]) ?_
      rw [show i * C + (j + 1) = i * C + j + 1 by omega, y2.out, ← hg]
    · have e : C = j := by omega
      subst e
      (repeat' (first
  | (apply W.qd; (first
    | (apply q_mv; (first
    | exact Eq.refl (AV.d _)
    | exact Eq.refl (AV.osl _ _ _ _)
    | exact Eq.refl (AV.opt _ _)
    | exact Eq.refl (AV.agg _)
    | exact Eq.refl (AV.fpt _ _ _ _)
    | exact Eq.refl (AV.rpt _ _ _ _)
    | exact Eq.refl (AV.fn _ _)
    | exact Eq.refl (AV.tup _)
    | exact Eq.refl AV.top))
    | (apply q_lss; exact rfl; exact rfl)
    | (apply q_add; exact rfl; exact rfl; omega)))
  | (apply AWP.seq)
  | (apply ACont_normal)
  | (apply W.region; kernel_rfl)
  | (apply Walk.nil)
  | (apply AWP.exit)
  | (apply ACont_exit)
  | (apply ABlock_normal)
  | (apply ABlock_exit)
  | (refine W.cond _ rfl (fun hb => ?_) (fun hb => ?_) <;> ((try simp only [hb, Bool.not_true, Bool.not_false]) <;> (try simp only [decide_eq_true_eq, decide_eq_false_iff_not, Bool.not_eq_true', Bool.not_eq_false', Int.not_lt, Int.not_le, List.length_map, not_true_eq_false] at hb) <;> (try (exfalso; omega))))))
      refine ⟨i + 1, by omega, by omega, [0, 1, 2, 3], rfl, rfl, ?_, iV_eq (by omega), rfl, rfl, rfl, rfl, rfl, trivial⟩
      rw [Nat.add_mul, Nat.one_mul]
      rfl
  · have e : R = i := by omega
    subst e
    (repeat' (first
  | (apply W.qd; (first
    | (apply q_as; (first
    | exact Eq.refl (AV.d _)
    | exact Eq.refl (AV.osl _ _ _ _)
    | exact Eq.refl (AV.opt _ _)
    | exact Eq.refl (AV.agg _)
    | exact Eq.refl (AV.fpt _ _ _ _)
    | exact Eq.refl (AV.rpt _ _ _ _)
    | exact Eq.refl (AV.fn _ _)
    | exact Eq.refl (AV.tup _)
    | exact Eq.refl AV.top))
    | (apply q_ld_boxF; exact rfl; exact rfl; exact rfl; exact rfl)
    | (apply q_lss; exact rfl; exact rfl)))
  | (apply W.en; (apply e_st_boxF; exact rfl; exact rfl; exact rfl; exact rfl; exact rfl; exact rfl; kernel_rfl; kernel_rfl; kernel_rfl))
  | (apply AWP.seq)
  | (apply ACont_normal)
  | (apply W.region; kernel_rfl)
  | (apply Walk.nil)
  | (apply AWP.exit)
  | (apply AWP.ret)
  | (apply ACont_exit)
  | (apply ABlock_exit)
  | (refine W.cond _ rfl (fun hb => ?_) (fun hb => ?_) <;> ((try simp only [hb, Bool.not_true, Bool.not_false]) <;> (try simp only [decide_eq_true_eq, decide_eq_false_iff_not, Bool.not_eq_true', Bool.not_eq_false', Int.not_lt, Int.not_le, List.length_map, not_true_eq_false] at hb) <;> (try (exfalso; omega))))))
    rw [← hS.out]
    exact ⟨.inl rfl, [2], [.agg [iV M, iV C, iV R, .osl 2 0 0 CR], iV 0], rfl, rfl, ⟨⟨1, _, true, rfl, rfl, rfl, rfl⟩, rfl, trivial⟩, AVle.of_eq rfl, rfl⟩
theorem trAt_lt {M R C : Nat} {L B : List Nat} (hL : ∀ x ∈ L, x < 2 ^ M) (hB : ∀ x ∈ B, x < 2 ^ M) (n : Nat) : ∀ x ∈ trAt R C L B n, x < 2 ^ M := by
  induction n with
  | zero => exact hB
  | succ n ih =>
    intro x hx
    rw [trAt] at hx
    rcases List.mem_or_eq_of_mem_set hx with hx | rfl
    · exact ih x hx
    · exact getD_lt hL _
theorem trN_lt {M R C : Nat} {L : List Nat} (hL : ∀ x ∈ L, x < 2 ^ M) : ∀ x ∈ trN R C L, x < 2 ^ M :=
  trAt_lt hL (fun x hx => by rw [List.eq_of_mem_replicate hx]; exact Nat.two_pow_pos M) _
theorem trN_length (R C : Nat) (L : List Nat) : (trN R C L).length = C * R := by rw [trN, trAt_length, List.length_replicate]
theorem A_mindependent {M R C : Nat} {l : List Nat} (h : MxOk M R C l) : ACalls Tryd.prog 56 [mx M R C l] [] (nats (red M C R (trN R C l) R).2) [] := by
  refine acalls_of_body Tryd.func56 rfl (Nat.le_of_ble_eq_true rfl) ?_
  have ht := A_mtranspose h
  have hl := trN_length R C l
  have hr := A_mreduce (v := 0) (n := R) h.f h.c h.r hl (trN_lt h.e) (Nat.le_refl R)
  generalize (red M C R (trN R C l) R).2 = P at *
  generalize (red M C R (trN R C l) R).1 = Q at *
  generalize trN R C l = T at *
  generalize C * R = CR at *
  (repeat' (first
  | (apply W.qd; (first
    | (apply q_mv; (first
    | exact Eq.refl (AV.d _)
    | exact Eq.refl (AV.osl _ _ _ _)
    | exact Eq.refl (AV.opt _ _)
    | exact Eq.refl (AV.agg _)
    | exact Eq.refl (AV.fpt _ _ _ _)
    | exact Eq.refl (AV.rpt _ _ _ _)
    | exact Eq.refl (AV.fn _ _)
    | exact Eq.refl (AV.tup _)
    | exact Eq.refl AV.top))
    | (apply q_as; (first
    | exact Eq.refl (AV.d _)
    | exact Eq.refl (AV.osl _ _ _ _)
    | exact Eq.refl (AV.opt _ _)
    | exact Eq.refl (AV.agg _)
    | exact Eq.refl (AV.fpt _ _ _ _)
    | exact Eq.refl (AV.rpt _ _ _ _)
    | exact Eq.refl (AV.fn _ _)
    | exact Eq.refl (AV.tup _)
    | exact Eq.refl AV.top))
    | (apply q_fld_optF; exact rfl; exact rfl; exact rfl)
    | (apply q_ld_box; exact rfl; exact rfl; exact rfl; exact rfl)
    | (apply q_ld_boxF; exact rfl; exact rfl; exact rfl; exact rfl)
    | (apply q_neq; exact rfl; exact rfl)
    | (apply q_extract; exact rfl; exact rfl)))
  | (apply W.ed; (first
    | (apply (e_callJ (js := []) (ht)); exact rfl; exact rfl; exact rfl; exact rfl; exact rfl; kernel_rfl; kernel_rfl)
    | (apply (e_callJ (js := [1]) (hr)); exact rfl; exact rfl; exact rfl; exact rfl; exact rfl; kernel_rfl; kernel_rfl)
    | (apply e_boxF; exact rfl; exact rfl; exact rfl; kernel_rfl; kernel_rfl)
    | (apply e_allocF; exact rfl; exact rfl; exact rfl; kernel_rfl)))
  | (apply W.en; (apply e_st_boxF; exact rfl; exact rfl; exact rfl; exact rfl; exact rfl; exact rfl; kernel_rfl; kernel_rfl; kernel_rfl))
  | (apply AWP.seq)
  | (apply ACont_normal)
  | (apply W.region; kernel_rfl)
  | (apply Walk.nil)
  | (apply AWP.skip)
  | (apply AWP.ret)
  | (apply W.condF; exact rfl)))
  exact Ends.sl rfl rfl
end Go.Proofs.YtjaipchlnnjaeaaDoor
end

section
/- Package matrix over the machine of abstract values: Pick. -/
namespace Go.Proofs.YtjaipchlnnjaeaaDoor
open Go.RowKit
set_option linter.unusedVariables false
set_option linter.unusedSimpArgs false
set_option maxHeartbeats 4000000
set_option maxRecDepth 100000
attribute [local irreducible] Quiet Eff OpOk AWPG ACont ABlock ACalls AGoto

/-- The elements of these rows, one row after the other. -/
def pickN (C : Nat) (l : List Nat) : List Nat → List Nat
  | [] => []
  | i :: is => (l.drop (i * C)).take C ++ pickN C l is
theorem pickN_append (C : Nat) (l : List Nat) : ∀ a b, pickN C l (a ++ b) = pickN C l a ++ pickN C l b
  | [], b => rfl
  | i :: a, b => by rw [List.cons_append, pickN, pickN, pickN_append C l a b, List.append_assoc]
theorem pickN_length {R C : Nat} {l : List Nat} (hn : l.length = R * C) : ∀ is : List Nat, (∀ i ∈ is, i < R) → (pickN C l is).length = is.length * C
  | [], _ => by rw [pickN]; simp
  | i :: is, h => by
    have hi := h i (by simp)
    have := Nat.mul_le_mul_right C (show i + 1 ≤ R from hi)
    rw [Nat.add_mul, Nat.one_mul] at this
    rw [pickN, List.length_append, pickN_length hn is fun x hx => h x (by simp [hx]), List.length_take, List.length_drop, List.length_cons, Nat.add_mul, Nat.one_mul]
    omega
theorem pickN_mem {C : Nat} {l : List Nat} : ∀ {is : List Nat} {x : Nat}, x ∈ pickN C l is → x ∈ l
  | [], x, h => by simp [pickN] at h
  | i :: is, x, h => by
    rw [pickN] at h
    rcases List.mem_append.1 h with h | h
    · exact List.mem_of_mem_drop (List.mem_of_mem_take h)
    · exact pickN_mem h
theorem pick_ok {M R C : Nat} {l is : List Nat} (h : MxOk M R C l) (his : ∀ i ∈ is, i < R) (hl : is.length ≤ 32) : MxOk M is.length C (pickN C l is) :=
  ⟨h.f, hl, h.c, pickN_length h.n is his, fun x hx => h.e x (pickN_mem hx)⟩
theorem A_mpick {M R C : Nat} {l is : List Nat} (h : MxOk M R C l) (hC : 0 < C) (his : ∀ i ∈ is, i < R) (hl : is.length ≤ 32) : ACalls Tryd.prog 55 [mx M R C l, nats is] [] (.tup [mx M is.length C (pickN C l is), iV 0]) [] := by
  refine acalls_of_body Tryd.func55 rfl (Nat.le_of_ble_eq_true rfl) ?_
  have hr := h.r
  have hc := h.c
  have hn := h.n
  have hv := A_mvalid h
  have rowA : ∀ i, i < R → ∃ Z : List Nat, Z.length = C ∧ (l.drop (i * C)).take C = Z ∧ ACalls Tryd.prog 80 [mx M R C l, iV i] [] (nats Z) [] := fun i hi => by
    have hb1 := Nat.mul_le_mul_right C (show i + 1 ≤ R from hi)
    rw [Nat.add_mul, Nat.one_mul] at hb1
    exact ⟨(l.drop (i * C)).take C, by simp; omega, rfl, A_mrow h hi⟩
  have hB : ∀ k (hk : k < is.length), pickN C l (is.take (k + 1)) = pickN C l (is.take k) ++ (l.drop (is[k] * C)).take C := fun k hk => by
    rw [← List.take_append_getElem hk, pickN_append, pickN, pickN, List.append_nil]
  have hBl : ∀ k, (pickN C l (is.take k)).length ≤ 1024 := fun k => by
    rw [pickN_length hn _ fun i hi => his i (List.mem_of_mem_take hi)]
    exact Nat.mul_le_mul (show (is.take k).length ≤ 32 by rw [List.length_take]; omega) hc
  have hB0 : pickN C l (is.take 0) = [] := rfl
  have hBn : pickN C l (is.take is.length) = pickN C l is := by rw [List.take_length]
  generalize hBd : (fun k => pickN C l (is.take k)) = B
  have hBd : ∀ k, pickN C l (is.take k) = B k := fun k => congrFun hBd k
  simp only [hBd] at hB hBl hB0 hBn
  clear hBd
  (repeat' (first
  | (apply W.gOn; exact rfl; exact rfl)
  | (apply W.qd; (first
    | (apply (q_callC (hv)); exact rfl; exact rfl; kernel_rfl; kernel_rfl; kernel_rfl)
    | (apply q_mv; (first
    | exact Eq.refl (AV.d _)
    | exact Eq.refl (AV.osl _ _ _ _)
    | exact Eq.refl (AV.opt _ _)
    | exact Eq.refl (AV.agg _)
    | exact Eq.refl (AV.fpt _ _ _ _)
    | exact Eq.refl (AV.rpt _ _ _ _)
    | exact Eq.refl (AV.fn _ _)
    | exact Eq.refl (AV.tup _)
    | exact Eq.refl AV.top))
    | (apply q_as; (first
    | exact Eq.refl (AV.d _)
    | exact Eq.refl (AV.osl _ _ _ _)
    | exact Eq.refl (AV.opt _ _)
    | exact Eq.refl (AV.agg _)
    | exact Eq.refl (AV.fpt _ _ _ _)
    | exact Eq.refl (AV.rpt _ _ _ _)
    | exact Eq.refl (AV.fn _ _)
    | exact Eq.refl (AV.tup _)
    | exact Eq.refl AV.top))
    | (apply q_fld_optF; exact rfl; exact rfl; exact rfl)
    | (apply q_ld_box; exact rfl; exact rfl; exact rfl; exact rfl)
    | (apply q_ld_boxF; exact rfl; exact rfl; exact rfl; exact rfl)
    | (apply q_gtr; exact rfl; exact rfl)
    | (apply q_not; exact rfl)
    | (apply q_len_sl; exact rfl; exact rfl)
    | (apply q_buildF; exact rfl; exact rfl; kernel_rfl)
    | (apply (q_pickF (u := .d _)); exact rfl; exact rfl)))
  | (apply W.ed; (first
    | (apply e_boxF; exact rfl; exact rfl; exact rfl; kernel_rfl; kernel_rfl)
    | (apply e_allocF; exact rfl; exact rfl; exact rfl; kernel_rfl)))
  | (apply W.en; (apply e_st_boxF; exact rfl; exact rfl; exact rfl; exact rfl; exact rfl; exact rfl; kernel_rfl; kernel_rfl; kernel_rfl))
  | (apply AWP.seq)
  | (apply ACont_normal)
  | (apply W.region; kernel_rfl)
  | (apply Walk.nil)
  | (apply AWP.block)
  | (apply AWP.skip)
  | (refine W.cond _ rfl (fun hb => ?_) (fun hb => ?_) <;> ((try simp only [hb, Bool.not_true, Bool.not_false]) <;> (try simp only [decide_eq_true_eq, decide_eq_false_iff_not, Bool.not_eq_true', Bool.not_eq_false', Int.not_lt, Int.not_le, List.length_map, not_true_eq_false] at hb) <;> (try (exfalso; omega))))))
  refine AWP.nilBox (l' := [iV M, iV is.length, iV C, .osl 3 0 0 0]) 2 3 1 3 rfl rfl (by omega) rfl (by rw [List.length_map]; rfl) rfl rfl ?_
  refine AWP.loopW (α := Nat) (fun k => k ≤ is.length) (fun k => ⟨[(27, iV k), (26, iV is.length), (25, nats is), (2, .opt 0 0), (4, .opt 1 0), (6, .opt 2 0), (5, iV 0)], [.box [iV M, iV R, iV C, nats l], .box [iV 0, iV 0, iV 0, .d (.v (.slice none 0 0))], .box [iV M, iV is.length, iV C, .osl 3 k 0 (B k).length], .row k 1 3 ((B k).map kD)]⟩) (fun k => is.length - k) 0 (by omega) ?wk0 fun k hk => ?_
  case wk0 =>
    rw [hB0]
    exact ⟨[0, 1, 2, 3], rfl, rfl, rfl, rfl, iV_eq (by simp), rfl, rfl, rfl, rfl, rfl, trivial⟩
  by_cases hkl : k < is.length
  · have hb := hBl k
    have hs := hB k hkl
    have hi := his is[k] (List.getElem_mem _)
    obtain ⟨Z, hZ, hZ2, r1⟩ := rowA is[k] hi
    rw [hZ2] at hs
    replace hs := Lib.hid hs
    (repeat' (first
  | (apply W.gOn; exact rfl; exact rfl)
  | (apply W.qd; (first
    | (apply (q_callC (r1)); exact rfl; exact rfl; kernel_rfl; kernel_rfl; kernel_rfl)
    | (apply q_mv; (first
    | exact Eq.refl (AV.d _)
    | exact Eq.refl (AV.osl _ _ _ _)
    | exact Eq.refl (AV.opt _ _)
    | exact Eq.refl (AV.agg _)
    | exact Eq.refl (AV.fpt _ _ _ _)
    | exact Eq.refl (AV.rpt _ _ _ _)
    | exact Eq.refl (AV.fn _ _)
    | exact Eq.refl (AV.tup _)
    | exact Eq.refl AV.top))
    | (apply q_as; (first
    | exact Eq.refl (AV.d _)
    | exact Eq.refl (AV.osl _ _ _ _)
    | exact Eq.refl (AV.opt _ _)
    | exact Eq.refl (AV.agg _)
    | exact Eq.refl (AV.fpt _ _ _ _)
    | exact Eq.refl (AV.rpt _ _ _ _)
    | exact Eq.refl (AV.fn _ _)
    | exact Eq.refl (AV.tup _)
    | exact Eq.refl AV.top))
    | (apply q_fld_optF; exact rfl; exact rfl; exact rfl)
    | (apply q_ld_box; exact rfl; exact rfl; exact rfl; exact rfl)
    | (apply q_ld_boxF; exact rfl; exact rfl; exact rfl; exact rfl)
    | (apply q_lss; exact rfl; exact rfl)
    | (apply q_geq; exact rfl; exact rfl)
    | (apply q_add; exact rfl; exact rfl; omega)
    | (apply q_ld_map; exact rfl; exact rfl; exact rfl; (first | omega | (focus (simp; done))))
    | (apply q_ix_slF; exact rfl; exact rfl; exact rfl; exact rfl; (first | (with_reducible exact rfl) | exact natI_spec rfl | assumption | exact (Int.toNat_of_nonneg (by omega)).symm); (first | omega | (focus (simp only [List.length_map]; omega)) | (focus (simp; done)) | (focus (simp; omega))))
    | (apply (q_pickF (u := .d _)); exact rfl; exact rfl)))
  | (apply W.ed; (apply e_appN; exact rfl; exact rfl; exact rfl; exact rfl; exact rfl; exact rfl; exact rfl; exact rfl; (first | assumption | omega); omega))
  | (apply W.en; (apply e_st_boxF; exact rfl; exact rfl; exact rfl; exact rfl; exact rfl; exact rfl; kernel_rfl; kernel_rfl; kernel_rfl))
  | (apply AWP.seq)
  | (apply ACont_normal)
  | (apply W.region; kernel_rfl)
  | (apply W.regionD; exact rfl; kernel_rfl)
  | (apply Walk.nil)
  | (apply W.chk; kernel_rfl)
  | (apply AWP.block)
  | (apply AWP.skip)
  | (apply ABlock_normal)
  | (refine W.cond _ rfl (fun hb => ?_) (fun hb => ?_) <;> ((try simp only [hb, Bool.not_true, Bool.not_false]) <;> (try simp only [decide_eq_true_eq, decide_eq_false_iff_not, Bool.not_eq_true', Bool.not_eq_false', Int.not_lt, Int.not_le, List.length_map, not_true_eq_false] at hb) <;> (try (exfalso; omega))))))
    refine ⟨k + 1, by omega, by omega, ?_⟩
    rw [hs.out]
    exact ⟨[0, 1, 2, 3], rfl, rfl, rfl, iV_eq (by omega), rfl, rfl, rfl, rfl, rfl, rfl, trivial⟩
  · have e : is.length = k := by omega
    subst e
    (repeat' (first
  | (apply W.qd; (first
    | (apply q_as; (first
    | exact Eq.refl (AV.d _)
    | exact Eq.refl (AV.osl _ _ _ _)
    | exact Eq.refl (AV.opt _ _)
    | exact Eq.refl (AV.agg _)
    | exact Eq.refl (AV.fpt _ _ _ _)
    | exact Eq.refl (AV.rpt _ _ _ _)
    | exact Eq.refl (AV.fn _ _)
    | exact Eq.refl (AV.tup _)
    | exact Eq.refl AV.top))
    | (apply q_ld_boxF; exact rfl; exact rfl; exact rfl; exact rfl)
    | (apply q_lss; exact rfl; exact rfl)))
  | (apply W.en; (apply e_st_boxF; exact rfl; exact rfl; exact rfl; exact rfl; exact rfl; exact rfl; kernel_rfl; kernel_rfl; kernel_rfl))
  | (apply AWP.seq)
  | (apply ACont_normal)
  | (apply W.region; kernel_rfl)
  | (apply Walk.nil)
  | (apply AWP.exit)
  | (apply AWP.ret)
  | (apply ACont_exit)
  | (apply ABlock_exit)
  | (refine W.cond _ rfl (fun hb => ?_) (fun hb => ?_) <;> ((try simp only [hb, Bool.not_true, Bool.not_false]) <;> (try simp only [decide_eq_true_eq, decide_eq_false_iff_not, Bool.not_eq_true', Bool.not_eq_false', Int.not_lt, Int.not_le, List.length_map, not_true_eq_false] at hb) <;> (try (exfalso; omega))))))
    rw [hBn]
    refine Ends.cell2 rfl rfl rfl rfl ?_
    have hz := frz_row (own := [Ent.box [iV M, iV R, iV C, nats l], .box [iV M, iV is.length, iV C, .osl 3 is.length 0 (pickN C l is).length], .box [iV M, iV is.length, iV C, .osl 3 is.length 0 (pickN C l is).length], .row is.length 1 3 ((pickN C l is).map kD)]) (i := 3) rfl (by simp : (pickN C l is).length = ((pickN C l is).map kD).length)
    exact congrArg (fun z => AV.tup [AV.agg [iV M, iV is.length, iV C, z], iV 0]) hz
end Go.Proofs.YtjaipchlnnjaeaaDoor
end
