import Derived.Test.YtcljokdiblnhiaaGreatDoorMHealIsComplete5
/- Joined texts: Hl3 Hl4 Hl5 Hl6 Hl7 Hl9 Hl10 Hl11 Hl12 Hb1 Hb3 Hc1 Hc2. -/
set_option linter.unusedVariables false
set_option linter.unusedSimpArgs false
section
namespace Go.Proofs.YtcljokdiblnhiaaGreatDoor
open Go.RowKit
set_option maxHeartbeats 4000000
set_option maxRecDepth 100000
abbrev Rb := Int × Int × Int × Int × List (Nat × Nat)
def rbD (r : Rb) : List Dat := [.v (.int .i64 r.1), .v (.int .i64 r.2.1), .v (.int .i64 r.2.2.1), .v (.int .i64 r.2.2.2.1), .sl 2 (r.2.2.2.2.map tmD)]
abbrev rbs (l : List Rb) : AV := .d (.sl 5 (l.map rbD))
abbrev rbA (r : Rb) : AV := .agg ((rbD r).map .d)
def ksR : List Int → List (Int × Value)
  | [] => []
  | a :: rs => setI (ksR rs) a (.int .i64 ((rs.count a : Nat) + 1))
theorem ksR_get (rs : List Int) (c : Int) : getV (ksR rs) c (.int .i64 0) = .int .i64 (rs.count c : Nat) := by
  induction rs with
  | nil => rfl
  | cons a rs ih =>
    unfold ksR
    rw [getV_setI]
    by_cases e : c = a
    · subst e
      rw [if_pos rfl, List.count_cons_self]; rfl
    · rw [if_neg e, ih, List.count_cons_of_ne (Ne.symm e)]
def onDisk (dk : Int) (x : Rb) : Bool := decide (x.2.2.2.1 = dk)
def leftB (out : List Rb) (dk : Int) : Bool := !decide (0 ≤ idxA (onDisk dk) out)
def minF (f : Int → Nat) (x : Int) (l : List Int) : Int := l.foldl (fun m y => if f y < f m then y else m) x
def pick38 (f : Int → Nat) : List Int → Int
  | [] => -1
  | x :: l => minF f x l
def tgtN38 (inn : List Bool) (spare : List Int) (r : Int) (rs : List Int) (out : List Rb) (se ho : Int) : Int :=
  if srvB inn se = true then se else if srvB inn ho = true then ho else pick38 (fun y => rs.count (y % r)) (spare.filter (leftB out))
theorem minF_snoc (f : Int → Nat) (x y : Int) (l : List Int) : minF f x (l ++ [y]) = if f y < f (minF f x l) then y else minF f x l := by
  unfold minF
  rw [List.foldl_append]; rfl
section
variable {P : Program} {m : Nat} {env : List (Nat × AV)} {own : List Ent} {dst : Option Tmp} {ty : TypeId} {pos : String} {af : Array Edge} {gd : Option (Nat × Bool)}
theorem q_lkupN {t : TypeId} {x y : Operand} {i : Nat} {l : List (Int × Value)} {a : Int} {z : Value} {b : Int} (hb : getV l a z = .int .i64 b) (hx : lookO env x = .mp i) (hi : own[i]? = some (.mp (mpI l))) (hy : lookO env y = iV a) (ht : mapI P t = some z) :
    Quiet P m ⟨dst, .lookup t x y false, ty, pos, af, gd⟩ env own [i] (iV b) := by
  have := q_lkup (P := P) (m := m) (dst := dst) (ty := ty) (pos := pos) (af := af) (gd := gd) hx hi hy ht
  rwa [hb] at this
end
attribute [local irreducible] Quiet Eff OpOk AWPG ACont ABlock ACalls AGoto
theorem A_diskF (x : Rb) {dk : Int} : ACalls Tryz.prog 78 [rbA x, .opt 0 0] [.box [iV dk]] (bV (onDisk dk x)) [.box [iV dk]] := by
  refine acalls_of_bodyO Tryz.func78 rfl (Nat.le_of_ble_eq_true rfl) ?_
  (repeat' (first
  | (apply W.qd; (first
    | (apply q_as; (conv => lhs; whnf))|(apply yS; (iterate 3 exact rfl))|(apply yT; (iterate 4 exact rfl))
    | (apply q_eql; exact rfl; exact rfl)))|(apply W.ed; (apply yBb; (iterate 3 exact rfl); kernel_rfl; kernel_rfl))|(apply yA)|(apply yB)|(apply yC; kernel_rfl)|(apply yE)
  | (apply yJ)))
  all_goals (refine ⟨.inl rfl, [0], [_], rfl, rfl, ⟨rfl, trivial⟩, AVle.of_eq (Eq.trans (b := bV _) rfl (bV_eq ?_)), rfl⟩; unfold onDisk; rfl)
abbrev outO (ver : Nat) (out : List Rb) (dk : Int) : List Ent := [.row ver 5 84 (out.map rbD), .box [iV dk]]
theorem A_ixR {ver : Nat} {out : List Rb} {dk : Int} (hl : out.length ≤ 1000000) : ACalls Tryz.prog 133 [.osl 0 ver 0 out.length, .fn 78 [.opt 1 0]] (outO ver out dk) (iV (idxA (onDisk dk) out)) (outO ver out dk) := by
  refine acalls_of_bodyO Tryz.func133 rfl (Nat.le_of_ble_eq_true rfl) ?_
  (repeat' (first
  | (apply W.qd; (first
    | (apply q_mv; (conv => lhs; whnf))|(apply q_as; (conv => lhs; whnf))
    | (apply q_len_osl; (iterate 3 exact rfl))))|(apply yA)|(apply yB)|(apply (W.regionS 2); exact rfl; kernel_rfl)|(apply yE)
  | (apply yG)))
  refine AWP.loopW (α := Nat) (fun k => k ≤ out.length ∧ ∀ x ∈ out.take k, onDisk dk x = false) (fun k => ⟨[(8, iV k), (7, iV out.length), (0, .osl 0 ver 0 out.length), (1, .fn 78 [.opt 1 0])], outO ver out dk⟩) (fun k => out.length - k) 0 ⟨by omega, by simp⟩ ?wkA fun k hk => ?_
  case wkA => exact ⟨[0, 1], rfl, rfl, rfl, rfl, rfl, rfl, rfl, trivial⟩
  by_cases hkl : k < out.length
  · have hx := A_diskF out[k] (dk := dk)
    have hmiss : onDisk dk out[k] = false → ∀ x ∈ out.take (k + 1), onDisk dk x = false := fun hb x hx => by
      rw [List.take_succ_eq_append_getElem hkl] at hx
      rcases List.mem_append.1 hx with hx | hx
      · exact hk.2 x hx
      · rw [List.mem_singleton.1 hx]; exact hb
    cases hq : onDisk dk out[k] with
    | true =>
      have hhit := idxA_hit hkl hq hk.2
      rw [hhit]
      rw [hq] at hx
      clear hk hmiss hhit
      (repeat' (first
  | (apply W.qd; (first
    | (apply q_mv; (conv => lhs; whnf))|(apply q_as; (conv => lhs; whnf))|(apply q_lss; exact rfl; exact rfl)|(apply q_ix_osl0; (iterate 4 exact rfl); (first | (with_reducible exact rfl) | exact natI_spec rfl | assumption | exact (Int.toNat_of_nonneg (by omega)).symm); (first | omega | (focus (simp only [List.length_map]; omega)) | (focus (simp; done)) | (focus (simp; omega))))
    | (apply q_ld_rptsm; (iterate 4 exact rfl); (first | omega | (focus (simp only [List.length_map]; omega)) | (focus (simp; done)) | (focus (simp; omega))))))|(apply W.ed; (apply (e_callJ (js := [1]) (hx)); (iterate 5 exact rfl); kernel_rfl; kernel_rfl))|(apply yA)|(apply yB)|(apply yC; kernel_rfl)|(apply yE)|(apply yG)|(apply yH)|(apply yJ)|(apply yP)|(apply yN)|(apply yQ; exact rfl)
  | (refine W.cond _ rfl (fun hb => ?_) (fun hb => ?_) <;> ((try simp only [hb, zA, zB]) <;> (try simp only [zC, zD, zE, zF, zG, zH, zI, zJ] at hb) <;> (try (exfalso; omega))))))
      all_goals exact ⟨.inl rfl, [0, 1], [iV k], rfl, rfl, ⟨rfl, trivial⟩, AVle.of_eq rfl, rfl⟩
    | false =>
      have hn := hmiss hq
      rw [hq] at hx
      clear hk hmiss
      (repeat' (first
  | (apply W.qd; (first
    | (apply q_mv; (conv => lhs; whnf))|(apply q_as; (conv => lhs; whnf))|(apply q_lss; exact rfl; exact rfl)|(apply q_add; exact rfl; exact rfl; omega)|(apply q_ix_osl0; (iterate 4 exact rfl); (first | (with_reducible exact rfl) | exact natI_spec rfl | assumption | exact (Int.toNat_of_nonneg (by omega)).symm); (first | omega | (focus (simp only [List.length_map]; omega)) | (focus (simp; done)) | (focus (simp; omega))))
    | (apply q_ld_rptsm; (iterate 4 exact rfl); (first | omega | (focus (simp only [List.length_map]; omega)) | (focus (simp; done)) | (focus (simp; omega))))))|(apply W.ed; (apply (e_callJ (js := [1]) (hx)); (iterate 5 exact rfl); kernel_rfl; kernel_rfl))|(apply yA)|(apply yB)|(apply yC; kernel_rfl)|(apply yE)|(apply yG)|(apply yH)|(apply yL)|(apply yR; exact rfl)
  | (refine W.cond _ rfl (fun hb => ?_) (fun hb => ?_) <;> ((try simp only [hb, zA, zB]) <;> (try simp only [zC, zD, zE, zF, zG, zH, zI, zJ] at hb) <;> (try (exfalso; omega))))))
      all_goals exact ⟨k + 1, ⟨by omega, hn⟩, by omega, [0, 1], rfl, rfl, rfl, iV_eq (by omega), rfl, rfl, rfl, trivial⟩
  · have hm : idxA (onDisk dk) out = -1 := idxA_miss fun x hx => hk.2 x (by rwa [List.take_of_length_le (by omega)])
    rw [hm]
    (repeat' (first
  | (apply W.qd; (first
    | (apply q_as; (conv => lhs; whnf))
    | (apply q_lss; exact rfl; exact rfl)))|(apply yA)|(apply yB)|(apply yC; kernel_rfl)|(apply yE)|(apply yI)|(apply yJ)|(apply yK)|(apply yM)
  | (refine W.cond _ rfl (fun hb => ?_) (fun hb => ?_) <;> ((try simp only [hb, zA, zB]) <;> (try simp only [zC, zD, zE, zF, zG, zH, zI, zJ] at hb) <;> (try (exfalso; omega))))))
    exact ⟨.inl rfl, [0, 1], [iV (-1)], rfl, rfl, ⟨rfl, trivial⟩, AVle.of_eq rfl, rfl⟩
theorem A_hasR {ver : Nat} {out : List Rb} {dk : Int} (hl : out.length ≤ 1000000) : ACalls Tryz.prog 77 [.osl 0 ver 0 out.length, .fn 78 [.opt 1 0]] (outO ver out dk) (bV (decide (0 ≤ idxA (onDisk dk) out))) (outO ver out dk) := by
  refine acalls_of_bodyO Tryz.func77 rfl (Nat.le_of_ble_eq_true rfl) ?_
  have hi := A_ixR (ver := ver) (dk := dk) hl
  (repeat' (first
  | (apply W.qd; (first
    | (apply q_mv; (conv => lhs; whnf))|(apply q_as; (conv => lhs; whnf))
    | (apply q_geq; exact rfl; exact rfl)))|(apply W.ed; (apply (e_callJ (js := [0, 1]) (hi)); (iterate 5 exact rfl); kernel_rfl; kernel_rfl))|(apply yA)|(apply yB)|(apply yC; kernel_rfl)|(apply yE)
  | (apply yJ)))
  exact ⟨.inl rfl, [0, 1], [bV (decide (0 ≤ idxA (onDisk dk) out))], rfl, rfl, ⟨rfl, trivial⟩, AVle.of_eq rfl, rfl⟩
abbrev freO (ver : Nat) (out : List Rb) : List Ent := [.box [.osl 1 ver 0 out.length], .row ver 5 84 (out.map rbD)]
theorem A_leftF {ver : Nat} {out : List Rb} (dk : Int) (hl : out.length ≤ 1000000) : ACalls Tryz.prog 76 [iV dk, .opt 0 0] (freO ver out) (bV (leftB out dk)) (freO ver out) := by
  have hh := A_hasR (ver := ver) (dk := dk) hl
  refine acalls_of_bodyO Tryz.func76 rfl (Nat.le_of_ble_eq_true rfl) ?_
  unfold leftB
  generalize decide (0 ≤ idxA (onDisk dk) out) = b at *
  (repeat' (first
  | (apply W.qd; (first
    | (apply q_as; (conv => lhs; whnf))|(apply yT; (iterate 4 exact rfl))|(apply q_not; exact rfl)
    | (apply q_makeFunc)))
  | (apply W.ed; (first
    | (apply (e_callJ (js := [1, 2]) (hh)); (iterate 5 exact rfl); kernel_rfl; kernel_rfl)
    | (apply yBb; (iterate 3 exact rfl); kernel_rfl; kernel_rfl)))|(apply yA)|(apply yB)|(apply yC; kernel_rfl)|(apply yE)
  | (apply yJ)))
  exact ⟨.inl rfl, [0, 1], [bV (!b)], rfl, rfl, ⟨rfl, trivial⟩, AVle.of_eq rfl, rfl⟩
theorem A_filterFr {ver : Nat} {out : List Rb} {L : List Int} (hl : L.length ≤ 1000000) (ho : out.length ≤ 1000000) : ACalls Tryz.prog 75 [ints L, .fn 76 [.opt 0 0]] (freO ver out) (ints (L.filter (leftB out))) (freO ver out) := by
  refine acalls_of_bodyO Tryz.func75 rfl (Nat.le_of_ble_eq_true rfl) ?_
  have hc := fun dk => A_leftF (ver := ver) (out := out) dk ho
  have hmL : (L.map iD).length = L.length := List.length_map _
  generalize leftB out = q at *
  (repeat' (first
  | (apply W.qd; (apply q_as; (conv => lhs; whnf)))|(apply yA)|(apply yB)|(apply (W.regionS 2); exact rfl; kernel_rfl)
  | (apply yE)))
  refine AWP.nilRow 5 1 3 rfl (by omega) ?_
  (repeat' (first
  | (apply W.qd; (first
    | (apply q_mv; (conv => lhs; whnf))
    | (apply yV; exact rfl; exact rfl)))|(apply yB)|(apply (W.regionS 3); exact rfl; kernel_rfl)|(apply yE)
  | (apply yG)))
  refine AWP.loopW (α := Nat) (fun k => k ≤ L.length) (fun k => ⟨[(10, iV k), (9, iV L.length), (8, ints L), (5, .osl 2 ((L.take k).filter q).length 0 ((L.take k).filter q).length), (1, .fn 76 [.opt 0 0])], freO ver out ++ [.row ((L.take k).filter q).length 1 3 (((L.take k).filter q).map iD)]⟩) (fun k => L.length - k) 0 (Nat.zero_le _) ?wkA fun k hk => ?_
  case wkA => exact ⟨[0, 1, 2], rfl, rfl, rfl, rfl, iV_eq (by rw [hmL]), rfl, rfl, rfl, trivial⟩
  have hfl : ((L.take k).filter q).length ≤ k := Nat.le_trans (List.length_filter_le _ _) (by rw [List.length_take]; omega)
  by_cases hkl : k < L.length
  · have hx := hc L[k]
    have hst : (L.take (k + 1)).filter q = (L.take k).filter q ++ (if q L[k] = true then [L[k]] else []) := by
      rw [List.take_succ_eq_append_getElem hkl, List.filter_append]
      congr 1
      cases hq : q L[k] <;> simp [hq]
    generalize (L.take k).filter q = A at *
    cases hq : q L[k] with
    | false =>
      rw [hq] at hx hst
      rw [if_neg (by simp), List.append_nil] at hst
      (repeat' (first
  | (apply W.qd; (first
    | (apply q_mv; (conv => lhs; whnf))|(apply q_as; (conv => lhs; whnf))|(apply q_lss; exact rfl; exact rfl)|(apply q_add; exact rfl; exact rfl; omega)|(apply yX; (iterate 3 exact rfl); (first | omega | (focus (simp; done))))
    | (apply yGb; (iterate 4 exact rfl); (first | (with_reducible exact rfl) | exact natI_spec rfl | assumption | exact (Int.toNat_of_nonneg (by omega)).symm); (first | omega | (focus (simp only [List.length_map]; omega)) | (focus (simp; done)) | (focus (simp; omega))))))|(apply W.ed; (apply (e_callJ (js := [0, 1]) (hx)); (iterate 5 exact rfl); kernel_rfl; kernel_rfl))|(apply yA)|(apply yB)|(apply yC; kernel_rfl)|(apply yE)|(apply yG)|(apply yH)|(apply yL)|(apply yR; exact rfl)
  | (refine W.cond _ rfl (fun hb => ?_) (fun hb => ?_) <;> ((try simp only [hb, zA, zB]) <;> (try simp only [zC, zD, zE, zF, zG, zH, zI, zJ] at hb) <;> (try (exfalso; omega))))))
      all_goals (refine ⟨k + 1, by omega, by omega, ?_⟩; rw [hst]; exact ⟨[0, 1, 2], rfl, rfl, rfl, iV_eq (by omega), rfl, rfl, rfl, rfl, trivial⟩)
    | true =>
      rw [hq] at hx hst
      rw [if_pos rfl] at hst
      have el : (A ++ [L[k]]).length = A.length + 1 := by simp
      (repeat' (first
  | (apply W.qd; (first
    | (apply q_mv; (conv => lhs; whnf))|(apply q_as; (conv => lhs; whnf))|(apply q_lss; exact rfl; exact rfl)|(apply q_add; exact rfl; exact rfl; omega)|(apply yX; (iterate 3 exact rfl); (first | omega | (focus (simp; done))))|(apply q_litF; (iterate 5 exact rfl); kernel_rfl; kernel_rfl; exact rfl)
    | (apply yGb; (iterate 4 exact rfl); (first | (with_reducible exact rfl) | exact natI_spec rfl | assumption | exact (Int.toNat_of_nonneg (by omega)).symm); (first | omega | (focus (simp only [List.length_map]; omega)) | (focus (simp; done)) | (focus (simp; omega))))))|(apply W.ld; (apply l_app1; (iterate 8 exact rfl); (first | omega | (focus (simp; omega)) | (focus (simp; done)))))|(apply W.ed; (apply (e_callJ (js := [0, 1]) (hx)); (iterate 5 exact rfl); kernel_rfl; kernel_rfl))|(apply yA)|(apply yB)|(apply yC; kernel_rfl)|(apply yE)|(apply yG)|(apply yH)|(apply yL)|(apply yQ; exact rfl)
  | (refine W.cond _ rfl (fun hb => ?_) (fun hb => ?_) <;> ((try simp only [hb, zA, zB]) <;> (try simp only [zC, zD, zE, zF, zG, zH, zI, zJ] at hb) <;> (try (exfalso; omega))))))
      all_goals (refine ⟨k + 1, by omega, by omega, ?_⟩; rw [hst, el]; exact ⟨[0, 1, 2], rfl, rfl, rfl, iV_eq (by omega), rfl, rfl, congrArg (AV.osl 2 (A.length + 1) 0) (by simp), rfl, trivial⟩)
  · obtain rfl : k = L.length := by omega
    rw [List.take_length] at *
    generalize L.filter q = A at *
    (repeat' (first
  | (apply W.qd; (first
    | (apply q_mv; (conv => lhs; whnf))|(apply q_as; (conv => lhs; whnf))
    | (apply q_lss; exact rfl; exact rfl)))|(apply yA)|(apply yB)|(apply yC; kernel_rfl)|(apply yE)|(apply yI)|(apply yJ)|(apply yK)|(apply yM)
  | (refine W.cond _ rfl (fun hb => ?_) (fun hb => ?_) <;> ((try simp only [hb, zA, zB]) <;> (try simp only [zC, zD, zE, zF, zG, zH, zI, zJ] at hb) <;> (try (exfalso; omega))))))
    exact ⟨.inl rfl, [0, 1], [.osl 2 A.length 0 A.length], rfl, rfl, ⟨rfl, trivial⟩, AVle.of_eq (frz_rowJ rfl rfl (by simp)), rfl⟩
abbrev crwO (d r n s l i : Int) (rs : List Int) : List Ent := [.box [.mp 2], .box [iV d, iV r, iV n, iV s, iV l, iV i], .mp (mpI (ksR rs))]
theorem A_crowdF {d r n s l i : Int} {rs : List Int} {a b : Int} (hr : 1 ≤ r) (ha : 0 ≤ a) (hb : 0 ≤ b) : ACalls Tryz.prog 80 [iV a, iV b, .opt 0 0, .opt 1 0] (crwO d r n s l i rs) (iV (cmpI (rs.count (a % r) : Nat) (rs.count (b % r) : Nat))) (crwO d r n s l i rs) := by
  have hc := A_cmp (rs.count (a % r) : Nat) (rs.count (b % r) : Nat)
  have hk := ksR_get rs
  have hk1 := hk (a % r)
  have hk2 := hk (b % r)
  generalize ((rs.count (a % r) : Nat) : Int) = c1 at *
  generalize ((rs.count (b % r) : Nat) : Int) = c2 at *
  refine acalls_of_bodyO Tryz.func80 rfl (Nat.le_of_ble_eq_true rfl) ?_
  (repeat' (first
  | (apply W.qd; (first
    | (apply (yW (hc)); exact rfl; exact rfl; (iterate 3 kernel_rfl))
    | ((apply (q_lkupN hk1); (iterate 4 exact rfl)))
    | ((apply (q_lkupN hk2); (iterate 4 exact rfl)))|(apply q_mv; (conv => lhs; whnf))|(apply q_as; (conv => lhs; whnf))|(apply yS; (iterate 3 exact rfl))|(apply yT; (iterate 4 exact rfl))
    | (apply q_rem; exact rfl; exact rfl; omega; omega)))|(apply yA)|(apply yB)|(apply yC; kernel_rfl)|(apply yD; exact rfl; kernel_rfl)|(apply yE)|(apply yF; kernel_rfl)
  | (apply yJ)))
  exact ⟨.inl rfl, [0, 1, 2], [iV (cmpI c1 c2)], rfl, rfl, ⟨rfl, trivial⟩, AVle.of_eq rfl, rfl⟩
theorem minF_mem (f : Int → Nat) : ∀ (l : List Int) (x : Int), minF f x l ∈ x :: l
  | [], x => by simp [minF]
  | y :: l, x => by
    have h := minF_mem f l (if f y < f x then y else x)
    have e : minF f x (y :: l) = minF f (if f y < f x then y else x) l := rfl
    rw [e]
    rcases List.mem_cons.1 h with h | h
    · rw [h]; split <;> simp
    · simp [h]
theorem A_minF {d r n s l i : Int} {rs : List Int} {x : Int} {L : List Int} (hr : 1 ≤ r) (h0 : ∀ y ∈ x :: L, 0 ≤ y) (hl : L.length ≤ 1000000) : ACalls Tryz.prog 79 [ints (x :: L), .fn 80 [.opt 0 0, .opt 1 0]] (crwO d r n s l i rs) (iV (minF (fun y => rs.count (y % r)) x L)) (crwO d r n s l i rs) := by
  refine acalls_of_bodyO Tryz.func79 rfl (Nat.le_of_ble_eq_true rfl) ?_
  have hml : ((x :: L).map iD).length = L.length + 1 := by simp
  have hml2 : (x :: L).length = L.length + 1 := rfl
  have hsn := fun y l => minF_snoc (fun y => rs.count (y % r)) x y l
  have hmm := fun l => minF_mem (fun y => rs.count (y % r)) l x
  have hcl := fun a b => A_crowdF (d := d) (n := n) (s := s) (l := l) (i := i) (rs := rs) (a := a) (b := b) hr
  generalize hF : minF (fun y => rs.count (y % r)) x = F at *
  have hF0 : F [] = x := by rw [← hF]; rfl
  (repeat' (first
  | (apply W.qd; (first
    | (apply q_mv; (conv => lhs; whnf))|(apply q_as; (conv => lhs; whnf))|(apply q_lss; exact rfl; exact rfl)|(apply yV; exact rfl; exact rfl)|(apply yX; (iterate 3 exact rfl); (first | omega | (focus (simp; done))))
    | (apply yGb; (iterate 4 exact rfl); (first | (with_reducible exact rfl) | exact natI_spec rfl | assumption | exact (Int.toNat_of_nonneg (by omega)).symm); (first | omega | (focus (simp only [List.length_map]; omega)) | (focus (simp; done)) | (focus (simp; omega))))))|(apply yA)|(apply yB)|(apply (W.regionS 5); exact rfl; kernel_rfl)|(apply yE)|(apply yG)|(apply yH)
  | (apply yR; exact rfl)))
  all_goals try (exfalso; omega)
  refine AWP.loopW (α := Nat) (fun k => k ≤ L.length) (fun k => ⟨[(6, iV (k + 1 : Nat)), (5, iV (F (L.take k))), (0, ints (x :: L)), (1, .fn 80 [.opt 0 0, .opt 1 0])], crwO d r n s l i rs⟩) (fun k => L.length - k) 0 (Nat.zero_le _) ?wkA fun k hk => ?_
  case wkA => exact ⟨[0, 1, 2], rfl, rfl, rfl, rfl, Eq.trans (congrArg (fun z : Int => iV z) (show F (L.take 0) = x by rw [List.take_zero, hF0])) rfl, rfl, rfl, trivial⟩
  by_cases hkl : k < L.length
  · have h1 := h0 L[k] (by simp)
    have h2 : 0 ≤ F (L.take k) := h0 _ (by
      rcases List.mem_cons.1 (hmm (L.take k)) with h | h
      · rw [h]; simp
      · exact List.mem_cons_of_mem _ (List.mem_of_mem_take h))
    have hst : F (L.take (k + 1)) = if rs.count (L[k] % r) < rs.count (F (L.take k) % r) then L[k] else F (L.take k) := by
      rw [List.take_succ_eq_append_getElem hkl, hsn]
    have hx := hcl L[k] (F (L.take k)) h1 h2
    have hge : (x :: L)[k + 1]'(by simp; omega) = L[k] := rfl
    generalize F (L.take k) = M at *
    clear hsn hmm hcl hF hF0 h0
    by_cases hlt : rs.count (L[k] % r) < rs.count (M % r)
    · rw [if_pos hlt] at hst
      have hcm : cmpI (rs.count (L[k] % r) : Nat) (rs.count (M % r) : Nat) = -1 := by unfold cmpI; rw [if_pos (by omega)]
      rw [hcm] at hx
      (repeat' (first
  | (apply W.qd; (first
    | (apply q_mv; (conv => lhs; whnf))|(apply q_as; (conv => lhs; whnf))|(apply q_lss; exact rfl; exact rfl)|(apply q_add; exact rfl; exact rfl; omega)|(apply yV; exact rfl; exact rfl)|(apply yX; (iterate 3 exact rfl); (first | omega | (focus (simp; done))))
    | (apply yGb; (iterate 4 exact rfl); (first | (with_reducible exact rfl) | exact natI_spec rfl | assumption | exact (Int.toNat_of_nonneg (by omega)).symm); (first | omega | (focus (simp only [List.length_map]; omega)) | (focus (simp; done)) | (focus (simp; omega))))))|(apply W.ed; (apply (e_callJ (js := [0, 1, 2]) (hx)); (iterate 5 exact rfl); kernel_rfl; kernel_rfl))|(apply yA)|(apply yB)|(apply yC; kernel_rfl)|(apply yE)|(apply yG)|(apply yH)|(apply yL)|(apply yQ; exact rfl)
  | (refine W.cond _ rfl (fun hb => ?_) (fun hb => ?_) <;> ((try simp only [hb, zA, zB]) <;> (try simp only [zC, zD, zE, zF, zG, zH, zI, zJ] at hb) <;> (try (exfalso; omega))))))
      all_goals first
        | (exfalso; omega)|(refine ⟨k + 1, by omega, by omega, ?_⟩; rw [hst]; exact ⟨[0, 1, 2], rfl, rfl, rfl, iV_eq (by omega), rfl, rfl, rfl, trivial⟩)
    · rw [if_neg hlt] at hst
      have hcm : ¬ (cmpI (rs.count (L[k] % r) : Nat) (rs.count (M % r) : Nat) < 0) := by
        unfold cmpI; rw [if_neg (by omega)]; split <;> omega
      generalize cmpI (rs.count (L[k] % r) : Nat) (rs.count (M % r) : Nat) = cc at *
      (repeat' (first
  | (apply W.qd; (first
    | (apply q_mv; (conv => lhs; whnf))|(apply q_as; (conv => lhs; whnf))|(apply q_lss; exact rfl; exact rfl)|(apply q_add; exact rfl; exact rfl; omega)|(apply yV; exact rfl; exact rfl)|(apply yX; (iterate 3 exact rfl); (first | omega | (focus (simp; done))))
    | (apply yGb; (iterate 4 exact rfl); (first | (with_reducible exact rfl) | exact natI_spec rfl | assumption | exact (Int.toNat_of_nonneg (by omega)).symm); (first | omega | (focus (simp only [List.length_map]; omega)) | (focus (simp; done)) | (focus (simp; omega))))))|(apply W.ed; (apply (e_callJ (js := [0, 1, 2]) (hx)); (iterate 5 exact rfl); kernel_rfl; kernel_rfl))|(apply yA)|(apply yB)|(apply yC; kernel_rfl)|(apply yE)|(apply yG)|(apply yH)|(apply yL)
  | (refine W.cond _ rfl (fun hb => ?_) (fun hb => ?_) <;> ((try simp only [hb, zA, zB]) <;> (try simp only [zC, zD, zE, zF, zG, zH, zI, zJ] at hb) <;> (try (exfalso; omega))))))
      all_goals first
        | (exfalso; omega)|(refine ⟨k + 1, by omega, by omega, ?_⟩; rw [hst]; exact ⟨[0, 1, 2], rfl, rfl, rfl, iV_eq (by omega), rfl, rfl, rfl, trivial⟩)
  · obtain rfl : k = L.length := by omega
    rw [List.take_length] at *
    (repeat' (first
  | (apply W.qd; (first
    | (apply q_mv; (conv => lhs; whnf))|(apply q_as; (conv => lhs; whnf))|(apply q_lss; exact rfl; exact rfl)
    | (apply yV; exact rfl; exact rfl)))|(apply yA)|(apply yB)|(apply yC; kernel_rfl)|(apply yE)|(apply yI)|(apply yJ)|(apply yK)|(apply yM)
  | (refine W.cond _ rfl (fun hb => ?_) (fun hb => ?_) <;> ((try simp only [hb, zA, zB]) <;> (try simp only [zC, zD, zE, zF, zG, zH, zI, zJ] at hb) <;> (try (exfalso; omega))))))
    all_goals first
      | (exfalso; omega)
      | exact ⟨.inl rfl, [0, 1, 2], [iV (F L)], rfl, rfl, ⟨rfl, trivial⟩, AVle.of_eq rfl, rfl⟩
end Go.Proofs.YtcljokdiblnhiaaGreatDoor
end
section
namespace Go.Proofs.YtcljokdiblnhiaaGreatDoor
open Go.RowKit
set_option maxHeartbeats 8000000
set_option maxRecDepth 100000
def grStep (st se : List Int) (d r : Int) (rs : List Int) (k : Nat) : List Int := if st.getD k 0 = 1 ∧ 0 ≤ se.getD k 0 ∧ se.getD k 0 < d then (se.getD k 0 % r) :: rs else rs
def grTo (st se : List Int) (d r : Int) (k : Nat) : List Int := (List.range k).foldl (grStep st se d r) []
theorem grTo_succ (st se : List Int) (d r : Int) (k : Nat) : grTo st se d r (k + 1) = grStep st se d r (grTo st se d r k) k := by
  unfold grTo; rw [List.range_succ, List.foldl_append]; rfl
theorem grTo_len (st se : List Int) (d r : Int) : ∀ k, (grTo st se d r k).length ≤ k
  | 0 => by simp [grTo]
  | k + 1 => by
    have := grTo_len st se d r k
    rw [grTo_succ]
    unfold grStep
    split
    · rw [List.length_cons]; omega
    · omega
structure PlCx where
  pl : Nat → Option (List (Nat × Nat))
  hv : List Bool
  inn : List Bool
  sp : List Int
  d : Int
  r : Int
  se : List Int
  ho : List Int
  a : Int
  g : Int
def PlCx.tgt (c : PlCx) (s : List Int × List Rb) (u : Nat) : Int := tgtN38 c.inn c.sp c.r s.1 s.2 (c.se.getD u 0) (c.ho.getD u 0)
def psStep (c : PlCx) (s : List Int × List Rb) (u : Nat) : List Int × List Rb :=
  if c.hv.getD u false = true then s else match c.pl u with
    | none => s
    | some l => if 0 ≤ c.tgt s u then (if c.tgt s u < c.d then (c.tgt s u % c.r) :: s.1 else s.1, s.2 ++ [(c.a, c.g, (u : Int), c.tgt s u, l)]) else s
def psTo (c : PlCx) (rs : List Int) (k : Nat) : List Int × List Rb := (List.range k).foldl (psStep c) (rs, [])
theorem psTo_succ (c : PlCx) (rs : List Int) (k : Nat) : psTo c rs (k + 1) = psStep c (psTo c rs k) k := by
  unfold psTo; rw [List.range_succ, List.foldl_append]; rfl
theorem psTo_len (c : PlCx) (rs : List Int) : ∀ k, (psTo c rs k).1.length ≤ rs.length + k ∧ (psTo c rs k).2.length ≤ k
  | 0 => by simp [psTo]
  | k + 1 => by
    have := psTo_len c rs k
    rw [psTo_succ]
    unfold psStep
    split
    · omega
    · split
      · omega
      · split
        · refine ⟨?_, by rw [List.length_append, List.length_singleton]; omega⟩
          dsimp only
          split
          · rw [List.length_cons]; omega
          · omega
        · omega
abbrev tgO (d r n s l i : Int) (se ho : List Int) (inn : List Bool) (sp : List Int) (rs : List Int) (ver : Nat) (out : List Rb) : List Ent :=
  [.box [ints se], .box [ints ho], .box [bools inn], .box [ints sp], .box [.osl 7 ver 0 out.length], .box [.mp 8], .box [iV d, iV r, iV n, iV s, iV l, iV i], .row ver 5 84 (out.map rbD), .mp (mpI (ksR rs))]
attribute [local irreducible] Quiet Eff OpOk AWPG ACont ABlock ACalls AGoto
theorem A_target38 {d r n s l i : Int} {se ho : List Int} {inn : List Bool} {sp rs : List Int} {ver : Nat} {out : List Rb} {u : Nat} (hr : 1 ≤ r) (hsp : ∀ y ∈ sp, 0 ≤ y) (hspl : sp.length ≤ 1000) (hol : out.length ≤ 1000) (hu1 : u < se.length) (hu2 : u < ho.length) :
    ACalls Tryz.prog 73 [iV u, .opt 0 0, .opt 1 0, .opt 2 0, .opt 3 0, .opt 4 0, .opt 5 0, .opt 6 0] (tgO d r n s l i se ho inn sp rs ver out) (iV (tgtN38 inn sp r rs out se[u] ho[u])) (tgO d r n s l i se ho inn sp rs ver out) := by
  refine acalls_of_bodyO Tryz.func73 rfl (Nat.le_of_ble_eq_true rfl) ?_
  have h1 := A_serves (inn := inn) (d := se[u])
  have h2 := A_serves (inn := inn) (d := ho[u])
  have hf := A_filterFr (ver := ver) (out := out) (L := sp) (by omega) (by omega)
  have hmm : ∀ x L, sp.filter (leftB out) = x :: L → ACalls Tryz.prog 79 [ints (x :: L), .fn 80 [.opt 0 0, .opt 1 0]] (crwO d r n s l i rs) (iV (minF (fun y => rs.count (y % r)) x L)) (crwO d r n s l i rs) := fun x L h => by
    refine A_minF hr (fun y hy => ?_) ?_
    · rw [← h] at hy
      exact hsp y (List.mem_filter.1 hy).1
    · have h3 := List.length_filter_le (leftB out) sp
      rw [h, List.length_cons] at h3
      omega
  unfold tgtN38
  generalize hA : se[u] = A at *
  generalize hB : ho[u] = B at *
  (repeat' (first
  | (apply W.qd; (first
    | (apply q_mv; (conv => lhs; whnf))|(apply q_as; (conv => lhs; whnf))|(apply yT; (iterate 4 exact rfl))|(apply yV; exact rfl; exact rfl)|(apply yX; (iterate 3 exact rfl); (first | omega | (focus (simp; done))))|(apply q_litF; (iterate 5 exact rfl); kernel_rfl; kernel_rfl; exact rfl)
    | (apply yGb; (iterate 4 exact rfl); (first | (with_reducible exact rfl) | exact natI_spec rfl | assumption | exact (Int.toNat_of_nonneg (by omega)).symm); (first | omega | (focus (simp only [List.length_map]; omega)) | (focus (simp; done)) | (focus (simp; omega))))))|(apply yA)|(apply yB)|(apply (W.regionS 2); exact rfl; kernel_rfl)|(apply (W.regionDS 2); exact rfl; exact rfl; kernel_rfl)|(apply yE)|(apply yF; kernel_rfl)
  | (apply yG)))
  refine AWP.loopW (α := Nat) (fun k => k ≤ 2 ∧ (0 < k → srvB inn A = false) ∧ (1 < k → srvB inn B = false)) (fun k => ⟨[(23, iV k), (22, iV 2), (21, ints [A, B]), (3, .opt 2 0), (4, .opt 3 0), (5, .opt 4 0), (6, .opt 5 0), (7, .opt 6 0)], tgO d r n s l i se ho inn sp rs ver out⟩) (fun k => 2 - k) 0 ⟨by omega, fun h => by omega, fun h => by omega⟩ ?wkA fun k hk => ?_
  case wkA => subst hA hB; exact ⟨[0, 1, 2, 3, 4, 5, 6, 7, 8], rfl, rfl, rfl, by (repeat (first | exact trivial | refine ⟨rfl, ?_⟩))⟩
  obtain ⟨hk0, hk1, hk2⟩ := hk
  have hkc : k = 0 ∨ k = 1 ∨ k = 2 := by omega
  rcases hkc with rfl | rfl | rfl
  · clear hmm hf h2 hk1 hk2
    cases hq : srvB inn A with
    | true =>
      rw [hq] at h1
      rw [if_pos rfl]
      (repeat' (first
  | (apply W.qd; (first
    | (apply (yW (h1)); exact rfl; exact rfl; (iterate 3 kernel_rfl))|(apply q_mv; (conv => lhs; whnf))|(apply q_as; (conv => lhs; whnf))|(apply yT; (iterate 4 exact rfl))|(apply q_lss; exact rfl; exact rfl)|(apply yX; (iterate 3 exact rfl); (first | omega | (focus (simp; done))))
    | (apply yGb; (iterate 4 exact rfl); (first | (with_reducible exact rfl) | exact natI_spec rfl | assumption | exact (Int.toNat_of_nonneg (by omega)).symm); (first | omega | (focus (simp only [List.length_map]; omega)) | (focus (simp; done)) | (focus (simp; omega))))))|(apply yA)|(apply yB)|(apply yC; kernel_rfl)|(apply yE)|(apply yG)|(apply yH)|(apply yJ)|(apply yP)|(apply yN)
  | (apply yQ; exact rfl)))
      all_goals exact ⟨.inl rfl, [0, 1, 2, 3, 4, 5, 6, 7, 8], [iV A], rfl, rfl, ⟨rfl, trivial⟩, AVle.of_eq rfl, rfl⟩
    | false =>
      rw [hq] at h1
      (repeat' (first
  | (apply W.qd; (first
    | (apply (yW (h1)); exact rfl; exact rfl; (iterate 3 kernel_rfl))|(apply q_mv; (conv => lhs; whnf))|(apply q_as; (conv => lhs; whnf))|(apply yT; (iterate 4 exact rfl))|(apply q_lss; exact rfl; exact rfl)|(apply q_add; exact rfl; exact rfl; omega)|(apply yX; (iterate 3 exact rfl); (first | omega | (focus (simp; done))))
    | (apply yGb; (iterate 4 exact rfl); (first | (with_reducible exact rfl) | exact natI_spec rfl | assumption | exact (Int.toNat_of_nonneg (by omega)).symm); (first | omega | (focus (simp only [List.length_map]; omega)) | (focus (simp; done)) | (focus (simp; omega))))))|(apply yA)|(apply yB)|(apply yC; kernel_rfl)|(apply yE)|(apply yG)|(apply yH)|(apply yL)|(apply yQ; exact rfl)
  | (apply yR; exact rfl)))
      all_goals exact ⟨1, ⟨by omega, fun _ => by first | exact hq | rfl, fun h => by omega⟩, by omega, [0, 1, 2, 3, 4, 5, 6, 7, 8], rfl, rfl, rfl, iV_eq (by omega), rfl, rfl, rfl, rfl, rfl, rfl, rfl, trivial⟩
  · have hq1 := hk1 (by omega)
    rw [hq1, if_neg (by simp)]
    clear hmm hf h1 hk1 hk2
    cases hq : srvB inn B with
    | true =>
      rw [hq] at h2
      rw [if_pos rfl]
      (repeat' (first
  | (apply W.qd; (first
    | (apply (yW (h2)); exact rfl; exact rfl; (iterate 3 kernel_rfl))|(apply q_mv; (conv => lhs; whnf))|(apply q_as; (conv => lhs; whnf))|(apply yT; (iterate 4 exact rfl))|(apply q_lss; exact rfl; exact rfl)|(apply yX; (iterate 3 exact rfl); (first | omega | (focus (simp; done))))
    | (apply yGb; (iterate 4 exact rfl); (first | (with_reducible exact rfl) | exact natI_spec rfl | assumption | exact (Int.toNat_of_nonneg (by omega)).symm); (first | omega | (focus (simp only [List.length_map]; omega)) | (focus (simp; done)) | (focus (simp; omega))))))|(apply yA)|(apply yB)|(apply yC; kernel_rfl)|(apply yE)|(apply yG)|(apply yH)|(apply yJ)|(apply yP)|(apply yN)
  | (apply yQ; exact rfl)))
      all_goals exact ⟨.inl rfl, [0, 1, 2, 3, 4, 5, 6, 7, 8], [iV B], rfl, rfl, ⟨rfl, trivial⟩, AVle.of_eq rfl, rfl⟩
    | false =>
      rw [hq] at h2
      (repeat' (first
  | (apply W.qd; (first
    | (apply (yW (h2)); exact rfl; exact rfl; (iterate 3 kernel_rfl))|(apply q_mv; (conv => lhs; whnf))|(apply q_as; (conv => lhs; whnf))|(apply yT; (iterate 4 exact rfl))|(apply q_lss; exact rfl; exact rfl)|(apply q_add; exact rfl; exact rfl; omega)|(apply yX; (iterate 3 exact rfl); (first | omega | (focus (simp; done))))
    | (apply yGb; (iterate 4 exact rfl); (first | (with_reducible exact rfl) | exact natI_spec rfl | assumption | exact (Int.toNat_of_nonneg (by omega)).symm); (first | omega | (focus (simp only [List.length_map]; omega)) | (focus (simp; done)) | (focus (simp; omega))))))|(apply yA)|(apply yB)|(apply yC; kernel_rfl)|(apply yE)|(apply yG)|(apply yH)|(apply yL)|(apply yQ; exact rfl)
  | (apply yR; exact rfl)))
      all_goals exact ⟨2, ⟨by omega, fun _ => by first | exact hq1 | rfl, fun _ => by first | exact hq | rfl⟩, by omega, [0, 1, 2, 3, 4, 5, 6, 7, 8], rfl, rfl, rfl, iV_eq (by omega), rfl, rfl, rfl, rfl, rfl, rfl, rfl, trivial⟩
  · have hq1 := hk1 (by omega)
    have hq2 := hk2 (by omega)
    rw [hq1, hq2, if_neg (by simp), if_neg (by simp)]
    clear hk1 hk2 h1 h2
    cases hfl : sp.filter (leftB out) with
    | nil =>
      rw [hfl] at hf
      (repeat' (first
  | (apply W.qd; (first
    | (apply q_mv; (conv => lhs; whnf))|(apply q_as; (conv => lhs; whnf))|(apply yT; (iterate 4 exact rfl))|(apply q_lss; exact rfl; exact rfl)|(apply q_eql; exact rfl; exact rfl)|(apply yV; exact rfl; exact rfl)
    | (apply q_makeFunc)))|(apply W.ed; (apply (e_callJ (js := [4, 7]) (hf)); (iterate 5 exact rfl); kernel_rfl; kernel_rfl))|(apply yA)|(apply yB)|(apply yC; kernel_rfl)|(apply yE)|(apply yI)|(apply yJ)|(apply yK)|(apply yP)|(apply yM)|(apply yQ; exact rfl)
  | (apply yR; exact rfl)))
      all_goals first
        | (exfalso; omega)
        | exact ⟨.inl rfl, [0, 1, 2, 3, 4, 5, 6, 7, 8], [iV (-1)], rfl, rfl, ⟨rfl, trivial⟩, AVle.of_eq rfl, rfl⟩
    | cons x L =>
      have hmx := hmm x L hfl
      rw [hfl] at hf
      have hml : ((x :: L).map iD).length = L.length + 1 := by simp
      have hml2 : (x :: L).length = L.length + 1 := rfl
      unfold pick38
      dsimp only
      generalize minF (fun y => rs.count (y % r)) x L = V at *
      (repeat' (first
  | (apply W.qd; (first
    | (apply q_mv; (conv => lhs; whnf))|(apply q_as; (conv => lhs; whnf))|(apply yT; (iterate 4 exact rfl))|(apply q_lss; exact rfl; exact rfl)|(apply q_eql; exact rfl; exact rfl)|(apply yV; exact rfl; exact rfl)
    | (apply q_makeFunc)))
  | (apply W.ed; (first
    | (apply (e_callJ (js := [4, 7]) (hf)); (iterate 5 exact rfl); kernel_rfl; kernel_rfl)
    | (apply (e_callJ (js := [5, 6, 8]) (hmx)); (iterate 5 exact rfl); kernel_rfl; kernel_rfl)))|(apply yA)|(apply yB)|(apply yC; kernel_rfl)|(apply yE)|(apply yH)|(apply yI)|(apply yJ)|(apply yK)|(apply yM)
  | (apply yR; exact rfl)))
      all_goals first
        | (exfalso; omega)
        | exact ⟨.inl rfl, [0, 1, 2, 3, 4, 5, 6, 7, 8], [iV V], rfl, rfl, ⟨rfl, trivial⟩, AVle.of_eq rfl, rfl⟩
end Go.Proofs.YtcljokdiblnhiaaGreatDoor
end
section
namespace Go.Proofs.YtcljokdiblnhiaaGreatDoor
open Go.RowKit
set_option maxHeartbeats 8000000
set_option maxRecDepth 100000
def goodB (st : List Int) : List Bool := st.map fun x => decide (x = 1)
def fillB (L : List Bool) (p : Nat) : List Bool := L.take p ++ List.replicate (L.length - p) false
theorem fillB_zero (L : List Bool) : fillB L 0 = List.replicate L.length false := by unfold fillB; simp
theorem fillB_all (L : List Bool) : fillB L L.length = L := by unfold fillB; simp
theorem fillB_len {L : List Bool} {p : Nat} (h : p ≤ L.length) : (fillB L p).length = L.length := by unfold fillB; simp; omega
theorem fillB_set {L : List Bool} {p : Nat} (h : p < L.length) : (fillB L p).set p L[p] = fillB L (p + 1) := by
  unfold fillB
  have h1 : (L.take p).length = p := by rw [List.length_take]; omega
  rw [List.set_append_right _ _ (by rw [h1]; omega), h1, Nat.sub_self, show L.length - p = (L.length - (p + 1)) + 1 by omega, List.replicate_succ, List.set_cons_zero, List.take_succ_eq_append_getElem h, List.append_assoc]
  rfl
def plCx (M D : Nat) (ps : List (List Nat)) (d r n s l i a g : Int) (mv : List Se) (st : List Int) (inn : List Bool) : PlCx :=
  { pl := planN M D ps (goodB st), hv := goodB st, inn := inn, sp := spareN (sprI d r n s l i a (D + ps.length : Nat)) mv inn a, d := d, r := r, se := seatsN (plcI d r n s l i a (D + ps.length : Nat) g) mv a g, ho := plcI d r n s l i a (D + ps.length : Nat) g, a := a, g := g }
def planH (c : PlCx) (st : List Int) (k : Nat) : List Rb := (psTo c (grTo st c.se c.d c.r st.length) k).2
theorem plc_ok {d r n s l i a w g : Int} (h : plcI d r n s l i a w g ≠ []) : OkL d r n s l i w ∧ (0 ≤ a ∧ a < n) ∧ (0 ≤ g ∧ g < grpI d r n s l i w) ∧ ((plcI d r n s l i a w g).length : Int) = w := by
  have h0 : 0 ≤ g ∧ g < grpI d r n s l i w := by
    unfold plcI at h
    split at h
    · assumption
    · exact absurd rfl h
  have hne : (ordI d r n s l i a).length ≠ 0 := fun e => by
    have e2 := List.eq_nil_of_length_eq_zero e
    unfold plcI at h
    rw [if_pos h0, e2] at h
    simp at h
  have hok := grpI_pos h0.1 h0.2
  have hrow : 0 ≤ a ∧ a < n := by
    rcases Classical.em (OkC d r n s l i ∧ 0 ≤ a ∧ a < n) with h1 | h1
    · exact h1.2
    · rw [ordI_no h1] at hne; exact absurd rfl hne
  have hb := plc_bd hne h0.1 h0.2
  refine ⟨hok, hrow, h0, ?_⟩
  unfold plcI
  rw [if_pos h0, List.length_take, List.length_drop]
  omega
theorem ordI_nn {d r n s l i a y : Int} (h : y ∈ ordI d r n s l i a) : 0 ≤ y := by
  unfold ordI at h
  split at h
  · unfold I at h
    obtain ⟨x, _, rfl⟩ := List.mem_map.1 h
    omega
  · simp at h
theorem spare_nn {d r n s l i a w y : Int} {mv : List Se} {inn : List Bool} (h : y ∈ spareN (sprI d r n s l i a w) mv inn a) : 0 ≤ y := by
  unfold spareN at h
  have h1 := (List.mem_filter.1 h).1
  unfold sprI at h1
  split at h1
  · exact ordI_nn (List.mem_of_mem_drop h1)
  · simp at h1
theorem spare_len (d r n s l i a w : Int) (mv : List Se) (inn : List Bool) : (spareN (sprI d r n s l i a w) mv inn a).length ≤ 64 := by
  unfold spareN
  exact Nat.le_trans (List.length_filter_le _ _) (sprI_len _ _ _ _ _ _ _ _)
attribute [local irreducible] Quiet Eff OpOk AWPG ACont ABlock ACalls AGoto
theorem A_hplan_bad {d r n s l i a g M D : Int} {par : List (List Int)} {mv : List Se} {st : List Int} {inn : List Bool} (hp : CodeIn par) (h : ¬ (validC M D par = true ∧ plcI d r n s l i a (D + (par.length : Int)) g ≠ [] ∧ (st.length : Int) = D + (par.length : Int))) :
    ACalls Tryz.prog 33 [cfgA d r n s l i, cdA M D par, .agg [iV a, iV g], ses mv, ints st, bools inn] [] (.tup [rbs [], iV 1]) [] := by
  have hw := A_ewidth (M := M) (D := D) hp
  have hms : (st.map iD).length = st.length := List.length_map _
  refine acalls_of_body Tryz.func33 rfl (Nat.le_of_ble_eq_true rfl) ?_
  cases hV : validC M D par with
  | false =>
    rw [hV, if_neg (by simp)] at hw
    have hpl := A_lplace d r n s l i a 0 g
    have hle := plcI_len d r n s l i a 0 g
    generalize plcI d r n s l i a 0 g = L at *
    (repeat' (first
  | (apply W.qd; (first
    | (apply (yW (hw)); exact rfl; exact rfl; (iterate 3 kernel_rfl))|(apply (yW (hpl)); exact rfl; exact rfl; (iterate 3 kernel_rfl))|(apply q_mv; (conv => lhs; whnf))|(apply q_as; (conv => lhs; whnf))|(apply yS; (iterate 3 exact rfl))|(apply yT; (iterate 4 exact rfl))|(apply yU; (iterate 4 exact rfl))|(apply q_eql; exact rfl; exact rfl)
    | (apply (yEb (u := .d _)); exact rfl; exact rfl)))
  | (apply W.ed; (first
    | (apply yBb; (iterate 3 exact rfl); kernel_rfl; kernel_rfl)
    | (apply yCb; (iterate 3 exact rfl); kernel_rfl)))|(apply W.ln; (apply l_st_box; (iterate 6 exact rfl); (iterate 3 kernel_rfl)))|(refine W.gOff _ _ rfl rfl (by intro h; cases h) ?_)|(apply yA)|(apply yB)|(apply (W.regionS 5); exact rfl; kernel_rfl)|(apply yE)|(apply yJ)|(apply yP)
  | (apply yQ; exact rfl)))
    all_goals first
      | (exfalso; omega)
      | exact ⟨.inl rfl, [], [.d (.v (.slice none 0 0)), iV 1], rfl, ⟨rfl, rfl, trivial⟩, AVle.tup2 (AVle.nil 5) (AVle.of_eq rfl), rfl⟩
  | true =>
    rw [hV, if_pos rfl] at hw
    have hpl := A_lplace d r n s l i a (D + (par.length : Int)) g
    have hle := plcI_len d r n s l i a (D + (par.length : Int)) g
    have h2 : (plcI d r n s l i a (D + (par.length : Int)) g).length = 0 ∨ (st.length : Int) ≠ D + (par.length : Int) := by
      rcases Nat.eq_zero_or_pos (plcI d r n s l i a (D + (par.length : Int)) g).length with h3 | h3
      · exact .inl h3
      · refine .inr fun h4 => h ⟨hV, fun h5 => ?_, h4⟩
        rw [h5] at h3; simp at h3
    generalize plcI d r n s l i a (D + (par.length : Int)) g = L at *
    generalize D + (par.length : Int) = wN at *
    clear h
    (repeat' (first
  | (apply yFb; exact rfl; exact rfl)
  | (apply W.qd; (first
    | (apply (yW (hw)); exact rfl; exact rfl; (iterate 3 kernel_rfl))|(apply (yW (hpl)); exact rfl; exact rfl; (iterate 3 kernel_rfl))|(apply q_mv; (conv => lhs; whnf))|(apply q_as; (conv => lhs; whnf))|(apply yS; (iterate 3 exact rfl))|(apply yT; (iterate 4 exact rfl))|(apply yU; (iterate 4 exact rfl))|(apply q_eql; exact rfl; exact rfl)|(apply q_neq; exact rfl; exact rfl)|(apply yV; exact rfl; exact rfl)|(apply (yEb (u := .d _)); exact rfl; exact rfl)
    | (apply (yDb (u := .d _)); exact rfl; exact rfl)))
  | (apply W.ed; (first
    | (apply yBb; (iterate 3 exact rfl); kernel_rfl; kernel_rfl)
    | (apply yCb; (iterate 3 exact rfl); kernel_rfl)))|(apply W.ln; (apply l_st_box; (iterate 6 exact rfl); (iterate 3 kernel_rfl)))|(refine W.gOff _ _ rfl rfl (by intro h; cases h) ?_)|(apply yA)|(apply yB)|(apply (W.regionS 5); exact rfl; kernel_rfl)|(apply yE)|(apply yJ)|(apply yP)|(apply yQ; exact rfl)|(refine W.gF _ _ rfl rfl (fun hb => ?_) (fun hb => ?_) <;> ((try simp only [hb, zA, zB]) <;> (try simp only [zC, zD, zE, zF, zG, zH, zI, zJ] at hb) <;> (try (exfalso; omega))))
  | (refine W.cond _ rfl (fun hb => ?_) (fun hb => ?_) <;> ((try simp only [hb, zA, zB]) <;> (try simp only [zC, zD, zE, zF, zG, zH, zI, zJ] at hb) <;> (try (exfalso; omega))))))
    all_goals first
      | (exfalso; omega)
      | exact ⟨.inl rfl, [], [.d (.v (.slice none 0 0)), iV 1], rfl, ⟨rfl, rfl, trivial⟩, AVle.tup2 (AVle.nil 5) (AVle.of_eq rfl), rfl⟩
theorem A_hplan {d r n s l i a g : Int} {M D : Nat} {ps : List (List Nat)} {mv : List Se} {st : List Int} {inn : List Bool} (h : CodeOk M D ps) (hm : mv.length ≤ 1000000) (hst : st.length = D + ps.length) (hne : plcI d r n s l i a (D + ps.length : Nat) g ≠ []) :
    ACalls Tryz.prog 33 [cfgA d r n s l i, cdN M D ps, .agg [iV a, iV g], ses mv, ints st, bools inn] [] (.tup [rbs (planH (plCx M D ps d r n s l i a g mv st inn) st st.length), iV 0]) [] := by
  have hw := A_ewidthN h
  have hD := h.d
  have hW := h.w
  have hms : (st.map iD).length = st.length := List.length_map _
  have hpl := A_lplace d r n s l i a (D + ps.length : Nat) g
  have hse := A_seats (d := d) (r := r) (n := n) (s := s) (l := l) (i := i) (wd := (D + ps.length : Nat)) (a := a) (g := g) hm
  have hsp := A_spare (d := d) (r := r) (n := n) (s := s) (l := l) (i := i) (wd := (D + ps.length : Nat)) (row := a) (mv := mv) (inn := inn) hm
  obtain ⟨hok, hrow, hg, hpl2⟩ := plc_ok hne
  obtain ⟨b1, b2, b3, b4, b5⟩ := hok.bd
  have hsn : ∀ y ∈ spareN (sprI d r n s l i a (D + ps.length : Nat)) mv inn a, 0 ≤ y := fun y hy => spare_nn hy
  have hsl := spare_len d r n s l i a (D + ps.length : Nat) mv inn
  have hgl : (goodB st).length = D + ps.length := by unfold goodB; rw [List.length_map]; exact hst
  have hpn := fun k (hk : k < D + ps.length) => A_plan (u := k) (hv := goodB st) h hgl hk
  have hcx : (plCx M D ps d r n s l i a g mv st inn) = ⟨planN M D ps (goodB st), goodB st, inn, spareN (sprI d r n s l i a (D + ps.length : Nat)) mv inn a, d, r, seatsN (plcI d r n s l i a (D + ps.length : Nat) g) mv a g, plcI d r n s l i a (D + ps.length : Nat) g, a, g⟩ := rfl
  have hsel := seatsN_len (plcI d r n s l i a (D + ps.length : Nat) g) mv a g
  rw [hcx]
  unfold planH
  dsimp only
  generalize spareN (sprI d r n s l i a (D + ps.length : Nat)) mv inn a = sp at *
  generalize seatsN (plcI d r n s l i a (D + ps.length : Nat) g) mv a g = se at *
  generalize plcI d r n s l i a (D + ps.length : Nat) g = ho at *
  generalize planN M D ps (goodB st) = pl at *
  clear hcx hne hok
  generalize hWe : D + ps.length = wN at *
  have hhl : ho.length = wN := by omega
  have hsl2 : se.length = wN := by omega
  have hmh : (ho.map iD).length = wN := by rw [List.length_map]; exact hhl
  rw [hst]
  clear hpl2
  refine acalls_of_body Tryz.func33 rfl (Nat.le_of_ble_eq_true rfl) ?_
  (repeat' (first
  | (apply yFb; exact rfl; exact rfl)
  | (apply W.qd; (first
    | (apply (yW (hw)); exact rfl; exact rfl; (iterate 3 kernel_rfl))|(apply (yW (hpl)); exact rfl; exact rfl; (iterate 3 kernel_rfl))|(apply (yW (hse)); exact rfl; exact rfl; (iterate 3 kernel_rfl))|(apply q_mv; (conv => lhs; whnf))|(apply q_as; (conv => lhs; whnf))|(apply yS; (iterate 3 exact rfl))|(apply yT; (iterate 4 exact rfl))|(apply yU; (iterate 4 exact rfl))|(apply q_eql; exact rfl; exact rfl)|(apply q_neq; exact rfl; exact rfl)|(apply yV; exact rfl; exact rfl)|(apply q_len_osl; (iterate 3 exact rfl))
    | (apply (yDb (u := .d _)); exact rfl; exact rfl)))
  | (apply W.ed; (first
    | (apply e_mkmap; exact rfl; exact rfl)|(apply yBb; (iterate 3 exact rfl); kernel_rfl; kernel_rfl)|(apply yCb; (iterate 3 exact rfl); kernel_rfl)
    | (apply e_makeF; exact rfl; exact rfl; (first | (with_reducible exact rfl) | exact natI_spec rfl | assumption | exact (Int.toNat_of_nonneg (by omega)).symm); (iterate 6 exact rfl); omega)))|(apply W.ln; (apply l_st_box; (iterate 6 exact rfl); (iterate 3 kernel_rfl)))|(apply yA)|(apply yB)|(apply (W.regionS 9); exact rfl; kernel_rfl)|(apply yE)|(apply yG)|(apply yH)|(refine W.gF _ _ rfl rfl (fun hb => ?_) (fun hb => ?_) <;> ((try simp only [hb, zA, zB]) <;> (try simp only [zC, zD, zE, zF, zG, zH, zI, zJ] at hb) <;> (try (exfalso; omega))))
  | (refine W.cond _ rfl (fun hb => ?_) (fun hb => ?_) <;> ((try simp only [hb, zA, zB]) <;> (try simp only [zC, zD, zE, zF, zG, zH, zI, zJ] at hb) <;> (try (exfalso; omega))))))
  all_goals try (exfalso; omega)
  have hf0 := fillB_zero (goodB st)
  rw [hgl] at hf0
  rw [show (List.replicate wN (Value.bool false)).map (fun z => [Dat.v z]) = (List.replicate wN false).map tD from by simp [tD]]
  have hgg : ∀ k (hk : k < wN), (goodB st)[k]'(by omega) = decide (st[k]'(by omega) = 1) := fun k hk => by unfold goodB; rw [List.getElem_map]
  refine AWP.loopW (α := Nat) (fun k => k ≤ wN) (fun k => ⟨[(60, iV k), (59, iV wN), (17, .osl 6 0 0 wN), (16, .opt 5 0), (4, ints st), (6, .opt 0 0), (18, .opt 8 0), (14, iV wN), (7, .opt 1 0), (8, .opt 2 0), (11, .opt 3 0), (15, .opt 4 0), (3, ses mv)], [.box [iV d, iV r, iV n, iV s, iV l, iV i], .box [.d .any, iV M, iV D, rowsN ps, .d .any], .box [iV a, iV g], .box [bools inn], .box [ints ho], .box [ints se], .row 0 1 4 ((fillB (goodB st) k).map tD), .mp (mpI (ksR (grTo st se d r k))), .box [.mp 7]]⟩) (fun k => wN - k) 0 (Nat.zero_le _) ?wkA fun k hk => ?_
  case wkA => rw [hf0]; exact ⟨[0, 1, 2, 3, 4, 5, 6, 7, 8], rfl, rfl, rfl, by (repeat (first | exact trivial | refine ⟨rfl, ?_⟩))⟩
  by_cases hkl : k < wN
  · have hkst : k < st.length := by omega
    have hkse : k < se.length := by omega
    have hgk : (goodB st)[k]'(by omega) = decide (st[k]'hkst = 1) := hgg k hkl
    have hs := fillB_set (show k < (goodB st).length by omega)
    rw [hgk] at hs
    have hgs := grTo_succ st se d r k
    have hgrl := grTo_len st se d r k
    have eS : st.getD k 0 = st[k]'hkst := by rw [List.getD_eq_getElem?_getD, List.getElem?_eq_getElem hkst]; rfl
    have eE : se.getD k 0 = se[k]'hkse := by rw [List.getD_eq_getElem?_getD, List.getElem?_eq_getElem hkse]; rfl
    unfold grStep at hgs
    rw [eS, eE] at hgs
    have hks := ksR_get (grTo st se d r k)
    clear hgg hgk hf0 eS eE hpn hsn
    generalize grTo st se d r k = rs at *
    have hzl : (fillB (goodB st) k).length = wN := by rw [fillB_len (by omega), hgl]
    generalize fillB (goodB st) k = Z at hs hzl ⊢
    have hkz : k < (Z.set k (decide (st[k] = 1))).length := by rw [List.length_set]; omega
    by_cases hg1 : st[k] = 1
    · have hz1 : (tD ((Z.set k (decide (st[k] = 1)))[k]'hkz))[0]? = some (.v (.bool true)) := by rw [List.getElem_set_self, decide_eq_true hg1]; rfl
      by_cases hin : 0 ≤ se[k] ∧ se[k] < d
      · rw [if_pos ⟨hg1, hin⟩] at hgs
        have hk1 := hks (se[k] % r)
        have hcb : rs.count (se[k] % r) ≤ rs.length := List.count_le_length
        obtain ⟨hin1, hin2⟩ := hin
        (repeat' (first
  | (apply yFb; exact rfl; exact rfl)
  | (apply W.qd; (first
    | ((apply (q_lkupN hk1); (iterate 4 exact rfl)))|(apply q_mv; (conv => lhs; whnf))|(apply q_as; (conv => lhs; whnf))|(apply yS; (iterate 3 exact rfl))|(apply yT; (iterate 4 exact rfl))|(apply q_lss; exact rfl; exact rfl)|(apply q_geq; exact rfl; exact rfl)|(apply q_eql; exact rfl; exact rfl)|(apply q_add; exact rfl; exact rfl; omega)|(apply q_rem; exact rfl; exact rfl; omega; omega)|(apply yX; (iterate 3 exact rfl); (first | omega | (focus (simp; done))))|(apply yGb; (iterate 4 exact rfl); (first | (with_reducible exact rfl) | exact natI_spec rfl | assumption | exact (Int.toNat_of_nonneg (by omega)).symm); (first | omega | (focus (simp only [List.length_map]; omega)) | (focus (simp; done)) | (focus (simp; omega))))|(apply (yEb (u := .d _)); exact rfl; exact rfl)|(apply (yDb (u := .d _)); exact rfl; exact rfl)|(apply q_ix_osl0; (iterate 4 exact rfl); (first | (with_reducible exact rfl) | exact natI_spec rfl | assumption | exact (Int.toNat_of_nonneg (by omega)).symm); (first | omega | (focus (simp only [List.length_map]; omega)) | (focus (simp; done)) | (focus (simp; omega))))
    | (apply q_ld_rptm; (iterate 4 exact rfl); (first | omega | (focus (simp only [List.length_map]; omega)) | (focus (simp; done)) | (focus (simp; omega))))))|(apply W.ln; (apply l_st_rpt; (iterate 7 exact rfl); exact fun _ => rfl; (first | omega | (focus (simp only [List.length_map]; omega)) | (focus (simp; omega)))))|(apply W.en; (apply e_mapset; (iterate 6 exact rfl)))|(refine W.gOff _ _ rfl rfl (by intro h; cases h) ?_)|(apply yA)|(apply yB)|(apply yC; kernel_rfl)|(apply yD; exact rfl; kernel_rfl)|(apply yE)|(apply yF; kernel_rfl)|(apply yG)|(apply yH)|(apply yL)|(apply yR; exact rfl)|(refine W.gT _ _ rfl rfl (fun hb => ?_) (fun hb => ?_) <;> ((try simp only [hb, zA, zB]) <;> (try simp only [zC, zD, zE, zF, zG, zH, zI, zJ] at hb) <;> (try (exfalso; omega))))
  | (refine W.cond _ rfl (fun hb => ?_) (fun hb => ?_) <;> ((try simp only [hb, zA, zB]) <;> (try simp only [zC, zD, zE, zF, zG, zH, zI, zJ] at hb) <;> (try (exfalso; omega))))))
        all_goals first
          | (exfalso; omega)
          | (exfalso; rw [List.getElem_set_self, decide_eq_true hg1] at hb; exact absurd hb (by decide))|(refine ⟨k + 1, by omega, by omega, ?_⟩; rw [hgs, ← hs]; exact ⟨[0, 1, 2, 3, 4, 5, 6, 7, 8], rfl, rfl, rfl, iV_eq (by omega), rfl, rfl, rfl, rfl, rfl, rfl, rfl, rfl, rfl, rfl, rfl, rfl, trivial⟩)
      · rw [if_neg (fun h => hin h.2)] at hgs
        have hin2 : se[k] < 0 ∨ d ≤ se[k] := by omega
        (repeat' (first
  | (apply yFb; exact rfl; exact rfl)
  | (apply W.qd; (first
    | (apply q_mv; (conv => lhs; whnf))|(apply q_as; (conv => lhs; whnf))|(apply yS; (iterate 3 exact rfl))|(apply yT; (iterate 4 exact rfl))|(apply q_lss; exact rfl; exact rfl)|(apply q_geq; exact rfl; exact rfl)|(apply q_eql; exact rfl; exact rfl)|(apply q_add; exact rfl; exact rfl; omega)|(apply yX; (iterate 3 exact rfl); (first | omega | (focus (simp; done))))|(apply yGb; (iterate 4 exact rfl); (first | (with_reducible exact rfl) | exact natI_spec rfl | assumption | exact (Int.toNat_of_nonneg (by omega)).symm); (first | omega | (focus (simp only [List.length_map]; omega)) | (focus (simp; done)) | (focus (simp; omega))))|(apply (yEb (u := .d _)); exact rfl; exact rfl)|(apply (yDb (u := .d _)); exact rfl; exact rfl)|(apply q_ix_osl0; (iterate 4 exact rfl); (first | (with_reducible exact rfl) | exact natI_spec rfl | assumption | exact (Int.toNat_of_nonneg (by omega)).symm); (first | omega | (focus (simp only [List.length_map]; omega)) | (focus (simp; done)) | (focus (simp; omega))))
    | (apply q_ld_rptm; (iterate 4 exact rfl); (first | omega | (focus (simp only [List.length_map]; omega)) | (focus (simp; done)) | (focus (simp; omega))))))|(apply W.ln; (apply l_st_rpt; (iterate 7 exact rfl); exact fun _ => rfl; (first | omega | (focus (simp only [List.length_map]; omega)) | (focus (simp; omega)))))|(refine W.gOff _ _ rfl rfl (by intro h; cases h) ?_)|(apply yA)|(apply yB)|(apply yC; kernel_rfl)|(apply yD; exact rfl; kernel_rfl)|(apply yE)|(apply yF; kernel_rfl)|(apply yG)|(apply yH)|(apply yL)|(apply yR; exact rfl)|(refine W.gT _ _ rfl rfl (fun hb => ?_) (fun hb => ?_) <;> ((try simp only [hb, zA, zB]) <;> (try simp only [zC, zD, zE, zF, zG, zH, zI, zJ] at hb) <;> (try (exfalso; omega))))
  | (refine W.cond _ rfl (fun hb => ?_) (fun hb => ?_) <;> ((try simp only [hb, zA, zB]) <;> (try simp only [zC, zD, zE, zF, zG, zH, zI, zJ] at hb) <;> (try (exfalso; omega))))))
        all_goals first
          | (exfalso; omega)
          | (exfalso; rw [List.getElem_set_self, decide_eq_true hg1] at hb; exact absurd hb (by decide))|(refine ⟨k + 1, by omega, by omega, ?_⟩; rw [hgs, ← hs]; exact ⟨[0, 1, 2, 3, 4, 5, 6, 7, 8], rfl, rfl, rfl, iV_eq (by omega), rfl, rfl, rfl, rfl, rfl, rfl, rfl, rfl, rfl, rfl, rfl, rfl, trivial⟩)
    · have hz1 : (tD ((Z.set k (decide (st[k] = 1)))[k]'hkz))[0]? = some (.v (.bool false)) := by rw [List.getElem_set_self, decide_eq_false hg1]; rfl
      rw [if_neg (fun h => hg1 h.1)] at hgs
      (repeat' (first
  | (apply yFb; exact rfl; exact rfl)
  | (apply W.qd; (first
    | (apply q_mv; (conv => lhs; whnf))|(apply q_as; (conv => lhs; whnf))|(apply yS; (iterate 3 exact rfl))|(apply yT; (iterate 4 exact rfl))|(apply q_lss; exact rfl; exact rfl)|(apply q_geq; exact rfl; exact rfl)|(apply q_eql; exact rfl; exact rfl)|(apply q_add; exact rfl; exact rfl; omega)|(apply q_rem; exact rfl; exact rfl; omega; omega)|(apply yX; (iterate 3 exact rfl); (first | omega | (focus (simp; done))))|(apply yGb; (iterate 4 exact rfl); (first | (with_reducible exact rfl) | exact natI_spec rfl | assumption | exact (Int.toNat_of_nonneg (by omega)).symm); (first | omega | (focus (simp only [List.length_map]; omega)) | (focus (simp; done)) | (focus (simp; omega))))|(apply (yEb (u := .d _)); exact rfl; exact rfl)|(apply (yDb (u := .d _)); exact rfl; exact rfl)|(apply q_ix_osl0; (iterate 4 exact rfl); (first | (with_reducible exact rfl) | exact natI_spec rfl | assumption | exact (Int.toNat_of_nonneg (by omega)).symm); (first | omega | (focus (simp only [List.length_map]; omega)) | (focus (simp; done)) | (focus (simp; omega))))|(apply q_ld_rptm; (iterate 4 exact rfl); (first | omega | (focus (simp only [List.length_map]; omega)) | (focus (simp; done)) | (focus (simp; omega))))
    | (apply q_lkup; (iterate 4 exact rfl))))|(apply W.ln; (apply l_st_rpt; (iterate 7 exact rfl); exact fun _ => rfl; (first | omega | (focus (simp only [List.length_map]; omega)) | (focus (simp; omega)))))|(refine W.gOff _ _ rfl rfl (by intro h; cases h) ?_)|(apply yA)|(apply yB)|(apply yC; kernel_rfl)|(apply yD; exact rfl; kernel_rfl)|(apply yE)|(apply yF; kernel_rfl)|(apply yG)|(apply yH)|(apply yL)|(apply yR; exact rfl)|(refine W.gT _ _ rfl rfl (fun hb => ?_) (fun hb => ?_) <;> ((try simp only [hb, zA, zB]) <;> (try simp only [zC, zD, zE, zF, zG, zH, zI, zJ] at hb) <;> (try (exfalso; omega))))
  | (refine W.cond _ rfl (fun hb => ?_) (fun hb => ?_) <;> ((try simp only [hb, zA, zB]) <;> (try simp only [zC, zD, zE, zF, zG, zH, zI, zJ] at hb) <;> (try (exfalso; omega))))))
      all_goals first
        | (exfalso; omega)
        | (exfalso; exact absurd (show (Z.set k (decide (st[k] = 1)))[k]'hkz = true by assumption) (by rw [List.getElem_set_self, decide_eq_false hg1]; decide))|(refine ⟨k + 1, by omega, by omega, ?_⟩; rw [hgs, ← hs]; exact ⟨[0, 1, 2, 3, 4, 5, 6, 7, 8], rfl, rfl, rfl, iV_eq (by omega), rfl, rfl, rfl, rfl, rfl, rfl, rfl, rfl, rfl, rfl, rfl, rfl, trivial⟩)
  obtain rfl : k = wN := by omega
  have hfa := fillB_all (goodB st)
  rw [hgl] at hfa
  rw [hfa]
  have hgrl := grTo_len st se d r k
  generalize grTo st se d r k = rs0 at *
  clear hf0 hgg hfa hk hw hpl hse
  (repeat' (first
  | (apply W.qd; (first
    | (apply (yW (hsp)); exact rfl; exact rfl; (iterate 3 kernel_rfl))|(apply q_mv; (conv => lhs; whnf))|(apply q_as; (conv => lhs; whnf))|(apply yS; (iterate 3 exact rfl))|(apply yT; (iterate 4 exact rfl))|(apply yU; (iterate 4 exact rfl))|(apply q_lss; exact rfl; exact rfl)|(apply q_len_osl; (iterate 3 exact rfl))
    | (apply q_makeFunc)))|(apply W.ed; (apply yCb; (iterate 3 exact rfl); kernel_rfl))|(apply W.ln; (apply l_st_box; (iterate 6 exact rfl); (iterate 3 kernel_rfl)))|(apply yA)|(apply yB)|(apply (W.regionS 19); exact rfl; kernel_rfl)|(apply yE)|(apply yG)|(apply yI)|(apply yK)|(apply yM)
  | (refine W.cond _ rfl (fun hb => ?_) (fun hb => ?_) <;> ((try simp only [hb, zA, zB]) <;> (try simp only [zC, zD, zE, zF, zG, zH, zI, zJ] at hb) <;> (try (exfalso; omega))))))
  all_goals try (exfalso; omega)
  refine AWP.nilBox (l' := [.osl 11 0 0 0]) 10 0 5 84 rfl rfl (by omega) rfl rfl rfl rfl ?_
  have hSl := psTo_len ⟨pl, goodB st, inn, sp, d, r, se, ho, a, g⟩ rs0
  have hSs := psTo_succ ⟨pl, goodB st, inn, sp, d, r, se, ho, a, g⟩ rs0
  have hS0 : psTo ⟨pl, goodB st, inn, sp, d, r, se, ho, a, g⟩ rs0 0 = (rs0, []) := rfl
  generalize hS : psTo ⟨pl, goodB st, inn, sp, d, r, se, ho, a, g⟩ rs0 = S at *
  have hmg : ((goodB st).map tD).length = k := by rw [List.length_map]; exact hgl
  obtain ⟨wN, rfl⟩ : ∃ wN, wN = k := ⟨_, rfl⟩
  refine AWP.loopW (α := Nat) (fun k => k ≤ wN) (fun k => ⟨[(112, iV k), (111, iV wN), (110, bools (goodB st)), (17, bools (goodB st)), (22, .fn 73 [.opt 5 0, .opt 4 0, .opt 3 0, .opt 8 0, .opt 9 0, .opt 7 0, .opt 0 0]), (7, .opt 1 0), (8, .opt 2 0), (21, .opt 9 0), (6, .opt 0 0), (18, .opt 7 0)], [.box [iV d, iV r, iV n, iV s, iV l, iV i], .box [.d .any, iV M, iV D, rowsN ps, .d .any], .box [iV a, iV g], .box [bools inn], .box [ints ho], .box [ints se], .mp (mpI (ksR (S k).1)), .box [.mp 6], .box [ints sp], .box [.osl 10 (S k).2.length 0 (S k).2.length], .row (S k).2.length 5 84 ((S k).2.map rbD)]⟩) (fun k => wN - k) 0 (Nat.zero_le _) ?wkB fun k hk => ?_
  case wkB =>
    rw [hS0]
    exact ⟨[0, 1, 2, 3, 4, 5, 7, 8, 9, 10, 11], rfl, rfl, rfl, rfl, rfl, (frz_rowJ (i := 6) (ver := 0) (n := wN) (l := (goodB st).map tD) rfl rfl hmg.symm).symm, (frz_rowJ (i := 6) (ver := 0) (n := wN) (l := (goodB st).map tD) rfl rfl hmg.symm).symm, rfl, rfl, rfl, rfl, rfl, rfl, trivial⟩
  by_cases hkl : k < wN
  · have hls := hSl k
    have hst2 := hSs k
    have ht := A_target38 (d := d) (r := r) (n := n) (s := s) (l := l) (i := i) (se := se) (ho := ho) (inn := inn) (sp := sp) (rs := (S k).1) (ver := (S k).2.length) (out := (S k).2) (u := k) (by omega) hsn (by omega) (by omega) (by omega) (by omega)
    have hpk := hpn k (by omega)
    have hks := ksR_get (S k).1
    have eE : se.getD k 0 = se[k]'(by omega) := by rw [List.getD_eq_getElem?_getD, List.getElem?_eq_getElem (by omega)]; rfl
    have eH : ho.getD k 0 = ho[k]'(by omega) := by rw [List.getD_eq_getElem?_getD, List.getElem?_eq_getElem (by omega)]; rfl
    have eG : (goodB st).getD k false = (goodB st)[k]'(by omega) := by rw [List.getD_eq_getElem?_getD, List.getElem?_eq_getElem (by omega)]; rfl
    unfold psStep PlCx.tgt at hst2
    dsimp only at hst2
    rw [eE, eH, eG] at hst2
    generalize tgtN38 inn sp r (S k).1 (S k).2 (se[k]'(by omega)) (ho[k]'(by omega)) = t at *
    clear hS hSl hSs hS0 hpn hsp hsn eE eH eG
    generalize S k = Sk at *
    obtain ⟨rs, out⟩ := Sk
    dsimp only at *
    have hkg : k < (goodB st).length := by omega
    cases hq : (goodB st)[k] with
    | true =>
      rw [hq, if_pos rfl] at hst2
      (repeat' (first
  | (apply W.qd; (first
    | (apply q_mv; (conv => lhs; whnf))|(apply q_as; (conv => lhs; whnf))|(apply yU; (iterate 4 exact rfl))|(apply q_lss; exact rfl; exact rfl)|(apply q_add; exact rfl; exact rfl; omega)|(apply yX; (iterate 3 exact rfl); (first | omega | (focus (simp; done))))
    | (apply yGb; (iterate 4 exact rfl); (first | (with_reducible exact rfl) | exact natI_spec rfl | assumption | exact (Int.toNat_of_nonneg (by omega)).symm); (first | omega | (focus (simp only [List.length_map]; omega)) | (focus (simp; done)) | (focus (simp; omega))))))|(apply yA)|(apply yB)|(apply yC; kernel_rfl)|(apply yE)|(apply yG)|(apply yH)|(apply yI)|(apply yK)|(apply yM)
  | (refine W.cond _ rfl (fun hb => ?_) (fun hb => ?_) <;> ((try simp only [hb, zA, zB]) <;> (try simp only [zC, zD, zE, zF, zG, zH, zI, zJ] at hb) <;> (try (exfalso; omega))))))
      all_goals first
        | (exfalso; rw [hq] at hb; exact absurd hb (by decide))
        | (exfalso; omega)|(refine ⟨k + 1, by omega, by omega, ?_⟩; rw [hst2]; exact ⟨[0, 1, 2, 3, 4, 5, 6, 7, 8, 9, 10], rfl, rfl, rfl, iV_eq (by omega), rfl, rfl, rfl, rfl, rfl, rfl, rfl, rfl, rfl, trivial⟩)
    | false =>
      rw [hq, if_neg (by simp)] at hst2
      cases hp9 : pl k with
      | none =>
        rw [hp9] at hpk hst2
        unfold planA at hpk
        dsimp only at hst2 hpk
        (repeat' (first
  | (apply W.qd; (first
    | (apply (yW (hpk)); exact rfl; exact rfl; (iterate 3 kernel_rfl))|(apply q_mv; (conv => lhs; whnf))|(apply q_as; (conv => lhs; whnf))|(apply yU; (iterate 4 exact rfl))|(apply q_lss; exact rfl; exact rfl)|(apply q_eql; exact rfl; exact rfl)|(apply q_add; exact rfl; exact rfl; omega)|(apply yAb; exact rfl; exact rfl)|(apply yX; (iterate 3 exact rfl); (first | omega | (focus (simp; done))))|(apply yGb; (iterate 4 exact rfl); (first | (with_reducible exact rfl) | exact natI_spec rfl | assumption | exact (Int.toNat_of_nonneg (by omega)).symm); (first | omega | (focus (simp only [List.length_map]; omega)) | (focus (simp; done)) | (focus (simp; omega))))
    | (apply (yDb (u := .d _)); exact rfl; exact rfl)))
  | (apply W.ed; (first
    | (apply (e_callJ (js := [5, 4, 3, 8, 9, 7, 0, 10, 6]) (ht)); (iterate 5 exact rfl); kernel_rfl; kernel_rfl)
    | (apply yCb; (iterate 3 exact rfl); kernel_rfl)))|(apply W.ln; (apply l_st_box; (iterate 6 exact rfl); (iterate 3 kernel_rfl)))|(refine W.gOff _ _ rfl rfl (by intro h; cases h) ?_)|(apply yA)|(apply yB)|(apply yC; kernel_rfl)|(apply yE)|(apply yG)|(apply yH)|(apply yI)|(apply yK)|(apply yL)|(apply yM)|(apply yR; exact rfl)
  | (refine W.cond _ rfl (fun hb => ?_) (fun hb => ?_) <;> ((try simp only [hb, zA, zB]) <;> (try simp only [zC, zD, zE, zF, zG, zH, zI, zJ] at hb) <;> (try (exfalso; omega))))))
        all_goals first
          | (exfalso; rw [hq] at hb; exact absurd hb (by decide))
          | (exfalso; omega)|(refine ⟨k + 1, by omega, by omega, ?_⟩; rw [hst2]; exact ⟨[0, 1, 2, 3, 4, 5, 6, 7, 8, 9, 10], rfl, rfl, rfl, iV_eq (by omega), rfl, rfl, rfl, rfl, rfl, rfl, rfl, rfl, rfl, trivial⟩)
      | some tl =>
        rw [hp9] at hpk hst2
        unfold planA at hpk
        dsimp only at hst2 hpk
        by_cases ht0 : 0 ≤ t
        · rw [if_pos ht0] at hst2
          have el : (out ++ [((a, g, (k : Int), t, tl) : Rb)]).length = out.length + 1 := by simp
          by_cases htd : t < d
          · rw [if_pos htd] at hst2
            have hk1 := hks (t % r)
            have hcb : rs.count (t % r) ≤ rs.length := List.count_le_length
            (repeat' (first
  | (apply yFb; exact rfl; exact rfl)
  | (apply W.qd; (first
    | (apply (yW (hpk)); exact rfl; exact rfl; (iterate 3 kernel_rfl))
    | ((apply (q_lkupN hk1); (iterate 4 exact rfl)))|(apply q_mv; (conv => lhs; whnf))|(apply q_as; (conv => lhs; whnf))|(apply yS; (iterate 3 exact rfl))|(apply yT; (iterate 4 exact rfl))|(apply yU; (iterate 4 exact rfl))|(apply q_lss; exact rfl; exact rfl)|(apply q_geq; exact rfl; exact rfl)|(apply q_eql; exact rfl; exact rfl)|(apply q_add; exact rfl; exact rfl; omega)|(apply q_rem; exact rfl; exact rfl; omega; omega)|(apply yAb; exact rfl; exact rfl)|(apply yX; (iterate 3 exact rfl); (first | omega | (focus (simp; done))))|(apply yZ; exact rfl; exact rfl; kernel_rfl)|(apply q_litF; (iterate 5 exact rfl); kernel_rfl; kernel_rfl; exact rfl)|(apply yGb; (iterate 4 exact rfl); (first | (with_reducible exact rfl) | exact natI_spec rfl | assumption | exact (Int.toNat_of_nonneg (by omega)).symm); (first | omega | (focus (simp only [List.length_map]; omega)) | (focus (simp; done)) | (focus (simp; omega))))
    | (apply (yEb (u := .d _)); exact rfl; exact rfl)))
  | (apply W.ed; (first
    | (apply (e_callJ (js := [5, 4, 3, 8, 9, 7, 0, 10, 6]) (ht)); (iterate 5 exact rfl); kernel_rfl; kernel_rfl)
    | ((apply (e_app1F (f := rbD) (a, g, (k : Int), t, tl)); (iterate 8 exact rfl); omega))
    | (apply yCb; (iterate 3 exact rfl); kernel_rfl)))|(apply W.ln; (apply l_st_box; (iterate 6 exact rfl); (iterate 3 kernel_rfl)))|(apply W.en; (apply e_mapset; (iterate 6 exact rfl)))|(apply yA)|(apply yB)|(apply yC; kernel_rfl)|(apply yD; exact rfl; kernel_rfl)|(apply yE)|(apply yF; kernel_rfl)|(apply yG)|(apply yH)|(apply yI)|(apply yK)|(apply yL)|(apply yM)
  | (refine W.cond _ rfl (fun hb => ?_) (fun hb => ?_) <;> ((try simp only [hb, zA, zB]) <;> (try simp only [zC, zD, zE, zF, zG, zH, zI, zJ] at hb) <;> (try (exfalso; omega))))))
            all_goals first
              | (exfalso; rw [hq] at hb; exact absurd hb (by decide))
              | (exfalso; omega)|(refine ⟨k + 1, by omega, by omega, ?_⟩; rw [hst2]; dsimp only; rw [el]; exact ⟨[0, 1, 2, 3, 4, 5, 6, 7, 8, 9, 10], rfl, rfl, rfl, iV_eq (by omega), rfl, rfl, rfl, rfl, rfl, rfl, rfl, rfl, rfl, trivial⟩)
          · rw [if_neg htd] at hst2
            (repeat' (first
  | (apply yFb; exact rfl; exact rfl)
  | (apply W.qd; (first
    | (apply (yW (hpk)); exact rfl; exact rfl; (iterate 3 kernel_rfl))|(apply q_mv; (conv => lhs; whnf))|(apply q_as; (conv => lhs; whnf))|(apply yS; (iterate 3 exact rfl))|(apply yT; (iterate 4 exact rfl))|(apply yU; (iterate 4 exact rfl))|(apply q_lss; exact rfl; exact rfl)|(apply q_geq; exact rfl; exact rfl)|(apply q_eql; exact rfl; exact rfl)|(apply q_add; exact rfl; exact rfl; omega)|(apply yAb; exact rfl; exact rfl)|(apply yX; (iterate 3 exact rfl); (first | omega | (focus (simp; done))))|(apply yZ; exact rfl; exact rfl; kernel_rfl)|(apply q_litF; (iterate 5 exact rfl); kernel_rfl; kernel_rfl; exact rfl)|(apply yGb; (iterate 4 exact rfl); (first | (with_reducible exact rfl) | exact natI_spec rfl | assumption | exact (Int.toNat_of_nonneg (by omega)).symm); (first | omega | (focus (simp only [List.length_map]; omega)) | (focus (simp; done)) | (focus (simp; omega))))
    | (apply (yEb (u := .d _)); exact rfl; exact rfl)))
  | (apply W.ed; (first
    | (apply (e_callJ (js := [5, 4, 3, 8, 9, 7, 0, 10, 6]) (ht)); (iterate 5 exact rfl); kernel_rfl; kernel_rfl)
    | ((apply (e_app1F (f := rbD) (a, g, (k : Int), t, tl)); (iterate 8 exact rfl); omega))
    | (apply yCb; (iterate 3 exact rfl); kernel_rfl)))|(apply W.ln; (apply l_st_box; (iterate 6 exact rfl); (iterate 3 kernel_rfl)))|(apply yA)|(apply yB)|(apply yC; kernel_rfl)|(apply yE)|(apply yG)|(apply yH)|(apply yI)|(apply yK)|(apply yL)|(apply yM)
  | (refine W.cond _ rfl (fun hb => ?_) (fun hb => ?_) <;> ((try simp only [hb, zA, zB]) <;> (try simp only [zC, zD, zE, zF, zG, zH, zI, zJ] at hb) <;> (try (exfalso; omega))))))
            all_goals first
              | (exfalso; rw [hq] at hb; exact absurd hb (by decide))
              | (exfalso; omega)|(refine ⟨k + 1, by omega, by omega, ?_⟩; rw [hst2]; dsimp only; rw [el]; exact ⟨[0, 1, 2, 3, 4, 5, 6, 7, 8, 9, 10], rfl, rfl, rfl, iV_eq (by omega), rfl, rfl, rfl, rfl, rfl, rfl, rfl, rfl, rfl, trivial⟩)
        · rw [if_neg ht0] at hst2
          (repeat' (first
  | (apply yFb; exact rfl; exact rfl)
  | (apply W.qd; (first
    | (apply (yW (hpk)); exact rfl; exact rfl; (iterate 3 kernel_rfl))|(apply q_mv; (conv => lhs; whnf))|(apply q_as; (conv => lhs; whnf))|(apply yU; (iterate 4 exact rfl))|(apply q_lss; exact rfl; exact rfl)|(apply q_geq; exact rfl; exact rfl)|(apply q_eql; exact rfl; exact rfl)|(apply q_add; exact rfl; exact rfl; omega)|(apply yAb; exact rfl; exact rfl)|(apply yX; (iterate 3 exact rfl); (first | omega | (focus (simp; done))))|(apply yGb; (iterate 4 exact rfl); (first | (with_reducible exact rfl) | exact natI_spec rfl | assumption | exact (Int.toNat_of_nonneg (by omega)).symm); (first | omega | (focus (simp only [List.length_map]; omega)) | (focus (simp; done)) | (focus (simp; omega))))
    | (apply (yEb (u := .d _)); exact rfl; exact rfl)))
  | (apply W.ed; (first
    | (apply (e_callJ (js := [5, 4, 3, 8, 9, 7, 0, 10, 6]) (ht)); (iterate 5 exact rfl); kernel_rfl; kernel_rfl)
    | (apply yCb; (iterate 3 exact rfl); kernel_rfl)))|(apply W.ln; (apply l_st_box; (iterate 6 exact rfl); (iterate 3 kernel_rfl)))|(apply yA)|(apply yB)|(apply yC; kernel_rfl)|(apply yE)|(apply yG)|(apply yH)|(apply yI)|(apply yK)|(apply yL)|(apply yM)
  | (refine W.cond _ rfl (fun hb => ?_) (fun hb => ?_) <;> ((try simp only [hb, zA, zB]) <;> (try simp only [zC, zD, zE, zF, zG, zH, zI, zJ] at hb) <;> (try (exfalso; omega))))))
          all_goals first
            | (exfalso; rw [hq] at hb; exact absurd hb (by decide))
            | (exfalso; omega)|(refine ⟨k + 1, by omega, by omega, ?_⟩; rw [hst2]; exact ⟨[0, 1, 2, 3, 4, 5, 6, 7, 8, 9, 10], rfl, rfl, rfl, iV_eq (by omega), rfl, rfl, rfl, rfl, rfl, rfl, rfl, rfl, rfl, trivial⟩)
  · obtain rfl : k = wN := by omega
    have hls := hSl k
    clear hS hSl hSs hS0 hpn hsp hsn
    generalize S k = Sk at *
    obtain ⟨rs, out⟩ := Sk
    dsimp only at *
    (repeat' (first
  | (apply W.qd; (first
    | (apply q_as; (conv => lhs; whnf))|(apply yT; (iterate 4 exact rfl))
    | (apply q_lss; exact rfl; exact rfl)))|(apply yA)|(apply yB)|(apply yC; kernel_rfl)|(apply yE)|(apply yI)|(apply yJ)|(apply yK)|(apply yM)
  | (refine W.cond _ rfl (fun hb => ?_) (fun hb => ?_) <;> ((try simp only [hb, zA, zB]) <;> (try simp only [zC, zD, zE, zF, zG, zH, zI, zJ] at hb) <;> (try (exfalso; omega))))))
    exact ⟨.inl rfl, [], [.osl 10 out.length 0 out.length, iV 0], rfl, ⟨rfl, rfl, trivial⟩, AVle.tup2 (AVle.of_eq (frz_rowJ rfl rfl (by simp))) (AVle.of_eq rfl), rfl⟩
end Go.Proofs.YtcljokdiblnhiaaGreatDoor
end
section
namespace Go.Proofs.YtcljokdiblnhiaaGreatDoor
open Go.RowKit
set_option maxHeartbeats 4000000
set_option maxRecDepth 100000
attribute [local irreducible] Quiet Eff OpOk AWPG ACont ABlock ACalls AGoto
def smallH (d D : Int) (par : List (List Int)) (mv : List Se) : Bool := smallB D par && (decide (d ≤ 16) && decide (mv.length ≤ 40))
theorem A_small38 {d r n s l i M D : Int} {par : List (List Int)} {mv : List Se} : ACalls Tryz.prog 27 [cfgA d r n s l i, cdA M D par, ses mv] [] (bV (smallH d D par mv)) [] := by
  have hs := A_small (M := M) (D := D) (par := par)
  have hms : (mv.map seD).length = mv.length := List.length_map _
  unfold smallH
  refine acalls_of_body Tryz.func27 rfl (Nat.le_of_ble_eq_true rfl) ?_
  cases hq : smallB D par with
  | false =>
    rw [hq] at hs
    (repeat' (first
  | (apply W.qd; (first
    | (apply (yW (hs)); exact rfl; exact rfl; (iterate 3 kernel_rfl))|(apply q_mv; (conv => lhs; whnf))|(apply q_as; (conv => lhs; whnf))|(apply yU; (iterate 4 exact rfl))
    | (apply (yDb (u := .d _)); exact rfl; exact rfl)))|(apply W.ed; (apply yBb; (iterate 3 exact rfl); kernel_rfl; kernel_rfl))|(refine W.gOff _ _ rfl rfl (by intro h; cases h) ?_)|(apply yA)|(apply yB)|(apply yC; kernel_rfl)|(apply yE)
  | (apply yJ)))
    all_goals exact Ends.b rfl rfl
  | true =>
    rw [hq] at hs
    rw [Bool.true_and]
    (repeat' (first
  | (apply yFb; exact rfl; exact rfl)
  | (apply W.qd; (first
    | (apply (yW (hs)); exact rfl; exact rfl; (iterate 3 kernel_rfl))|(apply q_mv; (conv => lhs; whnf))|(apply q_as; (conv => lhs; whnf))|(apply yS; (iterate 3 exact rfl))|(apply yT; (iterate 4 exact rfl))|(apply yU; (iterate 4 exact rfl))|(apply q_leq; exact rfl; exact rfl)|(apply yV; exact rfl; exact rfl)|(apply (yEb (u := .d _)); exact rfl; exact rfl)
    | (apply (yDb (u := .d _)); exact rfl; exact rfl)))|(apply W.ed; (apply yBb; (iterate 3 exact rfl); kernel_rfl; kernel_rfl))|(refine W.gOff _ _ rfl rfl (by intro h; cases h) ?_)|(apply yA)|(apply yB)|(apply yC; kernel_rfl)|(apply yE)|(apply yJ)
  | (refine W.gT _ _ rfl rfl (fun hb => ?_) (fun hb => ?_) <;> ((try simp only [hb, zA, zB]) <;> (try simp only [zC, zD, zE, zF, zG, zH, zI, zJ] at hb) <;> (try (exfalso; omega))))))
    all_goals first | (refine Ends.b rfl ?_; rw [Bool.eq_iff_iff]; simp <;> omega)
end Go.Proofs.YtcljokdiblnhiaaGreatDoor
end
section
namespace Go.Proofs.YtcljokdiblnhiaaGreatDoor
open Go.RowKit
set_option maxHeartbeats 8000000
set_option maxRecDepth 100000
def rs38 : List (List Nat) := [[1, 1], [1, 2]]
theorem ok_rs38 : CodeOk 8 2 rs38 := by
  obtain ⟨m, d, ps, e1, e2, e3, h⟩ := ok_valid (M := 8) (D := 2) (par := [[1, 1], [1, 2]]) (by kernel_rfl)
  obtain rfl : m = 8 := by omega
  obtain rfl : d = 2 := by omega
  have : ps = rs38 := by
    have h2 := congrArg (fun p => p.map fun r => r.map Int.toNat) e3
    rw [toZ_back] at h2
    exact h2.symm
  rwa [this] at h
def in38 : List Bool := [true, true, false, true, true, true]
theorem v38_1 : planH (plCx 8 2 rs38 6 2 12 2 1 1 1 0 [] [1, 2, 1, 1] in38) [1, 2, 1, 1] 4 = [(1, 0, 1, 0, [(0, 1), (2, 1)])] := by kernel_rfl
theorem v38_2 : doneN (plcI 6 2 12 2 1 1 1 4 0) [] 1 0 1 0 = [(1, 0, 1, 0)] := by kernel_rfl
theorem v38_3 : seatsN (plcI 6 2 12 2 1 1 1 4 0) [(1, 0, 1, 0)] 1 0 = [1, 0, 3, 4] := by kernel_rfl
theorem v38_4 : spareN (sprI 6 2 12 2 1 1 1 4) [(1, 0, 1, 0)] in38 1 = [5] := by kernel_rfl
theorem v38_5 : plcI 6 2 12 2 1 1 1 4 0 = [1, 2, 3, 4] := by kernel_rfl
theorem cdF_avle {nm : List Nat} {M D dom : Int} {par : List (List Int)} : AVle (cdF nm M D par dom) (cdA M D par) := fun _ _ _ _ _ h => cdF_le h
theorem seatN_filter (mv : List Se) (a g h : Int) (u : Nat) : seatN mv a g h u = match mv.filter (atB a g u) with | [] => h | x :: _ => x.2.2.2 := by
  unfold seatN
  by_cases h0 : 0 ≤ idxA (atB a g u) mv
  · obtain ⟨j, hj, e⟩ := idxA_ge0 h0
    obtain ⟨_, h1, h2⟩ := idxA_iff.1 e
    rw [if_pos h0, e, Int.toNat_natCast, List.getD_eq_getElem?_getD, List.getElem?_eq_getElem hj, Option.getD_some]
    have h3 : mv.filter (atB a g u) = mv[j] :: (mv.drop (j + 1)).filter (atB a g u) := by
      conv => lhs; rw [← List.take_append_drop j mv, List.filter_append, List.drop_eq_getElem_cons hj]
      have h4 : (mv.take j).filter (atB a g u) = [] := by
        rw [List.filter_eq_nil_iff]
        intro x hx
        obtain ⟨q, hq, rfl⟩ := List.getElem_of_mem hx
        rw [List.length_take] at hq
        rw [List.getElem_take, h2 q (by omega)]; decide
      rw [h4, List.nil_append, List.filter_cons_of_pos h1]
    rw [h3]
  · rw [if_neg h0]
    have h3 : mv.filter (atB a g u) = [] := by
      rw [List.filter_eq_nil_iff]
      intro x hx
      rw [idxA_neg.1 h0 x hx]; decide
    rw [h3]
theorem atB_eqv (a g u : Int) (x : Se) : atB a g u x = eqvB (ltS cmpS) (a, g, u, 0) x := by
  unfold eqvB atB
  rw [Bool.eq_iff_iff]
  have h1 := ltS_iff (a, g, u, 0) x
  have h2 := ltS_iff x (a, g, u, 0)
  dsimp only at h1 h2
  cases hb1 : ltS cmpS (a, g, u, 0) x <;> cases hb2 : ltS cmpS x (a, g, u, 0) <;> rw [hb1] at h1 <;> rw [hb2] at h2 <;> simp at h1 h2 ⊢ <;> omega
theorem done_filter (L : List Int) (mv : List Se) (a g u dk : Int) (j : Int) : (doneN L mv a g u dk).filter (atB a g j) = if j = u then (if homeB L u dk = true then [] else [(a, g, u, dk)]) else mv.filter (atB a g j) := by
  have e : atB a g j = eqvB (ltS cmpS) (a, g, j, 0) := funext fun x => atB_eqv a g j x
  have h1 : ∀ X : List Se, (sortN (ltS cmpS) X).filter (atB a g j) = X.filter (atB a g j) := fun X => by
    rw [e]; exact (sortN_spec weakS X).2 _
  have h2 : (mv.filter (otherB a g u)).filter (atB a g j) = if j = u then [] else mv.filter (atB a g j) := by
    rw [List.filter_filter]
    by_cases hj : j = u
    · rw [if_pos hj, List.filter_eq_nil_iff]
      intro x _
      subst hj
      unfold otherB
      cases atB a g j x <;> simp
    · rw [if_neg hj]
      refine List.filter_congr fun x _ => ?_
      unfold otherB atB
      rw [Bool.eq_iff_iff]; simp
      intro h3 h4 h5
      exact .inr (.inr (by omega))
  unfold doneN
  rw [h1]
  by_cases hh : homeB L u dk = true
  · rw [if_pos hh, if_pos hh, h2]
  · rw [if_neg hh, if_neg hh, List.filter_append, h2]
    by_cases hj : j = u
    · subst hj
      rw [if_pos rfl, if_pos rfl]
      have : atB a g j (a, g, j, dk) = true := by unfold atB; simp
      rw [List.filter_cons_of_pos this]; rfl
    · rw [if_neg hj, if_neg hj]
      have : atB a g j (a, g, u, dk) = false := by unfold atB; simp; omega
      rw [List.filter_cons_of_neg (by rw [this]; decide)]; simp
theorem done_seat {L : List Int} {mv : List Se} {a g u dk : Int} {j : Nat} (hj : j < L.length) : (seatsN L (doneN L mv a g u dk) a g).getD j 0 = if (j : Int) = u then dk else (seatsN L mv a g).getD j 0 := by
  have g1 : ∀ m, (seatsN L m a g).getD j 0 = seatN m a g L[j] j := fun m => by
    rw [List.getD_eq_getElem?_getD, List.getElem?_eq_getElem (by rw [seatsN_len]; exact hj), Option.getD_some, seatsN_get hj]
  rw [g1, g1, seatN_filter, done_filter]
  by_cases e : (j : Int) = u
  · rw [if_pos e, if_pos e]
    by_cases hh : homeB L u dk = true
    · rw [if_pos hh]
      unfold homeB at hh
      simp only [Bool.and_eq_true, decide_eq_true_eq] at hh
      obtain ⟨_, _, h3⟩ := hh
      rw [← e, Int.toNat_natCast, List.getD_eq_getElem?_getD, List.getElem?_eq_getElem hj] at h3
      exact h3
    · rw [if_neg hh]
  · rw [if_neg e, if_neg e, ← seatN_filter]
abbrev inC (d r n s l i M D : Int) (par : List (List Int)) (a g : Int) (mv : List Se) (st : List Int) (inn : List Bool) : List AV := [iV d, iV r, iV n, iV s, iV l, iV i, .d .any, iV M, iV D, rowsA par, .d .any, iV a, iV g, ses mv, ints st, bools inn]
attribute [local irreducible] Quiet Eff OpOk AWPG ACont ABlock ACalls AGoto
theorem A_sanity38 : ACalls Tryz.prog 26 [] [] (bV true) [] := by
  have p1 := A_hplan (d := 6) (r := 2) (n := 12) (s := 2) (l := 1) (i := 1) (a := 1) (g := 0) (mv := []) (st := [1, 2, 1, 1]) (inn := in38) ok_rs38 (by decide) rfl (by rw [show ((2 + rs38.length : Nat) : Int) = 4 from rfl, v38_5]; simp)
  rw [show [1, 2, 1, (1 : Int)].length = 4 from rfl, v38_1] at p1
  have p1 := p1.le (args' := [cfgA 6 2 12 2 1 1, cdF [] 8 2 (toZ rs38) 0, .agg [iV 1, iV 0], .d (.v (.slice none 0 0)), ints [1, 2, 1, 1], bools in38]) fun F κ w us hs => AVleL.sat (xs := [cfgA 6 2 12 2 1 1, cdF [] 8 2 (toZ rs38) 0, .agg [iV 1, iV 0], .d (.v (.slice none 0 0)), ints [1, 2, 1, 1], bools in38]) (ys := [cfgA 6 2 12 2 1 1, cdN 8 2 rs38, .agg [iV 1, iV 0], ses [], ints [1, 2, 1, 1], bools in38]) ⟨AVle.refl _, by rw [cdN_A]; exact cdF_avle, AVle.refl _, AVle.nil 4, AVle.refl _, AVle.refl _, trivial⟩ F _ κ w us hs
  have p2 := A_hplan_bad (d := 6) (r := 2) (n := 12) (s := 2) (l := 1) (i := 1) (a := 1) (g := 0) (M := 8) (D := 2) (par := toZ rs38) (mv := []) (st := [1, 2, 1]) (inn := in38) (code_in ok_rs38) (fun h => by have := h.2.2; revert this; decide)
  have p2 := p2.le (args' := [cfgA 6 2 12 2 1 1, cdF [] 8 2 (toZ rs38) 0, .agg [iV 1, iV 0], .d (.v (.slice none 0 0)), ints [1, 2, 1], bools in38]) fun F κ w us hs => AVleL.sat (xs := [cfgA 6 2 12 2 1 1, cdF [] 8 2 (toZ rs38) 0, .agg [iV 1, iV 0], .d (.v (.slice none 0 0)), ints [1, 2, 1], bools in38]) (ys := [cfgA 6 2 12 2 1 1, cdA 8 2 (toZ rs38), .agg [iV 1, iV 0], ses [], ints [1, 2, 1], bools in38]) ⟨AVle.refl _, cdF_avle, AVle.refl _, AVle.nil 4, AVle.refl _, AVle.refl _, trivial⟩ F _ κ w us hs
  have p3 := A_done (d := 6) (r := 2) (n := 12) (s := 2) (l := 1) (i := 1) (wd := 4) (a := 1) (g := 0) (u := 1) (dk := 0) (mv := []) (by decide)
  rw [v38_2] at p3
  have p3 := p3.le (args' := [cfgA 6 2 12 2 1 1, iV 4, .d (.v (.slice none 0 0)), .agg [iV 1, iV 0, iV 1], iV 0]) fun F κ w us hs => AVleL.sat (xs := [cfgA 6 2 12 2 1 1, iV 4, .d (.v (.slice none 0 0)), .agg [iV 1, iV 0, iV 1], iV 0]) (ys := [cfgA 6 2 12 2 1 1, iV 4, ses [], .agg [iV 1, iV 0, iV 1], iV 0]) ⟨AVle.refl _, AVle.refl _, AVle.nil 4, AVle.refl _, AVle.refl _, trivial⟩ F _ κ w us hs
  have p4 := A_seats (d := 6) (r := 2) (n := 12) (s := 2) (l := 1) (i := 1) (wd := 4) (a := 1) (g := 0) (mv := [(1, 0, 1, 0)]) (by decide)
  rw [v38_3] at p4
  have p5 := A_spare (d := 6) (r := 2) (n := 12) (s := 2) (l := 1) (i := 1) (wd := 4) (row := 1) (mv := [(1, 0, 1, 0)]) (inn := in38) (by decide)
  rw [v38_4] at p5
  refine acalls_of_body Tryz.func26 rfl (Nat.le_of_ble_eq_true rfl) ?_
  (repeat' (first
  | (apply yFb; exact rfl; exact rfl)
  | (apply W.qd; (first
    | (apply (yW (p1)); exact rfl; exact rfl; (iterate 3 kernel_rfl))|(apply (yW (p2)); exact rfl; exact rfl; (iterate 3 kernel_rfl))|(apply (yW (p3)); exact rfl; exact rfl; (iterate 3 kernel_rfl))|(apply (yW (p4)); exact rfl; exact rfl; (iterate 3 kernel_rfl))|(apply (yW (p5)); exact rfl; exact rfl; (iterate 3 kernel_rfl))|(apply q_mv; (conv => lhs; whnf))|(apply q_as; (conv => lhs; whnf))|(apply yU; (iterate 4 exact rfl))|(apply q_eql; exact rfl; exact rfl)|(apply yAb; exact rfl; exact rfl)|(apply yV; exact rfl; exact rfl)|(apply yX; (iterate 3 exact rfl); (first | omega | (focus (simp; done))))|(apply q_fld_fptF; (iterate 3 exact rfl))|(apply yZ; exact rfl; exact rfl; kernel_rfl)|(apply q_litF; (iterate 5 exact rfl); kernel_rfl; kernel_rfl; exact rfl)|(apply yGb; (iterate 4 exact rfl); (first | (with_reducible exact rfl) | exact natI_spec rfl | assumption | exact (Int.toNat_of_nonneg (by omega)).symm); (first | omega | (focus (simp only [List.length_map]; omega)) | (focus (simp; done)) | (focus (simp; omega))))
    | (apply (yEb (u := .d _)); exact rfl; exact rfl)))|(apply W.ed; (apply yCb; (iterate 3 exact rfl); kernel_rfl))|(apply W.ln; (apply l_st_box; (iterate 6 exact rfl); (iterate 3 kernel_rfl)))|(apply yA)|(apply yB)|(apply yC; kernel_rfl)|(apply yE)
  | (apply yJ)))
  all_goals exact Ends.b rfl rfl
end Go.Proofs.YtcljokdiblnhiaaGreatDoor
end
section
namespace Go.Proofs.YtcljokdiblnhiaaGreatDoor
open Go.RowKit
theorem any_le38 {v : Value} (h : v.oneCell' = true) : AVle (.d (.v v)) (.d .any) := fun F own κ w u hs => by
  rw [sat_v] at hs
  rw [AV.sat, Dat.sat, hs]; exact h
abbrev xinF (d r n s l i : Int) (nm : List Nat) (M D : Int) (par : List (List Int)) (dom a g : Int) (mv : List Se) (st : List Int) (inn : List Bool) : AV := .agg [iV d, iV r, iV n, iV s, iV l, iV i, bS nm, iV M, iV D, rowsA par, iV dom, iV a, iV g, ses mv, ints st, bools inn]
theorem inF_le {d r n s l i : Int} {nm : List Nat} {M D : Int} {par : List (List Int)} {dom a g : Int} {mv : List Se} {st : List Int} {inn : List Bool} : AVle (xinF d r n s l i nm M D par dom a g mv st inn) (.agg (inC d r n s l i M D par a g mv st inn)) :=
  AVle.agg ⟨AVle.refl _, AVle.refl _, AVle.refl _, AVle.refl _, AVle.refl _, AVle.refl _, any_le38 rfl, AVle.refl _, AVle.refl _, AVle.refl _, any_le38 rfl, AVle.refl _, AVle.refl _, AVle.refl _, AVle.refl _, AVle.refl _, trivial⟩
end Go.Proofs.YtcljokdiblnhiaaGreatDoor
end
section
namespace Go.Proofs.YtcljokdiblnhiaaGreatDoor
open Go.RowKit
set_option maxHeartbeats 8000000
set_option maxRecDepth 100000
theorem psTo_len2 (c : PlCx) (rs : List Int) (k : Nat) : (psTo c rs k).2.length ≤ k := (psTo_len c rs k).2
attribute [local irreducible] Quiet Eff OpOk AWPG ACont ABlock ACalls AGoto
end Go.Proofs.YtcljokdiblnhiaaGreatDoor
end
section
namespace Go.Proofs.YtcljokdiblnhiaaGreatDoor
open Go.RowKit
set_option maxHeartbeats 4000000
theorem lin_inj (a x d p q : Nat) (hg : Nat.gcd a d = 1) (hp : p < d) (hq : q < d) (h : (a * p + x) % d = (a * q + x) % d) : p = q := by
  have key : ∀ p q, p < d → q ≤ p → (a * p + x) % d = (a * q + x) % d → p = q := by
    intro p q hp hqp h
    have h1 := Nat.sub_mod_eq_zero_of_mod_eq h
    have h2 : a * p + x - (a * q + x) = a * (p - q) := by rw [Nat.mul_sub]; omega
    rw [h2] at h1
    have h3 : d ∣ a * (p - q) := Nat.dvd_of_mod_eq_zero h1
    have h4 : d ∣ p - q := (Nat.Coprime.symm hg).dvd_of_dvd_mul_left h3
    rcases Nat.eq_zero_or_pos (p - q) with h5 | h5
    · omega
    · have := Nat.le_of_dvd h5 h4; omega
  rcases Nat.le_total q p with hle | hle
  · exact key p q hp hle h
  · exact (key q p hq hle h.symm).symm
theorem ord_nodup (D R X : Nat) (hD : 1 ≤ D) (hR : 1 ≤ R) : (I (ord D R X)).Nodup := by
  have hm := muls_mem D R _ hD hR (mulAt_mem D R X hD hR)
  have h1 : (ord D R X).Nodup := by
    unfold ord
    rw [List.Nodup, List.pairwise_map]
    have h0 := List.nodup_range (n := D)
    rw [List.Nodup] at h0
    refine List.Pairwise.imp_of_mem (fun {p q} hp hq hne he => hne (lin_inj _ _ _ _ _ hm.2.2.1 (List.mem_range.1 hp) (List.mem_range.1 hq) he)) h0
  unfold I
  rw [List.Nodup, List.pairwise_map]
  exact h1.imp fun h e => h (by omega)
theorem ordI_nodup (d r n s l i a : Int) : (ordI d r n s l i a).Nodup := by
  unfold ordI
  split
  · rename_i h
    obtain ⟨D, R, rfl, rfl, h1, h2, h3, h4⟩ := h.1.nat2
    rw [Int.toNat_natCast, Int.toNat_natCast]
    exact ord_nodup D R _ h1 h3
  · simp
theorem pick_mem {f : Int → Nat} {l : List Int} (h : 0 ≤ pick38 f l) : pick38 f l ∈ l := by
  cases l with
  | nil =>
    have e : pick38 f [] = -1 := rfl
    rw [e] at h; omega
  | cons x l => exact minF_mem f l x
theorem tgt_src {inn : List Bool} {sp : List Int} {r : Int} {rs : List Int} {out : List Rb} {se ho : Int} (hsp : ∀ y ∈ sp, srvB inn y = true) (h : 0 ≤ tgtN38 inn sp r rs out se ho) :
    srvB inn (tgtN38 inn sp r rs out se ho) = true ∧ (tgtN38 inn sp r rs out se ho = se ∨ tgtN38 inn sp r rs out se ho = ho ∨ (tgtN38 inn sp r rs out se ho ∈ sp ∧ leftB out (tgtN38 inn sp r rs out se ho) = true)) := by
  unfold tgtN38 at *
  split
  · rename_i h1; exact ⟨h1, .inl rfl⟩
  · rename_i h1
    rw [if_neg h1] at h
    split
    · rename_i h2; exact ⟨h2, .inr (.inl rfl)⟩
    · rename_i h2
      rw [if_neg h2] at h
      have h3 := List.mem_filter.1 (pick_mem h)
      exact ⟨hsp _ h3.1, .inr (.inr h3)⟩
end Go.Proofs.YtcljokdiblnhiaaGreatDoor
end
section
namespace Go.Proofs.YtcljokdiblnhiaaGreatDoor
open Go.RowKit
set_option maxHeartbeats 8000000
set_option maxRecDepth 100000
attribute [local irreducible] Quiet Eff OpOk AWPG ACont ABlock ACalls AGoto
theorem A_lserves38 {d r n s l i M D a g dk : Int} {par : List (List Int)} {mv : List Se} {st : List Int} {inn : List Bool} : ACalls Tryz.prog 34 [.agg (inC d r n s l i M D par a g mv st inn), iV dk] [] (bV (srvB inn dk)) [] := by
  refine acalls_of_body Tryz.func34 rfl (Nat.le_of_ble_eq_true rfl) ?_
  have hm : (inn.map tD).length = inn.length := List.length_map _
  unfold srvB
  by_cases h : 0 ≤ dk ∧ dk < (inn.length : Int)
  · obtain ⟨K, rfl⟩ := Int.eq_ofNat_of_zero_le h.1
    have hd : K < inn.length := by omega
    have e : inn.getD K false = inn[K] := by rw [List.getD_eq_getElem?_getD, List.getElem?_eq_getElem hd]; rfl
    rw [decide_eq_true h.1, decide_eq_true h.2, Int.toNat_natCast, e, Bool.true_and, Bool.true_and]
    generalize hq : inn[K] = b at *
    (repeat' (first
  | (apply yFb; exact rfl; exact rfl)
  | (apply W.qd; (first
    | (apply q_mv; (conv => lhs; whnf))|(apply q_as; (conv => lhs; whnf))|(apply yS; (iterate 3 exact rfl))|(apply yT; (iterate 4 exact rfl))|(apply q_lss; exact rfl; exact rfl)|(apply q_geq; exact rfl; exact rfl)|(apply yV; exact rfl; exact rfl)|(apply yX; (iterate 3 exact rfl); (first | omega | (focus (simp; done))))|(apply yGb; (iterate 4 exact rfl); (first | (with_reducible exact rfl) | exact natI_spec rfl | assumption | exact (Int.toNat_of_nonneg (by omega)).symm); (first | omega | (focus (simp only [List.length_map]; omega)) | (focus (simp; done)) | (focus (simp; omega))))
    | (apply (yEb (u := .d _)); exact rfl; exact rfl)))|(apply W.ed; (apply yBb; (iterate 3 exact rfl); kernel_rfl; kernel_rfl))|(apply yA)|(apply yB)|(apply yC; kernel_rfl)|(apply yE)|(apply yJ)
  | (refine W.gT _ _ rfl rfl (fun hb => ?_) (fun hb => ?_) <;> ((try simp only [hb, zA, zB]) <;> (try simp only [zC, zD, zE, zF, zG, zH, zI, zJ] at hb) <;> (try (exfalso; omega))))))
    all_goals first | (exfalso; omega) | exact Ends.b rfl rfl | (refine Ends.b rfl ?_; rw [← hq])
  · have hx : (decide (0 ≤ dk) && (decide (dk < (inn.length : Int)) && inn.getD dk.toNat false)) = false := by
      rcases Int.lt_or_le dk 0 with h1 | h1
      · rw [decide_eq_false (by omega), Bool.false_and]
      · rw [decide_eq_false (show ¬ dk < (inn.length : Int) from fun h2 => h ⟨h1, h2⟩), Bool.false_and, Bool.and_false]
    rw [hx]
    (repeat' (first
  | (apply yFb; exact rfl; exact rfl)
  | (apply W.qd; (first
    | (apply q_mv; (conv => lhs; whnf))|(apply q_as; (conv => lhs; whnf))|(apply yS; (iterate 3 exact rfl))|(apply yT; (iterate 4 exact rfl))|(apply q_lss; exact rfl; exact rfl)|(apply q_geq; exact rfl; exact rfl)|(apply yV; exact rfl; exact rfl)|(apply (yEb (u := .d _)); exact rfl; exact rfl)
    | (apply (yDb (u := .d _)); exact rfl; exact rfl)))|(apply W.ed; (apply yBb; (iterate 3 exact rfl); kernel_rfl; kernel_rfl))|(refine W.gOff _ _ rfl rfl (by intro h; cases h) ?_)|(apply yA)|(apply yB)|(apply yC; kernel_rfl)|(apply yE)|(apply yJ)
  | (refine W.gT _ _ rfl rfl (fun hb => ?_) (fun hb => ?_) <;> ((try simp only [hb, zA, zB]) <;> (try simp only [zC, zD, zE, zF, zG, zH, zI, zJ] at hb) <;> (try (exfalso; omega))))))
    all_goals first | (exfalso; omega) | exact Ends.b rfl rfl
end Go.Proofs.YtcljokdiblnhiaaGreatDoor
end
section
namespace Go.Proofs.YtcljokdiblnhiaaGreatDoor
open Go.RowKit
set_option maxHeartbeats 8000000
set_option maxRecDepth 100000
def runB (L : List Int) (a g : Int) (mv : List Se) (l : List Rb) : List Se := l.foldl (fun m x => doneN L m a g x.2.2.1 x.2.2.2.1) mv
theorem runB_snoc (L : List Int) (a g : Int) (mv : List Se) (l : List Rb) (x : Rb) : runB L a g mv (l ++ [x]) = doneN L (runB L a g mv l) a g x.2.2.1 x.2.2.2.1 := by
  unfold runB; rw [List.foldl_append]; rfl
end Go.Proofs.YtcljokdiblnhiaaGreatDoor
end
section
namespace Go.Proofs.YtcljokdiblnhiaaGreatDoor
open Go.RowKit
set_option maxHeartbeats 8000000
set_option maxRecDepth 100000
theorem run_len (L : List Int) (a g : Int) : ∀ (l : List Rb) (mv : List Se), (runB L a g mv l).length ≤ mv.length + l.length
  | [], mv => by simp [runB]
  | x :: l, mv => by
    have h1 := run_len L a g l (doneN L mv a g x.2.2.1 x.2.2.2.1)
    have h2 := doneN_len L mv a g x.2.2.1 x.2.2.2.1
    have h3 : runB L a g mv (x :: l) = runB L a g (doneN L mv a g x.2.2.1 x.2.2.2.1) l := rfl
    rw [h3, List.length_cons]; omega
attribute [local irreducible] Quiet Eff OpOk AWPG ACont ABlock ACalls AGoto
end Go.Proofs.YtcljokdiblnhiaaGreatDoor
end
section
namespace Go.Proofs.YtcljokdiblnhiaaGreatDoor
open Go.RowKit
set_option maxHeartbeats 4000000
def badTo (hv : List Bool) (k : Nat) : Nat := ((List.range k).filter fun u => !hv.getD u false).length
theorem badTo_succ (hv : List Bool) (k : Nat) : badTo hv (k + 1) = badTo hv k + (if hv.getD k false = true then 0 else 1) := by
  unfold badTo
  rw [List.range_succ, List.filter_append, List.length_append]
  congr 1
  cases hb : hv.getD k false with
  | true => rw [if_pos rfl, List.filter_cons_of_neg (by rw [hb]; decide)]; rfl
  | false => rw [if_neg (by simp), List.filter_cons_of_pos (by rw [hb]; decide)]; rfl
theorem badTo_le (hv : List Bool) : ∀ k j, j ≤ k → badTo hv j ≤ badTo hv k
  | 0, j, h => by rw [show j = 0 by omega]; exact Nat.le_refl _
  | k + 1, j, h => by
    rcases Nat.lt_or_ge j (k + 1) with h1 | h1
    · have := badTo_le hv k j (by omega)
      rw [badTo_succ]; omega
    · rw [show j = k + 1 by omega]; exact Nat.le_refl _
theorem nodup_sub : ∀ (l m : List Int), l.Nodup → (∀ x ∈ l, x ∈ m) → l.length ≤ m.length
  | [], _, _, _ => by simp
  | x :: l, m, hn, h => by
    have hx := h x (by simp)
    obtain ⟨h1, h2⟩ := List.nodup_cons.1 hn
    have h3 := nodup_sub l (m.erase x) h2 fun y hy => (List.mem_erase_of_ne (fun e => h1 (by rw [← e]; exact hy))).2 (h y (by simp [hy]))
    rw [List.length_erase_of_mem hx] at h3
    have := List.length_pos_of_mem hx
    rw [List.length_cons]; omega
theorem srv_nn {inn : List Bool} {y : Int} (h : srvB inn y = true) : 0 ≤ y := by
  unfold srvB at h
  rw [Bool.and_eq_true, decide_eq_true_eq] at h
  exact h.1
theorem tgt_nn {inn : List Bool} {sp : List Int} {r : Int} {rs : List Int} {out : List Rb} {se ho : Int} (hsp : ∀ y ∈ sp, srvB inn y = true) (hnd : sp.Nodup) (hc : out.length < sp.length) : 0 ≤ tgtN38 inn sp r rs out se ho := by
  unfold tgtN38
  split
  · rename_i h; exact srv_nn h
  · split
    · rename_i h; exact srv_nn h
    · cases hf : sp.filter (leftB out) with
      | nil =>
        exfalso
        have h1 := nodup_sub sp (out.map fun x => x.2.2.2.1) hnd fun y hy => by
          have h2 := (List.filter_eq_nil_iff.1 hf) y hy
          unfold leftB at h2
          simp only [Bool.not_eq_true', decide_eq_false_iff_not] at h2
          have h5 : 0 ≤ idxA (onDisk y) out := by omega
          obtain ⟨j, hj, e⟩ := idxA_ge0 h5
          obtain ⟨_, h4, _⟩ := idxA_iff.1 e
          unfold onDisk at h4
          rw [decide_eq_true_eq] at h4
          exact List.mem_map.2 ⟨out[j], List.getElem_mem hj, h4⟩
        rw [List.length_map] at h1
        omega
      | cons x l =>
        have h1 : minF (fun y => rs.count (y % r)) x l ∈ sp.filter (leftB out) := by rw [hf]; exact minF_mem _ l x
        exact srv_nn (hsp _ (List.mem_filter.1 h1).1)
structure FullC (c : PlCx) (w : Nat) : Prop where
  sp : ∀ y ∈ c.sp, srvB c.inn y = true
  nd : c.sp.Nodup
  pl : ∀ u, u < w → c.hv.getD u false = false → (c.pl u).isSome = true
  card : badTo c.hv w ≤ c.sp.length
structure RbF (c : PlCx) (k : Nat) (x : Rb) : Prop where
  a : x.1 = c.a
  g : x.2.1 = c.g
  u : ∃ j, j < k ∧ x.2.2.1 = (j : Int)
  s : srvB c.inn x.2.2.2.1 = true
theorem psTo_full {c : PlCx} {w : Nat} (hc : FullC c w) (rs : List Int) : ∀ k, k ≤ w → (psTo c rs k).2.length = badTo c.hv k ∧ (∀ x ∈ (psTo c rs k).2, RbF c k x) ∧ (psTo c rs k).2.Pairwise (fun x y => x.2.2.1 < y.2.2.1) ∧ ∀ u, u < k → c.hv.getD u false = false → ∃ x ∈ (psTo c rs k).2, x.2.2.1 = (u : Int)
  | 0, _ => by simp [psTo, badTo]
  | k + 1, hk => by
    obtain ⟨ih0, ih1, ih2, ih3⟩ := psTo_full hc rs k (by omega)
    have up : ∀ x, RbF c k x → RbF c (k + 1) x := fun x h => ⟨h.a, h.g, by obtain ⟨j, h1, h2⟩ := h.u; exact ⟨j, by omega, h2⟩, h.s⟩
    rw [psTo_succ, badTo_succ]
    unfold psStep
    by_cases hh : c.hv.getD k false = true
    · rw [if_pos hh, if_pos hh]
      refine ⟨by omega, fun x hx => up x (ih1 x hx), ih2, fun u hu hb => ?_⟩
      by_cases e : u = k
      · subst e; rw [hh] at hb; cases hb
      · exact ih3 u (by omega) hb
    · rw [if_neg hh, if_neg hh]
      have hkb : c.hv.getD k false = false := by simpa using hh
      obtain ⟨tl, hp⟩ := Option.isSome_iff_exists.1 (hc.pl k (by omega) hkb)
      rw [hp]
      dsimp only
      have hcard : (psTo c rs k).2.length < c.sp.length := by
        have h1 := badTo_le c.hv w (k + 1) hk
        rw [badTo_succ, if_neg hh] at h1
        have := hc.card
        omega
      have ht := tgt_nn hc.sp hc.nd hcard (r := c.r) (rs := (psTo c rs k).1) (se := c.se.getD k 0) (ho := c.ho.getD k 0)
      obtain ⟨h1, _⟩ := tgt_src hc.sp (r := c.r) (rs := (psTo c rs k).1) (out := (psTo c rs k).2) (se := c.se.getD k 0) (ho := c.ho.getD k 0) ht
      change 0 ≤ c.tgt (psTo c rs k) k at ht
      change srvB c.inn (c.tgt (psTo c rs k) k) = true at h1
      rw [if_pos ht]
      dsimp only
      generalize c.tgt (psTo c rs k) k = t at *
      generalize (psTo c rs k).2 = out at *
      refine ⟨by rw [List.length_append, List.length_singleton]; omega, fun x hx => ?_, ?_, fun u hu hb => ?_⟩
      · rcases List.mem_append.1 hx with h | h
        · exact up x (ih1 x h)
        · rw [List.mem_singleton] at h
          subst h
          exact ⟨rfl, rfl, ⟨k, by omega, rfl⟩, h1⟩
      · rw [List.pairwise_append]
        refine ⟨ih2, List.pairwise_singleton _ _, fun x hx y hy => ?_⟩
        rw [List.mem_singleton] at hy
        subst hy
        obtain ⟨j, hj, hxj⟩ := (ih1 x hx).u
        dsimp only
        omega
      · by_cases e : u = k
        · subst e; exact ⟨_, List.mem_append_right _ (List.mem_singleton.2 rfl), rfl⟩
        · obtain ⟨x, hx, h2⟩ := ih3 u (by omega) hb
          exact ⟨x, List.mem_append_left _ hx, h2⟩
theorem run_keep {ho : List Int} {a g : Int} {j : Nat} (hj : j < ho.length) : ∀ (l : List Rb) (mv : List Se), (∀ x ∈ l, x.2.2.1 ≠ (j : Int)) → (seatsN ho (runB ho a g mv l) a g).getD j 0 = (seatsN ho mv a g).getD j 0
  | [], _, _ => rfl
  | x :: l, mv, h => by
    have h1 := run_keep (a := a) (g := g) hj l (doneN ho mv a g x.2.2.1 x.2.2.2.1) fun y hy => h y (by simp [hy])
    have h2 := done_seat (mv := mv) (a := a) (g := g) (u := x.2.2.1) (dk := x.2.2.2.1) hj
    rw [if_neg (fun e => h x (by simp) e.symm)] at h2
    rw [h2] at h1
    exact h1
theorem run_seat {ho : List Int} {a g : Int} {j : Nat} (hj : j < ho.length) : ∀ (l : List Rb) (mv : List Se), l.Pairwise (fun x y => x.2.2.1 < y.2.2.1) → ∀ x ∈ l, x.2.2.1 = (j : Int) → (seatsN ho (runB ho a g mv l) a g).getD j 0 = x.2.2.2.1
  | [], _, _, x, hx, _ => by simp at hx
  | y :: l, mv, hp, x, hx, hxj => by
    obtain ⟨hp1, hp2⟩ := List.pairwise_cons.1 hp
    rcases List.mem_cons.1 hx with h | h
    · subst h
      have h1 := run_keep (a := a) (g := g) hj l (doneN ho mv a g x.2.2.1 x.2.2.2.1) fun z hz e => by have := hp1 z hz; omega
      have h2 := done_seat (mv := mv) (a := a) (g := g) (u := x.2.2.1) (dk := x.2.2.2.1) hj
      rw [if_pos hxj.symm] at h2
      rw [h2] at h1
      exact h1
    · exact run_seat hj l (doneN ho mv a g y.2.2.1 y.2.2.2.1) hp2 x h hxj
theorem set_false {hv : List Bool} {u : Nat} (h : hv.getD u false = false) : hv.set u false = hv := by
  apply List.ext_getElem?
  intro q
  rw [List.getElem?_set]
  by_cases e : u = q
  · subst e
    rw [if_pos rfl]
    split
    · rename_i h2
      rw [List.getD_eq_getElem?_getD, List.getElem?_eq_getElem h2] at h
      rw [List.getElem?_eq_getElem h2]
      exact congrArg some h.symm
    · rename_i h2
      rw [List.getElem?_eq_none (by omega)]
  · rw [if_neg e]
theorem full_ok {M D : Nat} {ps : List (List Nat)} {d r n s l i a g : Int} {mv : List Se} {st : List Int} {inn : List Bool} (h : CodeOk M D ps) (hst : st.length = D + ps.length) (hdec : (basisN M D ps (goodB st)).length = D) (hcard : badTo (goodB st) (D + ps.length) ≤ (spareN (sprI d r n s l i a (D + ps.length : Nat)) mv inn a).length) : FullC (plCx M D ps d r n s l i a g mv st inn) (D + ps.length) := by
  have hgl : (goodB st).length = D + ps.length := by unfold goodB; rw [List.length_map]; exact hst
  refine ⟨fun y hy => ?_, ?_, fun u hu hb => ?_, hcard⟩
  · change y ∈ spareN _ mv inn a at hy
    unfold spareN at hy
    have := (List.mem_filter.1 hy).2
    unfold freeB at this
    rw [Bool.and_eq_true] at this
    exact this.1
  · show (spareN (sprI d r n s l i a (D + ps.length : Nat)) mv inn a).Nodup
    unfold spareN
    refine (List.filter_sublist).nodup ?_
    unfold sprI
    split
    · exact (List.drop_sublist _ _).nodup (ordI_nodup _ _ _ _ _ _ _)
    · simp
  · show (planN M D ps (goodB st) u).isSome = true
    have hb : (goodB st).getD u false = false := hb
    rw [plan_iff h hgl hu, set_false hb]
    exact (full_iff_rec h hgl).1 hdec u hu
end Go.Proofs.YtcljokdiblnhiaaGreatDoor
end
section
namespace Go.Proofs.YtcljokdiblnhiaaGreatDoor
open Go.RowKit
set_option maxHeartbeats 8000000
set_option maxRecDepth 100000
attribute [local irreducible] Quiet Eff OpOk AWPG ACont ABlock ACalls AGoto
theorem A_healComplete {d r n s l i M D a g : Int} {par : List (List Int)} {mv : List Se} {st : List Int} {inn : List Bool} (hp : CodeIn par) (hmv : mv.length ≤ 9223372036854775807) (hsv0 : st.length ≤ 9223372036854775807) : ACalls Tryz.prog 8 [.agg (inC d r n s l i M D par a g mv st inn)] [] (bV true) [] := by
  have hsa := A_sanity38
  have hsm := A_small38 (d := d) (r := r) (n := n) (s := s) (l := l) (i := i) (M := M) (D := D) (par := par) (mv := mv)
  have hw := A_ewidth (M := M) (D := D) hp
  have hms : (st.map iD).length = st.length := List.length_map _
  have hmi : (inn.map tD).length = inn.length := List.length_map _
  refine acalls_of_body Tryz.func8 rfl (Nat.le_of_ble_eq_true rfl) ?_
  cases hq : smallH d D par mv with
  | false =>
    rw [hq] at hsm
    generalize (if validC M D par = true then D + (par.length : Int) else 0) = w at *
    (repeat' (first
  | (apply W.qd; (first
    | (apply (yW (hsa)); exact rfl; exact rfl; (iterate 3 kernel_rfl))|(apply (yW (hsm)); exact rfl; exact rfl; (iterate 3 kernel_rfl))|(apply (yW (hw)); exact rfl; exact rfl; (iterate 3 kernel_rfl))|(apply q_mv; (conv => lhs; whnf))|(apply q_as; (conv => lhs; whnf))|(apply yS; (iterate 3 exact rfl))|(apply yT; (iterate 4 exact rfl))|(apply yU; (iterate 4 exact rfl))|(apply q_not; exact rfl)
    | (apply (yEb (u := .d _)); exact rfl; exact rfl)))|(apply W.ed; (apply yBb; (iterate 3 exact rfl); kernel_rfl; kernel_rfl))|(refine W.gOff _ _ rfl rfl (by intro h; cases h) ?_)|(apply yA)|(apply yB)|(apply (W.regionS 5); exact rfl; kernel_rfl)|(apply yE)|(apply yJ)|(apply yP)
  | (apply yQ; exact rfl)))
    all_goals first | (exfalso; omega) | exact Ends.b rfl rfl
  | true =>
  rw [hq] at hsm
  have hm40 : mv.length ≤ 40 := by
    unfold smallH at hq
    simp only [Bool.and_eq_true, decide_eq_true_eq] at hq
    exact hq.2.2
  have hwb : (if validC M D par = true then D + (par.length : Int) else 0) ≤ 32 := by
    split
    · rename_i hV
      obtain ⟨m, d', ps, rfl, rfl, rfl, hok⟩ := ok_valid hV
      have := hok.w
      have hpn : (toZ ps).length = ps.length := List.length_map _
      omega
    · omega
  by_cases hg : inn.length ≤ 40 ∧ (st.length : Int) = (if validC M D par = true then D + (par.length : Int) else 0)
  case neg =>
    generalize (if validC M D par = true then D + (par.length : Int) else 0) = w at *
    (repeat' (first
  | (apply yFb; exact rfl; exact rfl)
  | (apply W.qd; (first
    | (apply (yW (hsa)); exact rfl; exact rfl; (iterate 3 kernel_rfl))|(apply (yW (hsm)); exact rfl; exact rfl; (iterate 3 kernel_rfl))|(apply (yW (hw)); exact rfl; exact rfl; (iterate 3 kernel_rfl))|(apply q_mv; (conv => lhs; whnf))|(apply q_as; (conv => lhs; whnf))|(apply yS; (iterate 3 exact rfl))|(apply yT; (iterate 4 exact rfl))|(apply yU; (iterate 4 exact rfl))|(apply q_gtr; exact rfl; exact rfl)|(apply q_neq; exact rfl; exact rfl)|(apply q_not; exact rfl)|(apply yV; exact rfl; exact rfl)|(apply (yEb (u := .d _)); exact rfl; exact rfl)
    | (apply (yDb (u := .d _)); exact rfl; exact rfl)))|(apply W.ed; (apply yBb; (iterate 3 exact rfl); kernel_rfl; kernel_rfl))|(refine W.gOff _ _ rfl rfl (by intro h; cases h) ?_)|(apply yA)|(apply yB)|(apply (W.regionS 5); exact rfl; kernel_rfl)|(apply yE)|(apply yJ)|(apply yP)|(apply yQ; exact rfl)|(refine W.gF _ _ rfl rfl (fun hb => ?_) (fun hb => ?_) <;> ((try simp only [hb, zA, zB]) <;> (try simp only [zC, zD, zE, zF, zG, zH, zI, zJ] at hb) <;> (try (exfalso; omega))))
  | (refine W.cond _ rfl (fun hb => ?_) (fun hb => ?_) <;> ((try simp only [hb, zA, zB]) <;> (try simp only [zC, zD, zE, zF, zG, zH, zI, zJ] at hb) <;> (try (exfalso; omega))))))
    all_goals first | (exfalso; omega) | exact Ends.b rfl rfl
  obtain ⟨hi40, hst⟩ := hg
  rw [← hst] at hw hwb
  obtain ⟨wN, hwN⟩ : ∃ wN, wN = st.length := ⟨_, rfl⟩
  rw [← hwN] at hw hwb
  have hgl : (goodB st).length = wN := by unfold goodB; rw [List.length_map]; exact hwN.symm
  have hbs := badTo_succ (goodB st)
  have hb0 : badTo (goodB st) 0 = 0 := rfl
  have hbl : ∀ k, badTo (goodB st) k ≤ k := fun k => by
    unfold badTo
    exact Nat.le_trans (List.length_filter_le _ _) (by simp)
  have hgk : ∀ k (h : k < wN), (goodB st)[k]'(by omega) = decide (st[k]'(by omega) = 1) := fun k h => by
    unfold goodB; rw [List.getElem_map]
  (repeat' (first
  | (apply yFb; exact rfl; exact rfl)
  | (apply W.qd; (first
    | (apply (yW (hsa)); exact rfl; exact rfl; (iterate 3 kernel_rfl))|(apply (yW (hsm)); exact rfl; exact rfl; (iterate 3 kernel_rfl))|(apply (yW (hw)); exact rfl; exact rfl; (iterate 3 kernel_rfl))|(apply q_mv; (conv => lhs; whnf))|(apply q_as; (conv => lhs; whnf))|(apply yS; (iterate 3 exact rfl))|(apply yT; (iterate 4 exact rfl))|(apply yU; (iterate 4 exact rfl))|(apply q_gtr; exact rfl; exact rfl)|(apply q_neq; exact rfl; exact rfl)|(apply q_not; exact rfl)|(apply yV; exact rfl; exact rfl)
    | (apply (yDb (u := .d _)); exact rfl; exact rfl)))|(apply W.ed; (apply yBb; (iterate 3 exact rfl); kernel_rfl; kernel_rfl))|(apply yA)|(apply yB)|(apply (W.regionS 6); exact rfl; kernel_rfl)|(apply yE)|(apply yH)|(refine W.gF _ _ rfl rfl (fun hb => ?_) (fun hb => ?_) <;> ((try simp only [hb, zA, zB]) <;> (try simp only [zC, zD, zE, zF, zG, zH, zI, zJ] at hb) <;> (try (exfalso; omega))))
  | (refine W.cond _ rfl (fun hb => ?_) (fun hb => ?_) <;> ((try simp only [hb, zA, zB]) <;> (try simp only [zC, zD, zE, zF, zG, zH, zI, zJ] at hb) <;> (try (exfalso; omega))))))
  all_goals try (exfalso; omega)
  refine AWP.nilRow 5 1 4 rfl (by omega) ?_
  (repeat' (first
  | (apply W.qd; (apply q_as; (conv => lhs; whnf)))|(apply yA)|(apply yB)|(apply (W.regionS 8); exact rfl; kernel_rfl)|(apply yE)
  | (apply yG)))
  refine AWP.loopW (α := Nat) (fun k => k ≤ wN) (fun k => ⟨[(7, iV k), (6, iV (badTo (goodB st) k : Nat)), (5, .osl 1 k 0 ((goodB st).take k).length), (1, .opt 0 0), (3, bV true), (4, iV wN)], [.box (inC d r n s l i M D par a g mv st inn), .row k 1 4 (((goodB st).take k).map tD)]⟩) (fun k => wN - k) 0 (Nat.zero_le _) ?wkA fun k hk => ?_
  case wkA => rw [hb0]; exact ⟨[0, 1], rfl, rfl, rfl, by (repeat (first | exact trivial | refine ⟨rfl, ?_⟩))⟩
  by_cases hkl : k < wN
  · have hkst : k < st.length := by omega
    have hkg : k < (goodB st).length := by omega
    have h1 := hbs k
    have h2 := hbl k
    have e1 : (goodB st)[k]'hkg = decide (st[k]'hkst = 1) := hgk k hkl
    have e2 : (goodB st).getD k false = decide (st[k]'hkst = 1) := by rw [List.getD_eq_getElem?_getD, List.getElem?_eq_getElem hkg, Option.getD_some, e1]
    have h3 : (goodB st).take (k + 1) = (goodB st).take k ++ [decide (st[k]'hkst = 1)] := by rw [List.take_succ_eq_append_getElem hkg, e1]
    have hln : ((goodB st).take k).length = k := by rw [List.length_take]; omega
    rw [e2] at h1
    clear hbs hbl hgk e1 e2 hb0
    generalize badTo (goodB st) k = b0 at *
    replace h3 := Lib.hid h3
    generalize (goodB st).take k = A at *
    have hkA : k < (A ++ [decide (st[k]'hkst = 1)]).length := by simp; omega
    have hzA : (A ++ [decide (st[k]'hkst = 1)])[k]'hkA = decide (st[k]'hkst = 1) := by
      rw [List.getElem_append_right (by omega)]; simp
    by_cases hg1 : st[k]'hkst = 1
    · rw [decide_eq_true hg1, if_pos rfl] at h1
      (repeat' (first
  | (apply W.qd; (first
    | (apply q_mv; (conv => lhs; whnf))|(apply q_as; (conv => lhs; whnf))|(apply yS; (iterate 3 exact rfl))|(apply yT; (iterate 4 exact rfl))|(apply q_lss; exact rfl; exact rfl)|(apply q_eql; exact rfl; exact rfl)|(apply q_not; exact rfl)|(apply q_add; exact rfl; exact rfl; omega)|(apply yX; (iterate 3 exact rfl); (first | omega | (focus (simp; done))))|(apply q_litF; (iterate 5 exact rfl); kernel_rfl; kernel_rfl; exact rfl)|(apply yGb; (iterate 4 exact rfl); (first | (with_reducible exact rfl) | exact natI_spec rfl | assumption | exact (Int.toNat_of_nonneg (by omega)).symm); (first | omega | (focus (simp only [List.length_map]; omega)) | (focus (simp; done)) | (focus (simp; omega))))|(apply q_ix_osl0; (iterate 4 exact rfl); (first | (with_reducible exact rfl) | exact natI_spec rfl | assumption | exact (Int.toNat_of_nonneg (by omega)).symm); (first | omega | (focus (simp only [List.length_map]; omega)) | (focus (simp; done)) | (focus (simp; omega))))
    | (apply q_ld_rptm; (iterate 4 exact rfl); (first | omega | (focus (simp only [List.length_map]; omega)) | (focus (simp; done)) | (focus (simp; omega))))))|(apply W.ld; (apply l_app1; (iterate 8 exact rfl); (first | omega | (focus (simp; omega)) | (focus (simp; done)))))|(apply yA)|(apply yB)|(apply yC; kernel_rfl)|(apply yE)|(apply yG)|(apply yH)|(apply yL)
  | (refine W.cond _ rfl (fun hb => ?_) (fun hb => ?_) <;> ((try simp only [hb, zA, zB]) <;> (try simp only [zC, zD, zE, zF, zG, zH, zI, zJ] at hb) <;> (try (exfalso; omega))))))
      all_goals first
        | (exfalso; omega)
        | (exfalso; exact absurd (show (A ++ [decide (st[k]'hkst = 1)])[k]'hkA = false by assumption) (by rw [hzA, decide_eq_true hg1]; decide))|(refine ⟨k + 1, by omega, by omega, ?_⟩; rw [h3.out]; exact ⟨[0, 1], rfl, rfl, rfl, iV_eq (by omega), iV_eq (by rw [h1]; omega), rfl, rfl, rfl, rfl, trivial⟩)
    · rw [decide_eq_false hg1, if_neg (by simp)] at h1
      (repeat' (first
  | (apply W.qd; (first
    | (apply q_mv; (conv => lhs; whnf))|(apply q_as; (conv => lhs; whnf))|(apply yS; (iterate 3 exact rfl))|(apply yT; (iterate 4 exact rfl))|(apply q_lss; exact rfl; exact rfl)|(apply q_eql; exact rfl; exact rfl)|(apply q_not; exact rfl)|(apply q_add; exact rfl; exact rfl; omega)|(apply yX; (iterate 3 exact rfl); (first | omega | (focus (simp; done))))|(apply q_litF; (iterate 5 exact rfl); kernel_rfl; kernel_rfl; exact rfl)|(apply yGb; (iterate 4 exact rfl); (first | (with_reducible exact rfl) | exact natI_spec rfl | assumption | exact (Int.toNat_of_nonneg (by omega)).symm); (first | omega | (focus (simp only [List.length_map]; omega)) | (focus (simp; done)) | (focus (simp; omega))))|(apply q_ix_osl0; (iterate 4 exact rfl); (first | (with_reducible exact rfl) | exact natI_spec rfl | assumption | exact (Int.toNat_of_nonneg (by omega)).symm); (first | omega | (focus (simp only [List.length_map]; omega)) | (focus (simp; done)) | (focus (simp; omega))))
    | (apply q_ld_rptm; (iterate 4 exact rfl); (first | omega | (focus (simp only [List.length_map]; omega)) | (focus (simp; done)) | (focus (simp; omega))))))|(apply W.ld; (apply l_app1; (iterate 8 exact rfl); (first | omega | (focus (simp; omega)) | (focus (simp; done)))))|(apply yA)|(apply yB)|(apply yC; kernel_rfl)|(apply yE)|(apply yG)|(apply yH)|(apply yL)
  | (refine W.cond _ rfl (fun hb => ?_) (fun hb => ?_) <;> ((try simp only [hb, zA, zB]) <;> (try simp only [zC, zD, zE, zF, zG, zH, zI, zJ] at hb) <;> (try (exfalso; omega))))))
      all_goals first
        | (exfalso; omega)
        | (exfalso; exact absurd (show (A ++ [decide (st[k]'hkst = 1)])[k]'hkA = true by assumption) (by rw [hzA, decide_eq_false hg1]; decide))|(refine ⟨k + 1, by omega, by omega, ?_⟩; rw [h3.out]; exact ⟨[0, 1], rfl, rfl, rfl, iV_eq (by omega), iV_eq (by rw [h1]; omega), rfl, rfl, rfl, rfl, trivial⟩)
  have hkw : wN = k := by omega
  subst hkw
  have htk : (goodB st).take wN = goodB st := List.take_of_length_le (by omega)
  rw [htk]
  clear htk hbs hb0 hgk
  (repeat' (first
  | (apply W.qd; (first
    | (apply q_mv; (conv => lhs; whnf))
    | (apply q_lss; exact rfl; exact rfl)))|(apply yA)|(apply yB)|(apply (W.regionS 13); exact rfl; kernel_rfl)|(apply yE)|(apply yI)|(apply yK)|(apply yM)
  | (refine W.cond _ rfl (fun hb => ?_) (fun hb => ?_) <;> ((try simp only [hb, zA, zB]) <;> (try simp only [zC, zD, zE, zF, zG, zH, zI, zJ] at hb) <;> (try (exfalso; omega))))))
  all_goals try (exfalso; omega)
  refine AWP.wk ⟨[(5, bools (goodB st)), (6, iV (badTo (goodB st) wN : Nat)), (1, .opt 0 0), (3, bV true), (4, iV wN)], [.box (inC d r n s l i M D par a g mv st inn)]⟩ ⟨[0], rfl, rfl, rfl, (frz_rowJ (i := 1) (ver := wN) (n := (goodB st).length) (l := (goodB st).map tD) rfl rfl (by simp)).symm, rfl, rfl, rfl, rfl, trivial⟩ ?_
  by_cases hP : validC M D par = true ∧ plcI d r n s l i a (D + (par.length : Int)) g ≠ [] ∧ (st.length : Int) = D + (par.length : Int)
  case neg =>
    have hpl := A_hplan_bad (d := d) (r := r) (n := n) (s := s) (l := l) (i := i) (a := a) (g := g) (mv := mv) (st := st) (inn := inn) hp hP
    (repeat' (first
  | (apply W.qd; (first
    | (apply (yW (hpl)); exact rfl; exact rfl; (iterate 3 kernel_rfl))|(apply q_mv; (conv => lhs; whnf))|(apply q_as; (conv => lhs; whnf))|(apply yS; (iterate 3 exact rfl))|(apply yT; (iterate 4 exact rfl))|(apply yU; (iterate 4 exact rfl))|(apply q_neq; exact rfl; exact rfl)|(apply yAb; exact rfl; exact rfl)
    | (apply (yEb (u := .d _)); exact rfl; exact rfl)))|(refine W.gOff _ _ rfl rfl (by intro h; cases h) ?_)|(apply yA)|(apply yB)|(apply (W.regionS 16); exact rfl; kernel_rfl)|(apply yE)|(apply yJ)|(apply yP)
  | (apply yQ; exact rfl)))
    all_goals first | (exfalso; omega) | exact Ends.b rfl rfl
  obtain ⟨hV, hne, hst2⟩ := hP
  obtain ⟨m, d', ps, rfl, rfl, rfl, hok⟩ := ok_valid hV
  have hpn : (toZ ps).length = ps.length := List.length_map _
  rw [hpn] at hne hst2
  have hwe2 : wN = d' + ps.length := by omega
  have hne : plcI d r n s l i a (d' + ps.length : Nat) g ≠ [] := by rw [show ((d' + ps.length : Nat) : Int) = (d' : Int) + (ps.length : Int) by omega]; exact hne
  have hst3 : st.length = d' + ps.length := by omega
  have hgl2 : (goodB st).length = d' + ps.length := by omega
  have hpl := A_hplan (d := d) (r := r) (n := n) (s := s) (l := l) (i := i) (a := a) (g := g) (mv := mv) (st := st) (inn := inn) hok (by omega) hst3 hne
  have hdc := A_decodable hok hgl2
  rw [cdN_A] at hpl hdc
  have hspr := A_spare (d := d) (r := r) (n := n) (s := s) (l := l) (i := i) (wd := (d' + ps.length : Nat)) (row := a) (mv := mv) (inn := inn) (by omega)
  have hwd := hok.w
  by_cases hdec : (basisN m d' ps (goodB st)).length = d'
  case neg =>
    rw [decide_eq_false hdec] at hdc
    (repeat' (first
  | (apply yFb; exact rfl; exact rfl)
  | (apply W.qd; (first
    | (apply (yW (hpl)); exact rfl; exact rfl; (iterate 3 kernel_rfl))|(apply (yW (hdc)); exact rfl; exact rfl; (iterate 3 kernel_rfl))|(apply q_mv; (conv => lhs; whnf))|(apply q_as; (conv => lhs; whnf))|(apply yS; (iterate 3 exact rfl))|(apply yT; (iterate 4 exact rfl))|(apply yU; (iterate 4 exact rfl))|(apply q_neq; exact rfl; exact rfl)|(apply q_not; exact rfl)|(apply yAb; exact rfl; exact rfl)|(apply (yEb (u := .d _)); exact rfl; exact rfl)
    | (apply (yDb (u := .d _)); exact rfl; exact rfl)))|(refine W.gOff _ _ rfl rfl (by intro h; cases h) ?_)|(apply yA)|(apply yB)|(apply (W.regionS 16); exact rfl; kernel_rfl)|(apply yE)|(apply yJ)|(apply yP)
  | (apply yQ; exact rfl)))
    all_goals first | (exfalso; omega) | exact Ends.b rfl rfl
  rw [decide_eq_true hdec] at hdc
  rw [← hwe2] at hspr
  have hms2 : ((spareN (sprI d r n s l i a (wN : Nat)) mv inn a).map iD).length = (spareN (sprI d r n s l i a (wN : Nat)) mv inn a).length := List.length_map _
  by_cases hcard : badTo (goodB st) wN ≤ (spareN (sprI d r n s l i a (wN : Nat)) mv inn a).length
  case neg =>
    generalize spareN (sprI d r n s l i a (wN : Nat)) mv inn a = sp at *
    generalize badTo (goodB st) wN = b9 at *
    (repeat' (first
  | (apply yFb; exact rfl; exact rfl)
  | (apply W.qd; (first
    | (apply (yW (hpl)); exact rfl; exact rfl; (iterate 3 kernel_rfl))|(apply (yW (hdc)); exact rfl; exact rfl; (iterate 3 kernel_rfl))|(apply (yW (hspr)); exact rfl; exact rfl; (iterate 3 kernel_rfl))|(apply q_mv; (conv => lhs; whnf))|(apply q_as; (conv => lhs; whnf))|(apply yS; (iterate 3 exact rfl))|(apply yT; (iterate 4 exact rfl))|(apply yU; (iterate 4 exact rfl))|(apply q_lss; exact rfl; exact rfl)|(apply q_neq; exact rfl; exact rfl)|(apply q_not; exact rfl)|(apply yAb; exact rfl; exact rfl)|(apply yV; exact rfl; exact rfl)
    | (apply (yDb (u := .d _)); exact rfl; exact rfl)))|(apply yA)|(apply yB)|(apply (W.regionS 16); exact rfl; kernel_rfl)|(apply yE)|(apply yJ)|(apply yP)
  | (refine W.cond _ rfl (fun hb => ?_) (fun hb => ?_) <;> ((try simp only [hb, zA, zB]) <;> (try simp only [zC, zD, zE, zF, zG, zH, zI, zJ] at hb) <;> (try (exfalso; omega))))))
    all_goals first | (exfalso; omega) | exact Ends.b rfl rfl
  have hfull := full_ok (d := d) (r := r) (n := n) (s := s) (l := l) (i := i) (a := a) (g := g) (mv := mv) (st := st) (inn := inn) hok hst3 hdec (by rw [← hwe2]; exact hcard)
  obtain ⟨f1, f2, f3, f4⟩ := psTo_full hfull (grTo st (plCx m d' ps d r n s l i a g mv st inn).se (plCx m d' ps d r n s l i a g mv st inn).d (plCx m d' ps d r n s l i a g mv st inn).r st.length) st.length (by omega)
  change (planH (plCx m d' ps d r n s l i a g mv st inn) st st.length).length = _ at f1
  change ∀ x ∈ planH (plCx m d' ps d r n s l i a g mv st inn) st st.length, _ at f2
  change (planH (plCx m d' ps d r n s l i a g mv st inn) st st.length).Pairwise _ at f3
  change ∀ u, u < st.length → _ → ∃ x ∈ planH (plCx m d' ps d r n s l i a g mv st inn) st st.length, _ at f4
  have e2 : (plCx m d' ps d r n s l i a g mv st inn).hv = goodB st := rfl
  have e3 : (plCx m d' ps d r n s l i a g mv st inn).a = a := rfl
  have e4 : (plCx m d' ps d r n s l i a g mv st inn).g = g := rfl
  have e5 : (plCx m d' ps d r n s l i a g mv st inn).inn = inn := rfl
  rw [e2] at f1 f4
  have hLl : (planH (plCx m d' ps d r n s l i a g mv st inn) st st.length).length ≤ st.length := psTo_len2 _ _ _
  generalize planH (plCx m d' ps d r n s l i a g mv st inn) st st.length = L at *
  generalize plCx m d' ps d r n s l i a g mv st inn = cx at *
  rw [← hwN] at f1
  have hmL : (L.map rbD).length = L.length := List.length_map _
  have hbad : badTo (goodB st) wN ≤ (spareN (sprI d r n s l i a (wN : Nat)) mv inn a).length := hcard
  generalize spareN (sprI d r n s l i a (wN : Nat)) mv inn a = sp at *
  generalize badTo (goodB st) wN = b9 at *
  rw [← hwe2] at hne
  obtain ⟨_, _, _, hpll⟩ := plc_ok hne
  have hDn := fun (x : Rb) (mk : List Se) (hmk : mk.length ≤ 900000) => A_done (d := d) (r := r) (n := n) (s := s) (l := l) (i := i) (wd := wN) (a := x.1) (g := x.2.1) (u := x.2.2.1) (dk := x.2.2.2.1) (mv := mk) hmk
  have hrl := fun ll : List Rb => run_len (plcI d r n s l i a wN g) a g ll mv
  have hS2 := fun mk (hmk : mk.length ≤ 1000000) => A_seats (d := d) (r := r) (n := n) (s := s) (l := l) (i := i) (wd := wN) (a := a) (g := g) (mv := mk) hmk
  have hsv := fun dk => A_lserves38 (d := d) (r := r) (n := n) (s := s) (l := l) (i := i) (M := m) (D := d') (par := toZ ps) (a := a) (g := g) (mv := mv) (st := st) (inn := inn) (dk := dk)
  have hLu : ∀ k (hk : k < L.length), runB (plcI d r n s l i a wN g) a g mv (L.take (k + 1)) = doneN (plcI d r n s l i a wN g) (runB (plcI d r n s l i a wN g) a g mv (L.take k)) a g L[k].2.2.1 L[k].2.2.2.1 := fun k hk => by
    rw [List.take_succ_eq_append_getElem hk, runB_snoc]
  generalize hho : plcI d r n s l i a wN g = ho at *
  have hhw : ho.length = wN := by omega
  (repeat' (first
  | (apply yFb; exact rfl; exact rfl)
  | (apply W.qd; (first
    | (apply (yW (hpl)); exact rfl; exact rfl; (iterate 3 kernel_rfl))|(apply (yW (hdc)); exact rfl; exact rfl; (iterate 3 kernel_rfl))|(apply (yW (hspr)); exact rfl; exact rfl; (iterate 3 kernel_rfl))|(apply q_mv; (conv => lhs; whnf))|(apply q_as; (conv => lhs; whnf))|(apply yS; (iterate 3 exact rfl))|(apply yT; (iterate 4 exact rfl))|(apply yU; (iterate 4 exact rfl))|(apply q_lss; exact rfl; exact rfl)|(apply q_neq; exact rfl; exact rfl)|(apply q_not; exact rfl)|(apply yAb; exact rfl; exact rfl)|(apply yV; exact rfl; exact rfl)
    | (apply (yDb (u := .d _)); exact rfl; exact rfl)))|(apply yA)|(apply yB)|(apply (W.regionS 18); exact rfl; kernel_rfl)|(apply yE)|(apply yG)|(apply yH)
  | (refine W.cond _ rfl (fun hb => ?_) (fun hb => ?_) <;> ((try simp only [hb, zA, zB]) <;> (try simp only [zC, zD, zE, zF, zG, zH, zI, zJ] at hb) <;> (try (exfalso; omega))))))
  all_goals try (exfalso; omega)
  refine AWP.loopW (α := Nat) (fun k => k ≤ L.length) (fun k => ⟨[(11, iV k), (10, ses (runB ho a g mv (L.take k))), (8, rbs L), (5, bools (goodB st)), (6, iV (b9 : Nat)), (1, .opt 0 0), (3, bV true), (4, iV wN)], [.box (inC d r n s l i m d' (toZ ps) a g mv st inn)]⟩) (fun k => L.length - k) 0 (Nat.zero_le _) ⟨[0], rfl, rfl, rfl, by (repeat (first | exact trivial | refine ⟨rfl, ?_⟩))⟩ fun k hk => ?_
  by_cases hkl : k < L.length
  · have hx := f2 _ (List.getElem_mem hkl)
    have x1 : L[k].1 = a := by rw [hx.a, e3]
    have x2 : L[k].2.1 = g := by rw [hx.g, e4]
    have hr := hLu k hkl
    have hrk := hrl (L.take k)
    rw [List.length_take] at hrk
    have hD := hDn L[k] (runB ho a g mv (L.take k)) (by omega)
    have eR : doneN (plcI d r n s l i L[k].1 wN L[k].2.1) (runB ho a g mv (L.take k)) L[k].1 L[k].2.1 L[k].2.2.1 L[k].2.2.2.1 = runB ho a g mv (L.take (k + 1)) := by rw [hr, x1, x2, hho]
    rw [eR] at hD
    clear hpl hdc hspr hfull f2 f3 f4 hDn hrl hS2 hsv hLu hr eR hx
    generalize hR1 : runB ho a g mv (L.take (k + 1)) = R1 at *
    generalize runB ho a g mv (L.take k) = R0 at *
    (repeat' (first
  | (apply W.qd; (first
    | (apply (yW (hD)); exact rfl; exact rfl; (iterate 3 kernel_rfl))
    | ((apply q_ld_mapp; (iterate 3 exact rfl); omega))|(apply q_mv; (conv => lhs; whnf))|(apply q_as; (conv => lhs; whnf))|(apply yS; (iterate 3 exact rfl))|(apply yU; (iterate 4 exact rfl))|(apply q_lss; exact rfl; exact rfl)|(apply q_add; exact rfl; exact rfl; omega)|(apply yV; exact rfl; exact rfl)|(apply yX; (iterate 3 exact rfl); (first | omega | (focus (simp; done))))|(apply q_fld_fptF; (iterate 3 exact rfl))
    | (apply yGb; (iterate 4 exact rfl); (first | (with_reducible exact rfl) | exact natI_spec rfl | assumption | exact (Int.toNat_of_nonneg (by omega)).symm); (first | omega | (focus (simp only [List.length_map]; omega)) | (focus (simp; done)) | (focus (simp; omega))))))|(apply yA)|(apply yB)|(apply yC; kernel_rfl)|(apply yD; exact rfl; kernel_rfl)|(apply yE)|(apply yF; kernel_rfl)|(apply yG)|(apply yH)|(apply yL)
  | (refine W.cond _ rfl (fun hb => ?_) (fun hb => ?_) <;> ((try simp only [hb, zA, zB]) <;> (try simp only [zC, zD, zE, zF, zG, zH, zI, zJ] at hb) <;> (try (exfalso; omega))))))
    all_goals first
      | (exfalso; omega)|(refine ⟨k + 1, by omega, by omega, ?_⟩; rw [hR1]; exact ⟨[0], rfl, rfl, rfl, iV_eq (by omega), rfl, rfl, rfl, rfl, rfl, rfl, rfl, trivial⟩)
  obtain rfl : k = L.length := by omega
  rw [List.take_length]
  have hrF := hrl L
  have hSF := hS2 (runB ho a g mv L) (by omega)
  have hsl := seatsN_len ho (runB ho a g mv L) a g
  have hfin : ∀ v, v < wN → (goodB st).getD v false = false → srvB inn ((seatsN ho (runB ho a g mv L) a g).getD v 0) = true := fun v hv hb => by
    obtain ⟨x, hx, hxv⟩ := f4 v (by omega) hb
    rw [run_seat (ho := ho) (a := a) (g := g) (j := v) (by omega) L mv f3 x hx hxv]
    have h2 := (f2 x hx).s
    rwa [e5] at h2
  clear hpl hdc hspr hfull f2 f3 f4 hDn hrl hS2 hLu
  generalize seatsN ho (runB ho a g mv L) a g = SF at *
  generalize runB ho a g mv L = RF at *
  have hmS : (SF.map iD).length = SF.length := List.length_map _
  (repeat' (first
  | (apply yFb; exact rfl; exact rfl)
  | (apply W.qd; (first
    | (apply (yW (hSF)); exact rfl; exact rfl; (iterate 3 kernel_rfl))|(apply q_mv; (conv => lhs; whnf))|(apply q_as; (conv => lhs; whnf))|(apply yS; (iterate 3 exact rfl))|(apply yU; (iterate 4 exact rfl))|(apply q_lss; exact rfl; exact rfl)|(apply q_neq; exact rfl; exact rfl)|(apply yV; exact rfl; exact rfl)
    | (apply (yDb (u := .d _)); exact rfl; exact rfl)))|(apply yA)|(apply yB)|(apply (W.regionS 25); exact rfl; kernel_rfl)|(apply yE)|(apply yG)|(apply yH)|(apply yI)|(apply yK)|(apply yM)|(refine W.gF _ _ rfl rfl (fun hb => ?_) (fun hb => ?_) <;> ((try simp only [hb, zA, zB]) <;> (try simp only [zC, zD, zE, zF, zG, zH, zI, zJ] at hb) <;> (try (exfalso; omega))))
  | (refine W.cond _ rfl (fun hb => ?_) (fun hb => ?_) <;> ((try simp only [hb, zA, zB]) <;> (try simp only [zC, zD, zE, zF, zG, zH, zI, zJ] at hb) <;> (try (exfalso; omega))))))
  all_goals try (exfalso; omega)
  refine AWP.loopW (α := Nat) (fun v => v ≤ wN) (fun v => ⟨[(13, iV v), (12, ints SF), (5, bools (goodB st)), (1, .opt 0 0), (3, bV true), (4, iV wN)], [.box (inC d r n s l i m d' (toZ ps) a g mv st inn)]⟩) (fun v => wN - v) 0 (Nat.zero_le _) ⟨[0], rfl, rfl, rfl, by (repeat (first | exact trivial | refine ⟨rfl, ?_⟩))⟩ fun v hv => ?_
  by_cases hvl : v < wN
  · have hvg : v < (goodB st).length := by omega
    have hvS : v < SF.length := by omega
    have h1 := hfin v hvl
    rw [List.getD_eq_getElem?_getD, List.getElem?_eq_getElem hvg, Option.getD_some, List.getD_eq_getElem?_getD, List.getElem?_eq_getElem hvS, Option.getD_some] at h1
    have h2 := hsv (SF[v]'hvS)
    clear hfin hsv
    cases hb9 : (goodB st)[v]'hvg with
    | true =>
      (repeat' (first
  | (apply yFb; exact rfl; exact rfl)
  | (apply W.qd; (first
    | (apply (yW (h2)); exact rfl; exact rfl; (iterate 3 kernel_rfl))|(apply q_mv; (conv => lhs; whnf))|(apply q_as; (conv => lhs; whnf))|(apply yU; (iterate 4 exact rfl))|(apply q_lss; exact rfl; exact rfl)|(apply q_not; exact rfl)|(apply q_add; exact rfl; exact rfl; omega)|(apply yX; (iterate 3 exact rfl); (first | omega | (focus (simp; done))))|(apply yGb; (iterate 4 exact rfl); (first | (with_reducible exact rfl) | exact natI_spec rfl | assumption | exact (Int.toNat_of_nonneg (by omega)).symm); (first | omega | (focus (simp only [List.length_map]; omega)) | (focus (simp; done)) | (focus (simp; omega))))|(apply (yEb (u := .d _)); exact rfl; exact rfl)
    | (apply (yDb (u := .d _)); exact rfl; exact rfl)))|(refine W.gOff _ _ rfl rfl (by intro h; cases h) ?_)|(apply yA)|(apply yB)|(apply yC; kernel_rfl)|(apply yD; exact rfl; kernel_rfl)|(apply yE)|(apply yF; kernel_rfl)|(apply yG)|(apply yH)|(apply yJ)|(apply yP)|(apply yL)|(apply yN)|(apply yR; exact rfl)|(refine W.gT _ _ rfl rfl (fun hb => ?_) (fun hb => ?_) <;> ((try simp only [hb, zA, zB]) <;> (try simp only [zC, zD, zE, zF, zG, zH, zI, zJ] at hb) <;> (try (exfalso; omega))))
  | (refine W.cond _ rfl (fun hb => ?_) (fun hb => ?_) <;> ((try simp only [hb, zA, zB]) <;> (try simp only [zC, zD, zE, zF, zG, zH, zI, zJ] at hb) <;> (try (exfalso; omega))))))
      all_goals first
        | (exfalso; omega)
        | (exfalso; exact absurd (show (goodB st)[v]'hvg = false by assumption) (by rw [hb9]; decide))
        | exact ⟨v + 1, by omega, by omega, [0], rfl, rfl, rfl, iV_eq (by omega), rfl, rfl, rfl, rfl, rfl, trivial⟩
    | false =>
      rw [h1 hb9] at h2
      (repeat' (first
  | (apply yFb; exact rfl; exact rfl)
  | (apply W.qd; (first
    | (apply (yW (h2)); exact rfl; exact rfl; (iterate 3 kernel_rfl))|(apply q_mv; (conv => lhs; whnf))|(apply q_as; (conv => lhs; whnf))|(apply yU; (iterate 4 exact rfl))|(apply q_lss; exact rfl; exact rfl)|(apply q_not; exact rfl)|(apply q_add; exact rfl; exact rfl; omega)|(apply yX; (iterate 3 exact rfl); (first | omega | (focus (simp; done))))|(apply yGb; (iterate 4 exact rfl); (first | (with_reducible exact rfl) | exact natI_spec rfl | assumption | exact (Int.toNat_of_nonneg (by omega)).symm); (first | omega | (focus (simp only [List.length_map]; omega)) | (focus (simp; done)) | (focus (simp; omega))))|(apply (yEb (u := .d _)); exact rfl; exact rfl)
    | (apply (yDb (u := .d _)); exact rfl; exact rfl)))|(refine W.gOff _ _ rfl rfl (by intro h; cases h) ?_)|(apply yA)|(apply yB)|(apply yC; kernel_rfl)|(apply yD; exact rfl; kernel_rfl)|(apply yE)|(apply yF; kernel_rfl)|(apply yG)|(apply yH)|(apply yL)|(apply yR; exact rfl)|(refine W.gT _ _ rfl rfl (fun hb => ?_) (fun hb => ?_) <;> ((try simp only [hb, zA, zB]) <;> (try simp only [zC, zD, zE, zF, zG, zH, zI, zJ] at hb) <;> (try (exfalso; omega))))
  | (refine W.cond _ rfl (fun hb => ?_) (fun hb => ?_) <;> ((try simp only [hb, zA, zB]) <;> (try simp only [zC, zD, zE, zF, zG, zH, zI, zJ] at hb) <;> (try (exfalso; omega))))))
      all_goals first
        | (exfalso; omega)
        | (exfalso; exact absurd (show (goodB st)[v]'hvg = true by assumption) (by rw [hb9]; decide))
        | exact ⟨v + 1, by omega, by omega, [0], rfl, rfl, rfl, iV_eq (by omega), rfl, rfl, rfl, rfl, rfl, trivial⟩
  · (repeat' (first
  | (apply W.qd; (first
    | (apply q_mv; (conv => lhs; whnf))|(apply q_as; (conv => lhs; whnf))
    | (apply q_lss; exact rfl; exact rfl)))|(apply yA)|(apply yB)|(apply yC; kernel_rfl)|(apply yE)|(apply yI)|(apply yJ)|(apply yK)|(apply yM)
  | (refine W.cond _ rfl (fun hb => ?_) (fun hb => ?_) <;> ((try simp only [hb, zA, zB]) <;> (try simp only [zC, zD, zE, zF, zG, zH, zI, zJ] at hb) <;> (try (exfalso; omega))))))
    all_goals first | (exfalso; omega) | exact Ends.b rfl rfl
theorem A_healCompleteF {d r n s l i M D dom a g : Int} {nm : List Nat} {par : List (List Int)} {mv : List Se} {st : List Int} {inn : List Bool} (hp : CodeIn par) (hmv : mv.length ≤ 9223372036854775807) (hsv0 : st.length ≤ 9223372036854775807) : ACalls Tryz.prog 8 [xinF d r n s l i nm M D par dom a g mv st inn] [] (bV true) [] :=
  (A_healComplete (d := d) (r := r) (n := n) (s := s) (l := l) (i := i) (M := M) (D := D) (a := a) (g := g) (mv := mv) (st := st) (inn := inn) hp hmv hsv0).le (args' := [xinF d r n s l i nm M D par dom a g mv st inn]) fun F κ w vs hs => AVleL.sat (xs := [xinF d r n s l i nm M D par dom a g mv st inn]) (ys := [.agg (inC d r n s l i M D par a g mv st inn)]) ⟨inF_le, trivial⟩ F _ κ w vs hs
end Go.Proofs.YtcljokdiblnhiaaGreatDoor
end
