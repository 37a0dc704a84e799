import Derived.Test.YtplpgijpmgbaiaaGreatDoorMChangeProgresses5
import Derived.WalkKit
import Derived.WalkLawsBesides
import Derived.WalkSpells
import Derived.Handy
import Derived.PlainAid
import Derived.Outline
import Derived.Laws.OwnMore
import Derived.Laws.CopyOwn
import Derived.Deep.AppendLies
import Derived.Deep.Draws
import Derived.Deep.QuietTactic
import Derived.Deep.LoopGhost
import Derived.Deep.DeepFit
import Derived.Deep.DeepCutAuto
import Derived.Deep.RegionLaw
import Derived.Deep.RegionHeld3
import Derived.BigQuiet
import Derived.StillTailTactics
import Derived.Lib.Hide
import Derived.Carry
import Derived.Deep.Onto
import Derived.Test.YtplpgijpmgbaiaaGreatDoorChecked
import Derived.Lib.SliceRun
/- Joined texts: Rf9 Cl1 Cl2 Cl4 Cl5 Cl6 Cl7 Cl8 Rf30 Rf30b Ch5 Ch6 Ch7 Ch8 Ch9 DgB DgP DgD DgD3 DgR DgL1 DgL2 Kern49 Kern50 Kern51 Kern52 Sp1 Sp2 Sp3. -/
set_option linter.unusedVariables false
set_option linter.unusedSimpArgs false
namespace Go.Proofs.YtplpgijpmgbaiaaGreatDoor
open Go.RowKit
set_option maxHeartbeats 4000000
set_option maxRecDepth 100000
section
def upF (hv : List Bool) (i : Nat) : List Nat := ((List.range hv.length).drop i).filter fun j => hv.getD j false
theorem upF_zero (hv : List Bool) : upF hv 0 = upN hv := rfl
theorem upF_step {hv : List Bool} {i : Nat} (h : i < hv.length) : upF hv i = if hv.getD i false = true then i :: upF hv (i + 1) else upF hv (i + 1) := by
 unfold upF
 rw [List.drop_eq_getElem_cons (by simpa using h), List.filter_cons]
 simp only [List.getElem_range]
theorem upF_end {hv : List Bool} {i : Nat} (h : hv.length ≤ i) : upF hv i = [] := by
 unfold upF
 rw [List.drop_of_length_le (by simpa using h)]; rfl
def fatN (dec : List Bool → Bool) (hv : List Bool) (set : List Nat) (i n : Nat) : Bool := (subsN (upF hv i) n).any fun s => !dec (minusN hv (set ++ s))
theorem fatN_zero (dec : List Bool → Bool) (hv : List Bool) (set : List Nat) (i : Nat) : fatN dec hv set i 0 = !dec (minusN hv set) := by
 unfold fatN
 have : subsN (upF hv i) 0 = [[]] := by unfold subsN; rfl
 rw [this]; simp
theorem fatN_end {dec : List Bool → Bool} {hv : List Bool} {set : List Nat} {i n : Nat} (h : hv.length ≤ i) : fatN dec hv set i (n + 1) = false := by
 unfold fatN
 rw [upF_end h, subsN]; rfl
theorem fatN_step {dec : List Bool → Bool} {hv : List Bool} {set : List Nat} {i n : Nat} (h : i < hv.length) : fatN dec hv set i (n + 1) = if hv.getD i false = true then (fatN dec hv (set ++ [i]) (i + 1) n || fatN dec hv set (i + 1) (n + 1)) else fatN dec hv set (i + 1) (n + 1) := by
 unfold fatN
 rw [upF_step h]
 split
 ·rw [subsN, List.any_append, List.any_map]
  congr 1
  congr 1
  funext s
  simp
 ·rfl
theorem bad_fat (dec : List Bool → Bool) (hv : List Bool) (f : Nat) : badN dec hv f = fatN dec hv [] 0 (f + 1) := by
 unfold badN fatN
 rw [upF_zero]
 congr 1
def preK (hv : List Bool) (k : Nat) : Nat := (hv.take k).count true
theorem preK_succ {hv : List Bool} {k : Nat} (h : k < hv.length) : preK hv (k + 1) = preK hv k + (if hv[k] = true then 1 else 0) := by
 unfold preK
 rw [List.take_succ_eq_append_getElem h, List.count_append, List.count_singleton]
 congr 1
 cases hv[k] <;> rfl
theorem preK_le (hv : List Bool) (k : Nat) : preK hv k ≤ k := Nat.le_trans List.count_le_length (by simp; omega)
theorem preK_up (hv : List Bool) : ∀ k, k ≤ hv.length → preK hv k = (upK hv k).length
 | 0, _ => rfl
 | k + 1, h => by
   have eg : hv.getD k false = hv[k]'(by omega) := by rw [List.getD_eq_getElem?_getD, List.getElem?_eq_getElem (by omega)]; rfl
   rw [preK_succ (by omega), upK_succ, eg, preK_up hv k (by omega)]
   split
   ·simp
   ·rfl
theorem dec_some {M D : Nat} {ps : List (List Nat)} {hv : List Bool} (h : CodeOk M D ps) (hd : decN M D ps hv = true) : ∃ j, hv.getD j false = true := by
 unfold decN at hd
 rw [Bool.and_eq_true, decide_eq_true_eq, decide_eq_true_eq] at hd
 have := h.d
 exact ⟨_, bas_pres h hd.1 (q := 0) (by omega)⟩
theorem fat_all {M D : Nat} {ps : List (List Nat)} {hv : List Bool} (h : CodeOk M D ps) (hd : decN M D ps hv = true) : 0 < (upN hv).length ∧ badN (decN M D ps) hv ((upN hv).length - 1) = true := by
 obtain ⟨j, hj⟩ := dec_some h hd
 have h1 : 0 < (upN hv).length := List.length_pos_of_mem (mem_upN.2 hj)
 refine ⟨h1, ?_⟩
 unfold badN
 rw [List.any_eq_true]
 refine ⟨upN hv, mem_subsN.2 ⟨List.Sublist.refl _, by omega⟩, ?_⟩
 rw [Bool.not_eq_true', Bool.eq_false_iff]
 intro h2
 obtain ⟨i, hi⟩ := dec_some h h2
 rw [minusN_get] at hi
 split at hi
 ·cases hi
 ·rename_i h3; exact h3 (mem_upN.2 hi)
attribute [local irreducible] Quiet Eff OpOk AWPG ACont ABlock ACalls AGoto
theorem A_pres9 {hv : List Bool} (hl : hv.length ≤ 1000000) : ACalls Tryz.prog 96 [bools hv] [] (iV ((upN hv).length : Nat)) [] := by
 refine acalls_of_body Tryz.func96 rfl (Nat.le_of_ble_eq_true rfl) ?_
 have hmh : (hv.map tD).length = hv.length := List.length_map _
 (repeat' (first
  |(apply W.qd; (apply q_as; (conv => lhs; whnf)))|(apply yA)|(apply yB)|(apply yC; kernel_rfl)|(apply yE)
  |(apply yG)))
 refine AWP.loopW (α := Nat) (fun k => k ≤ hv.length) (fun k => ⟨[(4, iV k), (3, iV (preK hv k)), (0, bools hv)], []⟩) (fun k => hv.length - k) 0 (Nat.zero_le _) ⟨[], rfl, rfl, rfl, by (repeat (first | exact trivial | refine ⟨rfl, ?_⟩))⟩ fun k hk => ?_
 have hle := preK_le hv k
 by_cases hkl : k < hv.length
 ·have hs := Lib.hid (preK_succ hkl)
  generalize preK hv k = A at *
  (repeat' (first
   |(apply W.qd; (first
   |(apply q_mv; (conv => lhs; whnf))|(apply q_as; (conv => lhs; whnf))|(exact q_lss rfl rfl)|(exact q_add rfl rfl (by omega))|(exact yV rfl rfl)|(apply yX; (iterate 3 exact rfl); (first | omega | (focus (simp; done))))
   |(apply yGb; (iterate 4 exact rfl); (first | (with_reducible exact rfl) | exact natI_spec rfl | assumption | exact (Int.toNat_of_nonneg (by omega)).symm); (first | omega | (focus (simp only [List.length_map]; omega)) | (focus (simp; done)) | (focus (simp; omega))))))|(apply yA)|(apply yB)|(apply yC; kernel_rfl)|(apply yE)|(apply yG)|(apply yH)|(apply yL)
   |(refine W.cond _ rfl (fun hb => ?_) (fun hb => ?_) <;> ((try simp only [hb, zK]) <;> (try simp only [zL, zI] at hb) <;> (try (exfalso; omega))))))
  all_goals refine ⟨k + 1, by omega, by omega, ?_⟩
  all_goals rw [hs.out]
  all_goals first
   |(rw [if_pos (by first | assumption | simpa using hb)]; exact ⟨[], rfl, rfl, rfl, iV_eq (by omega), iV_eq (by omega), rfl, trivial⟩)
   |(rw [if_neg (by first | assumption | (rw [hb]; decide) | simpa using hb)]; exact ⟨[], rfl, rfl, rfl, iV_eq (by omega), iV_eq (by omega), rfl, trivial⟩)
 ·have e : k = hv.length := by omega
  subst e
  rw [preK_up hv hv.length (Nat.le_refl _), show upK hv hv.length = upN hv from rfl]
  (repeat' (first
   |(apply W.qd; (first
   |(apply q_mv; (conv => lhs; whnf))|(apply q_as; (conv => lhs; whnf))|(exact q_lss rfl rfl)
   |(exact yV rfl rfl)))|(apply yA)|(apply yB)|(apply yC; kernel_rfl)|(apply yE)|(apply yI)|(apply yJ)|(apply yK)|(apply yM)
   |(refine W.cond _ rfl (fun hb => ?_) (fun hb => ?_) <;> ((try simp only [hb, zK]) <;> (try simp only [zL, zI] at hb) <;> (try (exfalso; omega))))))
  exact Ends.i rfl rfl
theorem A_without9 {hv : List Bool} {L : List Nat} (h0 : 0 < hv.length) (hl : hv.length ≤ 1000000) (hu : ∀ u ∈ L, u < hv.length) (hL : L.length ≤ 1000000) : ACalls Tryz.prog 157 [bools hv, nats L] [] (bools (minusN hv L)) [] := by
 refine acalls_of_body Tryz.func157 rfl (Nat.le_of_ble_eq_true rfl) ?_
 have hmh : (hv.map tD).length = hv.length := List.length_map _
 have hmL : (L.map kD).length = L.length := List.length_map _
 (repeat' (first
  |(apply W.qd; (apply q_as; (conv => lhs; whnf)))|(apply yA)|(apply yB)|(apply (W.regionS 2); exact rfl; kernel_rfl)
  |(apply yE)))
 refine AWP.nilRow 5 1 4 rfl (by omega) ?_
 (repeat' (first
  |(apply W.qd; (first
  |(apply q_mv; (conv => lhs; whnf))
  |(apply q_as; (conv => lhs; whnf))))|(apply W.ed; (apply e_appF; (iterate 8 exact rfl); (first | rfl | simp); (first | exact Nat.zero_lt_one | (focus (simp; done)) | omega); (first | (focus (simp; done)) | (focus (simp; omega)) | omega)))|(apply yA)|(apply yB)|(apply (W.regionS 4); exact rfl; kernel_rfl)|(apply yE)
  |(apply yG)))
 refine AWP.loopW (α := Nat) (fun k => k ≤ L.length) (fun k => ⟨[(6, iV k), (5, .osl 0 1 0 hv.length), (1, nats L)], [.row 1 1 4 ((minusN hv (L.take k)).map tD)]⟩) (fun k => L.length - k) 0 (Nat.zero_le _) ?wk0 fun k hk => ?_
 case wk0 => exact ⟨[0], rfl, rfl, rfl, rfl, congrArg (AV.osl 0 1 0) (by simp), rfl, trivial⟩
 have hmn := minusN_length (L.take k) hv
 by_cases hkl : k < L.length
 ·have hu := hu L[k] (List.getElem_mem hkl)
  have hsn := minusN_snoc hv (L.take k) L[k]
  rw [← List.take_succ_eq_append_getElem hkl] at hsn
  replace hsn := Lib.hid hsn
  generalize minusN hv (L.take k) = A at *
  (repeat' (first
   |(apply W.qd; (first
   |(apply q_mv; (conv => lhs; whnf))|(apply q_as; (conv => lhs; whnf))|(exact q_lss rfl rfl)|(exact q_add rfl rfl (by omega))|(exact yV rfl rfl)|(apply yX; (iterate 3 exact rfl); (first | omega | (focus (simp; done))))|(apply yGb; (iterate 4 exact rfl); (first | (with_reducible exact rfl) | exact natI_spec rfl | assumption | exact (Int.toNat_of_nonneg (by omega)).symm); (first | omega | (focus (simp only [List.length_map]; omega)) | (focus (simp; done)) | (focus (simp; omega))))
   |(apply q_ix_osl0; (iterate 4 exact rfl); (first | (with_reducible exact rfl) | exact natI_spec rfl | assumption | exact (Int.toNat_of_nonneg (by omega)).symm); (first | omega | (focus (simp only [List.length_map]; omega)) | (focus (simp; done)) | (focus (simp; omega))))))|(apply W.ln; (apply l_st_rpt; (iterate 7 exact rfl); exact fun _ => rfl; (first | omega | (focus (simp only [List.length_map]; omega)) | (focus (simp; omega)))))|(apply yA)|(apply yB)|(apply yC; kernel_rfl)|(apply yE)|(apply yG)|(apply yH)|(apply yL)
   |(refine W.cond _ rfl (fun hb => ?_) (fun hb => ?_) <;> ((try simp only [hb, zK]) <;> (try simp only [zL, zI] at hb) <;> (try (exfalso; omega))))))
  refine ⟨k + 1, by omega, by omega, ?_⟩
  rw [hsn.out]
  exact ⟨[0], rfl, rfl, rfl, iV_eq (by omega), rfl, rfl, trivial⟩
 ·have e : k = L.length := by omega
  subst e
  rw [List.take_length] at *
  (repeat' (first
   |(apply W.qd; (first
   |(apply q_mv; (conv => lhs; whnf))|(apply q_as; (conv => lhs; whnf))|(exact q_lss rfl rfl)
   |(exact yV rfl rfl)))|(apply yA)|(apply yB)|(apply yC; kernel_rfl)|(apply yE)|(apply yI)|(apply yJ)|(apply yK)|(apply yM)
   |(refine W.cond _ rfl (fun hb => ?_) (fun hb => ?_) <;> ((try simp only [hb, zK]) <;> (try simp only [zL, zI] at hb) <;> (try (exfalso; omega))))))
  exact Ends.osl rfl rfl (by rw [List.length_map]; omega) rfl
theorem A_fatal9 {M D : Nat} {ps : List (List Nat)} {hv : List Bool} (h : CodeOk M D ps) (hl : hv.length = D + ps.length) : ∀ (n i : Nat) (set : List Nat), n ≤ 1000 → i ≤ hv.length → set.length ≤ 1000 - n → (∀ u ∈ set, u < hv.length) →
 ACalls Tryz.prog 97 [cdN M D ps, bools hv, nats set, iV i, iV n] [] (.tup [.d .any, bV (fatN (decN M D ps) hv set i n)]) []
 | 0, i, set, hn, hi, hsl, hst => by
   have h1 := h.d
   have h2 := h.w
   have hmh : (hv.map tD).length = hv.length := List.length_map _
   have hw := A_without9 (hv := hv) (L := set) (by omega) (by omega) hst (by omega)
   have hls : (minusN hv set).length = D + ps.length := by rw [minusN_length]; exact hl
   have hd := A_r8decod h hls
   have hd1 : decN M D ps (minusN hv set) = decide ((basisN M D ps (minusN hv set)).length = D) := by unfold decN; rw [decide_eq_true hls, Bool.true_and]
   rw [← hd1] at hd
   rw [fatN_zero]
   refine acalls_of_body Tryz.func97 rfl (Nat.le_of_ble_eq_true rfl) ?_
   cases hq : decN M D ps (minusN hv set) with
   | true =>
     rw [hq] at hd
     (repeat' (first
      |(apply W.qd; (first
      |(apply (yW (hw)); exact rfl; exact rfl; (iterate 3 kernel_rfl))|(apply (yW (hd)); exact rfl; exact rfl; (iterate 3 kernel_rfl))|(apply q_mv; (conv => lhs; whnf))|(apply q_as; (conv => lhs; whnf))|(exact yU rfl rfl rfl rfl)|(exact q_eql rfl rfl)
      |(exact q_not rfl)))|(apply W.ed; (apply yBb; (iterate 3 exact rfl); kernel_rfl; kernel_rfl))|(apply yA)|(apply yB)|(apply yC; kernel_rfl)|(apply yD; exact rfl; kernel_rfl)|(apply yE)|(apply yF; kernel_rfl)|(apply yJ)|(apply yP)
      |(apply yQ; exact rfl)))
     all_goals exact ⟨.inl rfl, [], [nats set, bV false], rfl, ⟨rfl, rfl, trivial⟩, AVle.tup2 (AVle.anyS 1 _) (AVle.refl _), rfl⟩
   | false =>
     rw [hq] at hd
     (repeat' (first
      |(apply W.qd; (first
      |(apply (yW (hw)); exact rfl; exact rfl; (iterate 3 kernel_rfl))|(apply (yW (hd)); exact rfl; exact rfl; (iterate 3 kernel_rfl))|(apply q_mv; (conv => lhs; whnf))|(apply q_as; (conv => lhs; whnf))|(exact yU rfl rfl rfl rfl)|(exact q_eql rfl rfl)
      |(exact q_not rfl)))|(apply W.ed; (apply yBb; (iterate 3 exact rfl); kernel_rfl; kernel_rfl))|(apply yA)|(apply yB)|(apply yC; kernel_rfl)|(apply yD; exact rfl; kernel_rfl)|(apply yE)|(apply yF; kernel_rfl)|(apply yJ)|(apply yP)
      |(apply yQ; exact rfl)))
     all_goals exact ⟨.inl rfl, [], [nats set, bV true], rfl, ⟨rfl, rfl, trivial⟩, AVle.tup2 (AVle.anyS 1 _) (AVle.refl _), rfl⟩
 | n + 1, i0, set, hn, hi0, hsl, hst => by
   have h1 := h.d
   have h2 := h.w
   have hmh : (hv.map tD).length = hv.length := List.length_map _
   have hms : (set.map kD).length = set.length := List.length_map _
   have ih := A_fatal9 h hl n
   generalize decN M D ps = dec at *
   generalize hR : fatN dec hv set i0 (n + 1) = R
   refine acalls_of_body Tryz.func97 rfl (Nat.le_of_ble_eq_true rfl) ?_
   (repeat' (first
    |(apply W.qd; (first
    |(apply q_mv; (conv => lhs; whnf))|(apply q_as; (conv => lhs; whnf))
    |(exact q_eql rfl rfl)))|(apply W.ed; (apply yBb; (iterate 3 exact rfl); kernel_rfl; kernel_rfl))|(apply yA)|(apply yB)|(apply (W.regionS 5); exact rfl; kernel_rfl)|(apply yE)|(apply yG)|(apply yH)
    |(apply yR; exact rfl)))
   all_goals try (exfalso; omega)
   refine AWP.loopW (α := Nat) (fun i => i ≤ hv.length ∧ R = fatN dec hv set i (n + 1)) (fun i => ⟨[(13, iV i), (1, bools hv), (2, nats set), (4, iV ((n + 1 : Nat) : Int)), (5, .opt 0 0)], [.box [.d .any, iV M, iV D, rowsN ps, .d .any]]⟩) (fun i => hv.length - i) i0 ⟨hi0, hR.symm⟩ ⟨[0], rfl, rfl, rfl, by (repeat (first | exact trivial | refine ⟨rfl, ?_⟩))⟩ fun i hi => ?_
   by_cases hil : i < hv.length
   ·have eg : hv.getD i false = hv[i] := by rw [List.getD_eq_getElem?_getD, List.getElem?_eq_getElem hil]; rfl
    have hst1 := fatN_step (dec := dec) (set := set) (n := n) hil
    rw [eg] at hst1
    have hstm : ∀ u ∈ set ++ [i], u < hv.length := fun u hu => by
     rcases List.mem_append.1 hu with h3 | h3
     ·exact hst u h3
     ·rw [List.mem_singleton.1 h3]; exact hil
    have ih1 := ih (i + 1) (set ++ [i]) (by omega) (by omega) (by simp; omega) hstm
    cases hq : hv[i] with
    | false =>
      rw [hq, if_neg (by decide)] at hst1
      have hR2 := hi.2.trans hst1
      clear hi hR
      (repeat' (first
       |(apply W.qd; (first
       |(apply q_mv; (conv => lhs; whnf))|(apply q_as; (conv => lhs; whnf))|(exact q_lss rfl rfl)|(exact q_not rfl)|(exact q_add rfl rfl (by omega))|(exact yV rfl rfl)|(apply yX; (iterate 3 exact rfl); (first | omega | (focus (simp; done))))
       |(apply yGb; (iterate 4 exact rfl); (first | (with_reducible exact rfl) | exact natI_spec rfl | assumption | exact (Int.toNat_of_nonneg (by omega)).symm); (first | omega | (focus (simp only [List.length_map]; omega)) | (focus (simp; done)) | (focus (simp; omega))))))|(apply yA)|(apply yB)|(apply yC; kernel_rfl)|(apply yE)|(apply yG)|(apply yH)|(apply yI)|(apply yK)|(apply yM)
       |(refine W.cond _ rfl (fun hb => ?_) (fun hb => ?_) <;> ((try simp only [hb, zK]) <;> (try simp only [zL, zI] at hb) <;> (try (exfalso; omega))))))
      (all_goals (try (exfalso; exact absurd ((‹hv[i] = true› : hv[i] = true).symm.trans (‹hv[i] = false› : hv[i] = false)) (by decide))))
      all_goals exact ⟨i + 1, ⟨by omega, hR2⟩, by omega, [0], rfl, rfl, rfl, iV_eq (by omega), rfl, rfl, rfl, rfl, trivial⟩
    | true =>
      rw [hq, if_pos rfl] at hst1
      have hR2 := hi.2.trans hst1
      clear hi hR
      rcases Nat.eq_zero_or_pos set.length with hs0 | hs0
      ·obtain rfl := List.eq_nil_of_length_eq_zero hs0
       (repeat' (first
        |(apply W.qd; (first
        |(apply q_mv; (conv => lhs; whnf))|(apply q_as; (conv => lhs; whnf))|(exact q_lss rfl rfl)|(exact q_not rfl)|(exact q_add rfl rfl (by omega))|(exact yV rfl rfl)|(apply yX; (iterate 3 exact rfl); (first | omega | (focus (simp; done))))
        |(apply yGb; (iterate 4 exact rfl); (first | (with_reducible exact rfl) | exact natI_spec rfl | assumption | exact (Int.toNat_of_nonneg (by omega)).symm); (first | omega | (focus (simp only [List.length_map]; omega)) | (focus (simp; done)) | (focus (simp; omega))))))|(apply yA)|(apply yB)|(apply (W.regionS 9); exact rfl; kernel_rfl)|(apply yE)|(apply yG)|(apply yH)|(apply yI)|(apply yK)|(apply yM)
        |(refine W.cond _ rfl (fun hb => ?_) (fun hb => ?_) <;> ((try simp only [hb, zK]) <;> (try simp only [zL, zI] at hb) <;> (try (exfalso; omega))))))
       (all_goals (try (exfalso; exact absurd ((‹hv[i] = true› : hv[i] = true).symm.trans (‹hv[i] = false› : hv[i] = false)) (by decide))))
       refine AWP.nilRow 14 1 3 rfl (by omega) ?_
       (repeat' (first
        |(apply W.qd; (first
        |(apply q_mv; (conv => lhs; whnf))|(apply q_as; (conv => lhs; whnf))|(apply q_litF; (iterate 5 exact rfl); kernel_rfl; kernel_rfl; exact rfl)
        |(apply q_app0; (iterate 4 exact rfl))))|(apply W.ed; (apply e_appF; (iterate 8 exact rfl); (first | rfl | simp); (first | exact Nat.zero_lt_one | (focus (simp; done)) | omega); (first | (focus (simp; done)) | (focus (simp; omega)) | omega)))|(apply yA)|(apply yB)|(apply (W.regionS 11); exact rfl; kernel_rfl)
        |(apply yE)))
       refine AWP.wk ⟨[(14, nats (([] : List Nat) ++ [i])), (13, iV i), (1, bools hv), (2, nats ([] : List Nat)), (4, iV ((n + 1 : Nat) : Int)), (5, .opt 0 0)], [.box [.d .any, iV M, iV D, rowsN ps, .d .any]]⟩ ?wk1 ?_
       case wk1 => exact ⟨[0], rfl, rfl, rfl, (frz_rowJ (i := 1) (ver := 1) (n := 0 + 1) (l := (([] : List Nat) ++ [i]).map kD) rfl rfl (by simp)).symm, rfl, rfl, rfl, rfl, rfl, trivial⟩
       have hix : (i : Int) + 1 = ((i + 1 : Nat) : Int) := by omega
       have hnx : ((n + 1 : Nat) : Int) - 1 = ((n : Nat) : Int) := by omega
       cases hF : fatN dec hv (([] : List Nat) ++ [i]) (i + 1) n with
       | true =>
         rw [hF, Bool.true_or] at hR2
         rw [hF, ← hix, ← hnx] at ih1
         subst hR2
         (repeat' (first
          |(apply W.qd; (first
          |(apply (yW (ih1)); exact rfl; exact rfl; (iterate 3 kernel_rfl))|(apply q_mv; (conv => lhs; whnf))|(apply q_as; (conv => lhs; whnf))|(exact yU rfl rfl rfl rfl)|(exact q_add rfl rfl (by omega))|(exact q_sub rfl rfl (by omega))
          |(exact yAb rfl rfl)))|(apply yA)|(apply yB)|(apply yC; kernel_rfl)|(apply yE)|(apply yJ)|(apply yP)|(apply yN)
          |(apply yQ; exact rfl)))
         all_goals exact ⟨.inl rfl, [], [.d .any, bV true], rfl, ⟨rfl, rfl, trivial⟩, AVle.refl _, rfl⟩
       | false =>
         rw [hF, Bool.false_or] at hR2
         rw [hF, ← hix, ← hnx] at ih1
         (repeat' (first
          |(apply W.qd; (first
          |(apply (yW (ih1)); exact rfl; exact rfl; (iterate 3 kernel_rfl))|(apply q_mv; (conv => lhs; whnf))|(apply q_as; (conv => lhs; whnf))|(exact yU rfl rfl rfl rfl)|(exact q_add rfl rfl (by omega))|(exact q_sub rfl rfl (by omega))
          |(exact yAb rfl rfl)))|(apply yA)|(apply yB)|(apply yC; kernel_rfl)|(apply yE)|(apply yH)|(apply yL)
          |(apply yR; exact rfl)))
         all_goals exact ⟨i + 1, ⟨by omega, hR2⟩, by omega, [0], rfl, rfl, rfl, iV_eq (by omega), rfl, rfl, rfl, rfl, trivial⟩
      ·(repeat' (first
       |(apply W.qd; (first
       |(apply q_mv; (conv => lhs; whnf))|(apply q_as; (conv => lhs; whnf))|(exact q_lss rfl rfl)|(exact q_not rfl)|(exact q_add rfl rfl (by omega))|(exact yV rfl rfl)|(apply yX; (iterate 3 exact rfl); (first | omega | (focus (simp; done))))
       |(apply yGb; (iterate 4 exact rfl); (first | (with_reducible exact rfl) | exact natI_spec rfl | assumption | exact (Int.toNat_of_nonneg (by omega)).symm); (first | omega | (focus (simp only [List.length_map]; omega)) | (focus (simp; done)) | (focus (simp; omega))))))|(apply yA)|(apply yB)|(apply (W.regionS 9); exact rfl; kernel_rfl)|(apply yE)|(apply yG)|(apply yH)|(apply yI)|(apply yK)|(apply yM)
       |(refine W.cond _ rfl (fun hb => ?_) (fun hb => ?_) <;> ((try simp only [hb, zK]) <;> (try simp only [zL, zI] at hb) <;> (try (exfalso; omega))))))
       (all_goals (try (exfalso; exact absurd ((‹hv[i] = true› : hv[i] = true).symm.trans (‹hv[i] = false› : hv[i] = false)) (by decide))))
       refine AWP.nilRow 14 1 3 rfl (by omega) ?_
       (repeat' (first
        |(apply W.qd; (first
        |(apply q_mv; (conv => lhs; whnf))|(apply q_as; (conv => lhs; whnf))
        |(apply q_litF; (iterate 5 exact rfl); kernel_rfl; kernel_rfl; exact rfl)))|(apply W.ed; (apply e_appF; (iterate 8 exact rfl); (first | rfl | simp); (first | exact Nat.zero_lt_one | (focus (simp; done)) | omega); (first | (focus (simp; done)) | (focus (simp; omega)) | omega)))|(apply yA)|(apply yB)|(apply (W.regionS 11); exact rfl; kernel_rfl)
        |(apply yE)))
       refine AWP.wk ⟨[(14, nats (set ++ [i])), (13, iV i), (1, bools hv), (2, nats set), (4, iV ((n + 1 : Nat) : Int)), (5, .opt 0 0)], [.box [.d .any, iV M, iV D, rowsN ps, .d .any]]⟩ ?wk2 ?_
       case wk2 => exact ⟨[0], rfl, rfl, rfl, (show nats (set ++ [i]) = .d (.sl 1 (set.map kD ++ [kD i])) from congrArg (fun l => AV.d (.sl 1 l)) (by simp)).trans (frz_rowJ (i := 1) (ver := 2) (n := (set.map kD).length + 1) (l := set.map kD ++ [kD i]) rfl rfl (by simp)).symm, rfl, rfl, rfl, rfl, rfl, trivial⟩
       have hix : (i : Int) + 1 = ((i + 1 : Nat) : Int) := by omega
       have hnx : ((n + 1 : Nat) : Int) - 1 = ((n : Nat) : Int) := by omega
       cases hF : fatN dec hv (set ++ [i]) (i + 1) n with
       | true =>
         rw [hF, Bool.true_or] at hR2
         rw [hF, ← hix, ← hnx] at ih1
         subst hR2
         (repeat' (first
          |(apply W.qd; (first
          |(apply (yW (ih1)); exact rfl; exact rfl; (iterate 3 kernel_rfl))|(apply q_mv; (conv => lhs; whnf))|(apply q_as; (conv => lhs; whnf))|(exact yU rfl rfl rfl rfl)|(exact q_add rfl rfl (by omega))|(exact q_sub rfl rfl (by omega))
          |(exact yAb rfl rfl)))|(apply yA)|(apply yB)|(apply yC; kernel_rfl)|(apply yE)|(apply yJ)|(apply yP)|(apply yN)
          |(apply yQ; exact rfl)))
         all_goals exact ⟨.inl rfl, [], [.d .any, bV true], rfl, ⟨rfl, rfl, trivial⟩, AVle.refl _, rfl⟩
       | false =>
         rw [hF, Bool.false_or] at hR2
         rw [hF, ← hix, ← hnx] at ih1
         (repeat' (first
          |(apply W.qd; (first
          |(apply (yW (ih1)); exact rfl; exact rfl; (iterate 3 kernel_rfl))|(apply q_mv; (conv => lhs; whnf))|(apply q_as; (conv => lhs; whnf))|(exact yU rfl rfl rfl rfl)|(exact q_add rfl rfl (by omega))|(exact q_sub rfl rfl (by omega))
          |(exact yAb rfl rfl)))|(apply yA)|(apply yB)|(apply yC; kernel_rfl)|(apply yE)|(apply yH)|(apply yL)
          |(apply yR; exact rfl)))
         all_goals exact ⟨i + 1, ⟨by omega, hR2⟩, by omega, [0], rfl, rfl, rfl, iV_eq (by omega), rfl, rfl, rfl, rfl, trivial⟩
   ·have e : R = false := hi.2.trans (fatN_end (by omega))
    subst e
    clear hi hR
    (repeat' (first
     |(apply W.qd; (first
     |(apply q_mv; (conv => lhs; whnf))|(apply q_as; (conv => lhs; whnf))|(exact q_lss rfl rfl)
     |(exact yV rfl rfl)))|(apply yA)|(apply yB)|(apply yC; kernel_rfl)|(apply yE)|(apply yI)|(apply yJ)|(apply yK)|(apply yM)
     |(refine W.cond _ rfl (fun hb => ?_) (fun hb => ?_) <;> ((try simp only [hb, zK]) <;> (try simp only [zL, zI] at hb) <;> (try (exfalso; omega))))))
    all_goals exact ⟨.inl rfl, [], [.d (.v (.slice none 0 0)), bV false], rfl, ⟨rfl, rfl, trivial⟩, AVle.tup2 (AVle.anyV rfl) (AVle.refl _), rfl⟩
theorem A_valid9 {nm : List Nat} {M D dom : Int} {par : List (List Int)} {n : Nat} (h : FIn nm D par) : ACalls Tryz.prog 95 [cdF nm M D par dom, iV n] [] (bV (decide (chkC nm M D par dom = true ∧ (n : Int) = D + (par.length : Int)))) [] := by
 obtain ⟨e, hc, he⟩ := A_check7 (M := M) (dom := dom) h.n h.l h.d h.p
 have hd := h.d
 have hp := h.p
 have hmp : (par.map rD).length = par.length := List.length_map _
 refine acalls_of_body Tryz.func95 rfl (Nat.le_of_ble_eq_true rfl) ?_
 by_cases hk : chkC nm M D par dom = true
 ·obtain rfl : e = 0 := he.2 hk
  (repeat' (first
   |(apply yFb; exact rfl; exact rfl)
   |(apply W.qd; (first
   |(apply (yW (hc)); exact rfl; exact rfl; (iterate 3 kernel_rfl))|(apply q_mv; (conv => lhs; whnf))|(apply q_as; (conv => lhs; whnf))|(exact yS rfl rfl rfl)|(exact yT rfl rfl rfl rfl)|(exact yU rfl rfl rfl rfl)|(exact q_eql rfl rfl)|(exact q_add rfl rfl (by omega))|(exact yV rfl rfl)
   |(apply (yEb (u := .d _)); exact rfl; exact rfl)))|(apply W.ed; (apply yBb; (iterate 3 exact rfl); kernel_rfl; kernel_rfl))|(apply yA)|(apply yB)|(apply yC; kernel_rfl)|(apply yE)
   |(apply yJ)))
  all_goals
   refine Ends.b rfl ?_
   first
    |(rw [decide_eq_decide]; exact ⟨fun h => ⟨hk, by omega⟩, fun h => by have := h.2; omega⟩)
    |(exfalso; omega)
 ·have hne : e ≠ 0 := fun h0 => hk (he.1 h0)
  (repeat' (first
   |(apply W.qd; (first
   |(apply (yW (hc)); exact rfl; exact rfl; (iterate 3 kernel_rfl))|(apply q_mv; (conv => lhs; whnf))|(apply q_as; (conv => lhs; whnf))|(exact yU rfl rfl rfl rfl)|(exact q_eql rfl rfl)
   |(apply (yDb (u := .d _)); exact rfl; exact rfl)))|(apply W.ed; (apply yBb; (iterate 3 exact rfl); kernel_rfl; kernel_rfl))|(refine W.gOff _ _ rfl rfl (by intro h; cases h) ?_)|(apply yA)|(apply yB)|(apply yC; kernel_rfl)|(apply yE)|(apply yJ)
   |(refine W.gT _ _ rfl rfl (fun hb => ?_) (fun hb => ?_) <;> ((try simp only [hb, zK]) <;> (try simp only [zL, zI] at hb) <;> (try (exfalso; omega))))))
  all_goals first | exact Ends.b rfl (decide_eq_false fun h => hk h.1).symm | (exfalso; omega)
theorem A_left9 {nm : List Nat} {M D dom : Int} {par : List (List Int)} {hv : List Bool} (h : FIn nm D par) (hl : hv.length < 9223372036854775808) : ACalls Tryz.prog 49 [cdF nm M D par dom, bools hv] [] (iV (leftC nm M D par dom hv)) [] := by
 have hv0 := A_valid9 (M := M) (dom := dom) (n := hv.length) h
 refine acalls_of_body Tryz.func49 rfl (Nat.le_of_ble_eq_true rfl) ?_
 have hmh : (hv.map tD).length = hv.length := List.length_map _
 rw [← hmh] at hv0
 unfold leftC
 by_cases hk : chkC nm M D par dom = true ∧ (hv.length : Int) = D + (par.length : Int)
 case neg =>
  rw [if_neg hk]
  rw [hmh, decide_eq_false hk, ← hmh] at hv0
  (repeat' (first
   |(apply W.qd; (first
   |(apply (yW (hv0)); exact rfl; exact rfl; (iterate 3 kernel_rfl))|(apply q_mv; (conv => lhs; whnf))|(apply q_as; (conv => lhs; whnf))|(exact yU rfl rfl rfl rfl)|(exact q_not rfl)
   |(exact yV rfl rfl)))|(apply W.ed; (apply yBb; (iterate 3 exact rfl); kernel_rfl; kernel_rfl))|(apply yA)|(apply yB)|(apply yC; kernel_rfl)|(apply yE)|(apply yJ)|(apply yP)
   |(apply yQ; exact rfl)))
  exact Ends.i rfl rfl
 rw [if_pos hk]
 rw [hmh, decide_eq_true hk, ← hmh] at hv0
 obtain ⟨m, d, ps, rfl, rfl, rfl, hok⟩ := chk_code hk.1
 have hpl : (toZ ps).length = ps.length := List.length_map _
 have hlw : hv.length = d + ps.length := by omega
 have h1 := hok.d
 have h2 := hok.w
 have hd := A_r8decod hok hlw
 have hd1 : decN m d ps hv = decide ((basisN m d ps hv).length = d) := by unfold decN; rw [decide_eq_true hlw, Bool.true_and]
 rw [← hd1, cdN_A] at hd
 have hd := hd.cdF (nm := nm) (dom := dom)
 have hpr := A_pres9 (hv := hv) (by omega)
 have hfa := fun f (hf : f < 4) => (A_fatal9 hok hlw (f + 1) 0 [] (by omega) (by omega) (by simp) (by simp)).le (args' := [cdN m d ps, bools hv, .d (.v (.slice none 0 0)), iV 0, iV ((f + 1 : Nat) : Int)]) fun F κ w vs hs => AVleL.sat (xs := [cdN m d ps, bools hv, .d (.v (.slice none 0 0)), iV 0, iV ((f + 1 : Nat) : Int)]) (ys := [cdN m d ps, bools hv, nats [], iV ((0 : Nat) : Int), iV ((f + 1 : Nat) : Int)]) ⟨AVle.refl _, AVle.refl _, AVle.nil 1, AVle.refl _, AVle.refl _, trivial⟩ F _ κ w vs hs
 have hall := fat_all hok (hv := hv)
 rw [decZ_nat]
 unfold leftN
 cases hq : decN m d ps hv with
 | false =>
   rw [if_neg (by decide)]
   rw [hq] at hd
   (repeat' (first
    |(apply W.qd; (first
    |(apply (yW (hv0)); exact rfl; exact rfl; (iterate 3 kernel_rfl))|(apply (yW (hd)); exact rfl; exact rfl; (iterate 3 kernel_rfl))|(apply q_mv; (conv => lhs; whnf))|(apply q_as; (conv => lhs; whnf))|(exact yU rfl rfl rfl rfl)|(exact q_not rfl)
    |(exact yV rfl rfl)))|(apply W.ed; (apply yBb; (iterate 3 exact rfl); kernel_rfl; kernel_rfl))|(apply yA)|(apply yB)|(apply yC; kernel_rfl)|(apply yE)|(apply yH)|(apply yJ)|(apply yP)|(apply yQ; exact rfl)
    |(apply yR; exact rfl)))
   exact Ends.i rfl rfl
 | true =>
   rw [if_pos rfl]
   rw [hq] at hd
   obtain ⟨ha1, ha2⟩ := hall hq
   have hupl : (upN hv).length ≤ 1000 := by have := upK_len hv hv.length; have e : (upN hv).length = (upK hv hv.length).length := rfl; omega
   generalize hR : ((List.range 4).find? (badN (decN m d ps) hv)).getD 4 = R
   generalize (upN hv).length = p at *
   have hex : ∀ f, f ≤ 4 → (∀ g, g < f → badN (decN m d ps) hv g = false) → f ≤ p → ¬ (f < 4 ∧ f < p) → f = R := fun f h3 h4 h5 h6 => by
    by_cases e : f = 4
    ·subst e
     have : (List.range 4).find? (badN (decN m d ps) hv) = none := by
      rw [List.find?_eq_none]
      intro g hg
      rw [h4 g (List.mem_range.1 hg)]; decide
     rw [this] at hR; exact hR
    ·have e2 : f = p := by omega
     have := h4 (p - 1) (by omega)
     rw [ha2] at this; cases this
   have hfd : ∀ f, f < 4 → (∀ g, g < f → badN (decN m d ps) hv g = false) → badN (decN m d ps) hv f = true → f = R := fun f h3 h4 h5 => by
    have : (List.range 4).find? (badN (decN m d ps) hv) = some f := List.find?_range_eq_some.2 ⟨h5, List.mem_range.2 h3, fun g hg => by rw [h4 g hg]; rfl⟩
    rw [this] at hR; exact hR
   clear hR
   (repeat' (first
    |(apply W.qd; (first
    |(apply (yW (hv0)); exact rfl; exact rfl; (iterate 3 kernel_rfl))|(apply (yW (hd)); exact rfl; exact rfl; (iterate 3 kernel_rfl))|(apply q_mv; (conv => lhs; whnf))|(apply q_as; (conv => lhs; whnf))|(exact yU rfl rfl rfl rfl)|(exact q_not rfl)
    |(exact yV rfl rfl)))|(apply W.ed; (apply yBb; (iterate 3 exact rfl); kernel_rfl; kernel_rfl))|(apply yA)|(apply yB)|(apply (W.regionS 8); exact rfl; kernel_rfl)|(apply yE)|(apply yG)|(apply yH)
    |(apply yR; exact rfl)))
   refine AWP.loopW (α := Nat) (fun f => f ≤ 4 ∧ f ≤ p ∧ ∀ g, g < f → badN (decN m d ps) hv g = false) (fun f => ⟨[(7, iV f), (1, bools hv), (2, .opt 0 0)], [.box [bS nm, iV m, iV d, rowsA (toZ ps), iV dom]]⟩) (fun f => 4 - f) 0 ⟨by omega, by omega, fun g hg => by omega⟩ ⟨[0], rfl, rfl, rfl, by (repeat (first | exact trivial | refine ⟨rfl, ?_⟩))⟩ fun f hf => ?_
   obtain ⟨hf1, hf2, hf3⟩ := hf
   by_cases hc : f < 4 ∧ f < p
   ·obtain ⟨hc1, hc2⟩ := hc
    have hf4 := hfa f hc1
    rw [cdN_A] at hf4
    have hf4 := hf4.cdF (nm := nm) (dom := dom)
    rw [← bad_fat] at hf4
    have hfx : (f : Int) + 1 = ((f + 1 : Nat) : Int) := by omega
    rw [← hfx] at hf4
    cases hB : badN (decN m d ps) hv f with
    | true =>
      have e := hfd f hc1 hf3 hB
      rw [hB] at hf4
      clear hf3 hex hfd hfa
      (repeat' (first
       |(apply yFb; exact rfl; exact rfl)
       |(apply W.qd; (first
       |(apply (yW (hpr)); exact rfl; exact rfl; (iterate 3 kernel_rfl))|(apply (yW (hf4)); exact rfl; exact rfl; (iterate 3 kernel_rfl))|(apply q_mv; (conv => lhs; whnf))|(apply q_as; (conv => lhs; whnf))|(exact yU rfl rfl rfl rfl)|(exact q_lss rfl rfl)|(exact q_add rfl rfl (by omega))|(exact yAb rfl rfl)
       |(apply (yEb (u := .d _)); exact rfl; exact rfl)))|(apply yA)|(apply yB)|(apply yC; kernel_rfl)|(apply yE)|(apply yG)|(apply yH)|(apply yJ)|(apply yP)|(apply yN)|(apply yQ; exact rfl)|(refine W.gT _ _ rfl rfl (fun hb => ?_) (fun hb => ?_) <;> ((try simp only [hb, zK]) <;> (try simp only [zL, zI] at hb) <;> (try (exfalso; omega))))
       |(refine W.cond _ rfl (fun hb => ?_) (fun hb => ?_) <;> ((try simp only [hb, zK]) <;> (try simp only [zL, zI] at hb) <;> (try (exfalso; omega))))))
      all_goals first | exact Ends.i rfl (by omega) | (exfalso; omega)
    | false =>
      have hnx : ∀ g, g < f + 1 → badN (decN m d ps) hv g = false := fun g hg => by
       by_cases e : g = f
       ·subst e; exact hB
       ·exact hf3 g (by omega)
      rw [hB] at hf4
      clear hf3 hex hfd hfa
      (repeat' (first
       |(apply yFb; exact rfl; exact rfl)
       |(apply W.qd; (first
       |(apply (yW (hpr)); exact rfl; exact rfl; (iterate 3 kernel_rfl))|(apply (yW (hf4)); exact rfl; exact rfl; (iterate 3 kernel_rfl))|(apply q_mv; (conv => lhs; whnf))|(apply q_as; (conv => lhs; whnf))|(exact yU rfl rfl rfl rfl)|(exact q_lss rfl rfl)|(exact q_add rfl rfl (by omega))|(exact yAb rfl rfl)
       |(apply (yEb (u := .d _)); exact rfl; exact rfl)))|(apply yA)|(apply yB)|(apply yC; kernel_rfl)|(apply yE)|(apply yG)|(apply yH)|(apply yL)|(apply yR; exact rfl)|(refine W.gT _ _ rfl rfl (fun hb => ?_) (fun hb => ?_) <;> ((try simp only [hb, zK]) <;> (try simp only [zL, zI] at hb) <;> (try (exfalso; omega))))
       |(refine W.cond _ rfl (fun hb => ?_) (fun hb => ?_) <;> ((try simp only [hb, zK]) <;> (try simp only [zL, zI] at hb) <;> (try (exfalso; omega))))))
      all_goals first | exact ⟨f + 1, ⟨by omega, by omega, hnx⟩, by omega, [0], rfl, rfl, rfl, iV_eq (by omega), rfl, rfl, trivial⟩ | (exfalso; omega)
   ·have e := hex f hf1 hf3 hf2 hc
    clear hf3 hex hfd hfa
    (repeat' (first
     |(apply yFb; exact rfl; exact rfl)
     |(apply W.qd; (first
     |(apply (yW (hpr)); exact rfl; exact rfl; (iterate 3 kernel_rfl))|(apply q_mv; (conv => lhs; whnf))|(apply q_as; (conv => lhs; whnf))|(exact q_lss rfl rfl)|(apply (yEb (u := .d _)); exact rfl; exact rfl)
     |(apply (yDb (u := .d _)); exact rfl; exact rfl)))|(refine W.gOff _ _ rfl rfl (by intro h; cases h) ?_)|(apply yA)|(apply yB)|(apply yC; kernel_rfl)|(apply yE)|(apply yI)|(apply yJ)|(apply yK)|(apply yM)|(apply yR; exact rfl)|(refine W.gT _ _ rfl rfl (fun hb => ?_) (fun hb => ?_) <;> ((try simp only [hb, zK]) <;> (try simp only [zL, zI] at hb) <;> (try (exfalso; omega))))
     |(refine W.cond _ rfl (fun hb => ?_) (fun hb => ?_) <;> ((try simp only [hb, zK]) <;> (try simp only [zL, zI] at hb) <;> (try (exfalso; omega))))))
    all_goals first | exact Ends.i rfl (by omega) | (exfalso; omega)
end
section
abbrev Cd := List Nat × Int × Int × List (List Int) × Int
abbrev Sv := List Nat × Int × Int × Int × Int
def cdD (c : Cd) : List Dat := [.v (.string (bytesOf c.1)), .v (.int .i64 c.2.1), .v (.int .i64 c.2.2.1), .sl 1 (c.2.2.2.1.map rD), .v (.int .i64 c.2.2.2.2)]
def svD (v : Sv) : List Dat := [.v (.string (bytesOf v.1)), .v (.int .i64 v.2.1), .v (.int .i64 v.2.2.1), .v (.int .i64 v.2.2.2.1), .v (.int .i64 v.2.2.2.2)]
abbrev cdA1 (c : Cd) : AV := .agg ((cdD c).map .d)
abbrev svA1 (v : Sv) : AV := .agg ((svD v).map .d)
abbrev cds (l : List Cd) : AV := .d (.sl 5 (l.map cdD))
abbrev svs (l : List Sv) : AV := .d (.sl 5 (l.map svD))
abbrev lib (cs : List Cd) (vs : List Sv) : AV := .agg [cds cs, svs vs]
def cd0 : Cd := ([], 0, 0, [], 0)
def sv0 : Sv := ([], 0, 0, 0, 0)
def chkD (c : Cd) : Bool := chkC c.1 c.2.1 c.2.2.1 c.2.2.2.1 c.2.2.2.2
def losD (c : Cd) : Int := lossC c.1 c.2.1 c.2.2.1 c.2.2.2.1 c.2.2.2.2
def FInD (c : Cd) : Prop := FIn c.1 c.2.2.1 c.2.2.2.1
structure NameIn (s : List Nat) : Prop where
 b : isB s
 l : s.length < 9223372036854775808
def nameB (s : List Nat) : Bool := (decide (1 ≤ s.length) && decide (s.length ≤ 12)) && (List.range s.length).all (wordAt s)
def fxI (i : Int) : Int := if i < 0 then 0 else i
def fxE (i : Int) : Int := if i < 0 then 12 else 0
abbrev findA (i : Int) : AV := .tup [iV (fxI i), iV (fxE i)]
def fcI (cs : List Cd) (nm : List Nat) : Int := idxA (fun c => decide (c.1 = nm)) cs
def fvI (vs : List Sv) (nm : List Nat) : Int := idxA (fun v => decide (v.1 = nm)) vs
def hasB (n : Nat) (k : Int) : Bool := decide (0 ≤ k) && decide (k < (n : Int))
def keepsB (cs : List Cd) (k n : Int) : Bool := hasB cs.length k && decide (n ≤ losD (cs.getD k.toNat cd0))
def plausB (nm : List Nat) (l w : Int) : Bool := nameB nm && (decide (0 ≤ l) && (decide (l ≤ 4) && (decide (1 ≤ w) && decide (w ≤ 1048576))))
def usesB (k : Int) (v : Sv) : Bool := decide (v.2.1 = k) || decide (v.2.2.1 = k)
def userI (vs : List Sv) (k : Int) : Int := idxA (usesB k) vs
def aloneB (vs : List Sv) (i : Nat) : Bool := decide (userI vs (vs.getD i sv0).2.1 = (i : Int)) && (decide ((vs.getD i sv0).2.2.1 = -1) || decide (userI vs (vs.getD i sv0).2.2.1 = (i : Int)))
attribute [local irreducible] Quiet Eff OpOk AWPG ACont ABlock ACalls AGoto
end
section
structure LibIn (cs : List Cd) (vs : List Sv) : Prop where
 cn : ∀ c ∈ cs, NameIn c.1
 cp : ∀ c ∈ cs, c.2.2.2.1.length ≤ 9223372036854775807
 vn : ∀ v ∈ vs, NameIn v.1
 cl : cs.length ≤ 9223372036854775807
 vl : vs.length ≤ 9223372036854775807
def okC (cs : List Cd) (i : Nat) : Bool := decide (fcI cs (cs.getD i cd0).1 = (i : Int)) && chkD (cs.getD i cd0)
def okV (cs : List Cd) (vs : List Sv) (i : Nat) : Bool := decide (fvI vs (vs.getD i sv0).1 = (i : Int)) && (plausB (vs.getD i sv0).1 (vs.getD i sv0).2.2.2.1 (vs.getD i sv0).2.2.2.2 && (keepsB cs (vs.getD i sv0).2.1 (vs.getD i sv0).2.2.2.1 && (decide ((vs.getD i sv0).2.2.1 ≠ (vs.getD i sv0).2.1) && ((decide ((vs.getD i sv0).2.2.1 = -1) || keepsB cs (vs.getD i sv0).2.2.1 (vs.getD i sv0).2.2.2.1) && aloneB vs i))))
def validB (cs : List Cd) (vs : List Sv) : Bool := (decide (cs.length ≤ 8) && decide (vs.length ≤ 8)) && ((List.range cs.length).all (okC cs) && (List.range vs.length).all (okV cs vs))
theorem idxA_nn {α : Type} {q : α → Bool} {l : List α} {x : α} (hx : x ∈ l) (h : q x = true) : 0 ≤ idxA q l := by
 unfold idxA
 split
 ·omega
 ·rename_i hn
  have := (List.findIdx?_eq_none_iff.1 hn) x hx
  rw [h] at this; cases this
theorem find_nn {i : Int} (h : 0 ≤ i) : findA i = .tup [iV i, iV 0] := by
 unfold findA fxI fxE
 rw [if_neg (by omega), if_neg (by omega)]
theorem fin_chk {c : Cd} (h : chkD c = true) (hn : NameIn c.1) : FInD c := by
 have hv := chk_valid h
 unfold validC at hv
 simp only [Bool.and_eq_true, decide_eq_true_eq] at hv
 exact ⟨hn.b, hn.l, by omega, by omega⟩
theorem all_range {n : Nat} {p : Nat → Bool} : (List.range n).all p = true ↔ ∀ i, i < n → p i = true := by
 rw [List.all_eq_true]
 exact ⟨fun h i hi => h i (List.mem_range.2 hi), fun h i hi => h i (List.mem_range.1 hi)⟩
theorem range_bad {n i : Nat} {p : Nat → Bool} (hi : i < n) (h : p i = false) : (List.range n).all p = false := by
 rw [List.all_eq_false]
 exact ⟨i, List.mem_range.2 hi, by rw [h]; decide⟩
attribute [local irreducible] Quiet Eff OpOk AWPG ACont ABlock ACalls AGoto
end
section
structure LibOk (cs : List Cd) (vs : List Sv) : Prop where
 cn : ∀ c ∈ cs, NameIn c.1
 ck : ∀ c ∈ cs, chkD c = true
 vn : ∀ v ∈ vs, NameIn v.1
 cl : cs.length ≤ 1000
 vl : vs.length ≤ 1000
abbrev Lb := List Cd × List Sv
def lb0 : Lb := ([], [])
def addCN (cs : List Cd) (vs : List Sv) (c : Cd) : Lb × Int × Int :=
 if chkD c = false then (lb0, 0, 1) else if 0 ≤ fcI cs c.1 then (lb0, 0, 20) else if 8 ≤ cs.length then (lb0, 0, 2) else ((cs ++ [c], vs), (cs.length : Int), 0)
theorem chk_rows {c : Cd} (h : chkD c = true) : c.2.2.2.1.length ≤ 31 ∧ ∀ r ∈ c.2.2.2.1, r.length ≤ 31 := by
 have hv := chk_valid h
 unfold validC at hv
 simp only [Bool.and_eq_true, decide_eq_true_eq, List.all_eq_true] at hv
 obtain ⟨⟨⟨⟨h1, h2⟩, h3⟩, h4⟩, h5⟩ := hv
 have h6 : c.2.2.1 ≤ 31 := by
  unfold chkD chkC at h
  simp only [Bool.and_eq_true, decide_eq_true_eq] at h
  have := h.1.1.2
  omega
 refine ⟨by omega, fun r hr => ?_⟩
 have := h5 r hr
 unfold rowOk at this
 simp only [Bool.and_eq_true, decide_eq_true_eq] at this
 omega
theorem LibOk.fin {cs : List Cd} {vs : List Sv} (h : LibOk cs vs) : ∀ c ∈ cs, FInD c := fun c hc => fin_chk (h.ck c hc) (h.cn c hc)
theorem find_no {i : Int} (h : ¬ 0 ≤ i) : findA i = .tup [iV 0, iV 12] := by
 unfold findA fxI fxE
 rw [if_pos (by omega), if_pos (by omega)]
attribute [local irreducible] Quiet Eff OpOk AWPG ACont ABlock ACalls AGoto
end
section
theorem hasB_nat {n : Nat} {k : Int} (h : hasB n k = true) : ∃ j : Nat, k = j ∧ j < n := by
 unfold hasB at h
 rw [Bool.and_eq_true, decide_eq_true_eq, decide_eq_true_eq] at h
 exact ⟨k.toNat, by omega, by omega⟩
attribute [local irreducible] Quiet Eff OpOk AWPG ACont ABlock ACalls AGoto
end
section
section
variable {α : Type} {q : α → Bool} {l : List α}
end
theorem getDc {cs : List Cd} {i : Nat} (h : i < cs.length) : cs.getD i cd0 = cs[i] := by rw [List.getD_eq_getElem?_getD, List.getElem?_eq_getElem h]; rfl
theorem getDv {vs : List Sv} {i : Nat} (h : i < vs.length) : vs.getD i sv0 = vs[i] := by rw [List.getD_eq_getElem?_getD, List.getElem?_eq_getElem h]; rfl
structure VOk (cs : List Cd) (vs : List Sv) (i : Nat) (v : Sv) : Prop where
 nm : fvI vs v.1 = (i : Int)
 pl : plausB v.1 v.2.2.2.1 v.2.2.2.2 = true
 kp : keepsB cs v.2.1 v.2.2.2.1 = true
 ne : v.2.2.1 ≠ v.2.1
 kn : v.2.2.1 = -1 ∨ keepsB cs v.2.2.1 v.2.2.2.1 = true
 us : userI vs v.2.1 = (i : Int)
 un : v.2.2.1 = -1 ∨ userI vs v.2.2.1 = (i : Int)
theorem okV_iff {cs : List Cd} {vs : List Sv} {i : Nat} (h : i < vs.length) : okV cs vs i = true ↔ VOk cs vs i vs[i] := by
 unfold okV aloneB
 rw [getDv h]
 simp only [Bool.and_eq_true, Bool.or_eq_true, decide_eq_true_eq]
 exact ⟨fun ⟨h1, h2, h3, h4, h5, h6, h7⟩ => ⟨h1, h2, h3, h4, h5, h6, h7⟩, fun ⟨h1, h2, h3, h4, h5, h6, h7⟩ => ⟨h1, h2, h3, h4, h5, h6, h7⟩⟩
theorem okC_iff {cs : List Cd} {i : Nat} (h : i < cs.length) : okC cs i = true ↔ fcI cs cs[i].1 = (i : Int) ∧ chkD cs[i] = true := by
 unfold okC
 rw [getDc h, Bool.and_eq_true, decide_eq_true_eq]
structure Vld (cs : List Cd) (vs : List Sv) : Prop where
 cl : cs.length ≤ 8
 vl : vs.length ≤ 8
 c : ∀ (i : Nat) (h : i < cs.length), fcI cs cs[i].1 = (i : Int) ∧ chkD cs[i] = true
 v : ∀ (i : Nat) (h : i < vs.length), VOk cs vs i vs[i]
theorem valid_iff {cs : List Cd} {vs : List Sv} : validB cs vs = true ↔ Vld cs vs := by
 unfold validB
 simp only [Bool.and_eq_true, decide_eq_true_eq, all_range]
 exact ⟨fun ⟨⟨h1, h2⟩, h3, h4⟩ => ⟨h1, h2, fun i h => (okC_iff h).1 (h3 i h), fun i h => (okV_iff h).1 (h4 i h)⟩, fun ⟨h1, h2, h3, h4⟩ => ⟨⟨h1, h2⟩, fun i h => (okC_iff h).2 (h3 i h), fun i h => (okV_iff h).2 (h4 i h)⟩⟩
theorem keeps_has {cs : List Cd} {k n : Int} (h : keepsB cs k n = true) : 0 ≤ k ∧ k < cs.length := by
 unfold keepsB at h
 rw [Bool.and_eq_true] at h
 obtain ⟨j, rfl, hj⟩ := hasB_nat h.1
 omega
end
section
def few30 (c : Cd) : Bool := decide (0 ≤ c.2.2.1) && (decide (c.2.2.1 ≤ 5) && (decide (c.2.2.2.1.length ≤ 5) && decide (c.2.2.1 + (c.2.2.2.1.length : Int) ≤ 7)))
theorem LibOk.nil : LibOk [] [] := ⟨by simp, by simp, by simp, by decide, by decide⟩
theorem LibOk.addC {cs : List Cd} {vs : List Sv} (h : LibOk cs vs) (c : Cd) (h1 : NameIn c.1) (h2 : chkD c = true) (h3 : cs.length < 900) : LibOk (cs ++ [c]) vs where
 cn x hx := by
  rcases List.mem_append.1 hx with h4 | h4
  ·exact h.cn x h4
  ·rw [List.mem_singleton.1 h4]; exact h1
 ck x hx := by
  rcases List.mem_append.1 hx with h4 | h4
  ·exact h.ck x h4
  ·rw [List.mem_singleton.1 h4]; exact h2
 vn := h.vn
 cl := by simp; omega
 vl := h.vl
theorem LibOk.addV {cs : List Cd} {vs : List Sv} (h : LibOk cs vs) (v : Sv) (h1 : NameIn v.1) (h3 : vs.length < 900) : LibOk cs (vs ++ [v]) where
 cn := h.cn
 ck := h.ck
 vn x hx := by
  rcases List.mem_append.1 hx with h4 | h4
  ·exact h.vn x h4
  ·rw [List.mem_singleton.1 h4]; exact h1
 cl := h.cl
 vl := by simp; omega
theorem LibOk.lin {cs : List Cd} {vs : List Sv} (h : LibOk cs vs) : LibIn cs vs where
 cn := h.cn
 cp c hc := by have := (chk_rows (h.ck c hc)).1; omega
 vn := h.vn
 cl := by have := h.cl; omega
 vl := by have := h.vl; omega
def rs30 : Cd := ([114, 115], 8, 2, [[1, 1], [1, 2]], 1)
def pa30 : Cd := ([112, 97, 114], 8, 2, [[1, 1]], 1)
def pb30 : Cd := ([112, 97, 114], 8, 2, [[1, 2]], 1)
def pc30 : Cd := ([112, 97, 114, 50], 8, 2, [[1, 2]], 1)
theorem n_rs : NameIn rs30.1 := ⟨by unfold isB rs30; decide, by decide⟩
theorem n_pa : NameIn pa30.1 := ⟨by unfold isB pa30; decide, by decide⟩
theorem L1 : LibOk [rs30] [] := LibOk.nil.addC rs30 n_rs (by kernel_rfl) (by decide)
theorem L2 : LibOk [rs30, pa30] [] := L1.addC pa30 n_pa (by kernel_rfl) (by decide)
theorem r1 : addCN [] [] rs30 = (([rs30], []), 0, 0) := by kernel_rfl
theorem r2 : addCN [rs30] [] pa30 = (([rs30, pa30], []), 1, 0) := by kernel_rfl
theorem r3 : addCN [rs30, pa30] [] pb30 = (lb0, 0, 20) := by kernel_rfl
theorem r4 : addCN [rs30, pa30] [] pc30 = (([rs30, pa30, pc30], []), 2, 0) := by kernel_rfl
attribute [local irreducible] Quiet Eff OpOk AWPG ACont ABlock ACalls AGoto
end
section
theorem Vld.ok {cs : List Cd} {vs : List Sv} (h : Vld cs vs) (hi : LibIn cs vs) : LibOk cs vs where
 cn := hi.cn
 ck c hc := by
  obtain ⟨i, hi, rfl⟩ := List.getElem_of_mem hc
  exact (h.c i hi).2
 vn := hi.vn
 cl := by have := h.cl; omega
 vl := by have := h.vl; omega
theorem Vld.nil : Vld [] [] := ⟨by decide, by decide, fun i h => absurd h (by simp), fun i h => absurd h (by simp)⟩
structure Gd30 (cs : List Cd) (vs : List Sv) : Prop where
 v : Vld cs vs
 n : LibIn cs vs
theorem Gd30.nil : Gd30 [] [] := ⟨Vld.nil, LibOk.nil.lin⟩
attribute [local irreducible] Quiet Eff OpOk AWPG ACont ABlock ACalls AGoto
end
section
def rightB (cs : List Cd) (v : Sv) : Bool := plausB v.1 v.2.2.2.1 v.2.2.2.2 && (keepsB cs v.2.1 v.2.2.2.1 && (decide (v.2.2.1 ≠ v.2.1) && (decide (v.2.2.1 = -1) || keepsB cs v.2.2.1 v.2.2.2.1)))
theorem okV_right {cs : List Cd} {vs : List Sv} {i : Nat} (h : i < vs.length) : okV cs vs i = (rightB cs vs[i] && (decide (fvI vs vs[i].1 = (i : Int)) && (decide (userI vs vs[i].2.1 = (i : Int)) && (decide (vs[i].2.2.1 = -1) || decide (userI vs vs[i].2.2.1 = (i : Int)))))) := by
 unfold okV aloneB rightB
 rw [getDv h]
 rw [Bool.eq_iff_iff]
 simp only [Bool.and_eq_true, Bool.or_eq_true, decide_eq_true_eq]
 constructor
 ·rintro ⟨h1, h2, h3, h4, h5, h6, h7⟩
  exact ⟨⟨h2, h3, h4, h5⟩, h1, h6, h7⟩
 ·rintro ⟨⟨h2, h3, h4, h5⟩, h1, h6, h7⟩
  exact ⟨h1, h2, h3, h4, h5, h6, h7⟩
attribute [local irreducible] Quiet Eff OpOk AWPG ACont ABlock ACalls AGoto
theorem A_all9 {n : Nat} (h : n ≤ 3000000) : ACalls Tryz.prog 268 [iV n] [] (bools (List.replicate n true)) [] := by
 refine acalls_of_body Tryz.func268 rfl (Nat.le_of_ble_eq_true rfl) ?_
 (repeat' (first
  |(apply W.qd; (apply q_as; (conv => lhs; whnf)))|(apply yA)|(apply yB)|(apply (W.regionS 2); exact rfl; kernel_rfl)
  |(apply yE)))
 refine AWP.nilRow 3 1 4 rfl (by omega) ?_
 (repeat' (first
  |(apply W.qd; (apply q_as; (conv => lhs; whnf)))|(apply yB)|(apply (W.regionS 3); exact rfl; kernel_rfl)|(apply yE)
  |(apply yG)))
 refine AWP.loopW (α := Nat) (fun i => i ≤ n) (fun i => ⟨[(4, iV i), (3, .osl 0 i 0 (List.replicate i true).length), (0, iV n)], [.row i 1 4 ((List.replicate i true).map tD)]⟩) (fun i => n - i) 0 (Nat.zero_le _) ⟨[0], rfl, rfl, rfl, by (repeat (first | exact trivial | refine ⟨rfl, ?_⟩))⟩ fun i hi => ?_
 by_cases hil : i < n
 ·have hrp : List.replicate (i + 1) true = List.replicate i true ++ [true] := List.replicate_succ'
  have hln : (List.replicate i true).length = i := List.length_replicate
  replace hrp := Lib.hid hrp
  generalize List.replicate i true = A at *
  (repeat' (first
   |(apply W.qd; (first
   |(apply q_mv; (conv => lhs; whnf))|(apply q_as; (conv => lhs; whnf))|(exact q_lss rfl rfl)|(exact q_add rfl rfl (by omega))
   |(apply q_litF; (iterate 5 exact rfl); kernel_rfl; kernel_rfl; exact rfl)))|(apply W.ld; (apply l_app1; (iterate 8 exact rfl); (first | omega | (focus (simp; omega)) | (focus (simp; done)))))|(apply yA)|(apply yB)|(apply yC; kernel_rfl)|(apply yE)|(apply yG)|(apply yH)|(apply yL)
   |(refine W.cond _ rfl (fun hb => ?_) (fun hb => ?_) <;> ((try simp only [hb, zK]) <;> (try simp only [zL, zI] at hb) <;> (try (exfalso; omega))))))
  refine ⟨i + 1, by omega, by omega, ?_⟩
  rw [hrp.out]
  exact ⟨[0], rfl, rfl, rfl, iV_eq (by omega), rfl, rfl, trivial⟩
 ·obtain rfl : i = n := by omega
  (repeat' (first
   |(apply W.qd; (first
   |(apply q_mv; (conv => lhs; whnf))|(apply q_as; (conv => lhs; whnf))
   |(exact q_lss rfl rfl)))|(apply yA)|(apply yB)|(apply yC; kernel_rfl)|(apply yE)|(apply yI)|(apply yJ)|(apply yK)|(apply yM)
   |(refine W.cond _ rfl (fun hb => ?_) (fun hb => ?_) <;> ((try simp only [hb, zK]) <;> (try simp only [zL, zI] at hb) <;> (try (exfalso; omega))))))
  exact Ends.osl rfl rfl (by simp) rfl
theorem A_losses9 {nm : List Nat} {M D dom : Int} {par : List (List Int)} (h : FIn nm D par) : ACalls Tryz.prog 236 [cdF nm M D par dom] [] (iV (lossC nm M D par dom)) [] := by
 have h1 := h.d
 have h2 := h.p
 have hmp : (par.map rD).length = par.length := List.length_map _
 obtain ⟨w, hw⟩ : ∃ w : Nat, D + (par.length : Int) = w := ⟨(D + (par.length : Int)).toNat, by omega⟩
 have ha : ACalls Tryz.prog 268 [iV (D + ((par.map rD).length : Int))] [] (bools (List.replicate w true)) [] := by
  rw [hmp, hw]; exact A_all9 (by omega)
 have hl := A_left9 (M := M) (dom := dom) (hv := List.replicate w true) h (by simp; omega)
 have e : lossC nm M D par dom = leftC nm M D par dom (List.replicate w true) := by unfold lossC; rw [hw, Int.toNat_natCast]
 rw [e]
 generalize leftC nm M D par dom (List.replicate w true) = L at *
 generalize List.replicate w true = A at *
 refine acalls_of_body Tryz.func236 rfl (Nat.le_of_ble_eq_true rfl) ?_
 (repeat' (first
  |(apply W.qd; (first
  |(apply (yW (ha)); exact rfl; exact rfl; (iterate 3 kernel_rfl))|(apply (yW (hl)); exact rfl; exact rfl; (iterate 3 kernel_rfl))|(apply q_as; (conv => lhs; whnf))|(exact yS rfl rfl rfl)|(exact yT rfl rfl rfl rfl)|(exact yU rfl rfl rfl rfl)|(exact q_add rfl rfl (by omega))
  |(exact yV rfl rfl)))|(apply W.ed; (apply yBb; (iterate 3 exact rfl); kernel_rfl; kernel_rfl))|(apply yA)|(apply yB)|(apply yC; kernel_rfl)|(apply yD; exact rfl; kernel_rfl)|(apply yE)|(apply yF; kernel_rfl)
  |(apply yJ)))
 exact Ends.i rfl rfl
theorem A_losD9 {c : Cd} (h : FInD c) : ACalls Tryz.prog 236 [cdA1 c] [] (iV (losD c)) [] := A_losses9 h
theorem A_rname {s : List Nat} (h : NameIn s) : ACalls Tryz.prog 181 [bS s] [] (bV (nameB s)) [] := by
 refine acalls_of_body Tryz.func181 rfl (Nat.le_of_ble_eq_true rfl) ?_
 have hs := h.b
 have hl := h.l
 have hnB : nameB s = ((decide (1 ≤ s.length) && decide (s.length ≤ 12)) && (List.range s.length).all (wordAt s)) := rfl
 by_cases hg : 1 ≤ s.length ∧ s.length ≤ 12
 case neg =>
  have e : nameB s = false := by
   rw [hnB, Bool.and_eq_false_iff]
   left
   rw [Bool.and_eq_false_iff, decide_eq_false_iff_not, decide_eq_false_iff_not]
   omega
  rw [e]
  (repeat' (first
   |(apply yFb; exact rfl; exact rfl)
   |(apply W.qd; (first
   |(apply q_mv; (conv => lhs; whnf))|(apply q_as; (conv => lhs; whnf))|(exact q_lss rfl rfl)|(exact q_gtr rfl rfl)|(exact q_len_bs rfl rfl)|(apply (yEb (u := .d _)); exact rfl; exact rfl)
   |(apply (yDb (u := .d _)); exact rfl; exact rfl)))|(refine W.gOff _ _ rfl rfl (by intro h; cases h) ?_)|(apply yA)|(apply yB)|(apply (W.regionS 3); exact rfl; kernel_rfl)|(apply yE)|(apply yJ)|(apply yP)|(apply yQ; exact rfl)
   |(refine W.gF _ _ rfl rfl (fun hb => ?_) (fun hb => ?_) <;> ((try simp only [hb, zK]) <;> (try simp only [zL, zI] at hb) <;> (try (exfalso; omega))))))
  all_goals first | exact Ends.b rfl rfl | (exfalso; omega)
 have hp : 0 < s.length := by omega
 have g0 : s.getD 0 0 = s[0] := by rw [List.getD_eq_getElem?_getD, List.getElem?_eq_getElem hp]; rfl
 rw [decide_eq_true hg.1, decide_eq_true hg.2, Bool.and_true, Bool.true_and] at hnB
 have hbad : ∀ k, k < s.length → wordAt s k = false → nameB s = false := fun k hk h => by
  rw [hnB, List.all_eq_false]
  exact ⟨k, List.mem_range.2 hk, by rw [h]; decide⟩
 have hgood : (∀ k, k < s.length → wordAt s k = true) → nameB s = true := fun h => by
  rw [hnB, List.all_eq_true]
  intro j hj
  exact h j (List.mem_range.1 hj)
 clear hnB
 generalize nameB s = V at *
 by_cases hc : 97 ≤ s[0] ∧ s[0] ≤ 122
 case neg =>
  have e := hbad 0 hp (by
   unfold wordAt letB
   rw [g0, Bool.or_eq_false_iff, Bool.and_eq_false_iff, decide_eq_false_iff_not, decide_eq_false_iff_not]
   exact ⟨by omega, by simp⟩)
  subst e
  (repeat' (first
   |(apply yFb; exact rfl; exact rfl)
   |(apply W.qd; (first
   |(apply q_mv; (conv => lhs; whnf))|(apply q_as; (conv => lhs; whnf))|(exact q_lss rfl rfl)|(exact q_gtr rfl rfl)|(exact q_len_bs rfl rfl)|(apply q_ix_bs; (iterate 3 exact rfl); (first | (with_reducible exact rfl) | exact natI_spec rfl | assumption | exact (Int.toNat_of_nonneg (by omega)).symm); (first | omega | (focus (simp only [List.length_map]; omega)) | (focus (simp; done)) | (focus (simp; omega))); assumption)|(apply (yEb (u := .d _)); exact rfl; exact rfl)
   |(apply (yDb (u := .d _)); exact rfl; exact rfl)))|(refine W.gOff _ _ rfl rfl (by intro h; cases h) ?_)|(apply yA)|(apply yB)|(apply (W.regionS 3); exact rfl; kernel_rfl)|(apply yE)|(apply yJ)|(apply yP)|(apply yQ; exact rfl)|(refine W.gF _ _ rfl rfl (fun hb => ?_) (fun hb => ?_) <;> ((try simp only [hb, zK]) <;> (try simp only [zL, zI] at hb) <;> (try (exfalso; omega))))
   |(refine W.cond _ rfl (fun hb => ?_) (fun hb => ?_) <;> ((try simp only [hb, zK]) <;> (try simp only [zL, zI] at hb) <;> (try (exfalso; omega))))))
  all_goals first | exact Ends.b rfl rfl | (exfalso; omega)
 (repeat' (first
  |(apply yFb; exact rfl; exact rfl)
  |(apply W.qd; (first
  |(apply q_mv; (conv => lhs; whnf))|(apply q_as; (conv => lhs; whnf))|(exact q_lss rfl rfl)|(exact q_gtr rfl rfl)|(exact q_len_bs rfl rfl)|(apply q_ix_bs; (iterate 3 exact rfl); (first | (with_reducible exact rfl) | exact natI_spec rfl | assumption | exact (Int.toNat_of_nonneg (by omega)).symm); (first | omega | (focus (simp only [List.length_map]; omega)) | (focus (simp; done)) | (focus (simp; omega))); assumption)
  |(apply (yDb (u := .d _)); exact rfl; exact rfl)))|(apply yA)|(apply yB)|(apply (W.regionS 4); exact rfl; kernel_rfl)|(apply yE)|(apply yG)|(apply yH)|(refine W.gF _ _ rfl rfl (fun hb => ?_) (fun hb => ?_) <;> ((try simp only [hb, zK]) <;> (try simp only [zL, zI] at hb) <;> (try (exfalso; omega))))
  |(refine W.cond _ rfl (fun hb => ?_) (fun hb => ?_) <;> ((try simp only [hb, zK]) <;> (try simp only [zL, zI] at hb) <;> (try (exfalso; omega))))))
 all_goals try (exfalso; omega)
 refine AWP.loopW (α := Nat) (fun k => k ≤ s.length ∧ ∀ j, j < k → wordAt s j = true) (fun k => ⟨[(3, iV k), (0, bS s)], []⟩) (fun k => s.length - k) 0 ⟨Nat.zero_le _, fun j hj => by omega⟩ ⟨[], rfl, rfl, rfl, by (repeat (first | exact trivial | refine ⟨rfl, ?_⟩))⟩ fun k hk => ?_
 by_cases hkl : k < s.length
 ·have eg : s.getD k 0 = s[k] := by rw [List.getD_eq_getElem?_getD, List.getElem?_eq_getElem hkl]; rfl
  have hnext : wordAt s k = true → ∀ j, j < k + 1 → wordAt s j = true := fun h j hj => by
   by_cases e : j = k
   ·subst e; exact h
   ·exact hk.2 j (by omega)
  have hbk := hbad k hkl
  have hwa : wordAt s k = true ↔ (97 ≤ s[k] ∧ s[k] ≤ 122) ∨ (48 ≤ s[k] ∧ s[k] ≤ 57) := by
   unfold wordAt letB digB; rw [eg]
   simp only [Bool.or_eq_true, Bool.and_eq_true, decide_eq_true_eq]
   by_cases e : k = 0
   ·subst e; exact ⟨fun h => .inl hc, fun h => .inl hc⟩
   ·exact ⟨fun h => h.imp id (·.2), fun h => h.imp id fun h => ⟨e, h⟩⟩
  have hwf : ¬ ((97 ≤ s[k] ∧ s[k] ≤ 122) ∨ (48 ≤ s[k] ∧ s[k] ≤ 57)) → wordAt s k = false := fun h => Bool.eq_false_iff.2 fun h2 => h (hwa.1 h2)
  clear hk hbad hgood
  (repeat' (first
   |(apply yFb; exact rfl; exact rfl)
   |(apply W.qd; (first
   |(apply q_mv; (conv => lhs; whnf))|(apply q_as; (conv => lhs; whnf))|(exact q_lss rfl rfl)|(exact q_gtr rfl rfl)|(exact q_add rfl rfl (by omega))|(exact q_len_bs rfl rfl)|(apply q_ix_bs; (iterate 3 exact rfl); (first | (with_reducible exact rfl) | exact natI_spec rfl | assumption | exact (Int.toNat_of_nonneg (by omega)).symm); (first | omega | (focus (simp only [List.length_map]; omega)) | (focus (simp; done)) | (focus (simp; omega))); assumption)|(apply (yEb (u := .d _)); exact rfl; exact rfl)
   |(apply (yDb (u := .d _)); exact rfl; exact rfl)))|(refine W.gOff _ _ rfl rfl (by intro h; cases h) ?_)|(apply yA)|(apply yB)|(apply yC; kernel_rfl)|(apply yE)|(apply yG)|(apply yH)|(apply yJ)|(apply yP)|(apply yL)|(apply yN)|(apply yQ; exact rfl)|(apply yR; exact rfl)|(refine W.gT _ _ rfl rfl (fun hb => ?_) (fun hb => ?_) <;> ((try simp only [hb, zK]) <;> (try simp only [zL, zI] at hb) <;> (try (exfalso; omega))))|(refine W.gF _ _ rfl rfl (fun hb => ?_) (fun hb => ?_) <;> ((try simp only [hb, zK]) <;> (try simp only [zL, zI] at hb) <;> (try (exfalso; omega))))
   |(refine W.cond _ rfl (fun hb => ?_) (fun hb => ?_) <;> ((try simp only [hb, zK]) <;> (try simp only [zL, zI] at hb) <;> (try (exfalso; omega))))))
  all_goals first
   |exact Ends.b rfl (hbk (hwf (by omega))).symm
   |exact ⟨k + 1, ⟨by omega, hnext (hwa.2 (by omega))⟩, by omega, [], rfl, rfl, rfl, iV_eq (by omega), rfl, trivial⟩
 ·have e : V = true := hgood fun i hi => hk.2 i (by omega)
  subst e
  clear hk hbad hgood
  (repeat' (first
   |(apply W.qd; (first
   |(apply q_mv; (conv => lhs; whnf))|(apply q_as; (conv => lhs; whnf))|(exact q_lss rfl rfl)
   |(exact q_len_bs rfl rfl)))|(apply yA)|(apply yB)|(apply yC; kernel_rfl)|(apply yE)|(apply yI)|(apply yJ)|(apply yK)|(apply yM)
   |(refine W.cond _ rfl (fun hb => ?_) (fun hb => ?_) <;> ((try simp only [hb, zK]) <;> (try simp only [zL, zI] at hb) <;> (try (exfalso; omega))))))
  all_goals exact Ends.b rfl rfl
theorem A_rfindC {cs : List Cd} {vs : List Sv} {nm : List Nat} (hl : cs.length ≤ 9223372036854775807) (hb1 : ∀ c ∈ cs, isB c.1) (h2 : isB nm) : ACalls Tryz.prog 115 [lib cs vs, bS nm] [] (findA (fcI cs nm)) [] := by
 refine acalls_of_body Tryz.func115 rfl (Nat.le_of_ble_eq_true rfl) ?_
 have hm : (cs.map cdD).length = cs.length := List.length_map _
 (repeat' (first
  |(apply W.qd; (apply q_as; (conv => lhs; whnf)))|(apply W.ed; (apply yBb; (iterate 3 exact rfl); kernel_rfl; kernel_rfl))|(apply yA)|(apply yB)|(apply (W.regionS 2); exact rfl; kernel_rfl)|(apply yE)
  |(apply yG)))
 refine AWP.loopW (α := Nat) (fun k => k ≤ cs.length ∧ ∀ x ∈ cs.take k, decide (x.1 = nm) = false) (fun k => ⟨[(6, iV k), (1, bS nm), (2, .opt 0 0)], [.box [cds cs, svs vs]]⟩) (fun k => cs.length - k) 0 ⟨by omega, by simp⟩ ⟨[0], rfl, rfl, rfl, by (repeat (first | exact trivial | refine ⟨rfl, ?_⟩))⟩ fun k hk => ?_
 by_cases hkl : k < cs.length
 ·have hx1 := hb1 cs[k] (List.getElem_mem hkl)
  (repeat' (first
   |(apply W.qd; (first
   |(apply q_mv; (conv => lhs; whnf))|(apply q_as; (conv => lhs; whnf))|(exact yS rfl rfl rfl)|(exact yT rfl rfl rfl rfl)|(exact q_lss rfl rfl)|(exact q_add rfl rfl (by omega))|(exact yV rfl rfl)|(apply yX; (iterate 3 exact rfl); (first | omega | (focus (simp; done))))|(apply q_fld_fptF; (iterate 3 exact rfl))|(apply yGb; (iterate 4 exact rfl); (first | (with_reducible exact rfl) | exact natI_spec rfl | assumption | exact (Int.toNat_of_nonneg (by omega)).symm); (first | omega | (focus (simp only [List.length_map]; omega)) | (focus (simp; done)) | (focus (simp; omega))))
   |(apply q_eqlS; exact rfl; exact rfl; (first | assumption | exact isB_nil | exact isB_xor (by assumption) (by assumption)); (first | assumption | exact isB_nil | exact isB_xor (by assumption) (by assumption)))))|(apply yA)|(apply yB)|(apply yC; kernel_rfl)|(apply yE)|(apply yG)|(apply yH)|(apply yJ)|(apply yP)|(apply yL)|(apply yN)
   |(refine W.cond _ rfl (fun hb => ?_) (fun hb => ?_) <;> ((try simp only [hb, zK]) <;> (try simp only [zL, zI] at hb) <;> (try (exfalso; omega))))))
  all_goals first
   |(rw [show fcI cs nm = (k : Int) from idxA_hit hkl (decide_eq_true hb) hk.2, find_nn (by omega)]; exact Ends.two rfl rfl rfl)|(refine ⟨k + 1, ⟨by omega, fun x hx => ?_⟩, by omega, [0], rfl, rfl, rfl, iV_eq (by omega), rfl, rfl, trivial⟩; rw [List.take_succ_eq_append_getElem hkl] at hx; rcases List.mem_append.1 hx with hx | hx <;> first | exact hk.2 x hx | (rw [List.mem_singleton.1 hx]; exact decide_eq_false hb))
 ·rw [show fcI cs nm = -1 from idxA_miss fun x hx => hk.2 x (by rwa [List.take_of_length_le (by omega)]), find_no (by omega)]
  clear hk
  (repeat' (first
   |(apply W.qd; (first
   |(apply q_mv; (conv => lhs; whnf))|(apply q_as; (conv => lhs; whnf))|(exact yS rfl rfl rfl)|(exact yT rfl rfl rfl rfl)|(exact q_lss rfl rfl)
   |(exact yV rfl rfl)))|(apply yA)|(apply yB)|(apply yC; kernel_rfl)|(apply yE)|(apply yI)|(apply yJ)|(apply yK)|(apply yM)
   |(refine W.cond _ rfl (fun hb => ?_) (fun hb => ?_) <;> ((try simp only [hb, zK]) <;> (try simp only [zL, zI] at hb) <;> (try (exfalso; omega))))))
  exact Ends.two rfl rfl rfl
theorem A_rfindV {cs : List Cd} {vs : List Sv} {nm : List Nat} (hl : vs.length ≤ 9223372036854775807) (hb1 : ∀ c ∈ vs, isB c.1) (h2 : isB nm) : ACalls Tryz.prog 117 [lib cs vs, bS nm] [] (findA (fvI vs nm)) [] := by
 refine acalls_of_body Tryz.func117 rfl (Nat.le_of_ble_eq_true rfl) ?_
 have hm : (vs.map svD).length = vs.length := List.length_map _
 (repeat' (first
  |(apply W.qd; (apply q_as; (conv => lhs; whnf)))|(apply W.ed; (apply yBb; (iterate 3 exact rfl); kernel_rfl; kernel_rfl))|(apply yA)|(apply yB)|(apply (W.regionS 2); exact rfl; kernel_rfl)|(apply yE)
  |(apply yG)))
 refine AWP.loopW (α := Nat) (fun k => k ≤ vs.length ∧ ∀ x ∈ vs.take k, decide (x.1 = nm) = false) (fun k => ⟨[(6, iV k), (1, bS nm), (2, .opt 0 0)], [.box [cds cs, svs vs]]⟩) (fun k => vs.length - k) 0 ⟨by omega, by simp⟩ ⟨[0], rfl, rfl, rfl, by (repeat (first | exact trivial | refine ⟨rfl, ?_⟩))⟩ fun k hk => ?_
 by_cases hkl : k < vs.length
 ·have hx1 := hb1 vs[k] (List.getElem_mem hkl)
  (repeat' (first
   |(apply W.qd; (first
   |(apply q_mv; (conv => lhs; whnf))|(apply q_as; (conv => lhs; whnf))|(exact yS rfl rfl rfl)|(exact yT rfl rfl rfl rfl)|(exact q_lss rfl rfl)|(exact q_add rfl rfl (by omega))|(exact yV rfl rfl)|(apply yX; (iterate 3 exact rfl); (first | omega | (focus (simp; done))))|(apply q_fld_fptF; (iterate 3 exact rfl))|(apply yGb; (iterate 4 exact rfl); (first | (with_reducible exact rfl) | exact natI_spec rfl | assumption | exact (Int.toNat_of_nonneg (by omega)).symm); (first | omega | (focus (simp only [List.length_map]; omega)) | (focus (simp; done)) | (focus (simp; omega))))
   |(apply q_eqlS; exact rfl; exact rfl; (first | assumption | exact isB_nil | exact isB_xor (by assumption) (by assumption)); (first | assumption | exact isB_nil | exact isB_xor (by assumption) (by assumption)))))|(apply yA)|(apply yB)|(apply yC; kernel_rfl)|(apply yE)|(apply yG)|(apply yH)|(apply yJ)|(apply yP)|(apply yL)|(apply yN)
   |(refine W.cond _ rfl (fun hb => ?_) (fun hb => ?_) <;> ((try simp only [hb, zK]) <;> (try simp only [zL, zI] at hb) <;> (try (exfalso; omega))))))
  all_goals first
   |(rw [show fvI vs nm = (k : Int) from idxA_hit hkl (decide_eq_true hb) hk.2, find_nn (by omega)]; exact Ends.two rfl rfl rfl)|(refine ⟨k + 1, ⟨by omega, fun x hx => ?_⟩, by omega, [0], rfl, rfl, rfl, iV_eq (by omega), rfl, rfl, trivial⟩; rw [List.take_succ_eq_append_getElem hkl] at hx; rcases List.mem_append.1 hx with hx | hx <;> first | exact hk.2 x hx | (rw [List.mem_singleton.1 hx]; exact decide_eq_false hb))
 ·rw [show fvI vs nm = -1 from idxA_miss fun x hx => hk.2 x (by rwa [List.take_of_length_le (by omega)]), find_no (by omega)]
  clear hk
  (repeat' (first
   |(apply W.qd; (first
   |(apply q_mv; (conv => lhs; whnf))|(apply q_as; (conv => lhs; whnf))|(exact yS rfl rfl rfl)|(exact yT rfl rfl rfl rfl)|(exact q_lss rfl rfl)
   |(exact yV rfl rfl)))|(apply yA)|(apply yB)|(apply yC; kernel_rfl)|(apply yE)|(apply yI)|(apply yJ)|(apply yK)|(apply yM)
   |(refine W.cond _ rfl (fun hb => ?_) (fun hb => ?_) <;> ((try simp only [hb, zK]) <;> (try simp only [zL, zI] at hb) <;> (try (exfalso; omega))))))
  exact Ends.two rfl rfl rfl
theorem A_rkeeps {cs : List Cd} {vs : List Sv} {k n : Int} (hF : ∀ c ∈ cs, FInD c) : ACalls Tryz.prog 182 [lib cs vs, iV k, iV n] [] (bV (keepsB cs k n)) [] := by
 refine acalls_of_body Tryz.func182 rfl (Nat.le_of_ble_eq_true rfl) ?_
 have hm : (cs.map cdD).length = cs.length := List.length_map _
 unfold keepsB
 cases hq : hasB cs.length k with
 | false =>
   unfold hasB at hq
   rw [Bool.and_eq_false_iff, decide_eq_false_iff_not, decide_eq_false_iff_not] at hq
   (repeat' (first
    |(apply yFb; exact rfl; exact rfl)
    |(apply W.qd; (first
    |(apply q_mv; (conv => lhs; whnf))|(apply q_as; (conv => lhs; whnf))|(exact yS rfl rfl rfl)|(exact yT rfl rfl rfl rfl)|(exact q_lss rfl rfl)|(exact q_geq rfl rfl)|(exact yV rfl rfl)|(apply (yEb (u := .d _)); exact rfl; exact rfl)
    |(apply (yDb (u := .d _)); exact rfl; exact rfl)))|(apply W.ed; (apply yBb; (iterate 3 exact rfl); kernel_rfl; kernel_rfl))|(refine W.gOff _ _ rfl rfl (by intro h; cases h) ?_)|(apply yA)|(apply yB)|(apply yC; kernel_rfl)|(apply yE)|(apply yJ)
    |(refine W.gT _ _ rfl rfl (fun hb => ?_) (fun hb => ?_) <;> ((try simp only [hb, zK]) <;> (try simp only [zL, zI] at hb) <;> (try (exfalso; omega))))))
   all_goals first | exact Ends.b rfl rfl | (exfalso; omega)
 | true =>
   unfold hasB at hq
   rw [Bool.and_eq_true, decide_eq_true_eq, decide_eq_true_eq] at hq
   obtain ⟨j, rfl⟩ : ∃ j : Nat, k = j := ⟨k.toNat, by omega⟩
   have hj : j < cs.length := by omega
   have hls := A_losD9 (hF cs[j] (List.getElem_mem hj))
   rw [Int.toNat_natCast, getDc hj]
   (repeat' (first
    |(apply yFb; exact rfl; exact rfl)
    |(apply W.qd; (first
    |(apply (yW (hls)); exact rfl; exact rfl; (iterate 3 kernel_rfl))|(apply q_mv; (conv => lhs; whnf))|(apply q_as; (conv => lhs; whnf))|(exact yS rfl rfl rfl)|(exact yT rfl rfl rfl rfl)|(exact q_lss rfl rfl)|(exact q_geq rfl rfl)|(exact yV rfl rfl)|(apply yY; (iterate 3 exact rfl); (first | omega | (focus (simp; done))))|(apply yGb; (iterate 4 exact rfl); (first | (with_reducible exact rfl) | exact natI_spec rfl | assumption | exact (Int.toNat_of_nonneg (by omega)).symm); (first | omega | (focus (simp only [List.length_map]; omega)) | (focus (simp; done)) | (focus (simp; omega))))
    |(apply (yEb (u := .d _)); exact rfl; exact rfl)))|(apply W.ed; (apply yBb; (iterate 3 exact rfl); kernel_rfl; kernel_rfl))|(apply yA)|(apply yB)|(apply yC; kernel_rfl)|(apply yE)|(apply yJ)
    |(refine W.gT _ _ rfl rfl (fun hb => ?_) (fun hb => ?_) <;> ((try simp only [hb, zK]) <;> (try simp only [zL, zI] at hb) <;> (try (exfalso; omega))))))
   all_goals first | exact Ends.b rfl (by simp) | (exfalso; omega)
theorem A_ruser {cs : List Cd} {vs : List Sv} {q : Int} (hl : vs.length ≤ 9223372036854775807) : ACalls Tryz.prog 118 [lib cs vs, iV q] [] (iV (userI vs q)) [] := by
 refine acalls_of_body Tryz.func118 rfl (Nat.le_of_ble_eq_true rfl) ?_
 have hm : (vs.map svD).length = vs.length := List.length_map _
 (repeat' (first
  |(apply W.qd; (apply q_as; (conv => lhs; whnf)))|(apply W.ed; (apply yBb; (iterate 3 exact rfl); kernel_rfl; kernel_rfl))|(apply yA)|(apply yB)|(apply (W.regionS 2); exact rfl; kernel_rfl)|(apply yE)
  |(apply yG)))
 refine AWP.loopW (α := Nat) (fun k => k ≤ vs.length ∧ ∀ x ∈ vs.take k, usesB q x = false) (fun k => ⟨[(5, iV k), (1, iV q), (2, .opt 0 0)], [.box [cds cs, svs vs]]⟩) (fun k => vs.length - k) 0 ⟨by omega, by simp⟩ ⟨[0], rfl, rfl, rfl, by (repeat (first | exact trivial | refine ⟨rfl, ?_⟩))⟩ fun k hk => ?_
 by_cases hkl : k < vs.length
 ·have hu : usesB q vs[k] = true ↔ (vs[k].2.1 = q ∨ vs[k].2.2.1 = q) := by unfold usesB; simp
  have hit : usesB q vs[k] = true → userI vs q = (k : Int) := fun h => idxA_hit hkl h hk.2
  have hnx : usesB q vs[k] = false → ∀ x ∈ vs.take (k + 1), usesB q x = false := fun h x hx => by
   rw [List.take_succ_eq_append_getElem hkl] at hx
   rcases List.mem_append.1 hx with hx | hx
   ·exact hk.2 x hx
   ·rw [List.mem_singleton.1 hx]; exact h
  clear hk
  generalize userI vs q = U at *
  generalize usesB q vs[k] = B at *
  (repeat' (first
   |(apply yFb; exact rfl; exact rfl)
   |(apply W.qd; (first
   |(apply q_mv; (conv => lhs; whnf))|(apply q_as; (conv => lhs; whnf))|(exact yS rfl rfl rfl)|(exact yT rfl rfl rfl rfl)|(exact q_lss rfl rfl)|(exact q_eql rfl rfl)|(exact q_add rfl rfl (by omega))|(exact yV rfl rfl)|(apply yX; (iterate 3 exact rfl); (first | omega | (focus (simp; done))))|(apply q_fld_fptF; (iterate 3 exact rfl))|(apply yGb; (iterate 4 exact rfl); (first | (with_reducible exact rfl) | exact natI_spec rfl | assumption | exact (Int.toNat_of_nonneg (by omega)).symm); (first | omega | (focus (simp only [List.length_map]; omega)) | (focus (simp; done)) | (focus (simp; omega))))|(apply (yEb (u := .d _)); exact rfl; exact rfl)
   |(apply (yDb (u := .d _)); exact rfl; exact rfl)))|(refine W.gOff _ _ rfl rfl (by intro h; cases h) ?_)|(apply yA)|(apply yB)|(apply yC; kernel_rfl)|(apply yE)|(apply yG)|(apply yH)|(apply yJ)|(apply yP)|(apply yL)|(apply yN)|(apply yQ; exact rfl)|(refine W.gF _ _ rfl rfl (fun hb => ?_) (fun hb => ?_) <;> ((try simp only [hb, zK]) <;> (try simp only [zL, zI] at hb) <;> (try (exfalso; omega))))
   |(refine W.cond _ rfl (fun hb => ?_) (fun hb => ?_) <;> ((try simp only [hb, zK]) <;> (try simp only [zL, zI] at hb) <;> (try (exfalso; omega))))))
  all_goals first
   |exact Ends.i rfl (hit (hu.2 (by omega))).symm
   |exact ⟨k + 1, ⟨by omega, hnx (Bool.eq_false_iff.2 fun h => by have := hu.1 h; omega)⟩, by omega, [0], rfl, rfl, rfl, iV_eq (by omega), rfl, rfl, trivial⟩
 ·rw [show userI vs q = -1 from idxA_miss fun x hx => hk.2 x (by rwa [List.take_of_length_le (by omega)])]
  clear hk
  (repeat' (first
   |(apply W.qd; (first
   |(apply q_mv; (conv => lhs; whnf))|(apply q_as; (conv => lhs; whnf))|(exact yS rfl rfl rfl)|(exact yT rfl rfl rfl rfl)|(exact q_lss rfl rfl)
   |(exact yV rfl rfl)))|(apply yA)|(apply yB)|(apply yC; kernel_rfl)|(apply yE)|(apply yI)|(apply yJ)|(apply yK)|(apply yM)
   |(refine W.cond _ rfl (fun hb => ?_) (fun hb => ?_) <;> ((try simp only [hb, zK]) <;> (try simp only [zL, zI] at hb) <;> (try (exfalso; omega))))))
  exact Ends.i rfl rfl
theorem A_rright {cs : List Cd} {vs : List Sv} {v : Sv} (hF : ∀ c ∈ cs, FInD c) (hn : NameIn v.1) : ACalls Tryz.prog 116 [lib cs vs, svA1 v] [] (bV (rightB cs v)) [] := by
 refine acalls_of_body Tryz.func116 rfl (Nat.le_of_ble_eq_true rfl) ?_
 have h1 := A_rname hn
 have h2 := A_rkeeps (vs := vs) (k := v.2.1) (n := v.2.2.2.1) hF
 have h3 := A_rkeeps (vs := vs) (k := v.2.2.1) (n := v.2.2.2.1) hF
 unfold rightB plausB
 generalize nameB v.1 = b1 at *
 generalize keepsB cs v.2.1 v.2.2.2.1 = b2 at *
 generalize keepsB cs v.2.2.1 v.2.2.2.1 = b3 at *
 (repeat' (first
  |(apply yFb; exact rfl; exact rfl)
  |(apply W.qd; (first
  |(apply (yW (h1)); exact rfl; exact rfl; (iterate 3 kernel_rfl))|(apply (yW (h2)); exact rfl; exact rfl; (iterate 3 kernel_rfl))|(apply (yW (h3)); exact rfl; exact rfl; (iterate 3 kernel_rfl))|(apply q_mv; (conv => lhs; whnf))|(apply q_as; (conv => lhs; whnf))|(exact yS rfl rfl rfl)|(exact yT rfl rfl rfl rfl)|(exact yU rfl rfl rfl rfl)|(exact q_lss rfl rfl)|(exact q_gtr rfl rfl)|(exact q_eql rfl rfl)|(exact q_not rfl)|(apply (yEb (u := .d _)); exact rfl; exact rfl)
  |(apply (yDb (u := .d _)); exact rfl; exact rfl)))|(apply W.ed; (apply yBb; (iterate 3 exact rfl); kernel_rfl; kernel_rfl))|(refine W.gOff _ _ rfl rfl (by intro h; cases h) ?_)|(apply yA)|(apply yB)|(apply yC; kernel_rfl)|(apply yE)|(apply yH)|(apply yJ)|(apply yP)|(apply yQ; exact rfl)|(refine W.gF _ _ rfl rfl (fun hb => ?_) (fun hb => ?_) <;> ((try simp only [hb, zK]) <;> (try simp only [zL, zI] at hb) <;> (try (exfalso; omega))))
  |(refine W.cond _ rfl (fun hb => ?_) (fun hb => ?_) <;> ((try simp only [hb, zK]) <;> (try simp only [zL, zI] at hb) <;> (try (exfalso; omega))))))
 all_goals (refine Ends.b rfl ?_; simp [*] <;> omega)
end
section
attribute [local irreducible] Quiet Eff OpOk AWPG ACont ABlock ACalls AGoto
theorem A_rvalid30 {cs : List Cd} {vs : List Sv} (h : LibIn cs vs) (hF : ∀ c ∈ cs, FInD c) : ACalls Tryz.prog 64 [lib cs vs] [] (bV (validB cs vs)) [] := by
 refine acalls_of_body Tryz.func64 rfl (Nat.le_of_ble_eq_true rfl) ?_
 have hmc : (cs.map cdD).length = cs.length := List.length_map _
 have hmv : (vs.map svD).length = vs.length := List.length_map _
 have hcl := h.cl
 have hvl := h.vl
 by_cases hg : cs.length ≤ 8 ∧ vs.length ≤ 8
 case neg =>
  have e : validB cs vs = false := by
   unfold validB
   rw [Bool.and_eq_false_iff]
   left
   rw [Bool.and_eq_false_iff, decide_eq_false_iff_not, decide_eq_false_iff_not]
   omega
  rw [e]
  (repeat' (first
   |(apply yFb; exact rfl; exact rfl)
   |(apply W.qd; (first
   |(apply q_mv; (conv => lhs; whnf))|(apply q_as; (conv => lhs; whnf))|(exact yS rfl rfl rfl)|(exact yT rfl rfl rfl rfl)|(exact q_gtr rfl rfl)|(exact yV rfl rfl)|(apply (yEb (u := .d _)); exact rfl; exact rfl)
   |(apply (yDb (u := .d _)); exact rfl; exact rfl)))|(apply W.ed; (apply yBb; (iterate 3 exact rfl); kernel_rfl; kernel_rfl))|(refine W.gOff _ _ rfl rfl (by intro h; cases h) ?_)|(apply yA)|(apply yB)|(apply (W.regionS 3); exact rfl; kernel_rfl)|(apply yE)|(apply yJ)|(apply yP)|(apply yQ; exact rfl)|(refine W.gF _ _ rfl rfl (fun hb => ?_) (fun hb => ?_) <;> ((try simp only [hb, zK]) <;> (try simp only [zL, zI] at hb) <;> (try (exfalso; omega))))
   |(refine W.cond _ rfl (fun hb => ?_) (fun hb => ?_) <;> ((try simp only [hb, zK]) <;> (try simp only [zL, zI] at hb) <;> (try (exfalso; omega))))))
  all_goals first | exact Ends.b rfl rfl | (exfalso; omega)
 obtain ⟨hg1, hg2⟩ := hg
 have hV : validB cs vs = ((List.range cs.length).all (okC cs) && (List.range vs.length).all (okV cs vs)) := by
  unfold validB
  rw [decide_eq_true hg1, decide_eq_true hg2]; rfl
 have hbC : ∀ i, i < cs.length → okC cs i = false → validB cs vs = false := fun i hi h1 => by rw [hV, range_bad hi h1]; rfl
 have hbV : ∀ i, i < vs.length → okV cs vs i = false → validB cs vs = false := fun i hi h1 => by rw [hV, range_bad hi h1, Bool.and_false]
 have hgV : (∀ i, i < cs.length → okC cs i = true) → (∀ i, i < vs.length → okV cs vs i = true) → validB cs vs = true := fun h1 h2 => by rw [hV, all_range.2 h1, all_range.2 h2]; rfl
 clear hV
 generalize validB cs vs = V at *
 (repeat' (first
  |(apply yFb; exact rfl; exact rfl)
  |(apply W.qd; (first
  |(apply q_mv; (conv => lhs; whnf))|(apply q_as; (conv => lhs; whnf))|(exact yS rfl rfl rfl)|(exact yT rfl rfl rfl rfl)|(exact q_gtr rfl rfl)|(exact yV rfl rfl)
  |(apply (yDb (u := .d _)); exact rfl; exact rfl)))|(apply W.ed; (apply yBb; (iterate 3 exact rfl); kernel_rfl; kernel_rfl))|(apply yA)|(apply yB)|(apply (W.regionS 4); exact rfl; kernel_rfl)|(apply yE)|(apply yG)|(apply yH)|(refine W.gF _ _ rfl rfl (fun hb => ?_) (fun hb => ?_) <;> ((try simp only [hb, zK]) <;> (try simp only [zL, zI] at hb) <;> (try (exfalso; omega))))
  |(refine W.cond _ rfl (fun hb => ?_) (fun hb => ?_) <;> ((try simp only [hb, zK]) <;> (try simp only [zL, zI] at hb) <;> (try (exfalso; omega))))))
 all_goals try (exfalso; omega)
 refine AWP.loopW (α := Nat) (fun k => k ≤ cs.length ∧ ∀ j, j < k → okC cs j = true) (fun k => ⟨[(3, iV k), (1, .opt 0 0)], [.box [cds cs, svs vs]]⟩) (fun k => cs.length - k) 0 ⟨Nat.zero_le _, fun j hj => by omega⟩ ⟨[0], rfl, rfl, rfl, by (repeat (first | exact trivial | refine ⟨rfl, ?_⟩))⟩ fun k hk => ?_
 by_cases hkl : k < cs.length
 ·have hmem := List.getElem_mem hkl
  have hn := h.cn _ hmem
  have hf := A_rfindC (cs := cs) (vs := vs) (nm := cs[k].1) hcl (fun c hc => (h.cn c hc).b) hn.b
  have hnn : 0 ≤ fcI cs cs[k].1 := idxA_nn hmem (decide_eq_true rfl)
  rw [find_nn hnn] at hf
  have hFk := hF _ hmem
  obtain ⟨e, hc, he⟩ := A_check7 (M := cs[k].2.1) (D := cs[k].2.2.1) (par := cs[k].2.2.2.1) (dom := cs[k].2.2.2.2) hn.b hn.l hFk.d hFk.p
  have hok : okC cs k = (decide (fcI cs cs[k].1 = (k : Int)) && chkD cs[k]) := by unfold okC; rw [getDc hkl]
  have he2 : e = 0 ↔ chkD cs[k] = true := he
  replace hok := Lib.hid hok
  have hbk := hbC k hkl
  have hnx : okC cs k = true → ∀ j, j < k + 1 → okC cs j = true := fun h1 j hj => by
   by_cases e : j = k
   ·subst e; exact h1
   ·exact hk.2 j (by omega)
  clear hk hbC hbV hgV he
  generalize fcI cs cs[k].1 = fi at *
  generalize chkD cs[k] = ck at *
  (repeat' (first
   |(apply yFb; exact rfl; exact rfl)
   |(apply W.qd; (first
   |(apply (yW (hf)); exact rfl; exact rfl; (iterate 3 kernel_rfl))|(apply (yW (hc)); exact rfl; exact rfl; (iterate 3 kernel_rfl))|(apply q_mv; (conv => lhs; whnf))|(apply q_as; (conv => lhs; whnf))|(exact yS rfl rfl rfl)|(exact yT rfl rfl rfl rfl)|(exact yU rfl rfl rfl rfl)|(exact q_lss rfl rfl)|(exact q_neq rfl rfl)|(exact q_add rfl rfl (by omega))|(exact yAb rfl rfl)|(exact yV rfl rfl)|(apply yX; (iterate 3 exact rfl); (first | omega | (focus (simp; done))))|(apply yY; (iterate 3 exact rfl); (first | omega | (focus (simp; done))))|(apply q_fld_fptF; (iterate 3 exact rfl))|(apply yGb; (iterate 4 exact rfl); (first | (with_reducible exact rfl) | exact natI_spec rfl | assumption | exact (Int.toNat_of_nonneg (by omega)).symm); (first | omega | (focus (simp only [List.length_map]; omega)) | (focus (simp; done)) | (focus (simp; omega))))|(apply (yEb (u := .d _)); exact rfl; exact rfl)
   |(apply (yDb (u := .d _)); exact rfl; exact rfl)))|(refine W.gOff _ _ rfl rfl (by intro h; cases h) ?_)|(apply yA)|(apply yB)|(apply yC; kernel_rfl)|(apply yD; exact rfl; kernel_rfl)|(apply yE)|(apply yF; kernel_rfl)|(apply yG)|(apply yH)|(apply yJ)|(apply yP)|(apply yL)|(apply yN)|(apply yQ; exact rfl)|(refine W.gF _ _ rfl rfl (fun hb => ?_) (fun hb => ?_) <;> ((try simp only [hb, zK]) <;> (try simp only [zL, zI] at hb) <;> (try (exfalso; omega))))
   |(refine W.cond _ rfl (fun hb => ?_) (fun hb => ?_) <;> ((try simp only [hb, zK]) <;> (try simp only [zL, zI] at hb) <;> (try (exfalso; omega))))))
  all_goals first
   |(refine Ends.b rfl (hbk ?_).symm; rw [hok.out, Bool.and_eq_false_iff, decide_eq_false_iff_not]; first | (left; omega) | (right; rw [Bool.eq_false_iff]; intro h9; have := he2.2 h9; omega))|(refine ⟨k + 1, ⟨by omega, hnx ?_⟩, by omega, [0], rfl, rfl, rfl, iV_eq (by omega), rfl, trivial⟩; rw [hok.out, Bool.and_eq_true, decide_eq_true_eq]; exact ⟨by omega, he2.1 (by omega)⟩)
 ·have hC : ∀ i, i < cs.length → okC cs i = true := fun i hi => hk.2 i (by omega)
  have hgV := hgV hC
  clear hk hbC hC
  (repeat' (first
   |(apply W.qd; (first
   |(apply q_mv; (conv => lhs; whnf))|(apply q_as; (conv => lhs; whnf))|(exact yS rfl rfl rfl)|(exact yT rfl rfl rfl rfl)|(exact q_lss rfl rfl)
   |(exact yV rfl rfl)))|(apply yA)|(apply yB)|(apply (W.regionS 11); exact rfl; kernel_rfl)|(apply yE)|(apply yG)|(apply yI)|(apply yK)|(apply yM)
   |(refine W.cond _ rfl (fun hb => ?_) (fun hb => ?_) <;> ((try simp only [hb, zK]) <;> (try simp only [zL, zI] at hb) <;> (try (exfalso; omega))))))
  all_goals try (exfalso; omega)
  refine AWP.loopW (α := Nat) (fun k => k ≤ vs.length ∧ ∀ j, j < k → okV cs vs j = true) (fun k => ⟨[(7, iV k), (1, .opt 0 0)], [.box [cds cs, svs vs]]⟩) (fun k => vs.length - k) 0 ⟨Nat.zero_le _, fun j hj => by omega⟩ ⟨[0], rfl, rfl, rfl, by (repeat (first | exact trivial | refine ⟨rfl, ?_⟩))⟩ fun k hk => ?_
  by_cases hkv : k < vs.length
  ·have hmem := List.getElem_mem hkv
   have hn := h.vn _ hmem
   have hf := A_rfindV (cs := cs) (vs := vs) (nm := vs[k].1) hvl (fun c hc => (h.vn c hc).b) hn.b
   have hnn : 0 ≤ fvI vs vs[k].1 := idxA_nn hmem (decide_eq_true rfl)
   rw [find_nn hnn] at hf
   have hr := A_rright (cs := cs) (vs := vs) hF hn
   have hu1 := A_ruser (cs := cs) (vs := vs) (q := vs[k].2.1) hvl
   have hu2 := A_ruser (cs := cs) (vs := vs) (q := vs[k].2.2.1) hvl
   have hok := okV_right (cs := cs) hkv
   replace hok := Lib.hid hok
   have hbk := hbV k hkv
   have hnx : okV cs vs k = true → ∀ j, j < k + 1 → okV cs vs j = true := fun h1 j hj => by
    by_cases e : j = k
    ·subst e; exact h1
    ·exact hk.2 j (by omega)
   clear hk hbV hgV
   generalize fvI vs vs[k].1 = fi at *
   generalize userI vs vs[k].2.1 = u1 at *
   generalize userI vs vs[k].2.2.1 = u2 at *
   generalize rightB cs vs[k] = b1 at *
   (repeat' (first
    |(apply yFb; exact rfl; exact rfl)
    |(apply W.qd; (first
    |(apply (yW (hf)); exact rfl; exact rfl; (iterate 3 kernel_rfl))|(apply (yW (hr)); exact rfl; exact rfl; (iterate 3 kernel_rfl))|(apply (yW (hu1)); exact rfl; exact rfl; (iterate 3 kernel_rfl))|(apply (yW (hu2)); exact rfl; exact rfl; (iterate 3 kernel_rfl))|(apply q_mv; (conv => lhs; whnf))|(apply q_as; (conv => lhs; whnf))|(exact yS rfl rfl rfl)|(exact yT rfl rfl rfl rfl)|(exact yU rfl rfl rfl rfl)|(exact q_lss rfl rfl)|(exact q_neq rfl rfl)|(exact q_not rfl)|(exact q_add rfl rfl (by omega))|(exact yAb rfl rfl)|(exact yV rfl rfl)|(apply yX; (iterate 3 exact rfl); (first | omega | (focus (simp; done))))|(apply yY; (iterate 3 exact rfl); (first | omega | (focus (simp; done))))|(apply q_fld_fptF; (iterate 3 exact rfl))|(apply yGb; (iterate 4 exact rfl); (first | (with_reducible exact rfl) | exact natI_spec rfl | assumption | exact (Int.toNat_of_nonneg (by omega)).symm); (first | omega | (focus (simp only [List.length_map]; omega)) | (focus (simp; done)) | (focus (simp; omega))))|(apply (yEb (u := .d _)); exact rfl; exact rfl)
    |(apply (yDb (u := .d _)); exact rfl; exact rfl)))|(refine W.gOff _ _ rfl rfl (by intro h; cases h) ?_)|(apply yA)|(apply yB)|(apply yC; kernel_rfl)|(apply yD; exact rfl; kernel_rfl)|(apply yE)|(apply yF; kernel_rfl)|(apply yG)|(apply yH)|(apply yJ)|(apply yP)|(apply yL)|(apply yN)|(apply yQ; exact rfl)|(apply yR; exact rfl)|(refine W.gT _ _ rfl rfl (fun hb => ?_) (fun hb => ?_) <;> ((try simp only [hb, zK]) <;> (try simp only [zL, zI] at hb) <;> (try (exfalso; omega))))|(refine W.gF _ _ rfl rfl (fun hb => ?_) (fun hb => ?_) <;> ((try simp only [hb, zK]) <;> (try simp only [zL, zI] at hb) <;> (try (exfalso; omega))))
    |(refine W.cond _ rfl (fun hb => ?_) (fun hb => ?_) <;> ((try simp only [hb, zK]) <;> (try simp only [zL, zI] at hb) <;> (try (exfalso; omega))))))
   all_goals first
    |(refine Ends.b rfl (hbk ?_).symm; rw [hok.out]; simp [*] <;> omega)|(refine ⟨k + 1, ⟨by omega, hnx ?_⟩, by omega, [0], rfl, rfl, rfl, iV_eq (by omega), rfl, trivial⟩; rw [hok.out]; simp [*] <;> omega)
  ·have e : V = true := hgV fun i hi => hk.2 i (by omega)
   subst e
   clear hk hbV hgV
   (repeat' (first
    |(apply W.qd; (first
    |(apply q_mv; (conv => lhs; whnf))|(apply q_as; (conv => lhs; whnf))|(exact yS rfl rfl rfl)|(exact yT rfl rfl rfl rfl)|(exact q_lss rfl rfl)
    |(exact yV rfl rfl)))|(apply yA)|(apply yB)|(apply yC; kernel_rfl)|(apply yE)|(apply yI)|(apply yJ)|(apply yK)|(apply yM)
    |(refine W.cond _ rfl (fun hb => ?_) (fun hb => ?_) <;> ((try simp only [hb, zK]) <;> (try simp only [zL, zI] at hb) <;> (try (exfalso; omega))))))
   all_goals exact Ends.b rfl rfl
end
section
abbrev Sr := Cd × List (List Nat) × List Bool × List Int
def sr0 : Sr := (cd0, [], [], [])
def srD (s : Sr) : List Dat := [.v (.string (bytesOf s.1.1)), .v (.int .i64 s.1.2.1), .v (.int .i64 s.1.2.2.1), .sl 1 (s.1.2.2.2.1.map rD), .v (.int .i64 s.1.2.2.2.2), .sl 1 (s.2.1.map sD), .sl 1 (s.2.2.1.map tD), .sl 1 (s.2.2.2.map iD)]
abbrev srcs (l : List Sr) : AV := .d (.sl 8 (l.map srD))
abbrev srA1 (s : Sr) : AV := .agg ((srD s).map .d)
def srB (s : Sr) : Bool := srcB s.1.2.1 s.1.2.2.1 s.1.2.2.2.1 s.2.1 s.2.2.1 s.2.2.2
structure SrIn (s : Sr) : Prop where
 c : CodeIn s.1.2.2.2.1
 us : s.2.1.length ≤ 10000000
 hv : s.2.2.1.length ≤ 10000000
 ll : s.2.2.2.length ≤ 10000000
 b : ∀ x ∈ s.2.1, isB x ∧ x.length < 9223372036854775808
def recSr (s : Sr) (u : Nat) : Option (List Nat) := recN s.1.2.1.toNat s.1.2.2.1.toNat (s.1.2.2.2.1.map fun r => r.map Int.toNat) s.2.1 s.2.2.1 u
theorem getDs {ss : List Sr} {i : Nat} (h : i < ss.length) : ss.getD i sr0 = ss[i] := by rw [List.getD_eq_getElem?_getD, List.getElem?_eq_getElem h]; rfl
theorem sr_ok {s : Sr} (h : srB s = true) (hb : ∀ x ∈ s.2.1, isB x ∧ x.length < 9223372036854775808) : ∃ (M D : Nat) (ps : List (List Nat)), s.1.2.1 = M ∧ s.1.2.2.1 = D ∧ s.1.2.2.2.1 = toZ ps ∧ SrcOk M D ps s.2.1 s.2.2.1 ∧ ∀ k (hk : k < s.2.2.2.length), 0 ≤ s.2.2.2[k] ∧ s.2.2.2[k] < (D : Int) := by
 unfold srB srcB at h
 simp only [Bool.and_eq_true, decide_eq_true_eq] at h
 obtain ⟨⟨⟨⟨h1, h2⟩, h3⟩, h4⟩, h5⟩ := h
 obtain ⟨M, D, ps, e1, e2, e3, hok⟩ := ok_valid h1
 have hpl : (toZ ps).length = ps.length := List.length_map _
 rw [e2, e3, hpl] at h2 h3
 refine ⟨M, D, ps, e1, e2, e3, ⟨hok, by omega, by omega, fun i hi => ?_, hb⟩, fun k hk => ?_⟩
 ·unfold lenB at h4
  rw [List.all_eq_true] at h4
  have hil : i < s.2.2.1.length := by
   rcases Nat.lt_or_ge i s.2.2.1.length with h6 | h6
   ·exact h6
   ·rw [List.getD_eq_getElem?_getD, List.getElem?_eq_none h6] at hi; cases hi
  have := h4 i (List.mem_range.2 hil)
  rw [hi] at this
  simpa using this
 ·have h6 := (incB_drop _ _ _).1 h5
  have hall : ∀ j (hj : j < s.2.2.2.length), 0 ≤ s.2.2.2[j] ∧ s.2.2.2[j] < s.1.2.2.1 := fun j => by
   induction j with
   | zero =>
     intro hj
     have := h6 0 hj
     rw [if_pos rfl] at this
     omega
   | succ j ih =>
     intro hj
     have h7 := h6 (j + 1) hj
     have h8 := ih (by omega)
     rw [if_neg (by omega), Nat.add_sub_cancel, List.getD_eq_getElem?_getD, List.getElem?_eq_getElem (by omega)] at h7
     simp only [Option.getD_some] at h7
     omega
  have := hall k hk
  rw [e2] at this
  exact this
theorem sr_rec {s : Sr} {M D : Nat} {ps : List (List Nat)} (e1 : s.1.2.1 = M) (e2 : s.1.2.2.1 = D) (e3 : s.1.2.2.2.1 = toZ ps) (u : Nat) : recSr s u = recN M D ps s.2.1 s.2.2.1 u := by
 unfold recSr
 rw [e1, e2, e3, toZ_back, Int.toNat_natCast, Int.toNat_natCast]
def liveTo (ss : List Sr) (n : Nat) : List (Nat × Nat) := ((List.range n).map fun j => (ss.getD j sr0).2.2.2.map fun u => (j, u.toNat)).flatten
def preL (ss : List Sr) (i k : Nat) : List (Nat × Nat) := liveTo ss i ++ ((ss.getD i sr0).2.2.2.take k).map fun u => (i, u.toNat)
theorem liveTo_succ (ss : List Sr) (n : Nat) : liveTo ss (n + 1) = liveTo ss n ++ (ss.getD n sr0).2.2.2.map fun u => (n, u.toNat) := by
 unfold liveTo
 rw [List.range_succ, List.map_append, List.flatten_append]
 simp
theorem preL_zero (ss : List Sr) (i : Nat) : preL ss i 0 = liveTo ss i := by unfold preL; simp
theorem preL_succ {ss : List Sr} {i k : Nat} (hi : i < ss.length) (hk : k < ss[i].2.2.2.length) : preL ss i (k + 1) = preL ss i k ++ [(i, ss[i].2.2.2[k].toNat)] := by
 unfold preL
 rw [getDs hi, List.take_succ_eq_append_getElem hk, List.map_append, List.append_assoc]; rfl
theorem preL_next {ss : List Sr} {i : Nat} (hi : i < ss.length) : preL ss i ss[i].2.2.2.length = preL ss (i + 1) 0 := by
 rw [preL_zero, liveTo_succ]
 unfold preL
 rw [getDs hi, List.take_length]
theorem liveTo_le (ss : List Sr) {n m : Nat} (h : n ≤ m) : (liveTo ss n).length ≤ (liveTo ss m).length := by
 induction m with
 | zero => obtain rfl : n = 0 := by omega
           exact Nat.le_refl _
 | succ m ih =>
   by_cases e : n = m + 1
   ·rw [e]; exact Nat.le_refl _
   ·rw [liveTo_succ, List.length_append]
    have := ih (by omega)
    omega
theorem preL_le {ss : List Sr} {i k : Nat} (hi : i < ss.length) : (preL ss i k).length ≤ (liveTo ss ss.length).length := by
 refine Nat.le_trans ?_ (liveTo_le ss (show i + 1 ≤ ss.length by omega))
 rw [liveTo_succ]
 unfold preL
 rw [List.length_append, List.length_append, List.length_map, List.length_map, List.length_take]
 omega
def recAt (ss : List Sr) (i u : Nat) : Option (List Nat) := recSr (ss.getD i sr0) u
abbrev Mv := Nat × Nat × Nat × Nat
def mvD (m : Mv) : List Dat := [.v (.int .i64 m.1), .v (.int .i64 m.2.1), .v (.int .i64 m.2.2.1), .v (.int .i64 m.2.2.2)]
def stD (u : List (List Nat)) : List Dat := [.sl 1 (u.map sD)]
def movN (D : Nat) (l : List (Nat × Nat)) : List Mv := l.zipIdx.map fun p => (p.1.1, p.1.2, p.2 / D, p.2 % D)
theorem movN_len (D : Nat) (l : List (Nat × Nat)) : (movN D l).length = l.length := by unfold movN; simp
theorem movN_snoc (D : Nat) (l : List (Nat × Nat)) (p : Nat × Nat) : movN D (l ++ [p]) = movN D l ++ [(p.1, p.2, l.length / D, l.length % D)] := by
 unfold movN
 rw [List.zipIdx_append, List.map_append]; simp
abbrev pkA (st : List (List (List Nat))) (mv : List Mv) (lo : List (Nat × Nat)) : AV := .agg [.d (.sl 1 (st.map stD)), .d (.sl 4 (mv.map mvD)), .d (.sl 2 (lo.map tmD))]
def cutN (M D : Nat) (ps : List (List Nat)) (pd : List (List Nat)) (q : Nat) : List (List (List Nat)) := (List.range q).map fun j => encN M ps ((pd.drop (j * D)).take D)
theorem cutN_succ (M D : Nat) (ps : List (List Nat)) (pd : List (List Nat)) (q : Nat) : cutN M D ps pd (q + 1) = cutN M D ps pd q ++ [encN M ps ((pd.drop (q * D)).take D)] := by
 unfold cutN
 rw [List.range_succ, List.map_append]; rfl
theorem cutN_len (M D : Nat) (ps : List (List Nat)) (pd : List (List Nat)) (q : Nat) : (cutN M D ps pd q).length = q := by unfold cutN; simp
def zero32 : List Nat := List.replicate 32 0
theorem pad_ge (D : Nat) (z : List Nat) (l : List (List Nat)) : l.length ≤ (padN D z l).length ∧ (padN D z l).length ≤ l.length + D := by
 unfold padN
 rw [List.length_append, List.length_replicate]
 refine ⟨by omega, ?_⟩
 rcases Nat.eq_zero_or_pos D with h | h
 ·subst h; simp
 ·have := Nat.mod_lt (D - l.length % D) h; omega
theorem pad_mem {D : Nat} {z : List Nat} {l : List (List Nat)} {x : List Nat} (h : x ∈ padN D z l) : x ∈ l ∨ x = z := by
 unfold padN at h
 rcases List.mem_append.1 h with h1 | h1
 ·exact .inl h1
 ·exact .inr (List.eq_of_mem_replicate h1)
structure Pkd where
 st : List (List (List Nat))
 mv : List Mv
 lo : List (Nat × Nat)
 e : Int
def packS (ss : List Sr) : PackS := packN (recAt ss) (liveTo ss ss.length)
def padS (D : Nat) (ss : List Sr) : List (List Nat) := padN D zero32 (packS ss).data
def repOk (M D : Nat) (ps : List (List Nat)) (ss : List Sr) : Pkd := ⟨cutN M D ps (padS D ss) ((padS D ss).length / D), movN D (packS ss).from', (packS ss).lost, 0⟩
def repN (tc : Cd) (ss : List Sr) : Pkd := if validC tc.2.1 tc.2.2.1 tc.2.2.2.1 = true ∧ ss.all srB = true then repOk tc.2.1.toNat tc.2.2.1.toNat (tc.2.2.2.1.map fun r => r.map Int.toNat) ss else ⟨[], [], [], 1⟩
abbrev repA (p : Pkd) : AV := .tup [pkA p.st p.mv p.lo, iV p.e]
theorem srA1_le {s : Sr} {F : Nat → Prop} {own : List Ent} {κ : List (Option Nat)} {w : World} {u : Value} (h : AV.sat F own κ w (srA1 s) u) : AV.sat F own κ w (srcA s.1.2.1 s.1.2.2.1 s.1.2.2.2.1 s.2.1 s.2.2.1 s.2.2.2) u := by
 unfold srA1 srD at h
 unfold srcA
 rw [AV.sat] at h ⊢
 obtain ⟨us, h1, h2⟩ := h
 refine ⟨us, h1, ?_⟩
 generalize us.toList = l at h2
 simp only [List.map_cons, List.map_nil] at h2
 rcases l with _ | ⟨a, _ | ⟨b, _ | ⟨c, _ | ⟨d, _ | ⟨e, _ | ⟨f, _ | ⟨g, _ | ⟨i, l⟩⟩⟩⟩⟩⟩⟩⟩ <;> simp only [AV.satL, and_false, and_assoc] at h2 ⊢
 obtain ⟨h3, h4, h5, h6, h7, h8⟩ := h2
 rw [sat_v] at h3 h7
 subst h3; subst h7
 refine ⟨?_, h4, h5, h6, ?_, h8⟩
 ·rw [AV.sat, Dat.sat]; rfl
 ·rw [AV.sat, Dat.sat]; rfl
theorem ACalls.srF {P : Program} {f : FuncId} {s : Sr} {l : List AV} {r : AV} {own own' : List Ent} (h : ACalls P f (srcA s.1.2.1 s.1.2.2.1 s.1.2.2.2.1 s.2.1 s.2.2.1 s.2.2.2 :: l) own r own') : ACalls P f (srA1 s :: l) own r own' :=
 h.le fun F κ w vs => satL_le1 (fun F own κ w u => srA1_le) F own κ w vs
attribute [local irreducible] Quiet Eff OpOk AWPG ACont ABlock ACalls AGoto
theorem A_srv {s : Sr} (h : SrIn s) : ACalls Tryz.prog 127 [srA1 s] [] (bV (srB s)) [] :=
 (A_cvalid h.c h.us h.hv h.ll (fun u hu => (h.b u hu).2)).srF
theorem A_srec {s : Sr} (hv : srB s = true) (h : SrIn s) {k : Nat} (hk : k < s.2.2.2.length) : ACalls Tryz.prog 88 [cdA1 s.1, strs s.2.1, bools s.2.2.1, iV s.2.2.2[k]] [] (recR (recSr s s.2.2.2[k].toNat)) [] := by
 obtain ⟨M, D, ps, e1, e2, e3, hs, hl⟩ := sr_ok hv h.b
 have hk2 := hl k hk
 have hw := hs.c.w
 have := A_erecS (u := s.2.2.2[k].toNat) hs (by omega)
 rw [← sr_rec e1 e2 e3, Int.toNat_of_nonneg hk2.1, cdN_A, ← e1, ← e2, ← e3] at this
 exact this.cdF (nm := s.1.1) (dom := s.1.2.2.2.2)
theorem sr_rlen {s : Sr} (hv : srB s = true) (h : SrIn s) {k : Nat} (hk : k < s.2.2.2.length) {x : List Nat} (hr : recSr s s.2.2.2[k].toNat = some x) : isB x ∧ x.length = 32 := by
 obtain ⟨M, D, ps, e1, e2, e3, hs, hl⟩ := sr_ok hv h.b
 have hk2 := hl k hk
 rw [sr_rec e1 e2 e3] at hr
 exact hs.rec_len (by have := hs.c.w; omega) hr
end
section
attribute [local irreducible] Quiet Eff OpOk AWPG ACont ABlock ACalls AGoto
theorem A_live0 {ss : List Sr} : ACalls Tryz.prog 128 [srcs ss] [] (.fn 194 [.opt 0 0]) [.box [srcs ss]] := by
 refine acalls_of_bodyO Tryz.func128 rfl (Nat.le_of_ble_eq_true rfl) ?_
 (repeat' (first
  |(apply W.qd; (first
  |(apply q_as; (conv => lhs; whnf))
  |(apply q_makeFunc)))|(apply W.ed; (apply yBb; (iterate 3 exact rfl); kernel_rfl; kernel_rfl))|(apply yA)|(apply yB)|(apply yC; kernel_rfl)|(apply yE)
  |(apply yJ)))
 exact ⟨.inl rfl, [0], [.fn 194 [.opt 0 0]], rfl, rfl, ⟨rfl, trivial⟩, AVle.of_eq rfl, rfl⟩
theorem A_liveIter {ss : List Sr} {E0 E1 E2 E5 L : Ent} {e3 e4 e6 e7 e8 : List (Nat × Nat) → Ent} (hl : ss.length ≤ 10000000) (hll : ∀ s ∈ ss, s.2.2.2.length ≤ 10000000)
 (hcl : ∀ (p : List (Nat × Nat)) (Y : List Ent), selOwn (E0 :: E1 :: E2 :: e3 p :: e4 p :: E5 :: e6 p :: e7 p :: e8 p :: .box [srcs ss] :: L :: Y) [0, 1, 2, 3, 4, 5, 6, 7, 8, 9, 10] = [E0, E1, E2, e3 p, e4 p, E5, e6 p, e7 p, e8 p, .box [srcs ss], L])
 (h : ∀ i (hi : i < ss.length) k (hk : k < ss[i].2.2.2.length), YAt Tryz.prog 10 [E0, E1, E2, e3 (preL ss i k), e4 (preL ss i k), E5, e6 (preL ss i k), e7 (preL ss i k), e8 (preL ss i k), .box [srcs ss], L, .box ((srD ss[i]).map .d)] [iV i, iV ss[i].2.2.2[k]] true [E0, E1, E2, e3 (preL ss i (k + 1)), e4 (preL ss i (k + 1)), E5, e6 (preL ss i (k + 1)), e7 (preL ss i (k + 1)), e8 (preL ss i (k + 1)), .box [srcs ss], L, .box ((srD ss[i]).map .d)]) :
 ACalls Tryz.prog 194 [.yl 10, .opt 9 0] [E0, E1, E2, e3 (preL ss 0 0), e4 (preL ss 0 0), E5, e6 (preL ss 0 0), e7 (preL ss 0 0), e8 (preL ss 0 0), .box [srcs ss], L] (.tup []) [E0, E1, E2, e3 (preL ss ss.length 0), e4 (preL ss ss.length 0), E5, e6 (preL ss ss.length 0), e7 (preL ss ss.length 0), e8 (preL ss ss.length 0), .box [srcs ss], L] := by
 refine acalls_of_bodyS Tryz.func194 rfl (Nat.le_of_ble_eq_true rfl) ?_
 have hm : (ss.map srD).length = ss.length := List.length_map _
 (repeat' (first
  |(apply W.qd; (first
  |(apply q_mv; (conv => lhs; whnf))|(exact yT rfl rfl rfl rfl)
  |(exact yV rfl rfl)))|(apply yA)|(apply yB)|(apply (W.regionS 1); exact rfl; kernel_rfl)|(apply yE)
  |(apply yG)))
 refine AWP.loopW (α := Nat) (fun i => i ≤ ss.length) (fun i => ⟨[(9, iV i), (8, iV ss.length), (7, srcs ss), (0, .yl 10), (1, .opt 9 0)], [E0, E1, E2, e3 (preL ss i 0), e4 (preL ss i 0), E5, e6 (preL ss i 0), e7 (preL ss i 0), e8 (preL ss i 0), .box [srcs ss], L]⟩) (fun i => ss.length - i) 0 (Nat.zero_le _) ?wkA fun i hi => ?_
 case wkA =>
  refine ⟨[0, 1, 2, 3, 4, 5, 6, 7, 8, 9, 10], rfl, rfl, ?_, rfl, iV_eq (by rw [hm]), rfl, rfl, rfl, trivial⟩
  exact (hcl (preL ss 0 0) []).symm
 by_cases hil : i < ss.length
 ·have hli := hll _ (List.getElem_mem hil)
  have hmi : (ss[i].2.2.2.map iD).length = ss[i].2.2.2.length := List.length_map _
  have hY := h i hil
  have hnx := preL_next hil
  (repeat' (first
   |(apply W.qd; (first
   |(apply q_mv; (conv => lhs; whnf))|(apply q_as; (conv => lhs; whnf))|(exact yS rfl rfl rfl)|(exact yT rfl rfl rfl rfl)|(exact q_lss rfl rfl)|(exact yV rfl rfl)|(apply yY; (iterate 3 exact rfl); (first | omega | (focus (simp; done))))
   |(apply yGb; (iterate 4 exact rfl); (first | (with_reducible exact rfl) | exact natI_spec rfl | assumption | exact (Int.toNat_of_nonneg (by omega)).symm); (first | omega | (focus (simp only [List.length_map]; omega)) | (focus (simp; done)) | (focus (simp; omega))))))|(apply W.ed; (apply yCb; (iterate 3 exact rfl); kernel_rfl))|(apply W.ln; (apply l_st_box; (iterate 6 exact rfl); (iterate 3 kernel_rfl)))|(apply yA)|(apply yB)|(apply (W.regionS 4); exact rfl; kernel_rfl)|(apply yE)|(apply yG)|(apply yH)
   |(refine W.cond _ rfl (fun hb => ?_) (fun hb => ?_) <;> ((try simp only [hb, zK]) <;> (try simp only [zL, zI] at hb) <;> (try (exfalso; omega))))))
  refine AWP.loopE (α := Nat) (fun k => k ≤ ss[i].2.2.2.length) (fun k => ⟨[(17, iV k), (16, iV ss[i].2.2.2.length), (15, ints ss[i].2.2.2), (3, iV i), (9, iV i), (8, iV ss.length), (7, srcs ss), (0, .yl 10), (1, .opt 9 0)], [E0, E1, E2, e3 (preL ss i k), e4 (preL ss i k), E5, e6 (preL ss i k), e7 (preL ss i k), e8 (preL ss i k), .box [srcs ss], L, .box ((srD ss[i]).map .d)]⟩) (fun k => ss[i].2.2.2.length - k) 0 (Nat.zero_le _) ⟨rfl, rfl, iV_eq (by rw [hmi]), rfl, rfl, rfl, rfl, rfl, rfl, rfl, trivial⟩ fun k hk => ?_
  by_cases hkl : k < ss[i].2.2.2.length
  ·(repeat' (first
   |(apply W.qd; (first
   |(apply q_mv; (conv => lhs; whnf))|(apply q_as; (conv => lhs; whnf))|(exact q_lss rfl rfl)|(exact q_not rfl)|(exact q_add rfl rfl (by omega))|(apply yX; (iterate 3 exact rfl); (first | omega | (focus (simp; done))))
   |(apply yGb; (iterate 4 exact rfl); (first | (with_reducible exact rfl) | exact natI_spec rfl | assumption | exact (Int.toNat_of_nonneg (by omega)).symm); (first | omega | (focus (simp only [List.length_map]; omega)) | (focus (simp; done)) | (focus (simp; omega))))))|(apply W.ed; ((exact e_yield (hY k hkl) rfl rfl)))|(apply yA)|(apply yB)|(apply yC; kernel_rfl)|(apply yE)|(apply yG)|(apply yH)|(apply yL)|(apply yR; exact rfl)
   |(refine W.cond _ rfl (fun hb => ?_) (fun hb => ?_) <;> ((try simp only [hb, zK]) <;> (try simp only [zL, zI] at hb) <;> (try (exfalso; omega))))))
   exact ⟨k + 1, by omega, by omega, rfl, iV_eq (by omega), rfl, rfl, rfl, rfl, rfl, rfl, rfl, rfl, trivial⟩
  ·obtain rfl : k = ss[i].2.2.2.length := by omega
   rw [hnx]
   (repeat' (first
    |(apply W.qd; (first
    |(apply q_mv; (conv => lhs; whnf))|(exact q_lss rfl rfl)
    |(exact q_add rfl rfl (by omega))))|(apply yA)|(apply yB)|(apply yC; kernel_rfl)|(apply yE)|(apply yI)|(apply yK)|(apply yL)|(apply yM)
    |(refine W.cond _ rfl (fun hb => ?_) (fun hb => ?_) <;> ((try simp only [hb, zK]) <;> (try simp only [zL, zI] at hb) <;> (try (exfalso; omega))))))
   refine ⟨i + 1, by omega, by omega, [0, 1, 2, 3, 4, 5, 6, 7, 8, 9, 10], rfl, rfl, ?_, iV_eq (by omega), rfl, rfl, rfl, rfl, trivial⟩
   exact (hcl (preL ss (i + 1) 0) [_]).symm
 ·obtain rfl : i = ss.length := by omega
  (repeat' (first
   |(apply W.qd; (exact q_lss rfl rfl))|(apply yA)|(apply yB)|(apply yC; kernel_rfl)|(apply yE)|(apply yI)|(apply yK)|(apply yM)
   |(refine W.cond _ rfl (fun hb => ?_) (fun hb => ?_) <;> ((try simp only [hb, zK]) <;> (try simp only [zL, zI] at hb) <;> (try (exfalso; omega))))))
  exact ⟨.inr rfl, [], trivial, AVle.of_eq rfl, rfl⟩
end
section
structure RepIn (tc : Cd) (ss : List Sr) : Prop where
 c : CodeIn tc.2.2.2.1
 sl : ss.length ≤ 10000000
 s : ∀ s ∈ ss, SrIn s
 tot : (liveTo ss ss.length).length ≤ 10000000
theorem pack_some {ss : List Sr} {i k : Nat} (hi : i < ss.length) (hk : k < ss[i].2.2.2.length) {x : List Nat} (hr : recSr ss[i] ss[i].2.2.2[k].toNat = some x) : packN (recAt ss) (preL ss i (k + 1)) = ⟨(packN (recAt ss) (preL ss i k)).data ++ [x], (packN (recAt ss) (preL ss i k)).from' ++ [(i, ss[i].2.2.2[k].toNat)], (packN (recAt ss) (preL ss i k)).lost⟩ := by
 rw [preL_succ hi hk, packN_succ]
 unfold packStep
 have : recAt ss i ss[i].2.2.2[k].toNat = some x := by unfold recAt; rw [getDs hi]; exact hr
 dsimp only
 rw [this]
theorem pack_none {ss : List Sr} {i k : Nat} (hi : i < ss.length) (hk : k < ss[i].2.2.2.length) (hr : recSr ss[i] ss[i].2.2.2[k].toNat = none) : packN (recAt ss) (preL ss i (k + 1)) = ⟨(packN (recAt ss) (preL ss i k)).data, (packN (recAt ss) (preL ss i k)).from', (packN (recAt ss) (preL ss i k)).lost ++ [(i, ss[i].2.2.2[k].toNat)]⟩ := by
 rw [preL_succ hi hk, packN_succ]
 unfold packStep
 have : recAt ss i ss[i].2.2.2[k].toNat = none := by unfold recAt; rw [getDs hi]; exact hr
 dsimp only
 rw [this]
theorem pack_units {ss : List Sr} (hv : ∀ i (hi : i < ss.length), srB ss[i] = true) (hs : ∀ s ∈ ss, SrIn s) : ∀ x ∈ (packS ss).data, isB x ∧ x.length = 32 := fun x hx => by
 unfold packS packN at hx
 rcases pack_data _ _ _ _ hx with h1 | ⟨p, h1, h2⟩
 ·cases h1
 ·unfold liveTo at h1
  rw [List.mem_flatten] at h1
  obtain ⟨l, h3, h4⟩ := h1
  rw [List.mem_map] at h3
  obtain ⟨j, h5, rfl⟩ := h3
  have hj := List.mem_range.1 h5
  rw [getDs hj, List.mem_map] at h4
  obtain ⟨u, h6, rfl⟩ := h4
  obtain ⟨k, hk, rfl⟩ := List.getElem_of_mem h6
  unfold recAt at h2
  rw [getDs hj] at h2
  exact sr_rlen (hv j hj) (hs _ (List.getElem_mem hj)) hk h2
theorem rep_bad {tc : Cd} {ss : List Sr} (h : ¬ (validC tc.2.1 tc.2.2.1 tc.2.2.2.1 = true ∧ ss.all srB = true)) : repN tc ss = ⟨[], [], [], 1⟩ := by
 unfold repN
 rw [if_neg h]
theorem repA_err : AVle (.tup [.agg [.d (.v (.slice none 0 0)), .d (.v (.slice none 0 0)), .d (.v (.slice none 0 0))], iV 1]) (repA ⟨[], [], [], 1⟩) := AVle.tup ⟨AVle.agg ⟨AVle.nil 1, AVle.nil 4, AVle.nil 2, trivial⟩, AVle.refl _, trivial⟩
attribute [local irreducible] Quiet Eff OpOk AWPG ACont ABlock ACalls AGoto
theorem A_repack {tc : Cd} {ss : List Sr} (h : RepIn tc ss) : ACalls Tryz.prog 73 [cdA1 tc, srcs ss] [] (repA (repN tc ss)) [] := by
 have hva : ACalls Tryz.prog 126 [cdA1 tc] [] (bV (validC tc.2.1 tc.2.2.1 tc.2.2.2.1)) [] := (A_evalid h.c).cdF (nm := tc.1) (dom := tc.2.2.2.2)
 have hsl := h.sl
 have hms : (ss.map srD).length = ss.length := List.length_map _
 refine acalls_of_body Tryz.func73 rfl (Nat.le_of_ble_eq_true rfl) ?_
 cases hV : validC tc.2.1 tc.2.2.1 tc.2.2.2.1 with
 | false =>
   rw [hV] at hva
   rw [rep_bad (by rw [hV]; simp)]
   (repeat' (first
    |(apply W.qd; (first
    |(apply (yW (hva)); exact rfl; exact rfl; (iterate 3 kernel_rfl))|(apply q_as; (conv => lhs; whnf))|(exact yU rfl rfl rfl rfl)|(exact q_not rfl)
    |(apply yZ; exact rfl; exact rfl; kernel_rfl)))
    |(apply W.ed; (first
    |(apply yBb; (iterate 3 exact rfl); kernel_rfl; kernel_rfl)
    |(apply yCb; (iterate 3 exact rfl); kernel_rfl)))|(apply W.ln; (apply l_st_box; (iterate 6 exact rfl); (iterate 3 kernel_rfl)))|(apply yA)|(apply yB)|(apply yC; kernel_rfl)|(apply yE)|(apply yJ)|(apply yP)
    |(apply yQ; exact rfl)))
   all_goals exact ⟨.inl rfl, [], [.agg [.d (.v (.slice none 0 0)), .d (.v (.slice none 0 0)), .d (.v (.slice none 0 0))], iV 1], rfl, ⟨⟨2, _, true, rfl, rfl, rfl, rfl⟩, rfl, trivial⟩, repA_err, rfl⟩
 | true =>
 rw [hV] at hva
 have hbad : ∀ i (hi : i < ss.length), srB ss[i] = false → repN tc ss = ⟨[], [], [], 1⟩ := fun i hi h1 => rep_bad fun h2 => by
  have := List.all_eq_true.1 h2.2 _ (List.getElem_mem hi)
  rw [h1] at this; cases this
 have hgood : (∀ i (hi : i < ss.length), srB ss[i] = true) → repN tc ss = repOk tc.2.1.toNat tc.2.2.1.toNat (tc.2.2.2.1.map fun r => r.map Int.toNat) ss := fun h1 => by
  unfold repN
  rw [if_pos]
  refine ⟨hV, List.all_eq_true.2 fun x hx => ?_⟩
  obtain ⟨i, hi, rfl⟩ := List.getElem_of_mem hx
  exact h1 i hi
 generalize repN tc ss = R at *
 (repeat' (first
  |(apply W.qd; (first
  |(apply (yW (hva)); exact rfl; exact rfl; (iterate 3 kernel_rfl))|(apply q_mv; (conv => lhs; whnf))|(apply q_as; (conv => lhs; whnf))|(exact yT rfl rfl rfl rfl)|(exact yU rfl rfl rfl rfl)|(exact q_not rfl)
  |(exact yV rfl rfl)))
  |(apply W.ed; (first
  |(apply yBb; (iterate 3 exact rfl); kernel_rfl; kernel_rfl)
  |(apply yCb; (iterate 3 exact rfl); kernel_rfl)))|(apply yA)|(apply yB)|(apply (W.regionS 4); exact rfl; kernel_rfl)|(apply yE)|(apply yG)|(apply yH)
  |(apply yR; exact rfl)))
 refine AWP.loopW (α := Nat) (fun k => k ≤ ss.length ∧ ∀ j (hj : j < ss.length), j < k → srB ss[j] = true) (fun k => ⟨[(24, iV k), (23, iV ss.length), (22, srcs ss), (2, .opt 0 0), (3, .opt 1 0), (4, .opt 2 0)], [.box ((cdD tc).map .d), .box [srcs ss], .box [.d (.v (.slice none 0 0)), .d (.v (.slice none 0 0)), .d (.v (.slice none 0 0))]]⟩) (fun k => ss.length - k) 0 ⟨Nat.zero_le _, fun j hj h => by omega⟩ ?wkA fun k hk => ?_
 case wkA => exact ⟨[0, 1, 2], rfl, rfl, rfl, rfl, iV_eq (by rw [hms]), rfl, rfl, rfl, rfl, trivial⟩
 by_cases hkl : k < ss.length
 ·have hv := A_srv (h.s _ (List.getElem_mem hkl))
  have hb0 := hbad k hkl
  have hnx : srB ss[k] = true → ∀ j (hj : j < ss.length), j < k + 1 → srB ss[j] = true := fun h1 j hj hjk => by
   by_cases e : j = k
   ·subst e; exact h1
   ·exact hk.2 j hj (by omega)
  clear hk hbad hgood
  generalize srB ss[k] = b at *
  cases b with
  | false =>
    rw [hb0 rfl]
    (repeat' (first
     |(apply W.qd; (first
     |(apply (yW (hv)); exact rfl; exact rfl; (iterate 3 kernel_rfl))|(apply q_as; (conv => lhs; whnf))|(exact yU rfl rfl rfl rfl)|(exact q_lss rfl rfl)|(exact q_not rfl)|(apply yY; (iterate 3 exact rfl); (first | omega | (focus (simp; done))))|(apply yZ; exact rfl; exact rfl; kernel_rfl)
     |(apply yGb; (iterate 4 exact rfl); (first | (with_reducible exact rfl) | exact natI_spec rfl | assumption | exact (Int.toNat_of_nonneg (by omega)).symm); (first | omega | (focus (simp only [List.length_map]; omega)) | (focus (simp; done)) | (focus (simp; omega))))))|(apply W.ed; (apply yCb; (iterate 3 exact rfl); kernel_rfl))|(apply W.ln; (apply l_st_box; (iterate 6 exact rfl); (iterate 3 kernel_rfl)))|(apply yA)|(apply yB)|(apply yC; kernel_rfl)|(apply yE)|(apply yG)|(apply yH)|(apply yJ)|(apply yP)|(apply yN)|(apply yQ; exact rfl)
     |(refine W.cond _ rfl (fun hb => ?_) (fun hb => ?_) <;> ((try simp only [hb, zK]) <;> (try simp only [zL, zI] at hb) <;> (try (exfalso; omega))))))
    all_goals exact ⟨.inl rfl, [], [.agg [.d (.v (.slice none 0 0)), .d (.v (.slice none 0 0)), .d (.v (.slice none 0 0))], iV 1], rfl, ⟨⟨2, _, true, rfl, rfl, rfl, rfl⟩, rfl, trivial⟩, repA_err, rfl⟩
  | true =>
    (repeat' (first
     |(apply W.qd; (first
     |(apply (yW (hv)); exact rfl; exact rfl; (iterate 3 kernel_rfl))|(apply q_mv; (conv => lhs; whnf))|(exact yU rfl rfl rfl rfl)|(exact q_lss rfl rfl)|(exact q_not rfl)|(exact q_add rfl rfl (by omega))|(apply yY; (iterate 3 exact rfl); (first | omega | (focus (simp; done))))
     |(apply yGb; (iterate 4 exact rfl); (first | (with_reducible exact rfl) | exact natI_spec rfl | assumption | exact (Int.toNat_of_nonneg (by omega)).symm); (first | omega | (focus (simp only [List.length_map]; omega)) | (focus (simp; done)) | (focus (simp; omega))))))|(apply W.ed; (apply yCb; (iterate 3 exact rfl); kernel_rfl))|(apply W.ln; (apply l_st_box; (iterate 6 exact rfl); (iterate 3 kernel_rfl)))|(apply yA)|(apply yB)|(apply yC; kernel_rfl)|(apply yE)|(apply yG)|(apply yH)|(apply yL)|(apply yR; exact rfl)
     |(refine W.cond _ rfl (fun hb => ?_) (fun hb => ?_) <;> ((try simp only [hb, zK]) <;> (try simp only [zL, zI] at hb) <;> (try (exfalso; omega))))))
    all_goals exact ⟨k + 1, ⟨by omega, hnx rfl⟩, by omega, [0, 1, 2], rfl, rfl, rfl, iV_eq (by omega), rfl, rfl, rfl, rfl, rfl, trivial⟩
 have hall : ∀ i (hi : i < ss.length), srB ss[i] = true := fun i hi => hk.2 i hi (by omega)
 have hR := hgood hall
 clear hbad hgood hk
 subst hR
 obtain ⟨M, D, ps, e1, e2, e3, hok⟩ := ok_valid hV
 rw [e1, e2, e3, Int.toNat_natCast, Int.toNat_natCast, toZ_back]
 have hD1 := hok.d
 have hw1 := hok.w
 have hlive := A_live0 (ss := ss)
 obtain ⟨nm, M', D', par, dom⟩ := tc
 dsimp only at e1 e2 e3
 subst e1 e2 e3
 (repeat' (first
  |(apply W.qd; (exact q_lss rfl rfl))|(apply W.ed; (apply yCb; (iterate 3 exact rfl); kernel_rfl))|(apply yA)|(apply yB)|(apply (W.regionS 11); exact rfl; kernel_rfl)|(apply yE)|(apply yI)|(apply yK)|(apply yM)
  |(refine W.cond _ rfl (fun hb => ?_) (fun hb => ?_) <;> ((try simp only [hb, zK]) <;> (try simp only [zL, zI] at hb) <;> (try (exfalso; omega))))))
 refine AWP.nilBox (l' := [.osl 5 0 0 0, .d (.v (.slice none 0 0)), .d (.v (.slice none 0 0))]) 3 0 1 88 rfl rfl (by omega) rfl rfl rfl rfl ?_
 refine AWP.nilBox (l' := [.osl 5 0 0 0, .osl 6 0 0 0, .d (.v (.slice none 0 0))]) 3 1 4 154 rfl rfl (by omega) rfl rfl rfl rfl ?_
 refine AWP.nilBox (l' := [.osl 5 0 0 0, .osl 6 0 0 0, .osl 7 0 0 0]) 3 2 2 218 rfl rfl (by omega) rfl rfl rfl rfl ?_
 refine AWP.nilBox (l' := [.osl 8 0 0 0]) 4 0 1 9 rfl rfl (by omega) rfl rfl rfl rfl ?_
 (repeat' (first
  |(apply W.qd; (exact yT rfl rfl rfl rfl))|(apply W.ed; (apply (e_callJ (js := []) (hlive)); (iterate 5 exact rfl); kernel_rfl; kernel_rfl))|(apply yB)|(apply yC; kernel_rfl)|(apply yE)
  |(apply yG)))
 have hP0 : packN (recAt ss) (preL ss 0 0) = ⟨[], [], []⟩ := by rw [preL_zero]; rfl
 refine AWP.wk ⟨[(34, .fn 194 [.opt 9 0]), (2, .opt 0 0), (3, .opt 1 0), (4, .opt 2 0), (8, .opt 3 0), (9, .opt 4 0)], [.box [bS nm, iV (M : Int), iV (D : Int), rowsA (toZ ps), iV dom], .box [srcs ss], .box [.d (.v (.slice none 0 0)), .d (.v (.slice none 0 0)), .d (.v (.slice none 0 0))], .box [.osl 5 0 0 0, .osl 6 (movN D (packN (recAt ss) (preL ss 0 0)).from').length 0 (movN D (packN (recAt ss) (preL ss 0 0)).from').length, .osl 7 (packN (recAt ss) (preL ss 0 0)).lost.length 0 (packN (recAt ss) (preL ss 0 0)).lost.length], .box [.osl 8 (packN (recAt ss) (preL ss 0 0)).data.length 0 (packN (recAt ss) (preL ss 0 0)).data.length], .row 0 1 88 [], .row (movN D (packN (recAt ss) (preL ss 0 0)).from').length 4 154 ((movN D (packN (recAt ss) (preL ss 0 0)).from').map mvD), .row (packN (recAt ss) (preL ss 0 0)).lost.length 2 218 ((packN (recAt ss) (preL ss 0 0)).lost.map tmD), .row (packN (recAt ss) (preL ss 0 0)).data.length 1 9 ((packN (recAt ss) (preL ss 0 0)).data.map sD), .box [srcs ss]]⟩ (by rw [hP0]; exact ⟨[0, 1, 2, 3, 4, 5, 6, 7, 8, 9], rfl, rfl, rfl, by (repeat (first | exact trivial | refine ⟨rfl, ?_⟩))⟩) ?_
 refine AWP.range (s2 := ⟨[(2, .opt 0 0), (4, .opt 2 0), (8, .opt 3 0), (9, .opt 4 0)], [.box [bS nm, iV (M : Int), iV (D : Int), rowsA (toZ ps), iV dom], .box [srcs ss], .box [.d (.v (.slice none 0 0)), .d (.v (.slice none 0 0)), .d (.v (.slice none 0 0))], .box [.osl 5 0 0 0, .osl 6 (movN D (packN (recAt ss) (preL ss ss.length 0)).from').length 0 (movN D (packN (recAt ss) (preL ss ss.length 0)).from').length, .osl 7 (packN (recAt ss) (preL ss ss.length 0)).lost.length 0 (packN (recAt ss) (preL ss ss.length 0)).lost.length], .box [.osl 8 (packN (recAt ss) (preL ss ss.length 0)).data.length 0 (packN (recAt ss) (preL ss ss.length 0)).data.length], .row 0 1 88 [], .row (movN D (packN (recAt ss) (preL ss ss.length 0)).from').length 4 154 ((movN D (packN (recAt ss) (preL ss ss.length 0)).from').map mvD), .row (packN (recAt ss) (preL ss ss.length 0)).lost.length 2 218 ((packN (recAt ss) (preL ss ss.length 0)).lost.map tmD), .row (packN (recAt ss) (preL ss ss.length 0)).data.length 1 9 ((packN (recAt ss) (preL ss ss.length 0)).data.map sD)]⟩) rfl (by kernel_rfl)
  (A_liveIter (e3 := fun p => .box [.osl 5 0 0 0, .osl 6 (movN D (packN (recAt ss) p).from').length 0 (movN D (packN (recAt ss) p).from').length, .osl 7 (packN (recAt ss) p).lost.length 0 (packN (recAt ss) p).lost.length]) (e4 := fun p => .box [.osl 8 (packN (recAt ss) p).data.length 0 (packN (recAt ss) p).data.length]) (e6 := fun p => .row (movN D (packN (recAt ss) p).from').length 4 154 ((movN D (packN (recAt ss) p).from').map mvD)) (e7 := fun p => .row (packN (recAt ss) p).lost.length 2 218 ((packN (recAt ss) p).lost.map tmD)) (e8 := fun p => .row (packN (recAt ss) p).data.length 1 9 ((packN (recAt ss) p).data.map sD)) hsl (fun s hs => (h.s s hs).ll) (fun p Y => rfl) (fun i hi k hk => ?_)) rfl (by decide) ⟨[0, 1, 2, 3, 4, 5, 6, 7, 8], rfl, rfl, rfl, by (repeat (first | exact trivial | refine ⟨rfl, ?_⟩))⟩ ?_
 ·have hvi := hall i hi
  have hSi := h.s _ (List.getElem_mem hi)
  have hrec := A_srec hvi hSi hk
  have hlen := pack_len (recAt ss) (preL ss i k)
  have hple := preL_le (k := k) hi
  have htot := h.tot
  obtain ⟨_, _, _, _, _, _, _, hnn⟩ := sr_ok hvi hSi.b
  have hnn := (hnn k hk).1
  obtain ⟨v, hv⟩ : ∃ v : Nat, ss[i].2.2.2[k] = v := ⟨ss[i].2.2.2[k].toNat, by omega⟩
  have hmvl := movN_len D (packN (recAt ss) (preL ss i k)).from'
  cases hr : recSr ss[i] ss[i].2.2.2[k].toNat with
  | none =>
    have hst := pack_none hi hk hr
    rw [hr] at hrec
    unfold recR at hrec
    dsimp only at hrec ⊢
    rw [hv, Int.toNat_natCast] at hst
    rw [hv] at hrec ⊢
    have e9 : ((packN (recAt ss) (preL ss i k)).lost ++ [(i, v)]).length = (packN (recAt ss) (preL ss i k)).lost.length + 1 := by simp
    rw [hst]
    dsimp only
    generalize packN (recAt ss) (preL ss i k) = PK at *
    obtain ⟨C, A0, B⟩ := PK
    dsimp only at *
    generalize movN D A0 = A at *
    refine YAt.ok (own1 := [.box [bS nm, iV (M : Int), iV (D : Int), rowsA (toZ ps), iV dom], .box [srcs ss], .box [.d (.v (.slice none 0 0)), .d (.v (.slice none 0 0)), .d (.v (.slice none 0 0))], .box [.osl 5 0 0 0, .osl 6 A.length 0 A.length, .osl 7 (B.length + 1) 0 (B ++ [(i, v)]).length], .box [.osl 8 C.length 0 C.length], .row 0 1 88 [], .row A.length 4 154 (A.map mvD), .row (B.length + 1) 2 218 ((B ++ [(i, v)]).map tmD), .row C.length 1 9 (C.map sD), .box [srcs ss], .lp .busy none #[35, 36] _ _ _, .box ((srD ss[i]).map .d)]) (s2 := ⟨[(10, iV i), (11, iV v), (2, .opt 0 0), (3, .opt 1 0), (8, .opt 3 0), (9, .opt 4 0)], _⟩) rfl rfl rfl rfl (fun g => ?_) rfl (fun g => ?_) rfl (by rw [e9]; rfl)
    ·refine AWP.toW ?_
     (repeat' (first
      |(apply W.qd; (apply q_as; (conv => lhs; whnf)))|(apply yA)|(apply yB)|(apply yC; kernel_rfl)
      |(apply yE)))
     exact ⟨rfl, ⟨[0, 1, 2, 3, 4, 5, 6, 7, 8, 9, 10, 11], rfl, rfl, rfl, by (repeat (first | exact trivial | refine ⟨rfl, ?_⟩))⟩⟩
    ·refine AWP.toO ?_
     (repeat' (first
      |(apply W.qd; (first
      |(apply (yW (hrec)); exact rfl; exact rfl; (iterate 3 kernel_rfl))|(apply q_mv; (conv => lhs; whnf))|(apply q_as; (conv => lhs; whnf))|(exact yS rfl rfl rfl)|(exact yT rfl rfl rfl rfl)|(exact yU rfl rfl rfl rfl)|(exact q_neq rfl rfl)|(exact yAb rfl rfl)|(apply yY; (iterate 3 exact rfl); (first | omega | (focus (simp; done))))|(apply yZ; exact rfl; exact rfl; kernel_rfl)|(apply q_litF; (iterate 5 exact rfl); kernel_rfl; kernel_rfl; exact rfl)
      |(apply yGb; (iterate 4 exact rfl); (first | (with_reducible exact rfl) | exact natI_spec rfl | assumption | exact (Int.toNat_of_nonneg (by omega)).symm); (first | omega | (focus (simp only [List.length_map]; omega)) | (focus (simp; done)) | (focus (simp; omega))))))
      |(apply W.ed; (first
      |((apply (e_app1F (f := tmD) (i, v)); (iterate 8 exact rfl); omega))
      |(apply yCb; (iterate 3 exact rfl); kernel_rfl)))|(apply W.ln; (apply l_st_box; (iterate 6 exact rfl); (iterate 3 kernel_rfl)))|(apply yA)|(apply yB)|(apply yC; kernel_rfl)|(apply yE)|(apply yG)|(apply yI)|(apply yK)|(apply yM)
      |(apply yQ; exact rfl)))
     exact ⟨rfl, ⟨[0, 1, 2, 3, 4, 5, 6, 7, 8, 9, 10, 11], rfl, rfl, rfl, by (repeat (first | exact trivial | refine ⟨rfl, ?_⟩))⟩⟩
  | some x =>
    have hst := pack_some hi hk hr
    rw [hr] at hrec
    unfold recR at hrec
    dsimp only at hrec ⊢
    rw [hv, Int.toNat_natCast] at hst
    rw [hv] at hrec ⊢
    rw [hst]
    dsimp only
    rw [movN_snoc]
    dsimp only
    generalize packN (recAt ss) (preL ss i k) = PK at *
    obtain ⟨C, A0, B⟩ := PK
    dsimp only at *
    rw [← hlen.1]
    generalize movN D A0 = A at *
    have e8 : (A ++ [((i, v, C.length / D, C.length % D) : Mv)]).length = A.length + 1 := by simp
    have e9 : (C ++ [x]).length = C.length + 1 := by simp
    refine YAt.ok (own1 := [.box [bS nm, iV (M : Int), iV (D : Int), rowsA (toZ ps), iV dom], .box [srcs ss], .box [.d (.v (.slice none 0 0)), .d (.v (.slice none 0 0)), .d (.v (.slice none 0 0))], .box [.osl 5 0 0 0, .osl 6 (A.length + 1) 0 (A ++ [((i, v, C.length / D, C.length % D) : Mv)]).length, .osl 7 B.length 0 B.length], .box [.osl 8 (C.length + 1) 0 (C ++ [x]).length], .row 0 1 88 [], .row (A.length + 1) 4 154 ((A ++ [((i, v, C.length / D, C.length % D) : Mv)]).map mvD), .row B.length 2 218 (B.map tmD), .row (C.length + 1) 1 9 ((C ++ [x]).map sD), .box [srcs ss], .lp .busy none #[35, 36] _ _ _, .box ((srD ss[i]).map .d)]) (s2 := ⟨[(10, iV i), (11, iV v), (2, .opt 0 0), (3, .opt 1 0), (8, .opt 3 0), (9, .opt 4 0)], _⟩) rfl rfl rfl rfl (fun g => ?_) rfl (fun g => ?_) rfl (by rw [e8, e9]; rfl)
    ·refine AWP.toW ?_
     (repeat' (first
      |(apply W.qd; (apply q_as; (conv => lhs; whnf)))|(apply yA)|(apply yB)|(apply yC; kernel_rfl)
      |(apply yE)))
     exact ⟨rfl, ⟨[0, 1, 2, 3, 4, 5, 6, 7, 8, 9, 10, 11], rfl, rfl, rfl, by (repeat (first | exact trivial | refine ⟨rfl, ?_⟩))⟩⟩
    ·refine AWP.toO ?_
     (repeat' (first
      |(apply W.qd; (first
      |(apply (yW (hrec)); exact rfl; exact rfl; (iterate 3 kernel_rfl))|(apply q_mv; (conv => lhs; whnf))|(apply q_as; (conv => lhs; whnf))|(exact yS rfl rfl rfl)|(exact yT rfl rfl rfl rfl)|(exact yU rfl rfl rfl rfl)|(exact q_neq rfl rfl)|(apply q_quo; exact rfl; exact rfl; omega; omega; omega)|(apply q_rem; exact rfl; exact rfl; omega; omega)|(exact yAb rfl rfl)|(exact q_len_osl rfl rfl rfl)|(apply yY; (iterate 3 exact rfl); (first | omega | (focus (simp; done))))|(apply yZ; exact rfl; exact rfl; kernel_rfl)|(apply q_litF; (iterate 5 exact rfl); kernel_rfl; kernel_rfl; exact rfl)
      |(apply yGb; (iterate 4 exact rfl); (first | (with_reducible exact rfl) | exact natI_spec rfl | assumption | exact (Int.toNat_of_nonneg (by omega)).symm); (first | omega | (focus (simp only [List.length_map]; omega)) | (focus (simp; done)) | (focus (simp; omega))))))|(apply W.ld; (apply l_app1; (iterate 8 exact rfl); (first | omega | (focus (simp; omega)) | (focus (simp; done)))))
      |(apply W.ed; (first
      |((apply (e_app1F (f := mvD) (i, v, C.length / D, C.length % D)); (iterate 8 exact rfl); omega))
      |(apply yCb; (iterate 3 exact rfl); kernel_rfl)))|(apply W.ln; (apply l_st_box; (iterate 6 exact rfl); (iterate 3 kernel_rfl)))|(apply yA)|(apply yB)|(apply yC; kernel_rfl)|(apply yD; exact rfl; kernel_rfl)|(apply yE)|(apply yF; kernel_rfl)|(apply yG)|(apply yH)|(apply yL)
      |(apply yR; exact rfl)))
     exact ⟨rfl, ⟨[0, 1, 2, 3, 4, 5, 6, 7, 8, 9, 10, 11], rfl, rfl, rfl, by (repeat (first | exact trivial | refine ⟨rfl, ?_⟩))⟩⟩
 dsimp only
 rw [preL_zero]
 have hun := pack_units hall h.s
 have hpl := pack_len (recAt ss) (liveTo ss ss.length)
 have htot := h.tot
 unfold repOk padS
 have hPS : packS ss = packN (recAt ss) (liveTo ss ss.length) := rfl
 rw [← hPS] at hpl ⊢
 generalize packS ss = PK at *
 clear hPS hP0
 obtain ⟨C, A0, B⟩ := PK
 dsimp only at *
 have hAl := movN_len D A0
 generalize movN D A0 = A at *
 have hz := A_zero
 have hpg := pad_ge D zero32 C
 have hps := fun l => pad_step (D := D) (by omega) zero32 l
 have hpd := fun l => pad_done (D := D) zero32 l
 have hpm := pad_mod (D := D) (by omega) zero32 C
 have hpu : ∀ x ∈ padN D zero32 C, isB x ∧ x.length = 32 := fun x hx => by
  rcases pad_mem hx with h1 | rfl
  ·exact hun x h1
  ·exact ⟨isB_zero 32, by simp [zero32]⟩
 have hps2 : ∀ l, padN D zero32 l = padN D zero32 C → l.length % D ≠ 0 → padN D zero32 (l ++ [zero32]) = padN D zero32 C ∧ l.length + 1 ≤ (padN D zero32 C).length := fun l h1 h2 => by
  have h3 := hps l h2
  refine ⟨h3.trans h1, ?_⟩
  have h4 := (pad_ge D zero32 (l ++ [zero32])).1
  rw [h3, h1, List.length_append, List.length_singleton] at h4
  exact h4
 have hpd2 : ∀ l, padN D zero32 l = padN D zero32 C → l.length % D = 0 → l = padN D zero32 C := fun l h1 h2 => by rw [← h1, hpd l h2]
 have hpC : padN D zero32 C = padN D zero32 C := rfl
 have hzz : zero32 = List.replicate 32 0 := rfl
 rw [← hzz] at hz
 clear hps hpd hun hzz hall
 generalize hPD : padN D zero32 C = PD at *
 clear hpC
 (repeat' (first
  |(apply W.qd; (first
  |(apply (yW (hz)); exact rfl; exact rfl; (iterate 3 kernel_rfl))
  |(apply q_as; (conv => lhs; whnf))))|(apply yA)|(apply yB)|(apply (W.regionS 21); exact rfl; kernel_rfl)|(apply yE)|(apply yG)
  |(apply yL)))
 refine AWP.loopW (α := List (List Nat)) (fun l => padN D zero32 l = PD ∧ l.length ≤ PD.length) (fun l => ⟨[(15, bS zero32), (2, .opt 0 0), (4, .opt 2 0), (8, .opt 3 0), (9, .opt 4 0)], [.box [bS nm, iV (M : Int), iV (D : Int), rowsA (toZ ps), iV dom], .box [srcs ss], .box [.d (.v (.slice none 0 0)), .d (.v (.slice none 0 0)), .d (.v (.slice none 0 0))], .box [.osl 5 0 0 0, .osl 6 A.length 0 A.length, .osl 7 B.length 0 B.length], .box [.osl 8 l.length 0 l.length], .row 0 1 88 [], .row A.length 4 154 (A.map mvD), .row B.length 2 218 (B.map tmD), .row l.length 1 9 (l.map sD)]⟩) (fun l => PD.length - l.length) C ⟨hPD, by omega⟩ ⟨[0, 1, 2, 3, 4, 5, 6, 7, 8], rfl, rfl, rfl, by (repeat (first | exact trivial | refine ⟨rfl, ?_⟩))⟩ fun l hl => ?_
 have hmz : ((l.length : Int) % (D : Int)) = ((l.length % D : Nat) : Int) := rfl
 by_cases hm0 : l.length % D ≠ 0
 ·have hp2 := hps2 l hl.1 hm0
  have e9 : (l ++ [zero32]).length = l.length + 1 := by simp
  clear hps2 hpd2 hpu
  (repeat' (first
   |(apply W.qd; (first
   |(apply q_mv; (conv => lhs; whnf))|(exact yS rfl rfl rfl)|(exact yT rfl rfl rfl rfl)|(exact q_neq rfl rfl)|(apply q_rem; exact rfl; exact rfl; omega; omega)|(exact q_len_osl rfl rfl rfl)
   |(apply q_litF; (iterate 5 exact rfl); kernel_rfl; kernel_rfl; exact rfl)))|(apply W.ld; (apply l_app1; (iterate 8 exact rfl); (first | omega | (focus (simp; omega)) | (focus (simp; done)))))|(apply W.ln; (apply l_st_box; (iterate 6 exact rfl); (iterate 3 kernel_rfl)))|(apply yA)|(apply yB)|(apply yC; kernel_rfl)|(apply yE)|(apply yG)|(apply yH)|(apply yL)
   |(refine W.cond _ rfl (fun hb => ?_) (fun hb => ?_) <;> ((try simp only [hb, zK]) <;> (try simp only [zL, zI] at hb) <;> (try (exfalso; omega))))))
  all_goals first
   |(exfalso; omega)|(refine ⟨l ++ [zero32], ⟨hp2.1, by omega⟩, by omega, ?_⟩; (try dsimp only); rw [show @AV.osl 8 (l ++ [zero32]).length 0 (l ++ [zero32]).length = .osl 8 (l.length + 1) 0 (l ++ [zero32]).length by rw [e9], show Ent.row (l ++ [zero32]).length 1 9 ((l ++ [zero32]).map sD) = .row (l.length + 1) 1 9 ((l ++ [zero32]).map sD) by rw [e9]]; exact ⟨[0, 1, 2, 3, 4, 5, 6, 7, 8], rfl, rfl, rfl, by (repeat (first | exact trivial | refine ⟨rfl, ?_⟩))⟩)
 obtain rfl : l = PD := hpd2 l hl.1 (by omega)
 clear hps2 hpd2 hl hPD
 obtain ⟨N, hN⟩ : ∃ N, l.length = N * D := ⟨l.length / D, by rw [Nat.div_mul_cancel (Nat.dvd_of_mod_eq_zero hpm)]⟩
 have hND : l.length / D = N := by rw [hN, Nat.mul_div_cancel _ (by omega)]
 rw [hND]
 (repeat' (first
  |(apply W.qd; (first
  |(exact yS rfl rfl rfl)|(exact yT rfl rfl rfl rfl)|(exact q_neq rfl rfl)|(apply q_rem; exact rfl; exact rfl; omega; omega)
  |(exact q_len_osl rfl rfl rfl)))|(apply yA)|(apply yB)|(apply (W.regionS 23); exact rfl; kernel_rfl)|(apply yE)|(apply yG)|(apply yI)|(apply yK)|(apply yM)
  |(refine W.cond _ rfl (fun hb => ?_) (fun hb => ?_) <;> ((try simp only [hb, zK]) <;> (try simp only [zL, zI] at hb) <;> (try (exfalso; omega))))))
 all_goals try (exfalso; omega)
 have hcs := fun q => cutN_succ M D ps l q
 have hcl := fun q => cutN_len M D ps l q
 have hc0 : cutN M D ps l 0 = [] := rfl
 have hNle : N ≤ l.length := by rw [hN]; exact Nat.le_mul_of_pos_right N (by omega)
 refine AWP.loopW (α := Nat) (fun q => q ≤ N) (fun q => ⟨[(2, .opt 0 0), (4, .opt 2 0), (8, .opt 3 0), (9, .opt 4 0)], [.box [bS nm, iV (M : Int), iV (D : Int), rowsA (toZ ps), iV dom], .box [srcs ss], .box [.d (.v (.slice none 0 0)), .d (.v (.slice none 0 0)), .d (.v (.slice none 0 0))], .box [.osl 5 q 0 (cutN M D ps l q).length, .osl 6 A.length 0 A.length, .osl 7 B.length 0 B.length], .box [strs (l.drop (q * D))], .row q 1 88 ((cutN M D ps l q).map stD), .row A.length 4 154 (A.map mvD), .row B.length 2 218 (B.map tmD)]⟩) (fun q => N - q) 0 (Nat.zero_le _) ?wkC fun q hq => ?_
 case wkC =>
  refine ⟨[0, 1, 2, 3, 4, 5, 6, 7], rfl, rfl, ?_, rfl, rfl, rfl, rfl, trivial⟩
  simp [selOwn, Ent.frz, AV.frz, AV.frzL, plc, frzSl, hc0]
  exact (List.take_of_length_le (by simp)).symm
 have hqs : q < N → q * D + D ≤ l.length := fun h => by
  have := Nat.mul_le_mul_right D (show q + 1 ≤ N by omega)
  rw [Nat.add_mul, Nat.one_mul] at this; omega
 have hRl : (l.drop (q * D)).length = l.length - q * D := List.length_drop
 have hRm : ((l.drop (q * D)).map sD).length = (l.drop (q * D)).length := List.length_map _
 have hSl := hcl q
 by_cases hqN : q < N
 ·have h1 := hqs hqN
  have hen := A_encode hok (us := (l.drop (q * D)).take D) (by rw [List.length_take]; omega) (fun u hu => hpu u (List.mem_of_mem_drop (List.mem_of_mem_take hu))) (n := 32) (by omega) (fit32 hok.f)
  rw [cdN_A] at hen
  have hen := hen.cdF (nm := nm) (dom := dom)
  have hrest : ((l.drop (q * D)).drop D).take ((l.drop (q * D)).length - D) = l.drop ((q + 1) * D) := by
   rw [List.take_of_length_le (by rw [List.length_drop]; omega), List.drop_drop, Nat.add_mul, Nat.one_mul]
  have hcq := hcs q
  clear hcs hcl hpu
  replace hcq := Lib.hid hcq
  replace hrest := Lib.hid hrest
  generalize encN M ps ((l.drop (q * D)).take D) = U at *
  generalize cutN M D ps l q = S at *
  generalize l.drop (q * D) = R at *
  have hen : ACalls Tryz.prog 125 [cdF nm M D (toZ ps) dom, strs ((R.drop 0).take (D - 0))] [] (.tup [strs U, iV 0]) [] := hen
  (repeat' (first
   |(apply W.qd; (first
   |(apply (yW (hen)); exact rfl; exact rfl; (iterate 3 kernel_rfl))|(apply q_mv; (conv => lhs; whnf))|(apply q_as; (conv => lhs; whnf))|(exact yS rfl rfl rfl)|(exact yT rfl rfl rfl rfl)|(exact yU rfl rfl rfl rfl)|(exact q_gtr rfl rfl)|(exact q_neq rfl rfl)|(exact yAb rfl rfl)|(exact yV rfl rfl)|(apply q_litF; (iterate 5 exact rfl); kernel_rfl; kernel_rfl; exact rfl)
   |(apply q_slc_map; exact rfl; exact rfl; (first | exact ⟨_, _, rfl, rfl⟩ | exact ⟨_, _, rfl, natI_spec rfl⟩ | exact ⟨_, _, rfl, (Int.toNat_of_nonneg (by omega)).symm⟩ | exact rfl); (first | exact ⟨_, _, rfl, rfl⟩ | exact ⟨_, _, rfl, natI_spec rfl⟩ | exact ⟨_, _, rfl, (Int.toNat_of_nonneg (by omega)).symm⟩ | exact rfl); (first | omega | (focus (simp only [List.length_map]; omega)) | (focus (simp; done)) | (focus (simp; omega))); (first | omega | (focus (simp only [List.length_map]; omega)) | (focus (simp; done)) | (focus (simp; omega))); exact Or.inl rfl)))|(apply W.ld; (apply l_app1; (iterate 8 exact rfl); (first | omega | (focus (simp; omega)) | (focus (simp; done)))))|(apply W.ln; (apply l_st_box; (iterate 6 exact rfl); (iterate 3 kernel_rfl)))|(apply yA)|(apply yB)|(apply yC; kernel_rfl)|(apply yD; exact rfl; kernel_rfl)|(apply yE)|(apply yF; kernel_rfl)|(apply yG)|(apply yH)|(apply yL)|(apply yR; exact rfl)
   |(refine W.cond _ rfl (fun hb => ?_) (fun hb => ?_) <;> ((try simp only [hb, zK]) <;> (try simp only [zL, zI] at hb) <;> (try (exfalso; omega))))))
  all_goals try (exfalso; omega)
  refine ⟨q + 1, by omega, by omega, ?_⟩
  rw [hcq.out, ← hrest.out]
  exact ⟨[0, 1, 2, 3, 4, 5, 6, 7], rfl, rfl, rfl, by (repeat (first | exact trivial | refine ⟨rfl, ?_⟩))⟩
 ·obtain rfl : q = N := by omega
  clear hcs hcl hpu
  generalize cutN M D ps l q = S at *
  generalize l.drop (q * D) = R at *
  (repeat' (first
   |(apply W.qd; (first
   |(apply q_as; (conv => lhs; whnf))|(exact yT rfl rfl rfl rfl)|(exact yU rfl rfl rfl rfl)|(exact q_gtr rfl rfl)
   |(exact yV rfl rfl)))|(apply W.ln; (apply l_st_box; (iterate 6 exact rfl); (iterate 3 kernel_rfl)))|(apply yA)|(apply yB)|(apply yC; kernel_rfl)|(apply yE)|(apply yI)|(apply yJ)|(apply yK)|(apply yM)
   |(refine W.cond _ rfl (fun hb => ?_) (fun hb => ?_) <;> ((try simp only [hb, zK]) <;> (try simp only [zL, zI] at hb) <;> (try (exfalso; omega))))))
  all_goals try (exfalso; omega)
  refine ⟨.inl rfl, [], [.agg [.osl 5 q 0 S.length, .osl 6 A.length 0 A.length, .osl 7 B.length 0 B.length], iV 0], rfl, ⟨⟨2, _, true, rfl, rfl, rfl, rfl⟩, rfl, trivial⟩, AVle.of_eq ?_, rfl⟩
  show AV.tup [AV.agg [AV.frz _ [] (.osl 5 q 0 S.length), AV.frz _ [] (.osl 6 A.length 0 A.length), AV.frz _ [] (.osl 7 B.length 0 B.length)], iV 0] = _
  rw [frz_rowJ (i := 5) (ver := q) (n := S.length) (l := S.map stD) rfl rfl (by simp), frz_rowJ (i := 6) (ver := A.length) (n := A.length) (l := A.map mvD) rfl rfl (by simp), frz_rowJ (i := 7) (ver := B.length) (n := B.length) (l := B.map tmD) rfl rfl (by simp)]
end
section
def u32 (b : Nat) : List Nat := List.replicate 32 b
theorem isB_u32 {b : Nat} (h : b < 256) : isB (u32 b) := fun x hx => by rw [List.eq_of_mem_replicate hx]; exact h
attribute [local irreducible] Quiet Eff OpOk AWPG ACont ABlock ACalls AGoto
theorem A_few39 {c : Cd} : ACalls Tryz.prog 69 [cdA1 c] [] (bV (few30 c)) [] := by
 obtain ⟨nm, M, D, par, dom⟩ := c
 show ACalls Tryz.prog 69 [cdF nm M D par dom] [] (bV (few30 (nm, M, D, par, dom))) []
 refine acalls_of_body Tryz.func69 rfl (Nat.le_of_ble_eq_true rfl) ?_
 have hmp : (par.map rD).length = par.length := List.length_map _
 unfold few30
 dsimp only
 by_cases h1 : 0 ≤ D
 ·by_cases h2 : D ≤ 5
  ·by_cases h3 : par.length ≤ 5
   ·rw [decide_eq_true h1, decide_eq_true h2, decide_eq_true h3]
    (repeat' (first
     |(apply yFb; exact rfl; exact rfl)
     |(apply W.qd; (first
     |(apply q_mv; (conv => lhs; whnf))|(apply q_as; (conv => lhs; whnf))|(exact yS rfl rfl rfl)|(exact yT rfl rfl rfl rfl)|(exact q_leq rfl rfl)|(exact q_geq rfl rfl)|(exact q_add rfl rfl (by omega))|(exact yV rfl rfl)
     |(apply (yEb (u := .d _)); exact rfl; exact rfl)))|(apply W.ed; (apply yBb; (iterate 3 exact rfl); kernel_rfl; kernel_rfl))|(apply yA)|(apply yB)|(apply yC; kernel_rfl)|(apply yE)|(apply yJ)
     |(refine W.gT _ _ rfl rfl (fun hb => ?_) (fun hb => ?_) <;> ((try simp only [hb, zK]) <;> (try simp only [zL, zI] at hb) <;> (try (exfalso; omega))))))
    all_goals refine Ends.b rfl ?_
    all_goals simp [hmp]
   ·rw [decide_eq_true h1, decide_eq_true h2, decide_eq_false h3]
    (repeat' (first
     |(apply yFb; exact rfl; exact rfl)
     |(apply W.qd; (first
     |(apply q_mv; (conv => lhs; whnf))|(apply q_as; (conv => lhs; whnf))|(exact yS rfl rfl rfl)|(exact yT rfl rfl rfl rfl)|(exact q_leq rfl rfl)|(exact q_geq rfl rfl)|(exact yV rfl rfl)|(apply (yEb (u := .d _)); exact rfl; exact rfl)
     |(apply (yDb (u := .d _)); exact rfl; exact rfl)))|(apply W.ed; (apply yBb; (iterate 3 exact rfl); kernel_rfl; kernel_rfl))|(refine W.gOff _ _ rfl rfl (by intro h; cases h) ?_)|(apply yA)|(apply yB)|(apply yC; kernel_rfl)|(apply yE)|(apply yJ)
     |(refine W.gT _ _ rfl rfl (fun hb => ?_) (fun hb => ?_) <;> ((try simp only [hb, zK]) <;> (try simp only [zL, zI] at hb) <;> (try (exfalso; omega))))))
    all_goals exact Ends.b rfl rfl
  ·rw [decide_eq_true h1, decide_eq_false h2]
   (repeat' (first
    |(apply yFb; exact rfl; exact rfl)
    |(apply W.qd; (first
    |(apply q_mv; (conv => lhs; whnf))|(apply q_as; (conv => lhs; whnf))|(exact yS rfl rfl rfl)|(exact yT rfl rfl rfl rfl)|(exact q_leq rfl rfl)|(exact q_geq rfl rfl)|(apply (yEb (u := .d _)); exact rfl; exact rfl)
    |(apply (yDb (u := .d _)); exact rfl; exact rfl)))|(apply W.ed; (apply yBb; (iterate 3 exact rfl); kernel_rfl; kernel_rfl))|(refine W.gOff _ _ rfl rfl (by intro h; cases h) ?_)|(apply yA)|(apply yB)|(apply yC; kernel_rfl)|(apply yE)|(apply yJ)
    |(refine W.gT _ _ rfl rfl (fun hb => ?_) (fun hb => ?_) <;> ((try simp only [hb, zK]) <;> (try simp only [zL, zI] at hb) <;> (try (exfalso; omega))))))
   all_goals exact Ends.b rfl rfl
 ·rw [decide_eq_false h1]
  (repeat' (first
   |(apply W.qd; (first
   |(apply q_mv; (conv => lhs; whnf))|(apply q_as; (conv => lhs; whnf))|(exact yS rfl rfl rfl)|(exact yT rfl rfl rfl rfl)|(exact q_geq rfl rfl)
   |(apply (yDb (u := .d _)); exact rfl; exact rfl)))|(apply W.ed; (apply yBb; (iterate 3 exact rfl); kernel_rfl; kernel_rfl))|(refine W.gOff _ _ rfl rfl (by intro h; cases h) ?_)|(apply yA)|(apply yB)|(apply yC; kernel_rfl)|(apply yE)|(apply yJ)
   |(refine W.gT _ _ rfl rfl (fun hb => ?_) (fun hb => ?_) <;> ((try simp only [hb, zK]) <;> (try simp only [zL, zI] at hb) <;> (try (exfalso; omega))))))
  all_goals exact Ends.b rfl rfl
theorem A_unit39 {b : Nat} (hb : b < 256) : ACalls Tryz.prog 72 [.d (.v (.int .u8 b))] [] (bS (u32 b)) [] := by
 refine acalls_of_body Tryz.func72 rfl (Nat.le_of_ble_eq_true rfl) ?_
 (repeat' (first
  |(apply W.qd; (apply q_as; (conv => lhs; whnf)))|(apply yA)|(apply yB)|(apply (W.regionS 2); exact rfl; kernel_rfl)
  |(apply yE)))
 refine AWP.nilRow 3 1 5 rfl (by omega) ?_
 (repeat' (first
  |(apply W.qd; (apply q_as; (conv => lhs; whnf)))|(apply yB)|(apply (W.regionS 3); exact rfl; kernel_rfl)|(apply yE)
  |(apply yG)))
 refine AWP.loopW (α := Nat) (fun i => i ≤ 32) (fun i => ⟨[(4, iV i), (3, .osl 0 i 0 (List.replicate i b).length), (0, .d (.v (.int .u8 b)))], [.row i 1 5 ((List.replicate i b).map nD)]⟩) (fun i => 32 - i) 0 (Nat.zero_le _) ⟨[0], rfl, rfl, rfl, by (repeat (first | exact trivial | refine ⟨rfl, ?_⟩))⟩ fun i hi => ?_
 by_cases hil : i < 32
 ·have hrp : List.replicate (i + 1) b = List.replicate i b ++ [b] := List.replicate_succ'
  have hln : (List.replicate i b).length = i := List.length_replicate
  replace hrp := Lib.hid hrp
  generalize List.replicate i b = A at *
  (repeat' (first
   |(apply W.qd; (first
   |(apply q_mv; (conv => lhs; whnf))|(apply q_as; (conv => lhs; whnf))|(exact q_lss rfl rfl)|(exact q_add rfl rfl (by omega))
   |(apply q_litF; (iterate 5 exact rfl); kernel_rfl; kernel_rfl; exact rfl)))|(apply W.ld; (apply l_app1; (iterate 8 exact rfl); (first | omega | (focus (simp; omega)) | (focus (simp; done)))))|(apply yA)|(apply yB)|(apply yC; kernel_rfl)|(apply yE)|(apply yG)|(apply yH)|(apply yL)
   |(refine W.cond _ rfl (fun hb => ?_) (fun hb => ?_) <;> ((try simp only [hb, zK]) <;> (try simp only [zL, zI] at hb) <;> (try (exfalso; omega))))))
  all_goals try (exfalso; omega)
  refine ⟨i + 1, by omega, by omega, ?_⟩
  rw [hrp.out]
  exact ⟨[0], rfl, rfl, rfl, iV_eq (by omega), rfl, rfl, trivial⟩
 ·obtain rfl : i = 32 := by omega
  have hu := isB_u32 hb
  rw [show List.replicate 32 b = u32 b from rfl]
  have hul : (u32 b).length = 32 := List.length_replicate
  generalize u32 b = U at *
  (repeat' (first
   |(apply W.qd; (first
   |(apply q_mv; (conv => lhs; whnf))|(apply q_as; (conv => lhs; whnf))|(exact q_lss rfl rfl)
   |(apply q_str_osl; (iterate 4 exact rfl); (first | rfl | (focus (simp; done))); assumption)))|(apply yA)|(apply yB)|(apply yC; kernel_rfl)|(apply yE)|(apply yI)|(apply yJ)|(apply yK)|(apply yM)
   |(apply yR; exact rfl)))
  exact Ends.d rfl rfl
def rngI (n : Nat) : List Int := (List.range n).map fun i : Nat => (i : Int)
theorem rngI_succ (n : Nat) : rngI (n + 1) = rngI n ++ [(n : Int)] := by unfold rngI; rw [List.range_succ, List.map_append]; rfl
def fullS (c : Cd) (U : List (List Nat)) (D : Nat) : Sr := (c, U, List.replicate U.length true, rngI D)
theorem A_fullOk {M D : Nat} {ps us : List (List Nat)} {nm : List Nat} {dom : Int} (hok : CodeOk M D ps) (hl : us.length = D) (hu : ∀ u ∈ us, isB u ∧ u.length = 32) : ACalls Tryz.prog 71 [cdA1 (nm, M, D, toZ ps, dom), strs us] [] (srA1 (fullS (nm, M, D, toZ ps, dom) (encN M ps us) D)) [] := by
 have hD1 := hok.d
 have hw1 := hok.w
 have hen := A_encode hok hl hu (by omega) (fit32 hok.f)
 rw [cdN_A] at hen
 have hen := hen.cdF (nm := nm) (dom := dom)
 have hUl : (encN M ps us).length = D + ps.length := by unfold encN; simp [hl]
 unfold fullS
 generalize encN M ps us = U at *
 have hmU : (U.map sD).length = U.length := List.length_map _
 refine acalls_of_body Tryz.func71 rfl (Nat.le_of_ble_eq_true rfl) ?_
 show AWP _ _ _ _ _ ⟨env0 0 [cdF nm M D (toZ ps) dom, strs us], []⟩
 (repeat' (first
  |(apply W.qd; (first
  |(apply (yW (hen)); exact rfl; exact rfl; (iterate 3 kernel_rfl))|(apply q_mv; (conv => lhs; whnf))|(apply q_as; (conv => lhs; whnf))|(exact yU rfl rfl rfl rfl)|(exact q_neq rfl rfl)|(exact yAb rfl rfl)
  |(apply yZ; exact rfl; exact rfl; kernel_rfl)))
  |(apply W.ed; (first
  |(apply yBb; (iterate 3 exact rfl); kernel_rfl; kernel_rfl)
  |(apply yCb; (iterate 3 exact rfl); kernel_rfl)))|(apply W.ln; (apply l_st_box; (iterate 6 exact rfl); (iterate 3 kernel_rfl)))|(apply yA)|(apply yB)|(apply (W.regionS 5); exact rfl; kernel_rfl)|(apply yE)|(apply yH)
  |(apply yR; exact rfl)))
 refine AWP.nilBox (l' := [bS nm, iV (M : Int), iV (D : Int), rowsA (toZ ps), iV dom, strs U, .osl 3 0 0 0, .d (.v (.slice none 0 0))]) 2 6 1 4 rfl rfl (by omega) rfl rfl rfl rfl ?_
 refine AWP.nilBox (l' := [bS nm, iV (M : Int), iV (D : Int), rowsA (toZ ps), iV dom, strs U, .osl 3 0 0 0, .osl 4 0 0 0]) 2 7 1 3 rfl rfl (by omega) rfl rfl rfl rfl ?_
 (repeat' (first
  |(apply W.qd; (apply q_as; (conv => lhs; whnf)))|(apply yB)|(apply (W.regionS 6); exact rfl; kernel_rfl)|(apply yE)
  |(apply yG)))
 refine AWP.loopW (α := Nat) (fun i => i ≤ U.length) (fun i => ⟨[(8, iV i), (5, strs U), (2, .opt 0 0), (4, .opt 1 0), (7, .opt 2 0)], [.box [bS nm, iV (M : Int), iV (D : Int), rowsA (toZ ps), iV dom], .box [.d (.v (.string ⟨#[]⟩)), iV 0, iV 0, .d (.v (.slice none 0 0)), iV 0, .d (.v (.slice none 0 0)), .d (.v (.slice none 0 0)), .d (.v (.slice none 0 0))], .box [bS nm, iV (M : Int), iV (D : Int), rowsA (toZ ps), iV dom, strs U, .osl 3 i 0 (List.replicate i true).length, .osl 4 (min i D) 0 (rngI (min i D)).length], .row i 1 4 ((List.replicate i true).map tD), .row (min i D) 1 3 ((rngI (min i D)).map iD)]⟩) (fun i => U.length - i) 0 (Nat.zero_le _) ?wk0 fun i hi => ?_
 case wk0 =>
  rw [Nat.zero_min]
  exact ⟨[0, 1, 2, 3, 4], rfl, rfl, rfl, by (repeat (first | exact trivial | refine ⟨rfl, ?_⟩))⟩
 by_cases hil : i < U.length
 ·have hrp : List.replicate (i + 1) true = List.replicate i true ++ [true] := List.replicate_succ'
  have hln : (List.replicate i true).length = i := List.length_replicate
  replace hrp := Lib.hid hrp
  generalize List.replicate i true = A at *
  by_cases hiD : i < D
  ·have hr := rngI_succ i
   rw [Nat.min_eq_left (by omega)]
   have hrl : (rngI i).length = i := by unfold rngI; simp
   replace hr := Lib.hid hr
   generalize rngI i = Z at *
   (repeat' (first
    |(apply W.qd; (first
    |(apply q_mv; (conv => lhs; whnf))|(apply q_as; (conv => lhs; whnf))|(exact yS rfl rfl rfl)|(exact yT rfl rfl rfl rfl)|(exact q_lss rfl rfl)|(exact q_add rfl rfl (by omega))|(exact yV rfl rfl)
    |(apply q_litF; (iterate 5 exact rfl); kernel_rfl; kernel_rfl; exact rfl)))|(apply W.ld; (apply l_app1; (iterate 8 exact rfl); (first | omega | (focus (simp; omega)) | (focus (simp; done)))))|(apply W.ln; (apply l_st_box; (iterate 6 exact rfl); (iterate 3 kernel_rfl)))|(apply yA)|(apply yB)|(apply yC; kernel_rfl)|(apply yE)|(apply yG)|(apply yH)|(apply yL)
    |(refine W.cond _ rfl (fun hb => ?_) (fun hb => ?_) <;> ((try simp only [hb, zK]) <;> (try simp only [zL, zI] at hb) <;> (try (exfalso; omega))))))
   all_goals try (exfalso; omega)
   refine ⟨i + 1, by omega, by omega, ?_⟩
   rw [hrp.out, Nat.min_eq_left (show i + 1 ≤ D by omega), hr.out]
   exact ⟨[0, 1, 2, 3, 4], rfl, rfl, rfl, iV_eq (by omega), rfl, rfl, rfl, rfl, trivial⟩
  ·rw [Nat.min_eq_right (show D ≤ i by omega)]
   (repeat' (first
    |(apply W.qd; (first
    |(apply q_mv; (conv => lhs; whnf))|(apply q_as; (conv => lhs; whnf))|(exact yS rfl rfl rfl)|(exact yT rfl rfl rfl rfl)|(exact q_lss rfl rfl)|(exact q_add rfl rfl (by omega))|(exact yV rfl rfl)
    |(apply q_litF; (iterate 5 exact rfl); kernel_rfl; kernel_rfl; exact rfl)))|(apply W.ld; (apply l_app1; (iterate 8 exact rfl); (first | omega | (focus (simp; omega)) | (focus (simp; done)))))|(apply W.ln; (apply l_st_box; (iterate 6 exact rfl); (iterate 3 kernel_rfl)))|(apply yA)|(apply yB)|(apply yC; kernel_rfl)|(apply yE)|(apply yG)|(apply yH)|(apply yL)
    |(refine W.cond _ rfl (fun hb => ?_) (fun hb => ?_) <;> ((try simp only [hb, zK]) <;> (try simp only [zL, zI] at hb) <;> (try (exfalso; omega))))))
   all_goals try (exfalso; omega)
   refine ⟨i + 1, by omega, by omega, ?_⟩
   rw [hrp.out, Nat.min_eq_right (show D ≤ i + 1 by omega)]
   exact ⟨[0, 1, 2, 3, 4], rfl, rfl, rfl, iV_eq (by omega), rfl, rfl, rfl, rfl, trivial⟩
 ·obtain rfl : i = U.length := by omega
  rw [Nat.min_eq_right (by omega)]
  generalize List.replicate U.length true = A at *
  generalize rngI D = Z at *
  (repeat' (first
   |(apply W.qd; (first
   |(apply q_mv; (conv => lhs; whnf))|(exact yU rfl rfl rfl rfl)|(exact q_lss rfl rfl)
   |(exact yV rfl rfl)))|(apply W.ln; (apply l_st_box; (iterate 6 exact rfl); (iterate 3 kernel_rfl)))|(apply yA)|(apply yB)|(apply yC; kernel_rfl)|(apply yE)|(apply yI)|(apply yJ)|(apply yK)|(apply yM)
   |(refine W.cond _ rfl (fun hb => ?_) (fun hb => ?_) <;> ((try simp only [hb, zK]) <;> (try simp only [zL, zI] at hb) <;> (try (exfalso; omega))))))
  refine ⟨.inl rfl, [], [.agg [bS nm, iV (M : Int), iV (D : Int), rowsA (toZ ps), iV dom, strs U, .osl 3 U.length 0 A.length, .osl 4 D 0 Z.length]], rfl, ⟨⟨1, _, true, rfl, rfl, rfl, rfl⟩, trivial⟩, AVle.of_eq ?_, rfl⟩
  show AV.agg [bS nm, iV (M : Int), iV (D : Int), rowsA (toZ ps), iV dom, strs U, AV.frz _ [] (.osl 3 U.length 0 A.length), AV.frz _ [] (.osl 4 D 0 Z.length)] = _
  rw [frz_rowJ (i := 3) (ver := U.length) (n := A.length) (l := A.map tD) rfl rfl (by simp), frz_rowJ (i := 4) (ver := D) (n := Z.length) (l := Z.map iD) rfl rfl (by simp)]
  rfl
end
section
def par39 : Cd := ([112, 97, 114], 8, 2, [[1, 1]], 3)
def tri39 : Cd := ([116, 114, 105], 8, 3, [[1, 1, 1]], 4)
def sa39 : Sr := (par39, [u32 1, u32 2, u32 3], [true, true, true], [0, 1])
def sb39 : Sr := (par39, [u32 3, u32 4, u32 7], [true, true, true], [0, 1])
def sc39 : Sr := (par39, [u32 1, u32 2, u32 3], [false, false, true], [0, 1])
def sd39 : Sr := (par39, [u32 1, u32 2, u32 3], [true, true, true], [2])
theorem s39_1 : repN tri39 [sa39, sb39] = ⟨[[u32 1, u32 2, u32 3, u32 0], [u32 4, u32 0, u32 0, u32 4]], [(0, 0, 0, 0), (0, 1, 0, 1), (1, 0, 0, 2), (1, 1, 1, 0)], [], 0⟩ := by kernel_rfl
theorem s39_2 : repN tri39 [sc39, sb39] = ⟨[[u32 3, u32 4, u32 0, u32 7]], [(1, 0, 0, 0), (1, 1, 0, 1)], [(0, 0), (0, 1)], 0⟩ := by kernel_rfl
theorem s39_3 : repN tri39 [sd39] = ⟨[], [], [], 1⟩ := by kernel_rfl
theorem s39_4 : repN tri39 [] = ⟨[], [], [], 0⟩ := by kernel_rfl
theorem s39_5 : encN 8 [[1, 1]] [u32 1, u32 2] = [u32 1, u32 2, u32 3] := by kernel_rfl
theorem s39_6 : encN 8 [[1, 1]] [u32 3, u32 4] = [u32 3, u32 4, u32 7] := by kernel_rfl
theorem ok_par : CodeOk 8 2 [[1, 1]] := by
 obtain ⟨m, d, ps, e1, e2, e3, h⟩ := ok_valid (M := 8) (D := 2) (par := [[1, 1]]) (by kernel_rfl)
 obtain rfl : m = 8 := by omega
 obtain rfl : d = 2 := by omega
 have : ps = [[1, 1]] := by
  have h2 := congrArg (fun p => p.map fun r => r.map Int.toNat) e3
  rw [toZ_back] at h2
  exact h2.symm
 rwa [this] at h
theorem in39 {c : Cd} (h : c = par39 ∨ c = tri39) : CodeIn c.2.2.2.1 := ⟨fun r hr x hx => by
 rcases h with rfl | rfl
 ·simp [par39] at hr; subst hr; simp at hx; omega
 ·simp [tri39] at hr; subst hr; simp at hx; omega⟩
theorem srIn39 {us : List (List Nat)} {hv : List Bool} {l : List Int} (h1 : us.length ≤ 10) (h2 : hv.length ≤ 10) (h3 : l.length ≤ 10) (h4 : ∀ x ∈ us, ∃ b, b < 256 ∧ x = u32 b) : SrIn (par39, us, hv, l) where
 c := in39 (.inl rfl)
 us := by dsimp only; omega
 hv := by dsimp only; omega
 ll := by dsimp only; omega
 b x hx := by
  obtain ⟨b, hb, rfl⟩ := h4 x hx
  exact ⟨isB_u32 hb, by simp [u32]⟩
theorem mem3 {a b c : Nat} (h : a < 256 ∧ b < 256 ∧ c < 256) : ∀ x ∈ [u32 a, u32 b, u32 c], ∃ n, n < 256 ∧ x = u32 n := fun x hx => by
 simp at hx
 rcases hx with rfl | rfl | rfl
 ·exact ⟨a, h.1, rfl⟩
 ·exact ⟨b, h.2.1, rfl⟩
 ·exact ⟨c, h.2.2, rfl⟩
theorem sIn_a : SrIn sa39 := srIn39 (by decide) (by decide) (by decide) (mem3 (by decide))
theorem sIn_b : SrIn sb39 := srIn39 (by decide) (by decide) (by decide) (mem3 (by decide))
theorem sIn_c : SrIn sc39 := srIn39 (by decide) (by decide) (by decide) (mem3 (by decide))
theorem sIn_d : SrIn sd39 := srIn39 (by decide) (by decide) (by decide) (mem3 (by decide))
theorem rIn39 {ss : List Sr} (h1 : ss.length ≤ 10) (h2 : ∀ s ∈ ss, SrIn s) (h3 : (liveTo ss ss.length).length ≤ 1000) : RepIn tri39 ss := ⟨in39 (.inr rfl), by omega, h2, by omega⟩
theorem mem2S {a b : Sr} (h1 : SrIn a) (h2 : SrIn b) : ∀ s ∈ [a, b], SrIn s := fun s hs => by
 simp at hs
 rcases hs with rfl | rfl
 ·exact h1
 ·exact h2
theorem fi_tg : fldsInt Tryz.prog 154 = some [0, 1, 2, 3] := by kernel_rfl
attribute [local irreducible] Quiet Eff OpOk AWPG ACont ABlock ACalls AGoto
theorem A_sanity39 : ACalls Tryz.prog 29 [] [] (bV true) [] := by
 refine acalls_of_body Tryz.func29 rfl (Nat.le_of_ble_eq_true rfl) ?_
 have u0 := A_unit39 (b := 0) (by decide)
 have u1 := A_unit39 (b := 1) (by decide)
 have u2 := A_unit39 (b := 2) (by decide)
 have u3 := A_unit39 (b := 3) (by decide)
 have u4 := A_unit39 (b := 4) (by decide)
 have hB0 := isB_u32 (b := 0) (by decide)
 have hB4 := isB_u32 (b := 4) (by decide)
 have f1 := A_fullOk (us := [u32 1, u32 2]) (nm := par39.1) (dom := 3) ok_par rfl (fun u hu => by simp at hu; rcases hu with rfl | rfl <;> exact ⟨isB_u32 (by decide), by simp [u32]⟩)
 rw [s39_5] at f1
 have f1 : ACalls Tryz.prog 71 [cdA1 par39, strs [u32 1, u32 2]] [] (srA1 sa39) [] := f1
 have f2 := A_fullOk (us := [u32 3, u32 4]) (nm := par39.1) (dom := 3) ok_par rfl (fun u hu => by simp at hu; rcases hu with rfl | rfl <;> exact ⟨isB_u32 (by decide), by simp [u32]⟩)
 rw [s39_6] at f2
 have f2 : ACalls Tryz.prog 71 [cdA1 par39, strs [u32 3, u32 4]] [] (srA1 sb39) [] := f2
 have k1 := A_repack (rIn39 (ss := [sa39, sb39]) (by decide) (mem2S sIn_a sIn_b) (by decide))
 rw [s39_1] at k1
 have k2 := A_repack (rIn39 (ss := [sc39, sb39]) (by decide) (mem2S sIn_c sIn_b) (by decide))
 rw [s39_2] at k2
 have k3 := A_repack (rIn39 (ss := [sd39]) (by decide) (fun s hs => by rw [List.mem_singleton.1 hs]; exact sIn_d) (by decide))
 rw [s39_3] at k3
 have k4 := (A_repack (rIn39 (ss := []) (by decide) (fun s hs => by simp at hs) (by decide))).le (args' := [cdA1 tri39, .d (.v (.slice none 0 0))]) fun F κ w us hs => AVleL.sat (xs := [cdA1 tri39, .d (.v (.slice none 0 0))]) (ys := [cdA1 tri39, srcs []]) ⟨AVle.refl _, AVle.nil 8, trivial⟩ F _ κ w us hs
 rw [s39_4] at k4
 (repeat' (first
  |(apply yFb; exact rfl; exact rfl)
  |(apply W.qd; (first
  |(apply (yW (u0)); exact rfl; exact rfl; (iterate 3 kernel_rfl))|(apply (yW (u1)); exact rfl; exact rfl; (iterate 3 kernel_rfl))|(apply (yW (u2)); exact rfl; exact rfl; (iterate 3 kernel_rfl))|(apply (yW (u3)); exact rfl; exact rfl; (iterate 3 kernel_rfl))|(apply (yW (u4)); exact rfl; exact rfl; (iterate 3 kernel_rfl))|(apply (yW (f1)); exact rfl; exact rfl; (iterate 3 kernel_rfl))|(apply (yW (f2)); exact rfl; exact rfl; (iterate 3 kernel_rfl))|(apply (yW (k1)); exact rfl; exact rfl; (iterate 3 kernel_rfl))|(apply (yW (k2)); exact rfl; exact rfl; (iterate 3 kernel_rfl))|(apply (yW (k3)); exact rfl; exact rfl; (iterate 3 kernel_rfl))|(apply (yW (k4)); exact rfl; exact rfl; (iterate 3 kernel_rfl))|(first | (apply (q_eqsI fi_tg); (iterate 5 exact rfl)) | (apply (q_nesI fi_tg); (iterate 5 exact rfl)))|(apply q_mv; (conv => lhs; whnf))|(apply q_as; (conv => lhs; whnf))|(exact yS rfl rfl rfl)|(exact yT rfl rfl rfl rfl)|(exact yU rfl rfl rfl rfl)|(exact q_eql rfl rfl)|(exact q_neq rfl rfl)|(exact yAb rfl rfl)|(exact yV rfl rfl)|(apply yX; (iterate 3 exact rfl); (first | omega | (focus (simp; done))))|(apply yY; (iterate 3 exact rfl); (first | omega | (focus (simp; done))))|(apply yZ; exact rfl; exact rfl; kernel_rfl)|(apply q_litF; (iterate 5 exact rfl); kernel_rfl; kernel_rfl; exact rfl)|(apply yGb; (iterate 4 exact rfl); (first | (with_reducible exact rfl) | exact natI_spec rfl | assumption | exact (Int.toNat_of_nonneg (by omega)).symm); (first | omega | (focus (simp only [List.length_map]; omega)) | (focus (simp; done)) | (focus (simp; omega))))|(apply (yEb (u := .d _)); exact rfl; exact rfl)|(apply (yDb (u := .d _)); exact rfl; exact rfl)
  |(apply q_eqlS; exact rfl; exact rfl; (first | assumption | exact isB_nil | exact isB_xor (by assumption) (by assumption)); (first | assumption | exact isB_nil | exact isB_xor (by assumption) (by assumption)))))|(apply W.ed; (apply yCb; (iterate 3 exact rfl); kernel_rfl))|(apply W.ln; (apply l_st_box; (iterate 6 exact rfl); (iterate 3 kernel_rfl)))|(apply yA)|(apply yB)|(apply yC; kernel_rfl)|(apply yD; exact rfl; kernel_rfl)|(apply yE)|(apply yF; kernel_rfl)|(apply yH)|(apply yJ)
  |(apply yR; exact rfl)))
 all_goals first | exact Ends.b rfl rfl | (exfalso; simp at hb; done)
end
section
def Ints (w : World) (v : Value) (l : List Int) : Prop :=
 ∃ (A : Option Addr) (c : Nat), v = .slice A l.length c ∧ l.length ≤ c ∧ c ≤ maxLen ∧ (0 < l.length → ∃ b o, A = some ⟨b, o, none⟩ ∧ b < w.heap.size ∧ ∀ j, j < l.length → w.cell? ⟨b, o + j, none⟩ = some (.int .i64 (l.getD j 0)))
theorem Ints.keep {w w' : World} {v : Value} {l : List Int} (h : Ints w v l) (hb : Below w.heap.size w w') : Ints w' v l := by
 obtain ⟨A, c, rfl, h1, h2, h3⟩ := h
 refine ⟨A, c, rfl, h1, h2, fun hp => ?_⟩
 obtain ⟨b, o, rfl, hlt, hc⟩ := h3 hp
 refine ⟨b, o, rfl, Nat.lt_of_lt_of_le hlt hb.size, fun j hj => ?_⟩
 rw [hb.cell (p := ⟨b, o + j, none⟩) hlt]; exact hc j hj
theorem Ints.of_own {w : World} {base e n : Nat} {v : Value} {l : List Int} (h : w.ownsRow base e 1 v n (l.map (Value.int .i64))) : Ints w v l := by
 have hn : l.length = n := by have := h.1; simpa using this
 rcases h.2 with ⟨rfl, hx⟩ | ⟨g, cap, cur, rfl, hb, hh, hnc, hcm, hcs, htake⟩
 ·subst hx
  have : l = [] := List.eq_nil_of_length_eq_zero hn
  subst this
  exact ⟨none, 0, rfl, by simp, by simp [maxLen], fun hp => by simp at hp⟩
 ·subst hn
  refine ⟨_, cap, rfl, hnc, hcm, fun hp => ⟨g, 0, rfl, ?_, fun j hj => ?_⟩⟩
  ·rcases Nat.lt_or_ge g w.heap.size with hlt | hge
   ·exact hlt
   ·rw [Array.getElem?_eq_none hge] at hh; cases hh
  ·rw [cell_of_row w g (0 + j) cur e (0, 0) hh, Nat.zero_add]
   have h1 : cur.toList[j]? = (l.map (Value.int .i64))[j]? := by
    rw [← htake, List.getElem?_take, if_pos (by simpa using hj)]
   have h2 : cur[j]? = cur.toList[j]? := by simp
   rw [h2, h1]
   simp [List.getElem?_map, List.getElem?_eq_getElem hj]
theorem ret_i {k : IntKind} {a b : Int} (h : a = b) : Ending.returned (.int k a) = .returned (.int k b) := by rw [h]
theorem Below.then {B : Nat} {a w w' : World} (h : Below B a w) (hb : Below w.heap.size w w') (hB : B ≤ w.heap.size) : Below B a w' := h.trans (hb.mono hB)
theorem Below.lt {B : Nat} {w w' : World} (h : Below B w w') {k : Nat} (hk : k < w.heap.size) : k < w'.heap.size := Nat.lt_of_lt_of_le hk h.size
theorem Ints.drew {w : World} {v : Value} {l : List Int} (h : Ints w v l) : Ints w.drew v l := h
theorem Ints.alloc {w : World} {v : Value} {l : List Int} (h : Ints w v l) (o : Obj) : Ints (w.alloc o) v l := h.keep ((Below.refl _ _).alloc (Nat.le_refl _) o)
theorem Ints.nil (w : World) : Ints w (.slice none 0 0) [] := ⟨none, 0, rfl, by simp, by simp [maxLen], fun h => by simp at h⟩
theorem Below.after {w X w1 : World} (h : Below w.heap.size w X) (hb : Below X.heap.size X w1) : Below w.heap.size w w1 := h.trans (hb.mono h.size)
theorem Ints.lit (w : World) (e : TypeId) (l : List Int) (n : Nat) (hn : l.length = n) (hm : n ≤ 1000000000) :
 Ints (w.alloc (.cells (l.map (Value.int .i64)).toArray e)) (.slice (some ⟨w.heap.size, 0, none⟩) n n) l := by
 have h := World.ownsRow_lit (base := 0) (size := 1) (e := e) w (l.map (Value.int .i64)).toArray n (Nat.zero_le _) (by unfold maxLen; omega) (by simp [hn])
 exact Ints.of_own (by simpa using h)
theorem Ints.ext {w w' : World} {v : Value} {l : List Int} (h : Ints w v l) (hb : Below w.heap.size w w') : Ints w' v l := h.keep hb
def Box6 (w : World) (g : Nat) (d r n s l i : Int) : Prop :=
 g < w.heap.size ∧ w.cell? ⟨g, 0, none⟩ = some (.int .i64 d) ∧ w.cell? ⟨g, 1, none⟩ = some (.int .i64 r) ∧ w.cell? ⟨g, 2, none⟩ = some (.int .i64 n) ∧ w.cell? ⟨g, 3, none⟩ = some (.int .i64 s) ∧ w.cell? ⟨g, 4, none⟩ = some (.int .i64 l) ∧ w.cell? ⟨g, 5, none⟩ = some (.int .i64 i)
theorem Box6.keep {w w' : World} {g : Nat} {d r n s l i : Int} (h : Box6 w g d r n s l i) (hb : Below w.heap.size w w') : Box6 w' g d r n s l i := by
 obtain ⟨h0, h1, h2, h3, h4, h5, h6⟩ := h
 have hc := fun o => hb.cell (p := ⟨g, o, none⟩) h0
 exact ⟨Nat.lt_of_lt_of_le h0 hb.size, (hc 0).trans h1, (hc 1).trans h2, (hc 2).trans h3, (hc 3).trans h4, (hc 4).trans h5, (hc 5).trans h6⟩
theorem Box6.new (w : World) (t : TypeId) (d r n s l i : Int) : Box6 (w.alloc (.cells #[.int .i64 d, .int .i64 r, .int .i64 n, .int .i64 s, .int .i64 l, .int .i64 i] t)) w.heap.size d r n s l i := by
 refine ⟨by simp, ?_, ?_, ?_, ?_, ?_, ?_⟩ <;> simp
def Row (w : World) (b o : Nat) (l : List Int) : Prop := b < w.heap.size ∧ ∀ j, j < l.length → w.cell? ⟨b, o + j, none⟩ = some (.int .i64 (l.getD j 0))
theorem Row.keep {w w' : World} {b o : Nat} {l : List Int} (h : Row w b o l) (hb : Below w.heap.size w w') : Row w' b o l :=
 ⟨Nat.lt_of_lt_of_le h.1 hb.size, fun j hj => (hb.cell (p := ⟨b, o + j, none⟩) h.1).trans (h.2 j hj)⟩
theorem Ints.row {w : World} {v : Value} {l : List Int} (h : Ints w v l) (hp : 0 < l.length) : ∃ b o c, v = .slice (some ⟨b, o, none⟩) l.length c ∧ l.length ≤ c ∧ c ≤ 9223372036854775807 ∧ Row w b o l := by
 obtain ⟨A, c, rfl, h1, h2, h3⟩ := h
 obtain ⟨b, o, rfl, hlt, hc⟩ := h3 hp
 exact ⟨b, o, c, rfl, h1, by unfold maxLen at h2; omega, hlt, hc⟩
theorem Row.ints {w : World} {b o c : Nat} {l : List Int} (h : Row w b o l) (h1 : l.length ≤ c) (h2 : c ≤ 9223372036854775807) : Ints w (.slice (some ⟨b, o, none⟩) l.length c) l :=
 ⟨_, c, rfl, h1, by unfold maxLen; omega, fun _ => ⟨b, o, rfl, h.1, h.2⟩⟩
/-! ### A region that draws its order, whose operations read old cells and whose callees make memory but hand back numbers: one walk of the lexical order. -/
structure Ext (W : World) where
 w : World
 h : Below W.heap.size W w
instance (W : World) : Nonempty (Ext W) := ⟨⟨W, Below.refl _ _⟩⟩
theorem Box6.ext {W : World} {g : Nat} {d r n s l i : Int} (h : Box6 W g d r n s l i) :
 (∀ y : Ext W, y.w.cell? ⟨g, 0, none⟩ = some (.int .i64 d)) ∧ (∀ y : Ext W, y.w.cell? ⟨g, 1, none⟩ = some (.int .i64 r)) ∧ (∀ y : Ext W, y.w.cell? ⟨g, 2, none⟩ = some (.int .i64 n)) ∧
 (∀ y : Ext W, y.w.cell? ⟨g, 3, none⟩ = some (.int .i64 s)) ∧ (∀ y : Ext W, y.w.cell? ⟨g, 4, none⟩ = some (.int .i64 l)) ∧ (∀ y : Ext W, y.w.cell? ⟨g, 5, none⟩ = some (.int .i64 i)) := by
 refine ⟨fun y => ?_, fun y => ?_, fun y => ?_, fun y => ?_, fun y => ?_, fun y => ?_⟩ <;> (obtain ⟨_, h1, h2, h3, h4, h5, h6⟩ := h.keep y.h; assumption)
/-! ### A block that is known whole -/
def BlkB (w : World) (g : Nat) (t : TypeId) (cs : Array Value) : Prop := w.heap[g]? = some (.cells cs t (0, 0))
section
variable {w w' : World} {g : Nat} {t : TypeId} {cs : Array Value}
theorem BlkB.lt (h : BlkB w g t cs) : g < w.heap.size := by
 rcases Nat.lt_or_ge g w.heap.size with hlt | hge
 ·exact hlt
 ·unfold BlkB at h; rw [Array.getElem?_eq_none hge] at h; cases h
theorem BlkB.cell (h : BlkB w g t cs) (i : Nat) : w.cell? ⟨g, i, none⟩ = cs[i]? := cell_of_row w g i cs t (0, 0) h
theorem BlkB.frozen (h : BlkB w g t cs) (i : Nat) : w.frozen? ⟨g, i, none⟩ = false := by
 unfold BlkB at h
 simp [World.frozen?, h]
theorem BlkB.new (w : World) (t : TypeId) (cs : Array Value) : BlkB (w.alloc (.cells cs t)) w.heap.size t cs := heap_alloc_new w _
theorem BlkB.alloc (h : BlkB w g t cs) (o : Obj) : BlkB (w.alloc o) g t cs := (Below.heap_alloc w o g h.lt).trans h
theorem BlkB.below {B : Nat} (h : BlkB w g t cs) (hb : Below B w w') (hg : g < B) : BlkB w' g t cs := (hb.block g hg).trans h
theorem BlkB.keep (h : BlkB w g t cs) (hb : Below w.heap.size w w') : BlkB w' g t cs := h.below hb h.lt
end
end
section
/-! ### The multipliers -/
def prog (r k : Nat) : List Nat := (List.range k).map fun i => 1 + i * r
def I (l : List Nat) : List Int := l.map fun n : Nat => (n : Int)
end
section
def RetOwn (w : World) (l : List Int) (e : Ending) (w' : World) : Prop :=
 ∃ v, e = .returned v ∧ w'.ownsRow w.heap.size 3 1 v l.length (l.map (Value.int .i64)) ∧ Below w.heap.size w w'
end
section
def OkC (d r n s l i : Int) : Prop := (1 ≤ d ∧ d ≤ 64) ∧ (1 ≤ r ∧ r ≤ 8) ∧ (1 ≤ n ∧ n ≤ 4096) ∧ (0 ≤ s ∧ s ≤ d - 1) ∧ (1 ≤ l ∧ l ≤ 65536) ∧ (1 ≤ i ∧ i ≤ 65536) ∧ d % r = 0
instance (d r n s l i : Int) : Decidable (OkC d r n s l i) := by unfold OkC; infer_instance
def chk13 (d r n s l i : Int) : Int := if OkC d r n s l i then 0 else 1
theorem chk13_yes {d r n s l i : Int} (h : OkC d r n s l i) : chk13 d r n s l i = 0 := if_pos h
theorem chk13_no {d r n s l i : Int} (h : ¬ OkC d r n s l i) : chk13 d r n s l i = 1 := if_neg h
theorem RetOwn.nil {w w' : World} (hb : Below w.heap.size w w') : RetOwn w [] (.returned (.slice none 0 0)) w' := ⟨_, rfl, World.ownsRow_nil _ _ _ _, hb⟩
theorem RetOwn.later {w w1 : World} {l : List Int} {e : Ending} {w' : World} (h : RetOwn w1 l e w') (hb : Below w.heap.size w w1) : RetOwn w l e w' := by
 obtain ⟨v, rfl, ho, hb'⟩ := h
 exact ⟨v, rfl, ho.mono hb.size, hb.trans (hb'.mono hb.size)⟩
end
section
theorem in13_any (a b c : Int) (w : World) :
 Calls Tryz.prog 178 #[.int .i64 a, .int .i64 b, .int .i64 c] w fun e w' => e = .returned (.bool (decide (b ≤ a) && decide (a ≤ c))) ∧ w = w' := by
 by_cases h : b ≤ a
 ·by_cases h2 : a ≤ c
  ·go_enter Tryz.func178, Tryz.ntmps178
   go_wp2
   go_ret
   first | (simp [h, h2]; done) | (simp [h, h2]; omega)
  ·have h2' : c < a := by omega
   go_enter Tryz.func178, Tryz.ntmps178
   go_wp2
   go_ret
   first | (simp [h, h2]; done) | (simp [h, h2]; omega)
 ·have h' : a < b := by omega
  go_enter Tryz.func178, Tryz.ntmps178
  go_wp2
  go_ret
  first | (simp [h]; done) | (simp; intros; omega)
set_option maxHeartbeats 1600000 in
theorem rcheck_any (d r n s l i : Int) (w : World) :
 Calls Tryz.prog 113 #[.agg #[.int .i64 d, .int .i64 r, .int .i64 n, .int .i64 s, .int .i64 l, .int .i64 i]] w fun e w' => e = .returned (.int .i64 (chk13 d r n s l i)) ∧ Below w.heap.size w w' := by
 go_enter Tryz.func113, Tryz.ntmps113
 go_wp2_with (go_at_call 178; refine (in13_any _ _ _ _).mono ?_; rintro e w' ⟨rfl, rfl⟩)
 all_goals (go_ret; refine ⟨ret_i ?_, by go_grown⟩)
 all_goals first
  |(rw [chk13_no]; unfold OkC; intro h; obtain ⟨h1, h2, h3, h4, h5, h6, h7⟩ := h; first | (exact absurd h1 ‹_›) | (exact absurd h2 ‹_›) | (exact absurd h3 ‹_›) | (exact absurd h4 ‹_›) | (exact absurd h5 ‹_›) | (exact absurd h7 ‹_›) | (have hx : (!decide (1 ≤ i)) = true ∨ (!decide (i ≤ 65536)) = true := (by assumption); simp at hx; omega) | (have hx : (!decide (0 ≤ s)) = true ∨ (!decide (s ≤ d - 1)) = true := (by assumption); simp at hx; omega); done)
  |(rw [chk13_yes]; have hx : (!decide (1 ≤ i)) = false ∧ (!decide (i ≤ 65536)) = false := (by assumption); have hy : (!decide (0 ≤ s)) = false ∧ (!decide (s ≤ d - 1)) = false := (by assumption); exact ⟨‹_›, ‹_›, ‹_›, by simpa using hy, ‹_›, by simpa using hx, ‹_›⟩)
end
section
abbrev cfgA (d r n s l i : Int) : AV := .agg [iV d, iV r, iV n, iV s, iV l, iV i]
theorem A_rdchk (d r n s l i : Int) : ACalls Tryz.prog 113 [cfgA d r n s l i] [] (iV (chk13 d r n s l i)) [] := acalls_of_exact rfl fun w => rcheck_any d r n s l i w
end
section
attribute [local irreducible] Quiet Eff OpOk AWPG ACont ABlock ACalls
def OkL (d r n s l i w : Int) : Prop := OkC d r n s l i ∧ 1 ≤ w ∧ w ≤ 32
instance (d r n s l i w : Int) : Decidable (OkL d r n s l i w) := by unfold OkL; infer_instance
def vldL (d r n s l i w : Int) : Bool := decide (OkL d r n s l i w)
def grpI (d r n s l i w : Int) : Int := if OkL d r n s l i w then (d - s) / w else 0
theorem A_rlvalid (d r n s l i wd : Int) : ACalls Tryz.prog 184 [cfgA d r n s l i, iV wd] [] (bV (vldL d r n s l i wd)) [] := by
 refine acalls_of_body Tryz.func184 rfl (Nat.le_of_ble_eq_true rfl) ?_
 (repeat' (first
  |(apply yFb; exact rfl; exact rfl)
  |(apply W.qd; (first
  |(apply (yW (A_rdchk _ _ _ _ _ _)); exact rfl; exact rfl; (iterate 3 kernel_rfl))|(apply q_mv; (conv => lhs; whnf))|(apply q_as; (conv => lhs; whnf))|(exact yU rfl rfl rfl rfl)|(exact q_leq rfl rfl)|(exact q_geq rfl rfl)|(exact q_eql rfl rfl)|(apply (yEb (u := .d _)); exact rfl; exact rfl)
  |(apply (yDb (u := .d _)); exact rfl; exact rfl)))|(apply W.ed; (apply yBb; (iterate 3 exact rfl); kernel_rfl; kernel_rfl))|(refine W.gOff _ _ rfl rfl (by intro h; cases h) ?_)|(apply yA)|(apply yB)|(apply yC; kernel_rfl)|(apply yE)|(apply yJ)
  |(refine W.gT _ _ rfl rfl (fun hb => ?_) (fun hb => ?_) <;> ((try simp only [hb, zK]) <;> (try simp only [zL, zI] at hb) <;> (try (exfalso; omega))))))
 all_goals refine Ends.b rfl ?_
 all_goals (unfold chk13 at *; unfold vldL OkL; simp_all)
 omega
theorem OkL.bd {d r n s l i w : Int} (h : OkL d r n s l i w) : (1 ≤ d ∧ d ≤ 64) ∧ (1 ≤ r ∧ r ≤ 8) ∧ (1 ≤ n ∧ n ≤ 4096) ∧ (0 ≤ s ∧ s ≤ d - 1) ∧ 1 ≤ w ∧ w ≤ 32 := by
 obtain ⟨⟨h1, h2, h3, h4, _⟩, h5⟩ := h; exact ⟨h1, h2, h3, h4, h5⟩
theorem A_rgroups (d r n s l i wd : Int) : ACalls Tryz.prog 120 [cfgA d r n s l i, iV wd] [] (iV (grpI d r n s l i wd)) [] := by
 refine acalls_of_body Tryz.func120 rfl (Nat.le_of_ble_eq_true rfl) ?_
 by_cases hok : OkL d r n s l i wd
 ·have hv : vldL d r n s l i wd = true := decide_eq_true hok
  have := A_rlvalid d r n s l i wd
  rw [hv] at this
  obtain ⟨h1, h2, h3, h4, h5⟩ := hok.bd
  (repeat' (first
   |(apply W.qd; (first
   |(apply (yW (this)); exact rfl; exact rfl; (iterate 3 kernel_rfl))|(apply q_mv; (conv => lhs; whnf))|(apply q_as; (conv => lhs; whnf))|(exact yS rfl rfl rfl)|(exact yT rfl rfl rfl rfl)|(exact yU rfl rfl rfl rfl)|(exact q_not rfl)|(exact q_sub rfl rfl (by omega))
   |(apply q_quo; exact rfl; exact rfl; omega; omega; omega)))|(apply W.ed; (apply yBb; (iterate 3 exact rfl); kernel_rfl; kernel_rfl))|(apply yA)|(apply yB)|(apply yC; kernel_rfl)|(apply yE)|(apply yH)|(apply yJ)
   |(apply yR; exact rfl)))
  all_goals exact Ends.i rfl (if_pos hok).symm
 ·have hv : vldL d r n s l i wd = false := decide_eq_false hok
  have := A_rlvalid d r n s l i wd
  rw [hv] at this
  (repeat' (first
   |(apply W.qd; (first
   |(apply (yW (this)); exact rfl; exact rfl; (iterate 3 kernel_rfl))|(apply q_mv; (conv => lhs; whnf))|(apply q_as; (conv => lhs; whnf))|(exact yU rfl rfl rfl rfl)
   |(exact q_not rfl)))|(apply W.ed; (apply yBb; (iterate 3 exact rfl); kernel_rfl; kernel_rfl))|(apply yA)|(apply yB)|(apply yC; kernel_rfl)|(apply yE)|(apply yJ)|(apply yP)
   |(apply yQ; exact rfl)))
  all_goals exact Ends.i rfl (if_neg hok).symm
end
section
theorem YAt.mk2 {P : Program} {n i : Nat} {ps : Array Tmp} {asn bdy : Code} {envC : List (Nat × AV)} {xs : List AV} {own own1 : List Ent} {e0 : Exit} {s2 : St} {l3 : List AV}
 (hi : own[i]? = some (.lp .ready none ps asn bdy (tmpsOf envC n))) (hin : envIn n envC = true) (hxs : xs.length = ps.size) (hps : (ps.toList.all fun p => decide (p < n)) = true)
 (hA : ∀ g, AWPG (Ctx.round g) P n own.length asn (fun e s => e = .normal ∧ s = s2) ⟨putP ps.toList xs envC, own⟩) (h2 : s2.own[i]? = some (.lp .ready none ps asn bdy (tmpsOf envC n)))
 (hB : ∀ g, AWPG (Ctx.round g) P n own.length bdy (fun e s => e = e0 ∧ s.own = own1) ⟨s2.env, s2.own.set i (.lp .busy none ps asn bdy (tmpsOf envC n))⟩)
 (h1 : own1[i]? = some (.lp .busy none ps asn bdy l3)) (he : okEnd e0 = true) :
 YAt P i own xs (jumpOf e0).isNone (own1.set i (.lp (if (jumpOf e0).isNone then .ready else .done) (jumpOf e0) ps asn bdy l3)) := fun F κ w us g ho hκ hus => by
 obtain ⟨g', r, hg', hr, ⟨rst, rpe, rps, ras, rbd⟩, hsat, -⟩ := lp_set ho hi
 obtain rfl : g = g' := by rw [hκ] at hg'; simpa using hg'
 have hil : i < own.length := (List.getElem?_eq_some_iff.1 hi).1
 have hsz : r.tmps.size = n := by have := satL_length hsat; simpa [tmpsOf] using this.symm
 refine ⟨r, hr, by rw [rps, ← hxs]; exact (satL_length hus).symm, ?_⟩
 rw [ras, rbd, rps]
 have ez : (ps.zip us.toArray).foldl (fun tmps (t, x) => tmps.setIfInBounds t x) r.tmps = (ps.toList.zip us).foldl (fun tmps (p : Nat × Value) => tmps.setIfInBounds p.1 p.2) r.tmps := by
  rw [← Array.foldl_toList, Array.toList_zip]
 rw [ez]
 have henv : EnvSat F own κ w (putP ps.toList xs envC) { tmps := (ps.toList.zip us).foldl (fun tmps (p : Nat × Value) => tmps.setIfInBounds p.1 p.2) r.tmps, defers := [] } :=
  putP_sat hus (fun p hp => by have := List.all_eq_true.1 hps p hp; rw [hsz]; simpa using this) (tmpsOf_sat hin hsat)
 refine roundIn_of_wpIn trivial (wpIn_mono (hA g F ⟨w, own⟩ κ _ κ w trivial ho.len.symm (Sim.start (by rw [← hsz]; exact fold_size) rfl henv ho)) ?_)
 rintro e a1 w1 ⟨s', κ1, ⟨rfl, rfl⟩, hs1⟩
 obtain ⟨env2, own2⟩ := s'
 have hroot : AV.sat F own κ w (.yl i) (.func (.yield g) #[] #[]) := by rw [AV.sat]; exact ⟨g, _, _, _, _, _, _, hi, hκ, rfl⟩
 have at1 : ∀ {own' : List Ent} {κ' : List (Option Nat)} {w' : World} {g' : Nat}, AV.sat F own' κ' w' (.yl i) (.func (.yield g) #[] #[]) → κ'[i]? = some (some g') → g = g' := fun h hg => by
  rw [AV.sat] at h
  obtain ⟨g2, _, _, _, _, _, _, _, h2, h3⟩ := h
  rw [h2] at hg
  obtain rfl : g2 = _ := by simpa using hg
  simpa using h3
 obtain ⟨g1, r1, hg1, hr1, hf1, -, hset1⟩ := lp_set hs1.own h2
 obtain rfl : g = g1 := at1 (hs1.keep _ _ hroot) hg1
 refine ⟨_, run_beginRound hr1 hf1.1, ?_⟩
 have hs2 := hs1.step (m := own.length) ho.len.symm ((hset1 .busy none).2 _) hs1.tm rfl (fun t => ((hset1 .busy none).2 0).keep _ _ (hs1.env t)) (hset1 .busy none).1
 have er : ({ r1 with state := .busy } : Loop) = { r1 with state := .busy, pending := none } := by rw [← hf1.2.1]
 rw [er]
 refine wpIn_mono (hB g F _ κ a1 κ1 _ trivial ho.len.symm hs2) ?_
 rintro e a3 w3 ⟨s3, κ4, ⟨rfl, rfl⟩, hs4⟩
 obtain ⟨g4, r4, hg4, hr4, hf4, -, hset4⟩ := lp_set hs4.own h1
 obtain rfl : g = g4 := at1 (hs4.keep _ _ hroot) hg4
 have htr : Tr F own.length own κ w s3.own κ4 w3 := ⟨hs4.os, hs4.tape, hs4.output, hs4.size, hs4.old, hs4.new, (fun _ => by rw [show own.length = κ.length from ho.len]; exact hs4.pre), hs4.keep⟩
 cases e with
 | normal => exact ⟨_, _, run_endRound none hr4, rfl, κ4, (hset4 _ _).1, htr.trans ((hset4 _ _).2 _)⟩
 | ret => exact ⟨_, _, run_endRound (some .ret) hr4, rfl, κ4, (hset4 _ _).1, htr.trans ((hset4 _ _).2 _)⟩
 | exit id => exact ⟨_, _, run_endRound (some (.exit id)) hr4, rfl, κ4, (hset4 _ _).1, htr.trans ((hset4 _ _).2 _)⟩
 | goto t => exact ⟨_, _, run_endRound (some (.goto t)) hr4, rfl, κ4, (hset4 _ _).1, htr.trans ((hset4 _ _).2 _)⟩
 | panic c => cases he
 | outgrown => cases he
theorem YAt.ok2 {P : Program} {n i : Nat} {ps : Array Tmp} {asn bdy : Code} {envC : List (Nat × AV)} {xs : List AV} {own own1 own' : List Ent} {s2 : St} {l3 : List AV}
 (hi : own[i]? = some (.lp .ready none ps asn bdy (tmpsOf envC n))) (hin : envIn n envC = true) (hxs : xs.length = ps.size) (hps : (ps.toList.all fun p => decide (p < n)) = true)
 (hA : ∀ g, AWPG (Ctx.round g) P n own.length asn (fun e s => e = .normal ∧ s = s2) ⟨putP ps.toList xs envC, own⟩) (h2 : s2.own[i]? = some (.lp .ready none ps asn bdy (tmpsOf envC n)))
 (hB : ∀ g, AWPG (Ctx.round g) P n own.length bdy (fun e s => e = .normal ∧ s.own = own1) ⟨s2.env, s2.own.set i (.lp .busy none ps asn bdy (tmpsOf envC n))⟩)
 (h1 : own1[i]? = some (.lp .busy none ps asn bdy l3)) (h' : own1.set i (.lp .ready none ps asn bdy l3) = own') :
 YAt P i own xs true own' := by
 subst h'
 exact YAt.mk2 hi hin hxs hps hA h2 hB h1 rfl
end
section
section
variable {P : Program} {m : Nat} {env : List (Nat × AV)} {own : List Ent} {dst : Option Tmp} {ty : TypeId} {pos : String} {af : Array Edge} {gd : Option (Nat × Bool)}
theorem q_slc_oslM {t e e' : TypeId} {sz by' : Nat} {z : Value} {x lo hi mx : Operand} {p ver q n : Nat} {l : List (List Dat)} (va vb vm : Nat) (ht : slInfo P t = some (e, sz, by', z)) (hx : lookO env x = .osl p ver q n) (hp : own[p]? = some (.row ver sz e' l))
 (h1 : bnd env (some lo) 0 va) (h2 : bnd env (some hi) 0 vb) (h3 : bnd env (some mx) 0 vm) (hab : va ≤ vb) (hbm : vb ≤ vm) (hmn : vm ≤ n) : Quiet P m ⟨dst, .slice t x (some lo) (some hi) (some mx), ty, pos, af, gd⟩ env own [p] (.win p ver (q + va) (vb - va)) :=
 Quiet.val fun F own' κ a w hs _ hsame _ => by
  have hh := hs x (by simp [Op.operands]); rw [hx, AV.sat] at hh
  have hp' : own'[p]? = some (.row ver sz e' l) := by rw [hsame p (by simp)]; exact hp
  obtain ⟨h4, A, c, h5, h6, h7, h8⟩ := hh.2 sz e' l hp'
  obtain ⟨he, i, hi1, hi2, _, _⟩ := slInfo_spec ht
  have hb := run_bounds (P := P) (a := a) (mx := some mx) true (fun y hy => hs y (mem_slice (x := x) (t := t) hy)) h1 (show bnd env (some hi) n vb from h2) (show bnd env (some mx) c vm from h3) hab hbm (by omega) (.inr rfl)
  refine ⟨.slice (if vm = va then A else A.map (·.add (va * sz))) (vb - va) (vm - va), exec_v ?_, ?_⟩
  ·simp only [Option.map_some] at hb
   simp [h5, Instr.sliceAt, run_underlying he, Instr.slice, hb, sizeOf, typeInfo, hi1, hi2]
  ·rw [AV.sat]
   refine ⟨by obtain ⟨y1, y2, y3, _⟩ := hh.1; exact ⟨y1, y2, y3, rfl⟩, fun sz2 e2 c2 hc => ?_⟩
   rw [hp'] at hc
   obtain ⟨rfl, rfl, rfl⟩ : sz = sz2 ∧ e' = e2 ∧ l = c2 := by simpa using hc
   refine ⟨by omega, _, vm - va, rfl, by omega, by omega, fun hpos => ?_⟩
   have hcond : 0 < n ∨ q = 0 := by omega
   rcases h8 hcond with ⟨g, g1, rfl, cur, e3, fz, g3, g4⟩ | ⟨g1, rfl, rfl⟩
   ·refine .inl ⟨g, g1, ?_, cur, e3, fz, g3, ?_⟩
    ·split
     ·rename_i h9
      have h10 : va = 0 := by omega
      subst h10; rfl
     ·simp [add_none, Nat.add_mul]
    ·refine Nat.le_trans (Nat.mul_le_mul_right _ ?_) (Nat.le_of_eq g4)
     omega
   ·refine .inr ⟨g1, ?_, by omega⟩
    split <;> simp
end
end
section
theorem bsl_data {F : Nat → Prop} {own : List Ent} {κ : List (Option Nat)} {w : World} {i n c sz : Nat} {cells : List AV} {elems : List (List Dat)} {v : Value} (ho : OwnSat F own κ w) (hi : own[i]? = some (.box cells)) (hv : AV.sat F own κ w (.bsl i n c) v) (hn : 0 < n) (he : elems.length = n) (hsz : ∀ e ∈ elems, e.length = sz) (hc : ∀ (j : Nat) (x : Dat), elems.flatten[j]? = some x → ∃ y, cells[j]? = some y ∧ AVle (AV.frz own [] y) (.d x)) (hne : cells ≠ [.tup []]) : Dat.sat (badK F []) w (.sl sz elems) v := by
 rw [AV.sat] at hv
 obtain ⟨g, l, h1, h2, c', h3, h4, rfl⟩ := hv
 rw [h1] at hi
 obtain rfl : l = cells := by simpa using hi
 have hent := ho.ent i _ h1
 rw [getD_some h2] at hent
 rcases hent with ⟨hx, _⟩ | ⟨g', hg', cur, t, hcur, hsat, hone⟩
 ·cases hx
 obtain rfl : g = g' := by simpa using hg'
 have hlt := ho.lt' h2
 rw [Dat.sat]
 refine ⟨some ⟨g, 0, none⟩, c', by rw [he], by rw [he]; exact h3, h4, fun _ => ⟨g, 0, rfl, hlt.1, ?_, ?_⟩⟩
 ·rintro (hb | hb)
  ·exact hlt.2 hb
  ·simp at hb
 rw [rowsSat_flat]
 refine ⟨hsz, ?_⟩
 rw [Dat.rowSat_iff]
 intro j x hx
 obtain ⟨y, hlj, hy⟩ := hc j x hx
 obtain ⟨u, hu, hus⟩ := satL_get hsat j y hlj
 have hf := hy _ _ _ _ _ (AV.frz_sat (js := []) ho y hus)
 rw [AV.sat] at hf
 refine ⟨u, ?_, hone u (List.mem_of_getElem? hu), hf⟩
 obtain ⟨tail, htl⟩ := hcur
 rw [Nat.zero_add, cell_of_row w g j _ t (0, 0) htl]
 have hjl : j < cur.toList.length := (List.getElem?_eq_some_iff.1 hu).1
 rw [Array.getElem?_append_left (by simpa using hjl)]
 simpa using hu
theorem acalls_thaw {P : Program} {f : FuncId} {args : List AV} {ver sz n : Nat} {e : TypeId} {elems : List (List Dat)} (hn : 0 < n) (hl : elems.length = n) (h : ACalls P f args [] (.osl 0 ver 0 n) [.row ver sz e elems]) : ACalls P f args [] (.bsl 0 n 0) [.box (elems.flatten.map .d)] := fun F κ w vs ho hs => by
 refine (h F κ w vs ho hs).mono ?_
 rintro e' w' ⟨v, κ', he, hv, hO, hT⟩
 have hk : κ = [] := List.eq_nil_of_length_eq_zero (by simpa using ho.len.symm)
 subst hk
 obtain ⟨og, k0⟩ := hO.kap 0 _ rfl
 have e0 := hO.ent 0 _ rfl
 rw [show κ'.getD 0 none = og by simp [List.getD_eq_getElem?_getD, k0]] at e0
 obtain ⟨hsz, h1⟩ := e0
 rw [AV.sat] at hv
 obtain ⟨_, hv2⟩ := hv
 obtain ⟨_, A, c, hu, hnc, hcm, hat⟩ := hv2 sz e elems rfl
 rcases h1 with ⟨_, hx⟩ | ⟨g, rfl, cur, hg, hlen, hrows⟩
 ·rw [hx] at hl; simp at hl; omega
 rcases hat (.inl hn) with ⟨g2, k2, hA, _⟩ | ⟨k2, _⟩
 rotate_left
 ·rw [k0] at k2; cases k2
 obtain rfl : g = g2 := by rw [k0] at k2; simpa using k2
 rw [Nat.zero_mul] at hA
 subst hA
 have hk1 : κ' = [some g] := by
  have := hO.len
  match κ', this, k0 with
  | [x], _, k0 => simp at k0; rw [k0]
 subst hk1
 rw [rowsSat_flat] at hrows
 obtain ⟨hw1, hw2⟩ := hrows
 rw [Dat.rowSat_iff] at hw2
 have hfl : elems.flatten.length ≤ cur.size := by rw [flat_len hw1]; exact hlen
 have hcell : ∀ j x, elems.flatten[j]? = some x → ∃ u, cur.toList[j]? = some u ∧ u.oneCell' = true ∧ Dat.sat (badK F [some g]) w' x u := fun j x hx => by
  obtain ⟨u, q1, q2, q3⟩ := hw2 j x hx
  rw [Nat.zero_add, cell_of_row w' g j _ e (0, 0) hg] at q1
  exact ⟨u, by rw [Array.getElem?_toList]; exact q1, q2, q3⟩
 have hO2 : OwnSat F [.box (elems.flatten.map .d)] [some g] w' := by
  refine ⟨rfl, hO.frame, hO.lt, hO.inj, fun q x hx => ?_, hO.glb⟩
  match q with
  | 0 =>
    obtain rfl : Ent.box (elems.flatten.map .d) = x := by simpa using hx
    refine .inr ⟨g, rfl, (cur.toList.take elems.flatten.length).toArray, e, ⟨(cur.toList.drop elems.flatten.length).toArray, ?_⟩, ?_, fun u hu => ?_⟩
    ·rw [hg]
     congr 2
     apply Array.ext'
     simp
    ·refine satL_of (by
      show ((elems.flatten).map AV.d).length = (cur.toList.take elems.flatten.length).length
      rw [List.length_map, List.length_take]
      have : cur.toList.length = cur.size := by simp
      omega) fun j y hy => ?_
     rw [List.getElem?_map] at hy
     cases hq : elems.flatten[j]? with
     | none => rw [hq] at hy; cases hy
     | some x =>
       rw [hq] at hy
       obtain rfl : AV.d x = y := by simpa using hy
       obtain ⟨u, q1, _, q3⟩ := hcell j x hq
       refine ⟨u, ?_, by rw [AV.sat]; exact q3⟩
       rw [List.getElem?_take, if_pos (List.getElem?_eq_some_iff.1 hq).1]
       exact q1
    ·have hu : u ∈ cur.toList.take elems.flatten.length := by simpa using hu
     obtain ⟨j, hj, rfl⟩ := List.getElem_of_mem hu
     have hj2 : j < elems.flatten.length := by rw [List.length_take] at hj; omega
     obtain ⟨u2, q1, q2, _⟩ := hcell j _ (List.getElem?_eq_getElem hj2)
     rw [List.getElem_take]
     have hj3 : j < cur.toList.length := by rw [List.length_take] at hj; omega
     rw [List.getElem?_eq_getElem hj3] at q1
     rw [Option.some.inj q1]; exact q2
  | q + 1 => simp at hx
 refine ⟨v, [some g], he, ?_, hO2, ⟨hT.os, hT.tape, hT.output, hT.size, hT.old, hT.new, hT.pre, fun x u hx => ?_⟩⟩
 ·rw [AV.sat]
  exact ⟨g, _, rfl, rfl, c, hnc, hcm, hu⟩
 ·have hwide : Wide (badK F []) (badK F [some g]) w w' := .of hT.size (fun b hb _ => hT.old b hb (by simp)) fun b hb hnb hbad => by
   rcases hbad with hf | hk
   ·exact hnb (.inl hf)
   ·rcases hT.new b hk with h3 | h3
    ·simp at h3
    ·omega
  refine keepAll (F := F) (own := []) (κ := []) (w := w) (fun z v hz hs => ?_) hwide x u hx
  rcases hz with ⟨i, ver, o, k, rfl⟩ | ⟨i, ver, j, o, rfl⟩ | ⟨i, o, rfl⟩ | ⟨i, rfl⟩ | ⟨i, rfl⟩ | ⟨i, ver, o, k, rfl⟩
  ·rw [AV.sat] at hs; obtain ⟨⟨_, h3, _⟩, _⟩ := hs; simp at h3
  ·rw [AV.sat] at hs; obtain ⟨⟨_, h3, _⟩, _⟩ := hs; simp at h3
  ·rw [AV.sat] at hs; obtain ⟨_, _, h3, _⟩ := hs; simp at h3
  ·rw [AV.sat] at hs; obtain ⟨_, _, _, _, _, _, _, h3, _⟩ := hs; simp at h3
  ·rw [AV.sat] at hs; obtain ⟨_, _, h3, _⟩ := hs; simp at h3
  ·rw [AV.sat] at hs; obtain ⟨⟨_, h3, _⟩, _⟩ := hs; simp at h3
theorem acalls_frzB {P : Program} {f : FuncId} {args : List AV} {i n c sz : Nat} {cells : List AV} {elems : List (List Dat)} {ownR : List Ent} {dy : Dat} (hi : ownR[i]? = some (.box cells)) (hn : 0 < n) (he : elems.length = n) (hsz : ∀ e ∈ elems, e.length = sz) (hc : ∀ (j : Nat) (x : Dat), elems.flatten[j]? = some x → ∃ y, cells[j]? = some y ∧ AVle (AV.frz ownR [] y) (.d x)) (hne : cells ≠ [.tup []]) (h : ACalls P f args [] (.tup [.bsl i n c, .d dy]) ownR) : ACalls P f args [] (.tup [.d (.sl sz elems), .d dy]) [] := fun F κ w vs ho hs => by
 refine (h F κ w vs ho hs).mono ?_
 rintro e' w' ⟨v, κ', hev, hv, hO, hT⟩
 have hk : κ = [] := List.eq_nil_of_length_eq_zero (by simpa using ho.len.symm)
 subst hk
 rw [AV.sat] at hv
 obtain ⟨vs2, rfl, hv2⟩ := hv
 obtain ⟨u1, u2, hvs⟩ : ∃ u1 u2, vs2.toList = [u1, u2] := by
  have hl := satL_length hv2
  match hq : vs2.toList, hl with
  | [u1, u2], _ => exact ⟨u1, u2, rfl⟩
 rw [hvs, AV.satL, AV.satL] at hv2
 obtain ⟨s1, s2, _⟩ := hv2
 have d1 := bsl_data hO hi s1 hn he hsz hc hne
 have d2 := AV.frz_sat (js := []) hO _ s2
 refine ⟨.tuple vs2, [], hev, ?_, ⟨rfl, hO.frame, fun g hg => by simp at hg, fun i j g hi => by simp at hi, fun i x hx => by simp at hx, fun p hp => ⟨(hO.glb p hp).1, by simp, (hO.glb p hp).2.2⟩⟩, ⟨hT.os, hT.tape, hT.output, hT.size, hT.old, fun b hb => by simp at hb, fun h => h, fun x u hx => ?_⟩⟩
 ·rw [AV.sat]
  refine ⟨vs2, rfl, ?_⟩
  rw [hvs, AV.satL, AV.satL, AV.satL]
  exact ⟨by rw [AV.sat]; exact d1, d2, trivial⟩
 ·have hwide : Wide (badK F []) (badK F []) w w' := .of hT.size (fun b hb _ => hT.old b hb (by simp)) fun b hb hnb hbad => hnb hbad
  refine keepAll (F := F) (own := []) (κ := []) (w := w) (fun z v hz hs => ?_) hwide x u hx
  rcases hz with ⟨i, ver, o, k, rfl⟩ | ⟨i, ver, j, o, rfl⟩ | ⟨i, o, rfl⟩ | ⟨i, rfl⟩ | ⟨i, rfl⟩ | ⟨i, ver, o, k, rfl⟩
  ·rw [AV.sat] at hs; obtain ⟨⟨_, h3, _⟩, _⟩ := hs; simp at h3
  ·rw [AV.sat] at hs; obtain ⟨⟨_, h3, _⟩, _⟩ := hs; simp at h3
  ·rw [AV.sat] at hs; obtain ⟨_, _, h3, _⟩ := hs; simp at h3
  ·rw [AV.sat] at hs; obtain ⟨_, _, _, _, _, _, _, h3, _⟩ := hs; simp at h3
  ·rw [AV.sat] at hs; obtain ⟨_, _, h3, _⟩ := hs; simp at h3
  ·rw [AV.sat] at hs; obtain ⟨⟨_, h3, _⟩, _⟩ := hs; simp at h3
end
section
theorem flA_len {α : Type} {s : Nat} : ∀ {L : List (List α)}, (∀ e ∈ L, e.length = s) → L.flatten.length = L.length * s
 | [], _ => by simp
 | e :: L, h => by
   rw [List.flatten_cons, List.length_append, h e (by simp), flA_len fun x hx => h x (by simp [hx]), List.length_cons, Nat.succ_mul, Nat.add_comm]
theorem flA_get {α : Type} {s : Nat} : ∀ {L : List (List α)} {i j : Nat} {e : List α}, (∀ e ∈ L, e.length = s) → L[i]? = some e → j < s → L.flatten[i * s + j]? = e[j]?
 | [], i, j, e, _, hi, _ => by simp at hi
 | x :: L, 0, j, e, h, hi, hj => by
   obtain rfl : x = e := by simpa using hi
   rw [List.flatten_cons, Nat.zero_mul, Nat.zero_add, List.getElem?_append_left (by rw [h x (by simp)]; exact hj)]
 | x :: L, i + 1, j, e, h, hi, hj => by
   have hx := h x (by simp)
   rw [List.flatten_cons, List.getElem?_append_right (by rw [hx, Nat.succ_mul]; omega), hx, show (i + 1) * s + j - s = i * s + j by rw [Nat.succ_mul]; omega]
   exact flA_get (fun y hy => h y (by simp [hy])) (by simpa using hi) hj
theorem flA_set {α : Type} {s : Nat} {v : α} : ∀ {L : List (List α)} {i j : Nat} {e : List α}, (∀ e ∈ L, e.length = s) → L[i]? = some e → j < s → L.flatten.set (i * s + j) v = (L.set i (e.set j v)).flatten
 | [], i, j, e, _, hi, _ => by simp at hi
 | x :: L, 0, j, e, h, hi, hj => by
   obtain rfl : x = e := by simpa using hi
   rw [List.flatten_cons, Nat.zero_mul, Nat.zero_add, List.set_append_left _ _ (by rw [h x (by simp)]; exact hj)]; rfl
 | x :: L, i + 1, j, e, h, hi, hj => by
   have hx := h x (by simp)
   rw [List.flatten_cons, List.set_append_right _ _ (by rw [hx, Nat.succ_mul]; omega), hx, show (i + 1) * s + j - s = i * s + j by rw [Nat.succ_mul]; omega, flA_set (fun y hy => h y (by simp [hy])) (by simpa using hi) hj]; rfl
theorem flA_spl {α : Type} {s : Nat} {cs : List α} (hc : cs.length = s) : ∀ {L : List (List α)} {i : Nat}, (∀ e ∈ L, e.length = s) → i < L.length → L.flatten.take (i * s) ++ cs ++ L.flatten.drop (i * s + cs.length) = (L.set i cs).flatten
 | [], i, _, hi => by simp at hi
 | x :: L, 0, h, hi => by
   have hx := h x (by simp)
   rw [List.flatten_cons, Nat.zero_mul, List.take_zero, List.nil_append, Nat.zero_add, hc, ← hx, List.drop_left]; rfl
 | x :: L, i + 1, h, hi => by
   have hx := h x (by simp)
   have e1 : (i + 1) * s = x.length + i * s := by rw [hx, Nat.succ_mul, Nat.add_comm]
   rw [List.flatten_cons, e1, List.take_length_add_append, Nat.add_assoc, List.drop_length_add_append, List.append_assoc, List.append_assoc, ← List.append_assoc (L.flatten.take (i * s)), flA_spl hc (fun y hy => h y (by simp [hy])) (by simpa using hi)]; rfl
theorem bkL_map (js : List Nat) (n : Nat) : ∀ l : List AV, AV.bkL js n l = l.map (AV.bk js n)
 | [] => by simp [AV.bkL]
 | x :: l => by rw [AV.bkL, bkL_map js n l]; rfl
section
variable {P : Program} {m : Nat} {env : List (Nat × AV)} {own : List Ent} {dst : Option Tmp} {ty : TypeId} {pos : String} {af : Array Edge} {gd : Option (Nat × Bool)}
theorem e_stS {t : TypeId} {b : Bool} {x y : Operand} {i o : Nat} {l : List AV} {v : AV} {own' : List Ent} (hx : lookO env x = .opt i o) (hl : own[i]? = some (.box l)) (hy : lookO env y = v) (ht : tyInfo P t = some (b, 1)) (ho : own.set i (.box (l.set o v)) = own') (hc : cellsA v = some [v]) (hok : okPart v = true) (h1 : oneA v = true) (hlt : o < l.length) :
 Eff P m ⟨dst, .store t x y, ty, pos, af, gd⟩ env own [i] (.d (.v undef)) own' := by
 have := e_st_box (P := P) (m := m) (dst := dst) (ty := ty) (pos := pos) (af := af) (gd := gd) (cs := [v]) (b := b) ht hx hl (by rw [hy]; exact hc) (by rw [hy]; exact hok) (by simp [h1]) rfl (by omega)
 have e1 : l.take o ++ [v] ++ l.drop (o + [v].length) = l.set o v := by
  rw [List.set_eq_take_append_cons_drop, if_pos hlt]; simp
 rw [e1, ho] at this
 exact this
theorem e_stK {t : TypeId} {b : Bool} {n : Nat} {x y : Operand} {i o : Nat} {l cs l' : List AV} {own' : List Ent} (hx : lookO env x = .opt i o) (hl : own[i]? = some (.box l)) (hc : cellsA (lookO env y) = some cs) (ht : tyInfo P t = some (b, n)) (hok : okPart (lookO env y) = true) (h1 : cs.all oneA = true) (hn : cs.length = n) (hs : l.take o ++ cs ++ l.drop (o + cs.length) = l') (ho : own.set i (.box l') = own') (hlt : o + n ≤ l.length) :
 Eff P m ⟨dst, .store t x y, ty, pos, af, gd⟩ env own [i] (.d (.v undef)) own' := by
 have := e_st_box (P := P) (m := m) (dst := dst) (ty := ty) (pos := pos) (af := af) (gd := gd) ht hx hl hc hok h1 hn hlt
 rw [hs, ho] at this
 exact this
theorem q_slc_oslU {t e e' : TypeId} {sz by' : Nat} {z : Value} {x lo hi : Operand} {p ver n : Nat} {l : List (List Dat)} (va vb : Nat) (hx : lookO env x = .osl p ver 0 n) (hp : own[p]? = some (.row ver sz e' l)) (ht : slInfo P t = some (e, sz, by', z))
 (h1 : bnd env (some lo) 0 va) (h2 : bnd env (some hi) 0 vb) (hab : va ≤ vb) (hbn : vb ≤ l.length) : Quiet P m ⟨dst, .slice t x (some lo) (some hi) none, ty, pos, af, gd⟩ env own [p] (.osl p ver va (vb - va)) :=
 Quiet.val fun F own' κ a w hs ho hsame _ => by
  have hh := hs x (by simp [Op.operands]); rw [hx, AV.sat] at hh
  have hp' : own'[p]? = some (.row ver sz e' l) := by rw [hsame p (by simp)]; exact hp
  obtain ⟨h3, A, c, h4, h5, h6, h7⟩ := hh.2 sz e' l hp'
  obtain ⟨he, i, hi1, hi2, _, _⟩ := slInfo_spec ht
  have h7 := h7 (.inr rfl)
  have hcl : vb ≤ c := by
   obtain ⟨h0, hent⟩ := ho.ent p _ hp'
   rcases h7 with ⟨g, g1, _, cur, e3, fz, g3, g4⟩ | ⟨g1, _, _⟩
   ·rw [getD_some g1] at hent
    rcases hent with ⟨hxx, _⟩ | ⟨g', hg', cur', k5, k6, _⟩
    ·cases hxx
    ·obtain rfl : g = g' := by simpa using hg'
     rw [g3] at k5
     obtain ⟨rfl, _, _⟩ : cur = cur' ∧ e3 = e' ∧ fz = (0, 0) := by simpa using k5
     rw [← g4, Nat.zero_add] at k6
     have := Nat.le_of_mul_le_mul_right k6 h0
     omega
   ·have hgd : κ.getD p none = none := by simp [List.getD_eq_getElem?_getD, g1]
    rw [hgd] at hent
    rcases hent with ⟨_, rfl⟩ | ⟨g', hg', _⟩
    ·simp at hbn; omega
    ·cases hg'
  have hb := run_bounds (P := P) (a := a) (mx := none) true (fun y hy => hs y (mem_slice (x := x) (t := t) hy)) h1 (show bnd env (some hi) n vb from h2) (show bnd env none c c from rfl) hab hcl (Nat.le_refl _) (.inl rfl)
  refine ⟨.slice (if c = va then A else A.map (·.add (va * sz))) (vb - va) (c - va), exec_v ?_, ?_⟩
  ·simp only [Option.map_none, Option.map_some] at hb
   simp [h4, Instr.sliceAt, run_underlying he, Instr.slice, hb, sizeOf, typeInfo, hi1, hi2]
  ·rw [AV.sat]
   refine ⟨by obtain ⟨y1, y2, y3, _⟩ := hh.1; exact ⟨y1, y2, y3, rfl⟩, fun sz2 e2 c2 hc => ?_⟩
   rw [hp'] at hc
   obtain ⟨rfl, rfl, rfl⟩ : sz = sz2 ∧ e' = e2 ∧ l = c2 := by simpa using hc
   refine ⟨by omega, _, c - va, rfl, by omega, by omega, fun hpos => ?_⟩
   rcases h7 with ⟨g, g1, rfl, cur, e3, fz, g3, g4⟩ | ⟨g1, rfl, rfl⟩
   ·refine .inl ⟨g, g1, ?_, cur, e3, fz, g3, by rw [show va + (c - va) = 0 + c by omega]; exact g4⟩
    split
    ·have : va = 0 := by omega
     subst this; rfl
    ·simp [add_none]
   ·refine .inr ⟨g1, ?_, by omega⟩
    split <;> simp
theorem e_appDel {t e : TypeId} {sz by' : Nat} {z : Value} {x y : Operand} {p ver k : Nat} {l l' : List (List Dat)} {own' : List Ent} (hx : lookO env x = .osl p ver 0 0) (hp : own[p]? = some (.row ver sz e l)) (hy : lookO env y = .osl p ver 1 k) (ht : slInfo P t = some (e, sz, by', z)) (hk : l.length = k + 1) (hl' : l.drop 1 ++ l.drop k = l') (ho' : setF own p (.row (ver + 1) sz e l') = some own') :
 Eff P m ⟨dst, .call ⟨.builtin .append, #[x, y], #[t, t]⟩, ty, pos, af, gd⟩ env own [p] (.osl p (ver + 1) 0 k) own' := by
 subst hl'
 rw [setF_spec ho']
 refine Eff.mk (set_same _ p) fun F κ a w hs ho hmk => ?_
 have hx1 := hs x (by simp [Op.operands, Call.operands]); rw [hx] at hx1
 have hy1 := hs y (by simp [Op.operands, Call.operands]); rw [hy] at hy1
 have hx2 := hx1
 rw [AV.sat] at hx2
 obtain ⟨_, A, c, h4, h5, h6, h7⟩ := hx2.2 sz e l hp
 obtain ⟨he, inf, hi1, rfl, hib, hzz⟩ := slInfo_spec ht
 rcases h7 (.inr rfl) with ⟨g, g1, hA, cur2, e3, fz, g3, g4⟩ | ⟨g1, _, _⟩
 rotate_left
 ·obtain ⟨h0, hent⟩ := ho.ent p _ hp
  have hgd : κ.getD p none = none := by simp [List.getD_eq_getElem?_getD, g1]
  rw [hgd] at hent
  rcases hent with ⟨_, rfl⟩ | ⟨g', hg', _⟩
  ·simp at hk
  ·cases hg'
 obtain ⟨h0, cur, k5, k6, k7⟩ := row_cells ho hp g1
 rw [g3] at k5
 obtain ⟨rfl, rfl, rfl⟩ : cur2 = cur ∧ e3 = e ∧ fz = (0, 0) := by simpa using k5
 rw [Nat.zero_mul] at hA
 subst hA
 rw [Nat.zero_add] at g4
 have hck : k + 1 ≤ c := by
  rw [hk, ← g4] at k6
  exact Nat.le_of_mul_le_mul_right k6 h0
 have hks : (k + 1) * inf.size = k * inf.size + inf.size := Nat.succ_mul _ _
 rw [hk] at k6
 -- the cells that are moved
 have hcl : cur2.toList.length = cur2.size := Array.length_toList
 have hnl : ((cur2.toList.drop inf.size).take (k * inf.size)).length = k * inf.size := by rw [List.length_take, List.length_drop]; omega
 have hng : ∀ j u, ((cur2.toList.drop inf.size).take (k * inf.size))[j]? = some u → j < k * inf.size ∧ cur2[inf.size + j]? = some u := fun j u hj => by
  have hjl := (List.getElem?_eq_some_iff.1 hj).1
  rw [hnl] at hjl
  rw [List.getElem?_take, if_pos hjl, List.getElem?_drop, Array.getElem?_toList] at hj
  exact ⟨hjl, hj⟩
 have hat : ∀ x, x < (k + 1) * inf.size → ∃ e2 d, l[x / inf.size]? = some e2 ∧ e2[x % inf.size]? = some d ∧ ∃ u, cur2[x]? = some u ∧ u.oneCell' = true ∧ Dat.sat (badK F κ) w d u := fun x hx => by
  have hd : x / inf.size < k + 1 := Nat.div_lt_of_lt_mul (by rw [Nat.mul_comm]; exact hx)
  have hm := Nat.mod_lt x h0
  have hll : x / inf.size < l.length := by omega
  obtain ⟨q1, q2⟩ := k7 _ _ (List.getElem?_eq_getElem hll)
  obtain ⟨u, r1, r2, r3⟩ := q2 (x % inf.size) _ (List.getElem?_eq_getElem (by omega))
  rw [Nat.mul_comm, Nat.div_add_mod] at r1
  exact ⟨_, _, List.getElem?_eq_getElem hll, List.getElem?_eq_getElem (by omega), u, r1, r2, r3⟩
 have hone : ∀ u ∈ (cur2.toList.drop inf.size).take (k * inf.size), u.oneCell' = true := fun u hu => by
  obtain ⟨j, hj⟩ := List.mem_iff_getElem?.1 hu
  obtain ⟨hjl, hjc⟩ := hng j u hj
  obtain ⟨_, _, _, _, u', r1, r2, _⟩ := hat (inf.size + j) (by omega)
  rw [hjc] at r1
  rw [Option.some.inj r1]; exact r2
 have key : ∃ w', (Builtin.append_ #[t, t] ty #[a.eval x, a.eval y]).run P w = .ok (.slice (some ⟨g, 0, none⟩) k c) w' ∧ w' = w.setRow g ((cur2.toList.drop inf.size).take (k * inf.size) ++ cur2.toList.drop (k * inf.size)).toArray := by
  rcases Nat.eq_zero_or_pos k with h | h
  ·subst h
   rw [AV.sat] at hy1
   obtain ⟨_, B, c2, hyv, _, _, _⟩ := hy1.2 inf.size e3 l hp
   have hf : (Builtin.firstCells inf.size 0 (.slice B 0 c2)).run P w = .ok #[] w := by
    cases B with
    | none => exact run_firstCells_none w inf.size 0 0 c2
    | some b => exact run_firstCells_some w inf.size 0 b 0 c2 [] (by simp) (fun j v hj => by simp at hj)
   refine ⟨w, ?_, ?_⟩
   ·rw [h4, hyv]
    simp [Builtin.append_, run_underlying he, sizeOf, typeInfo, hi1, Builtin.lenOf, hf, storeCells]
   ·have e1 : ((cur2.toList.drop inf.size).take (0 * inf.size) ++ cur2.toList.drop (0 * inf.size)).toArray = cur2 := by simp
    rw [e1]
    have hh := setRow_self w g cur2 e3 (0, 0) g3
    exact hh.symm
  ·obtain ⟨_, g2, c2, hg2, hyv⟩ := sat_slice_own hp hy1 h
   obtain rfl : g = g2 := by rw [g1] at hg2; simpa using hg2
   have hrun := run_append_room (P := P) w t ty e3 inf he hi1 g 0 c cur2 g3 ⟨g, 1 * inf.size, none⟩ k c2 ((cur2.toList.drop inf.size).take (k * inf.size)) hnl (fun j u hj => by
    obtain ⟨_, hjc⟩ := hng j u hj
    rw [add_none, cell_of_row w g _ cur2 e3 (0, 0) g3, Nat.one_mul]
    exact hjc) hone (by omega) (by rw [hnl]; omega)
   refine ⟨_, by rw [h4, hyv, hrun, Nat.zero_add], ?_⟩
   rw [hnl, Nat.zero_mul, List.take_zero, List.nil_append, Nat.zero_add]
 obtain ⟨w', hrun, rfl⟩ := key
 rw [run_builtin_append (dst := dst) (pos := pos) (af := af) (gd := gd) hrun]
 have hrow := setRow_heap w g cur2 ((cur2.toList.drop inf.size).take (k * inf.size) ++ cur2.toList.drop (k * inf.size)).toArray e3 (0, 0) g3
 have hpl : p < own.length := (List.getElem?_eq_some_iff.1 hp).1
 have hκ := setK_same g1
 have hsz : ((cur2.toList.drop inf.size).take (k * inf.size) ++ cur2.toList.drop (k * inf.size)).toArray.size = cur2.size := by
  rw [List.size_toArray, List.length_append, hnl, List.length_drop, hcl]; omega
 have hll : (l.drop 1 ++ l.drop k).length = k + 1 := by rw [List.length_append, List.length_drop, List.length_drop]; omega
 obtain ⟨r1, r2⟩ := step_upd (m := m) (x' := .row (ver + 1) inf.size e3 (l.drop 1 ++ l.drop k)) (og := some g) (og' := some g) (w' := w.setRow g ((cur2.toList.drop inf.size).take (k * inf.size) ++ cur2.toList.drop (k * inf.size)).toArray) ho hp g1 rfl rfl rfl (by simp [World.setRow]) (fun b hb hne => by
  simp only [World.setRow, Array.getElem?_modify]
  rw [if_neg (fun e => hne (by rw [e]))]) (.inl rfl) (.inr rfl) (.inl (Nat.lt_succ_self ver)) (fun hst => ⟨h0, .inr ⟨g, rfl, _, hrow, by rw [hll, hsz]; exact k6, by
   rw [Dat.rowsSat_iff]
   intro j e2 hj
   have hjl : j < k + 1 := by rw [← hll]; exact (List.getElem?_eq_some_iff.1 hj).1
   have hnew : ∀ x, (((cur2.toList.drop inf.size).take (k * inf.size) ++ cur2.toList.drop (k * inf.size)).toArray)[x]? = if x < k * inf.size then cur2[inf.size + x]? else cur2[x]? := fun x => by
    rw [List.getElem?_toArray]
    by_cases hx : x < k * inf.size
    ·rw [if_pos hx, List.getElem?_append_left (by rw [hnl]; exact hx), List.getElem?_take, if_pos hx, List.getElem?_drop, Array.getElem?_toList]
    ·rw [if_neg hx, List.getElem?_append_right (by rw [hnl]; omega), hnl, List.getElem?_drop, Array.getElem?_toList, show k * inf.size + (x - k * inf.size) = x by omega]
   have hdl : (l.drop 1).length = k := by rw [List.length_drop]; omega
   by_cases hjk : j < k
   ·rw [List.getElem?_append_left (by omega), List.getElem?_drop] at hj
    obtain ⟨q1, q2⟩ := k7 _ _ hj
    refine ⟨q1, ?_⟩
    rw [Dat.rowSat_iff]
    intro q d hq
    obtain ⟨u, s1, s2, s3⟩ := q2 q d hq
    have hql : q < inf.size := by have := (List.getElem?_eq_some_iff.1 hq).1; omega
    have hjs := Nat.mul_le_mul_right inf.size (show j + 1 ≤ k from hjk)
    rw [Nat.succ_mul] at hjs
    refine ⟨u, ?_, s2, Dat.sat_wide hst.wide d s3⟩
    rw [cell_of_row _ g _ _ e3 (0, 0) hrow, Nat.zero_add, hnew, if_pos (by omega), ← s1]
    congr 1
    rw [Nat.add_mul, Nat.one_mul]; omega
   ·have hjk : j = k := by omega
    subst hjk
    rw [List.getElem?_append_right (by omega), hdl, Nat.sub_self, List.getElem?_drop, Nat.add_zero] at hj
    obtain ⟨q1, q2⟩ := k7 _ _ hj
    refine ⟨q1, ?_⟩
    rw [Dat.rowSat_iff]
    intro q d hq
    obtain ⟨u, s1, s2, s3⟩ := q2 q d hq
    refine ⟨u, ?_, s2, Dat.sat_wide hst.wide d s3⟩
    rw [cell_of_row _ g _ _ e3 (0, 0) hrow, Nat.zero_add, hnew, if_neg (by omega)]
    exact s1⟩⟩)
 refine ⟨_, ?_, r1, r2⟩
 rw [AV.sat]
 have hself : (own.set p (.row (ver + 1) inf.size e3 (l.drop 1 ++ l.drop k)))[p]? = some (.row (ver + 1) inf.size e3 (l.drop 1 ++ l.drop k)) := by rw [List.getElem?_set_self hpl]
 refine ⟨⟨_, hself, Nat.le_refl _, rfl⟩, fun sz2 e2 c2 hc => ?_⟩
 rw [hself] at hc
 obtain ⟨rfl, rfl, rfl⟩ : inf.size = sz2 ∧ e3 = e2 ∧ l.drop 1 ++ l.drop k = c2 := by simpa using hc
 rw [hκ]
 exact ⟨by omega, some ⟨g, 0, none⟩, c, rfl, by omega, h6, fun _ => .inl ⟨g, g1, by rw [Nat.zero_mul], _, _, _, hrow, by rw [Nat.zero_add, hsz]; exact g4⟩⟩
end
end
section
abbrev Us := Int × Int × Int
abbrev SRw := Int × Int × List Us
def usD (u : Us) : List Dat := [.v (.int .i64 u.1), .v (.int .i64 u.2.1), .v (.int .i64 u.2.2)]
def rwD (r : SRw) : List Dat := [.v (.int .i64 r.1), .v (.int .i64 r.2.1), .sl 3 (r.2.2.map usD)]
abbrev rws (l : List SRw) : AV := .d (.sl 3 (l.map rwD))
abbrev rwA (r : SRw) : AV := .agg ((rwD r).map .d)
def rw0 : SRw := (0, 0, [])
def spD (s : Nat × Int) : List Dat := [.v (.int .i64 s.1), .v (.int .i64 s.2)]
def strTo (rows : List SRw) (c : Int) (n : Nat) : List (Nat × Int) := ((List.range n).map fun i => if (rows.getD i rw0).1 = c then (rows.getD i rw0).2.2.map fun u => (i, u.1) else []).flatten
def strN (rows : List SRw) (c : Int) : List (Nat × Int) := strTo rows c rows.length
theorem strTo_succ (rows : List SRw) (c : Int) (n : Nat) : strTo rows c (n + 1) = strTo rows c n ++ (if (rows.getD n rw0).1 = c then (rows.getD n rw0).2.2.map fun u => (n, u.1) else []) := by
 unfold strTo
 rw [List.range_succ, List.map_append, List.flatten_append]; simp
def strAt (rows : List SRw) (c : Int) (i k : Nat) : List (Nat × Int) := strTo rows c i ++ ((rows.getD i rw0).2.2.take k).map fun u => (i, u.1)
theorem strAt_zero (rows : List SRw) (c : Int) (i : Nat) : strAt rows c i 0 = strTo rows c i := by unfold strAt; simp
theorem getDr {rows : List SRw} {i : Nat} (h : i < rows.length) : rows.getD i rw0 = rows[i] := by rw [List.getD_eq_getElem?_getD, List.getElem?_eq_getElem h]; rfl
theorem strAt_succ {rows : List SRw} {c : Int} {i k : Nat} (hi : i < rows.length) (hk : k < rows[i].2.2.length) : strAt rows c i (k + 1) = strAt rows c i k ++ [(i, rows[i].2.2[k].1)] := by
 unfold strAt
 rw [getDr hi, List.take_succ_eq_append_getElem hk, List.map_append, List.append_assoc]; rfl
theorem strAt_next {rows : List SRw} {c : Int} {i : Nat} (hi : i < rows.length) (hc : rows[i].1 = c) : strAt rows c i rows[i].2.2.length = strTo rows c (i + 1) := by
 rw [strTo_succ, getDr hi, if_pos hc]
 unfold strAt
 rw [getDr hi, List.take_length]
theorem strTo_skip {rows : List SRw} {c : Int} {i : Nat} (hi : i < rows.length) (hc : rows[i].1 ≠ c) : strTo rows c (i + 1) = strTo rows c i := by
 rw [strTo_succ, getDr hi, if_neg hc, List.append_nil]
theorem str_head {rows : List SRw} {c : Int} {s : Nat × Int} {t : List (Nat × Int)} : ∀ n, n ≤ rows.length → strTo rows c n = s :: t → ∃ (i : Nat) (hi : i < rows.length), i < n ∧ rows[i].1 = c ∧ strTo rows c i = [] ∧ ∃ (u : Us) (us : List Us), rows[i].2.2 = u :: us ∧ s = (i, u.1)
 | 0, _, h => by simp [strTo] at h
 | n + 1, hn, h => by
   cases hq : strTo rows c n with
   | nil =>
     rw [strTo_succ, hq, List.nil_append, getDr (show n < rows.length by omega)] at h
     split at h
     ·rename_i hc
      cases hu : rows[n].2.2 with
      | nil => rw [hu] at h; cases h
      | cons u us =>
        rw [hu, List.map_cons] at h
        injection h with h1 h2
        exact ⟨n, by omega, by omega, hc, hq, u, us, hu, h1.symm⟩
     ·cases h
   | cons s2 t2 =>
     rw [strTo_succ, hq, List.cons_append] at h
     injection h with h1 h2
     subst h1
     obtain ⟨i, hi, h3, h4⟩ := str_head n (by omega) hq
     exact ⟨i, hi, by omega, h4⟩
def relRow (r : SRw) : SRw := match r.2.2 with | _ :: u :: us => (r.1, r.2.1, u :: us) | _ => (-1, 0, [])
theorem strTo_set_lt {rows : List SRw} {c : Int} {i : Nat} {r : SRw} : ∀ n, n ≤ i → strTo (rows.set i r) c n = strTo rows c n
 | 0, _ => rfl
 | n + 1, h => by
   rw [strTo_succ, strTo_succ, strTo_set_lt n (by omega)]
   have e : (rows.set i r).getD n rw0 = rows.getD n rw0 := by
    rw [List.getD_eq_getElem?_getD, List.getElem?_set_ne (by omega), List.getD_eq_getElem?_getD]
   rw [e]
theorem strTo_rel {rows : List SRw} {c : Int} {i : Nat} (hi : i < rows.length) (h0 : strTo rows c i = []) (hc : rows[i].1 = c) (hc0 : c ≠ -1) {u : Us} {us : List Us} (hu : rows[i].2.2 = u :: us) : ∀ n, i < n → n ≤ rows.length → strTo rows c n = (i, u.1) :: strTo (rows.set i (relRow rows[i])) c n
 | 0, h, _ => by omega
 | n + 1, h, hn => by
   rw [strTo_succ, strTo_succ]
   by_cases e : n = i
   ·subst e
    rw [h0, strTo_set_lt n (Nat.le_refl _), h0, List.nil_append, List.nil_append, getDr hi, if_pos hc, hu]
    have e2 : (rows.set n (relRow rows[n])).getD n rw0 = relRow rows[n] := by
     rw [List.getD_eq_getElem?_getD, List.getElem?_set_self hi]; rfl
    rw [e2]
    unfold relRow
    rw [hu]
    cases us with
    | nil => simp [Ne.symm hc0]
    | cons u2 us => simp [hc]
   ·have e2 : (rows.set i (relRow rows[i])).getD n rw0 = rows.getD n rw0 := by
     rw [List.getD_eq_getElem?_getD, List.getElem?_set_ne (by omega), List.getD_eq_getElem?_getD]
    rw [strTo_rel hi h0 hc hc0 hu n (by omega) (by omega), e2]; rfl
theorem str_rel {rows : List SRw} {c : Int} {s : Nat × Int} {t : List (Nat × Int)} (hc0 : c ≠ -1) (h : strN rows c = s :: t) : ∃ (i : Nat) (hi : i < rows.length) (u : Us) (us : List Us), rows[i].2.2 = u :: us ∧ s = (i, u.1) ∧ strN (rows.set i (relRow rows[i])) c = t := by
 obtain ⟨i, hi, hin, hc, h0, u, us, hu, hs⟩ := str_head rows.length (Nat.le_refl _) h
 refine ⟨i, hi, u, us, hu, hs, ?_⟩
 have h1 := strTo_rel hi h0 hc hc0 hu rows.length hin (Nat.le_refl _)
 have h2 : strTo rows c rows.length = s :: t := h
 rw [h2] at h1
 injection h1 with _ h3
 unfold strN
 rw [List.length_set]
 exact h3.symm
end
section
structure RwIn (rows : List SRw) : Prop where
 l : rows.length ≤ 12
 u : ∀ (i : Nat) (hi : i < rows.length), rows[i].2.2.length ≤ 64
theorem strTo_len {rows : List SRw} {c : Int} (h : RwIn rows) : ∀ n, n ≤ rows.length → (strTo rows c n).length ≤ n * 64
 | 0, _ => by simp [strTo]
 | n + 1, hn => by
   have h1 := strTo_len (c := c) h n (by omega)
   have h2 := h.u n (by omega)
   rw [strTo_succ, getDr (show n < rows.length by omega), List.length_append]
   split
   ·rw [List.length_map]; omega
   ·simp only [List.length_nil]; omega
theorem strAt_len {rows : List SRw} {c : Int} (h : RwIn rows) {i k : Nat} (hi : i < rows.length) : (strAt rows c i k).length ≤ 1000 := by
 have h1 := strTo_len (c := c) h i (by omega)
 have h2 := h.u i hi
 have h3 := h.l
 unfold strAt
 rw [getDr hi, List.length_append, List.length_map, List.length_take]
 omega
theorem strN_len {rows : List SRw} {c : Int} (h : RwIn rows) : (strN rows c).length ≤ 1000 := by
 have h1 := strTo_len (c := c) h rows.length (by omega)
 have h3 := h.l
 unfold strN
 omega
abbrev sps (l : List (Nat × Int)) : AV := .d (.sl 2 (l.map spD))
attribute [local irreducible] Quiet Eff OpOk AWPG ACont ABlock ACalls AGoto
theorem A_of0 {rows : List SRw} {c : Int} : ACalls Tryz.prog 129 [rws rows, iV c] [] (.fn 195 [.opt 0 0, .opt 1 0]) [.box [rws rows], .box [iV c]] := by
 refine acalls_of_bodyO Tryz.func129 rfl (Nat.le_of_ble_eq_true rfl) ?_
 (repeat' (first
  |(apply W.qd; (first
  |(apply q_as; (conv => lhs; whnf))
  |(apply q_makeFunc)))|(apply W.ed; (apply yBb; (iterate 3 exact rfl); kernel_rfl; kernel_rfl))|(apply yA)|(apply yB)|(apply yC; kernel_rfl)|(apply yE)
  |(apply yJ)))
 exact ⟨.inl rfl, [0, 1], [.fn 195 [.opt 0 0, .opt 1 0]], rfl, rfl, ⟨rfl, trivial⟩, AVle.of_eq rfl, rfl⟩
theorem A_ofIter {rows : List SRw} {c : Int} {L : Ent} {e0 e1 : List (Nat × Int) → Ent} (h : RwIn rows)
 (hcl : ∀ (p : List (Nat × Int)) (Y : List Ent), selOwn (e0 p :: e1 p :: .box [rws rows] :: .box [iV c] :: L :: Y) [0, 1, 2, 3, 4] = [e0 p, e1 p, .box [rws rows], .box [iV c], L])
 (hY : ∀ i (hi : i < rows.length), rows[i].1 = c → YAt Tryz.prog 4 [e0 (strTo rows c i), e1 (strTo rows c i), .box [rws rows], .box [iV c], L, .box ((rwD rows[i]).map .d)] [iV i, rwA rows[i]] true [e0 (strTo rows c (i + 1)), e1 (strTo rows c (i + 1)), .box [rws rows], .box [iV c], L, .box ((rwD rows[i]).map .d)]) :
 ACalls Tryz.prog 195 [.yl 4, .opt 2 0, .opt 3 0] [e0 (strTo rows c 0), e1 (strTo rows c 0), .box [rws rows], .box [iV c], L] (.tup []) [e0 (strN rows c), e1 (strN rows c), .box [rws rows], .box [iV c], L] := by
 refine acalls_of_bodyS Tryz.func195 rfl (Nat.le_of_ble_eq_true rfl) ?_
 have hm : (rows.map rwD).length = rows.length := List.length_map _
 have hrl := h.l
 (repeat' (first
  |(apply W.qd; (first
  |(apply q_mv; (conv => lhs; whnf))|(exact yT rfl rfl rfl rfl)
  |(exact yV rfl rfl)))|(apply yA)|(apply yB)|(apply (W.regionS 1); exact rfl; kernel_rfl)|(apply yE)
  |(apply yG)))
 refine AWP.loopW (α := Nat) (fun i => i ≤ rows.length) (fun i => ⟨[(8, iV i), (7, iV rows.length), (6, rws rows), (0, .yl 4), (1, .opt 2 0), (2, .opt 3 0)], [e0 (strTo rows c i), e1 (strTo rows c i), .box [rws rows], .box [iV c], L]⟩) (fun i => rows.length - i) 0 (Nat.zero_le _) ?wkA fun i hi => ?_
 case wkA =>
  refine ⟨[0, 1, 2, 3, 4], rfl, rfl, ?_, rfl, iV_eq (by rw [hm]), rfl, rfl, rfl, rfl, trivial⟩
  exact (hcl (strTo rows c 0) []).symm
 by_cases hil : i < rows.length
 ·by_cases hc : rows[i].1 = c
  ·have hy := hY i hil hc
   (repeat' (first
    |(apply yFb; exact rfl; exact rfl)
    |(apply W.qd; (first
    |(apply q_mv; (conv => lhs; whnf))|(apply q_as; (conv => lhs; whnf))|(exact yS rfl rfl rfl)|(exact yT rfl rfl rfl rfl)|(exact yU rfl rfl rfl rfl)|(exact q_lss rfl rfl)|(exact q_eql rfl rfl)|(exact q_not rfl)|(exact q_add rfl rfl (by omega))|(apply yY; (iterate 3 exact rfl); (first | omega | (focus (simp; done))))|(apply yGb; (iterate 4 exact rfl); (first | (with_reducible exact rfl) | exact natI_spec rfl | assumption | exact (Int.toNat_of_nonneg (by omega)).symm); (first | omega | (focus (simp only [List.length_map]; omega)) | (focus (simp; done)) | (focus (simp; omega))))
    |(apply (yEb (u := .d _)); exact rfl; exact rfl)))
    |(apply W.ed; (first
    |((exact e_yield hy rfl rfl))
    |(apply yCb; (iterate 3 exact rfl); kernel_rfl)))|(apply W.ln; (apply l_st_box; (iterate 6 exact rfl); (iterate 3 kernel_rfl)))|(apply yA)|(apply yB)|(apply yC; kernel_rfl)|(apply yE)|(apply yG)|(apply yH)|(apply yL)|(apply yR; exact rfl)|(refine W.gT _ _ rfl rfl (fun hb => ?_) (fun hb => ?_) <;> ((try simp only [hb, zK]) <;> (try simp only [zL, zI] at hb) <;> (try (exfalso; omega))))
    |(refine W.cond _ rfl (fun hb => ?_) (fun hb => ?_) <;> ((try simp only [hb, zK]) <;> (try simp only [zL, zI] at hb) <;> (try (exfalso; omega))))))
   all_goals first
    |(exfalso; omega)|(refine ⟨i + 1, by omega, by omega, [0, 1, 2, 3, 4], rfl, rfl, ?_, iV_eq (by omega), rfl, rfl, rfl, rfl, rfl, trivial⟩; exact (hcl (strTo rows c (i + 1)) [_]).symm)
  ·have hs := strTo_skip hil hc
   (repeat' (first
    |(apply W.qd; (first
    |(apply q_mv; (conv => lhs; whnf))|(apply q_as; (conv => lhs; whnf))|(exact yS rfl rfl rfl)|(exact yT rfl rfl rfl rfl)|(exact q_lss rfl rfl)|(exact q_eql rfl rfl)|(exact q_add rfl rfl (by omega))|(apply yY; (iterate 3 exact rfl); (first | omega | (focus (simp; done))))|(apply yGb; (iterate 4 exact rfl); (first | (with_reducible exact rfl) | exact natI_spec rfl | assumption | exact (Int.toNat_of_nonneg (by omega)).symm); (first | omega | (focus (simp only [List.length_map]; omega)) | (focus (simp; done)) | (focus (simp; omega))))
    |(apply (yDb (u := .d _)); exact rfl; exact rfl)))|(apply W.ed; (apply yCb; (iterate 3 exact rfl); kernel_rfl))|(apply W.ln; (apply l_st_box; (iterate 6 exact rfl); (iterate 3 kernel_rfl)))|(refine W.gOff _ _ rfl rfl (by intro h; cases h) ?_)|(apply yA)|(apply yB)|(apply yC; kernel_rfl)|(apply yE)|(apply yG)|(apply yH)|(apply yL)|(apply yR; exact rfl)|(refine W.gT _ _ rfl rfl (fun hb => ?_) (fun hb => ?_) <;> ((try simp only [hb, zK]) <;> (try simp only [zL, zI] at hb) <;> (try (exfalso; omega))))
    |(refine W.cond _ rfl (fun hb => ?_) (fun hb => ?_) <;> ((try simp only [hb, zK]) <;> (try simp only [zL, zI] at hb) <;> (try (exfalso; omega))))))
   all_goals first
    |(exfalso; omega)|(refine ⟨i + 1, by omega, by omega, [0, 1, 2, 3, 4], rfl, rfl, ?_, iV_eq (by omega), rfl, rfl, rfl, rfl, rfl, trivial⟩; dsimp only; rw [hs]; exact (hcl (strTo rows c i) [_]).symm)
 ·obtain rfl : i = rows.length := by omega
  (repeat' (first
   |(apply W.qd; (exact q_lss rfl rfl))|(apply yA)|(apply yB)|(apply yC; kernel_rfl)|(apply yE)|(apply yI)|(apply yK)|(apply yM)
   |(refine W.cond _ rfl (fun hb => ?_) (fun hb => ?_) <;> ((try simp only [hb, zK]) <;> (try simp only [zL, zI] at hb) <;> (try (exfalso; omega))))))
  exact ⟨.inr rfl, [], trivial, AVle.of_eq rfl, rfl⟩
theorem A_stripes {rows : List SRw} {c : Int} (h : RwIn rows) : ACalls Tryz.prog 75 [rws rows, iV c] [] (sps (strN rows c)) [] := by
 refine acalls_of_body Tryz.func75 rfl (Nat.le_of_ble_eq_true rfl) ?_
 have hof := A_of0 (rows := rows) (c := c)
 (repeat' (first
  |(apply W.ed; (apply yCb; (iterate 3 exact rfl); kernel_rfl))|(apply yA)|(apply yB)|(apply (W.regionS 1); exact rfl; kernel_rfl)
  |(apply yE)))
 refine AWP.nilBox (l' := [.osl 1 0 0 0]) 0 0 2 60 rfl rfl (by omega) rfl rfl rfl rfl ?_
 (repeat' (first
  |(apply W.qd; (apply q_mv; (conv => lhs; whnf)))|(apply W.ed; (apply (e_callJ (js := []) (hof)); (iterate 5 exact rfl); kernel_rfl; kernel_rfl))|(apply yB)|(apply yC; kernel_rfl)|(apply yE)
  |(apply yG)))
 refine AWP.wk ⟨[(11, .fn 195 [.opt 2 0, .opt 3 0]), (4, .opt 0 0)], [.box [.osl 1 (strTo rows c 0).length 0 (strTo rows c 0).length], .row (strTo rows c 0).length 2 60 ((strTo rows c 0).map spD), .box [rws rows], .box [iV c]]⟩ ⟨[0, 1, 2, 3], rfl, rfl, rfl, by (repeat (first | exact trivial | refine ⟨rfl, ?_⟩))⟩ ?_
 refine AWP.range (s2 := ⟨[(4, .opt 0 0)], [.box [.osl 1 (strN rows c).length 0 (strN rows c).length], .row (strN rows c).length 2 60 ((strN rows c).map spD)]⟩) rfl (by kernel_rfl) (A_ofIter (e0 := fun p => .box [.osl 1 p.length 0 p.length]) (e1 := fun p => .row p.length 2 60 (p.map spD)) h (fun p Y => rfl) (fun i hi hc => ?_)) rfl (by decide) ⟨[0, 1], rfl, rfl, rfl, by (repeat (first | exact trivial | refine ⟨rfl, ?_⟩))⟩ ?_
 ·have hu := h.u i hi
  have hmu : (rows[i].2.2.map usD).length = rows[i].2.2.length := List.length_map _
  have hlen := fun k => strAt_len (c := c) (k := k) h hi
  have hsu := fun k (hk : k < rows[i].2.2.length) => strAt_succ (c := c) hi hk
  have hsn := strAt_next hi hc
  have hs0 := strAt_zero rows c i
  try dsimp only
  rw [← hs0, ← hsn]
  clear hsn hs0
  generalize hA : strAt rows c i = A at *
  rcases hR : rows[i] with ⟨rc, rw', us⟩
  rw [hR] at hu hmu hsu
  dsimp only at hu hmu hsu
  refine YAt.ok2 (own1 := [.box [.osl 1 (A us.length).length 0 (A us.length).length], .row (A us.length).length 2 60 ((A us.length).map spD), .box [rws rows], .box [iV c], .lp .busy none #[12, 13] _ _ _, .box ((rwD (rc, rw', us)).map .d)]) (s2 := ⟨[(5, iV i), (6, .opt 6 0), (4, .opt 0 0)], [.box [.osl 1 (A 0).length 0 (A 0).length], .row (A 0).length 2 60 ((A 0).map spD), .box [rws rows], .box [iV c], _, .box ((rwD (rc, rw', us)).map .d), .box ((rwD (rc, rw', us)).map .d)]⟩) rfl rfl rfl rfl (fun g => ?_) rfl (fun g => ?_) rfl rfl
  ·refine AWP.toW ?_
   (repeat' (first
    |(apply W.qd; (apply q_as; (conv => lhs; whnf)))|(apply W.ed; (apply yCb; (iterate 3 exact rfl); kernel_rfl))|(apply W.ln; (apply l_st_box; (iterate 6 exact rfl); (iterate 3 kernel_rfl)))|(apply yA)|(apply yB)|(apply yC; kernel_rfl)
    |(apply yE)))
   exact ⟨rfl, ⟨[0, 1, 2, 3, 4, 5, 6], rfl, rfl, rfl, by (repeat (first | exact trivial | refine ⟨rfl, ?_⟩))⟩⟩
  ·refine AWP.toO ?_
   refine gen_entE (motive := fun L => AWPG (Ctx.round g) Tryz.prog Tryz.f75.ntmps 6 _ (fun e s9 => e = .normal ∧ Wk 6 s9 ⟨[], [.box [.osl 1 (A us.length).length 0 (A us.length).length], .row (A us.length).length 2 60 ((A us.length).map spD), .box [rws rows], .box [iV c], L, .box ((rwD (rc, rw', us)).map .d)]⟩) ⟨[(5, iV i), (6, .opt 6 0), (4, .opt 0 0)], [.box [.osl 1 (A 0).length 0 (A 0).length], .row (A 0).length 2 60 ((A 0).map spD), .box [rws rows], .box [iV c], L, .box ((rwD (rc, rw', us)).map .d), .box ((rwD (rc, rw', us)).map .d)]⟩) _ fun L hL => ?_
   obtain ⟨cA, cB, hL⟩ : ∃ cA cB, L = .lp .busy none #[12, 13] cA cB (tmpsOf [(11, .fn 195 [.opt 2 0, .opt 3 0]), (4, .opt 0 0)] Tryz.f75.ntmps) := ⟨_, _, hL⟩
   subst hL
   (repeat' (first
    |(apply W.qd; (first
    |(apply q_mv; (conv => lhs; whnf))|(exact yS rfl rfl rfl)|(exact yT rfl rfl rfl rfl)
    |(exact yV rfl rfl)))|(apply yA)|(apply yB)|(apply (W.regionS 5); exact rfl; kernel_rfl)|(apply yE)
    |(apply yG)))
   refine AWP.loopW (α := Nat) (fun k => k ≤ us.length) (fun k => ⟨[(17, iV k), (16, iV us.length), (15, .d (.sl 3 (us.map usD))), (5, iV i), (4, .opt 0 0)], [.box [.osl 1 (A k).length 0 (A k).length], .row (A k).length 2 60 ((A k).map spD), .box [rws rows], .box [iV c], .lp .busy none #[12, 13] cA cB (tmpsOf [(11, .fn 195 [.opt 2 0, .opt 3 0]), (4, .opt 0 0)] Tryz.f75.ntmps), .box ((rwD (rc, rw', us)).map .d)]⟩) (fun k => us.length - k) 0 (Nat.zero_le _) ?wkB fun k hk => ?_
   case wkB => exact ⟨[0, 1, 2, 3, 4, 5], rfl, rfl, rfl, rfl, iV_eq (by rw [hmu]), rfl, rfl, rfl, trivial⟩
   by_cases hkl : k < us.length
   ·have e9 := hsu k hkl
    have hk1 := hlen k
    have ea : A (k + 1) = A k ++ [((i, us[k].1) : Nat × Int)] := e9
    have el : (A k ++ [((i, us[k].1) : Nat × Int)]).length = (A k).length + 1 := by simp
    clear hsu hlen e9
    generalize A k = Ak at *
    (repeat' (first
     |(apply W.qd; (first
     |(apply q_mv; (conv => lhs; whnf))|(exact yS rfl rfl rfl)|(exact yT rfl rfl rfl rfl)|(exact q_lss rfl rfl)|(exact q_add rfl rfl (by omega))|(apply yY; (iterate 3 exact rfl); (first | omega | (focus (simp; done))))|(apply yZ; exact rfl; exact rfl; kernel_rfl)|(apply q_litF; (iterate 5 exact rfl); kernel_rfl; kernel_rfl; exact rfl)
     |(apply yGb; (iterate 4 exact rfl); (first | (with_reducible exact rfl) | exact natI_spec rfl | assumption | exact (Int.toNat_of_nonneg (by omega)).symm); (first | omega | (focus (simp only [List.length_map]; omega)) | (focus (simp; done)) | (focus (simp; omega))))))
     |(apply W.ed; (first
     |((apply (e_app1F (f := spD) (i, us[k].1)); (iterate 8 exact rfl); omega))
     |(apply yCb; (iterate 3 exact rfl); kernel_rfl)))|(apply W.ln; (apply l_st_box; (iterate 6 exact rfl); (iterate 3 kernel_rfl)))|(apply yA)|(apply yB)|(apply yC; kernel_rfl)|(apply yE)|(apply yG)|(apply yH)|(apply yL)
     |(refine W.cond _ rfl (fun hb => ?_) (fun hb => ?_) <;> ((try simp only [hb, zK]) <;> (try simp only [zL, zI] at hb) <;> (try (exfalso; omega))))))
    refine ⟨k + 1, by omega, by omega, ?_⟩
    rw [ea, el]
    exact ⟨[0, 1, 2, 3, 4, 5], rfl, rfl, rfl, iV_eq (by omega), rfl, rfl, rfl, rfl, trivial⟩
   ·obtain rfl : k = us.length := by omega
    (repeat' (first
     |(apply W.qd; (exact q_lss rfl rfl))|(apply yA)|(apply yB)|(apply yC; kernel_rfl)|(apply yE)|(apply yI)|(apply yK)|(apply yL)|(apply yM)
     |(refine W.cond _ rfl (fun hb => ?_) (fun hb => ?_) <;> ((try simp only [hb, zK]) <;> (try simp only [zL, zI] at hb) <;> (try (exfalso; omega))))))
    exact ⟨rfl, ⟨[0, 1, 2, 3, 4, 5], rfl, rfl, rfl, by (repeat (first | exact trivial | refine ⟨rfl, ?_⟩))⟩⟩
 try dsimp only
 have hln := strN_len (c := c) h
 generalize strN rows c = A at *
 (repeat' (first
  |(apply W.qd; (exact yT rfl rfl rfl rfl))|(apply W.ln; (apply l_st_box; (iterate 6 exact rfl); (iterate 3 kernel_rfl)))|(apply yA)|(apply yB)|(apply yC; kernel_rfl)|(apply yE)|(apply yJ)
  |(apply yL)))
 exact ⟨.inl rfl, [], [.osl 1 A.length 0 A.length], rfl, ⟨⟨0, [.osl 1 A.length 0 A.length], false, rfl, rfl, rfl, rfl⟩, trivial⟩, AVle.of_eq (frz_rowJ rfl rfl (by simp)), rfl⟩
end
section
def chgB (vs : List Sv) (k : Int) : Bool := hasB vs.length k && !decide ((vs.getD k.toNat sv0).2.2.1 = -1)
def nextN (vs : List Sv) (k : Int) (rows : List SRw) : (Int × Int) × Int :=
 if hasB vs.length k = false then ((0, 0), 12) else if chgB vs k = false then ((0, 0), 19) else match strN rows (vs.getD k.toNat sv0).2.1 with
  | [] => ((0, 0), 12)
  | s :: _ => ((s.1, s.2), 0)
def leftN39 (vs : List Sv) (k : Int) (rows : List SRw) : Nat := if chgB vs k = true then (strN rows (vs.getD k.toNat sv0).2.1).length else 0
def doneB (vs : List Sv) (k : Int) (rows : List SRw) : Bool := chgB vs k && decide (leftN39 vs k rows = 0)
abbrev nxtA (p : (Int × Int) × Int) : AV := .tup [.agg [iV p.1.1, iV p.1.2], iV p.2]
theorem hasB_iff {n : Nat} {k : Int} : hasB n k = true ↔ 0 ≤ k ∧ k < (n : Int) := by unfold hasB; simp
theorem getV1 {vs : List Sv} {k : Int} (h : hasB vs.length k = true) : ∃ j : Nat, k = j ∧ ∃ hj : j < vs.length, vs.getD k.toNat sv0 = vs[j] := by
 obtain ⟨h1, h2⟩ := hasB_iff.1 h
 refine ⟨k.toNat, by omega, by omega, ?_⟩
 rw [List.getD_eq_getElem?_getD, List.getElem?_eq_getElem (by omega)]; rfl
attribute [local irreducible] Quiet Eff OpOk AWPG ACont ABlock ACalls AGoto
theorem A_changing {cs : List Cd} {vs : List Sv} {k : Int} : ACalls Tryz.prog 74 [lib cs vs, iV k] [] (if hasB vs.length k = true then .tup [iV (vs.getD k.toNat sv0).2.1, bV (chgB vs k)] else .tup [iV 0, bV false]) [] := by
 refine acalls_of_body Tryz.func74 rfl (Nat.le_of_ble_eq_true rfl) ?_
 have hm : (vs.map svD).length = vs.length := List.length_map _
 split
 ·rename_i hh
  have hch : chgB vs k = !decide ((vs.getD k.toNat sv0).2.2.1 = -1) := by unfold chgB; rw [hh, Bool.true_and]
  rw [hch]
  obtain ⟨j, rfl, hj, e⟩ := getV1 hh
  rw [e]
  (repeat' (first
   |(apply yFb; exact rfl; exact rfl)
   |(apply W.qd; (first
   |(apply q_mv; (conv => lhs; whnf))|(apply q_as; (conv => lhs; whnf))|(exact yS rfl rfl rfl)|(exact yT rfl rfl rfl rfl)|(exact q_lss rfl rfl)|(exact q_geq rfl rfl)|(exact q_neq rfl rfl)|(exact yV rfl rfl)|(apply yY; (iterate 3 exact rfl); (first | omega | (focus (simp; done))))|(apply yGb; (iterate 4 exact rfl); (first | (with_reducible exact rfl) | exact natI_spec rfl | assumption | exact (Int.toNat_of_nonneg (by omega)).symm); (first | omega | (focus (simp only [List.length_map]; omega)) | (focus (simp; done)) | (focus (simp; omega))))
   |(apply (yDb (u := .d _)); exact rfl; exact rfl)))
   |(apply W.ed; (first
   |(apply yBb; (iterate 3 exact rfl); kernel_rfl; kernel_rfl)
   |(apply yCb; (iterate 3 exact rfl); kernel_rfl)))|(apply W.ln; (apply l_st_box; (iterate 6 exact rfl); (iterate 3 kernel_rfl)))|(apply yA)|(apply yB)|(apply yC; kernel_rfl)|(apply yD; exact rfl; kernel_rfl)|(apply yE)|(apply yF; kernel_rfl)|(apply yH)|(apply yJ)
   |(refine W.cond _ rfl (fun hb => ?_) (fun hb => ?_) <;> ((try simp only [hb, zK]) <;> (try simp only [zL, zI] at hb) <;> (try (exfalso; omega))))))
  all_goals first | (exfalso; omega) | exact Ends.two rfl rfl rfl
 ·rename_i hh
  have hh : ¬ (0 ≤ k ∧ k < (vs.length : Int)) := fun h => hh (hasB_iff.2 h)
  (repeat' (first
   |(apply yFb; exact rfl; exact rfl)
   |(apply W.qd; (first
   |(apply q_mv; (conv => lhs; whnf))|(apply q_as; (conv => lhs; whnf))|(exact yS rfl rfl rfl)|(exact yT rfl rfl rfl rfl)|(exact q_lss rfl rfl)|(exact q_geq rfl rfl)|(exact yV rfl rfl)|(apply (yEb (u := .d _)); exact rfl; exact rfl)
   |(apply (yDb (u := .d _)); exact rfl; exact rfl)))|(apply W.ed; (apply yBb; (iterate 3 exact rfl); kernel_rfl; kernel_rfl))|(refine W.gOff _ _ rfl rfl (by intro h; cases h) ?_)|(apply yA)|(apply yB)|(apply yC; kernel_rfl)|(apply yE)|(apply yJ)|(apply yP)|(apply yQ; exact rfl)|(refine W.gF _ _ rfl rfl (fun hb => ?_) (fun hb => ?_) <;> ((try simp only [hb, zK]) <;> (try simp only [zL, zI] at hb) <;> (try (exfalso; omega))))
   |(refine W.cond _ rfl (fun hb => ?_) (fun hb => ?_) <;> ((try simp only [hb, zK]) <;> (try simp only [zL, zI] at hb) <;> (try (exfalso; omega))))))
  all_goals first | (exfalso; omega) | exact Ends.two rfl rfl rfl
theorem A_left39 {cs : List Cd} {vs : List Sv} {k : Int} {rows : List SRw} (h : RwIn rows) : ACalls Tryz.prog 30 [lib cs vs, iV k, rws rows] [] (iV (leftN39 vs k rows : Nat)) [] := by
 refine acalls_of_body Tryz.func30 rfl (Nat.le_of_ble_eq_true rfl) ?_
 have hc := A_changing (cs := cs) (vs := vs) (k := k)
 unfold leftN39
 by_cases hh : hasB vs.length k = true
 ·rw [if_pos hh] at hc
  cases hb9 : chgB vs k with
  | false =>
    rw [hb9] at hc
    rw [if_neg (by simp)]
    (repeat' (first
     |(apply W.qd; (first
     |(apply (yW (hc)); exact rfl; exact rfl; (iterate 3 kernel_rfl))|(apply q_mv; (conv => lhs; whnf))|(apply q_as; (conv => lhs; whnf))|(exact yU rfl rfl rfl rfl)|(exact q_not rfl)
     |(exact yAb rfl rfl)))|(apply W.ed; (apply yBb; (iterate 3 exact rfl); kernel_rfl; kernel_rfl))|(apply yA)|(apply yB)|(apply yC; kernel_rfl)|(apply yE)|(apply yJ)|(apply yP)
     |(apply yQ; exact rfl)))
    all_goals exact Ends.i rfl rfl
  | true =>
    rw [hb9] at hc
    rw [if_pos rfl]
    have hs := A_stripes (c := (vs.getD k.toNat sv0).2.1) h
    have hl := strN_len (c := (vs.getD k.toNat sv0).2.1) h
    generalize (vs.getD k.toNat sv0).2.1 = c at *
    generalize strN rows c = A at *
    have hmA : (A.map spD).length = A.length := List.length_map _
    (repeat' (first
     |(apply W.qd; (first
     |(apply (yW (hc)); exact rfl; exact rfl; (iterate 3 kernel_rfl))|(apply (yW (hs)); exact rfl; exact rfl; (iterate 3 kernel_rfl))|(apply q_mv; (conv => lhs; whnf))|(apply q_as; (conv => lhs; whnf))|(exact yU rfl rfl rfl rfl)|(exact q_not rfl)|(exact yAb rfl rfl)
     |(exact yV rfl rfl)))|(apply W.ed; (apply yBb; (iterate 3 exact rfl); kernel_rfl; kernel_rfl))|(apply yA)|(apply yB)|(apply yC; kernel_rfl)|(apply yE)|(apply yH)|(apply yJ)
     |(apply yR; exact rfl)))
    all_goals exact Ends.i rfl (by rw [hmA])
 ·rw [if_neg hh] at hc
  have hb9 : chgB vs k = false := by unfold chgB; rw [Bool.eq_false_iff.2 hh]; rfl
  rw [hb9, if_neg (by simp)]
  (repeat' (first
   |(apply W.qd; (first
   |(apply (yW (hc)); exact rfl; exact rfl; (iterate 3 kernel_rfl))|(apply q_mv; (conv => lhs; whnf))|(apply q_as; (conv => lhs; whnf))|(exact yU rfl rfl rfl rfl)|(exact q_not rfl)
   |(exact yAb rfl rfl)))|(apply W.ed; (apply yBb; (iterate 3 exact rfl); kernel_rfl; kernel_rfl))|(apply yA)|(apply yB)|(apply yC; kernel_rfl)|(apply yE)|(apply yJ)|(apply yP)
   |(apply yQ; exact rfl)))
  all_goals exact Ends.i rfl rfl
theorem A_done39 {cs : List Cd} {vs : List Sv} {k : Int} {rows : List SRw} (h : RwIn rows) : ACalls Tryz.prog 32 [lib cs vs, iV k, rws rows] [] (bV (doneB vs k rows)) [] := by
 refine acalls_of_body Tryz.func32 rfl (Nat.le_of_ble_eq_true rfl) ?_
 have hc := A_changing (cs := cs) (vs := vs) (k := k)
 have hl := A_left39 (cs := cs) (vs := vs) (k := k) h
 unfold doneB
 generalize leftN39 vs k rows = n at *
 by_cases hh : hasB vs.length k = true
 ·rw [if_pos hh] at hc
  cases hb9 : chgB vs k with
  | false =>
    rw [hb9] at hc
    (repeat' (first
     |(apply W.qd; (first
     |(apply (yW (hc)); exact rfl; exact rfl; (iterate 3 kernel_rfl))|(apply q_mv; (conv => lhs; whnf))|(apply q_as; (conv => lhs; whnf))|(exact yU rfl rfl rfl rfl)|(exact yAb rfl rfl)
     |(apply (yDb (u := .d _)); exact rfl; exact rfl)))|(apply W.ed; (apply yBb; (iterate 3 exact rfl); kernel_rfl; kernel_rfl))|(refine W.gOff _ _ rfl rfl (by intro h; cases h) ?_)|(apply yA)|(apply yB)|(apply yC; kernel_rfl)|(apply yE)
     |(apply yJ)))
    all_goals exact Ends.b rfl rfl
  | true =>
    rw [hb9] at hc
    (repeat' (first
     |(apply yFb; exact rfl; exact rfl)
     |(apply W.qd; (first
     |(apply (yW (hc)); exact rfl; exact rfl; (iterate 3 kernel_rfl))|(apply (yW (hl)); exact rfl; exact rfl; (iterate 3 kernel_rfl))|(apply q_mv; (conv => lhs; whnf))|(apply q_as; (conv => lhs; whnf))|(exact yU rfl rfl rfl rfl)|(exact q_eql rfl rfl)|(exact yAb rfl rfl)
     |(apply (yEb (u := .d _)); exact rfl; exact rfl)))|(apply W.ed; (apply yBb; (iterate 3 exact rfl); kernel_rfl; kernel_rfl))|(apply yA)|(apply yB)|(apply yC; kernel_rfl)|(apply yE)
     |(apply yJ)))
    all_goals (refine Ends.b rfl ?_; rw [Bool.eq_iff_iff]; simp <;> omega)
 ·rw [if_neg hh] at hc
  have hb9 : chgB vs k = false := by unfold chgB; rw [Bool.eq_false_iff.2 hh]; rfl
  rw [hb9]
  (repeat' (first
   |(apply W.qd; (first
   |(apply (yW (hc)); exact rfl; exact rfl; (iterate 3 kernel_rfl))|(apply q_mv; (conv => lhs; whnf))|(apply q_as; (conv => lhs; whnf))|(exact yU rfl rfl rfl rfl)|(exact yAb rfl rfl)
   |(apply (yDb (u := .d _)); exact rfl; exact rfl)))|(apply W.ed; (apply yBb; (iterate 3 exact rfl); kernel_rfl; kernel_rfl))|(refine W.gOff _ _ rfl rfl (by intro h; cases h) ?_)|(apply yA)|(apply yB)|(apply yC; kernel_rfl)|(apply yE)
   |(apply yJ)))
  all_goals exact Ends.b rfl rfl
theorem A_next39 {cs : List Cd} {vs : List Sv} {k : Int} {rows : List SRw} (h : RwIn rows) : ACalls Tryz.prog 31 [lib cs vs, iV k, rws rows] [] (nxtA (nextN vs k rows)) [] := by
 refine acalls_of_body Tryz.func31 rfl (Nat.le_of_ble_eq_true rfl) ?_
 have hc := A_changing (cs := cs) (vs := vs) (k := k)
 have hm : (vs.map svD).length = vs.length := List.length_map _
 unfold nextN
 by_cases hh : hasB vs.length k = true
 ·rw [if_pos hh] at hc
  obtain ⟨h0, h1⟩ := hasB_iff.1 hh
  rw [hh, if_neg (by simp)]
  cases hb9 : chgB vs k with
  | false =>
    rw [hb9] at hc
    rw [if_pos rfl]
    (repeat' (first
     |(apply yFb; exact rfl; exact rfl)
     |(apply W.qd; (first
     |(apply (yW (hc)); exact rfl; exact rfl; (iterate 3 kernel_rfl))|(apply q_mv; (conv => lhs; whnf))|(apply q_as; (conv => lhs; whnf))|(exact yS rfl rfl rfl)|(exact yT rfl rfl rfl rfl)|(exact yU rfl rfl rfl rfl)|(exact q_lss rfl rfl)|(exact q_geq rfl rfl)|(exact q_not rfl)|(exact yAb rfl rfl)|(exact yV rfl rfl)|(apply yZ; exact rfl; exact rfl; kernel_rfl)
     |(apply (yDb (u := .d _)); exact rfl; exact rfl)))
     |(apply W.ed; (first
     |(apply yBb; (iterate 3 exact rfl); kernel_rfl; kernel_rfl)
     |(apply yCb; (iterate 3 exact rfl); kernel_rfl)))|(apply W.ln; (apply l_st_box; (iterate 6 exact rfl); (iterate 3 kernel_rfl)))|(apply yA)|(apply yB)|(apply yC; kernel_rfl)|(apply yE)|(apply yG)|(apply yJ)|(apply yP)|(apply yN)|(apply yQ; exact rfl)|(refine W.gF _ _ rfl rfl (fun hb => ?_) (fun hb => ?_) <;> ((try simp only [hb, zK]) <;> (try simp only [zL, zI] at hb) <;> (try (exfalso; omega))))
     |(refine W.cond _ rfl (fun hb => ?_) (fun hb => ?_) <;> ((try simp only [hb, zK]) <;> (try simp only [zL, zI] at hb) <;> (try (exfalso; omega))))))
    all_goals first | (exfalso; omega) | exact Ends.cell2 rfl rfl rfl rfl rfl
  | true =>
    rw [hb9] at hc
    rw [if_neg (by simp)]
    have hs := A_stripes (c := (vs.getD k.toNat sv0).2.1) h
    have hl := strN_len (c := (vs.getD k.toNat sv0).2.1) h
    generalize (vs.getD k.toNat sv0).2.1 = c at *
    generalize strN rows c = A at *
    cases A with
    | nil =>
      (repeat' (first
       |(apply yFb; exact rfl; exact rfl)
       |(apply W.qd; (first
       |(apply (yW (hc)); exact rfl; exact rfl; (iterate 3 kernel_rfl))|(apply (yW (hs)); exact rfl; exact rfl; (iterate 3 kernel_rfl))|(apply q_mv; (conv => lhs; whnf))|(apply q_as; (conv => lhs; whnf))|(exact yS rfl rfl rfl)|(exact yT rfl rfl rfl rfl)|(exact yU rfl rfl rfl rfl)|(exact q_lss rfl rfl)|(exact q_geq rfl rfl)|(exact q_not rfl)|(exact yAb rfl rfl)|(exact yV rfl rfl)
       |(apply (yDb (u := .d _)); exact rfl; exact rfl)))
       |(apply W.ed; (first
       |(apply yBb; (iterate 3 exact rfl); kernel_rfl; kernel_rfl)
       |(apply yCb; (iterate 3 exact rfl); kernel_rfl)))|(apply yA)|(apply yB)|(apply (W.regionS 7); exact rfl; kernel_rfl)|(apply yE)|(apply yG)|(apply yH)|(apply yL)|(apply yR; exact rfl)|(refine W.gF _ _ rfl rfl (fun hb => ?_) (fun hb => ?_) <;> ((try simp only [hb, zK]) <;> (try simp only [zL, zI] at hb) <;> (try (exfalso; omega))))
       |(refine W.cond _ rfl (fun hb => ?_) (fun hb => ?_) <;> ((try simp only [hb, zK]) <;> (try simp only [zL, zI] at hb) <;> (try (exfalso; omega))))))
      all_goals try (exfalso; omega)
      refine AWP.loopW (α := Nat) (fun j => j ≤ 0) (fun j => ⟨[(36, iV 0), (37, iV j), (6, .opt 1 0)], [.box [cds cs, svs vs], .box [iV 0, iV 0]]⟩) (fun j => 0 - j) 0 (Nat.zero_le _) ⟨[0, 1], rfl, rfl, rfl, by (repeat (first | exact trivial | refine ⟨rfl, ?_⟩))⟩ fun j hj => ?_
      obtain rfl : j = 0 := by omega
      (repeat' (first
       |(apply W.qd; (first
       |(apply q_as; (conv => lhs; whnf))|(exact q_lss rfl rfl)
       |(apply yZ; exact rfl; exact rfl; kernel_rfl)))|(apply W.ln; (apply l_st_box; (iterate 6 exact rfl); (iterate 3 kernel_rfl)))|(apply yA)|(apply yB)|(apply yC; kernel_rfl)|(apply yE)|(apply yI)|(apply yJ)|(apply yK)|(apply yM)
       |(apply yR; exact rfl)))
      all_goals first | (exfalso; omega) | exact Ends.cell2 rfl rfl rfl rfl rfl
    | cons s A =>
      have hmA : ((s :: A).map spD).length = A.length + 1 := by simp
      (repeat' (first
       |(apply yFb; exact rfl; exact rfl)
       |(apply W.qd; (first
       |(apply (yW (hc)); exact rfl; exact rfl; (iterate 3 kernel_rfl))|(apply (yW (hs)); exact rfl; exact rfl; (iterate 3 kernel_rfl))|(apply q_mv; (conv => lhs; whnf))|(apply q_as; (conv => lhs; whnf))|(exact yS rfl rfl rfl)|(exact yT rfl rfl rfl rfl)|(exact yU rfl rfl rfl rfl)|(exact q_lss rfl rfl)|(exact q_geq rfl rfl)|(exact q_not rfl)|(exact yAb rfl rfl)|(exact yV rfl rfl)
       |(apply (yDb (u := .d _)); exact rfl; exact rfl)))
       |(apply W.ed; (first
       |(apply yBb; (iterate 3 exact rfl); kernel_rfl; kernel_rfl)
       |(apply yCb; (iterate 3 exact rfl); kernel_rfl)))|(apply yA)|(apply yB)|(apply (W.regionS 7); exact rfl; kernel_rfl)|(apply yE)|(apply yG)|(apply yH)|(apply yL)|(apply yR; exact rfl)|(refine W.gF _ _ rfl rfl (fun hb => ?_) (fun hb => ?_) <;> ((try simp only [hb, zK]) <;> (try simp only [zL, zI] at hb) <;> (try (exfalso; omega))))
       |(refine W.cond _ rfl (fun hb => ?_) (fun hb => ?_) <;> ((try simp only [hb, zK]) <;> (try simp only [zL, zI] at hb) <;> (try (exfalso; omega))))))
      all_goals try (exfalso; omega)
      refine AWP.loopW (α := Nat) (fun j => j ≤ 0) (fun j => ⟨[(35, sps (s :: A)), (36, iV (A.length + 1 : Nat)), (37, iV j), (6, .opt 1 0)], [.box [cds cs, svs vs], .box [iV 0, iV 0]]⟩) (fun j => 0 - j) 0 (Nat.zero_le _) ⟨[0, 1], rfl, rfl, rfl, rfl, iV_eq (by rw [hmA]), rfl, rfl, trivial⟩ fun j hj => ?_
      obtain rfl : j = 0 := by omega
      (repeat' (first
       |(apply W.qd; (first
       |(apply q_as; (conv => lhs; whnf))|(exact yU rfl rfl rfl rfl)|(exact q_lss rfl rfl)|(apply yY; (iterate 3 exact rfl); (first | omega | (focus (simp; done))))
       |(apply yGb; (iterate 4 exact rfl); (first | (with_reducible exact rfl) | exact natI_spec rfl | assumption | exact (Int.toNat_of_nonneg (by omega)).symm); (first | omega | (focus (simp only [List.length_map]; omega)) | (focus (simp; done)) | (focus (simp; omega))))))|(apply W.ed; (apply yCb; (iterate 3 exact rfl); kernel_rfl))|(apply W.ln; (apply l_st_box; (iterate 6 exact rfl); (iterate 3 kernel_rfl)))|(apply yA)|(apply yB)|(apply yC; kernel_rfl)|(apply yE)|(apply yG)|(apply yH)|(apply yJ)|(apply yP)|(apply yN)
       |(refine W.cond _ rfl (fun hb => ?_) (fun hb => ?_) <;> ((try simp only [hb, zK]) <;> (try simp only [zL, zI] at hb) <;> (try (exfalso; omega))))))
      all_goals first | (exfalso; omega) | exact Ends.cell2 rfl rfl rfl rfl rfl
 ·rw [if_neg hh] at hc
  have hh2 : ¬ (0 ≤ k ∧ k < (vs.length : Int)) := fun h => hh (hasB_iff.2 h)
  rw [Bool.eq_false_iff.2 hh, if_pos rfl]
  (repeat' (first
   |(apply yFb; exact rfl; exact rfl)
   |(apply W.qd; (first
   |(apply (yW (hc)); exact rfl; exact rfl; (iterate 3 kernel_rfl))|(apply q_mv; (conv => lhs; whnf))|(apply q_as; (conv => lhs; whnf))|(exact yS rfl rfl rfl)|(exact yT rfl rfl rfl rfl)|(exact yU rfl rfl rfl rfl)|(exact q_lss rfl rfl)|(exact q_geq rfl rfl)|(exact yAb rfl rfl)|(exact yV rfl rfl)|(apply yZ; exact rfl; exact rfl; kernel_rfl)|(apply (yEb (u := .d _)); exact rfl; exact rfl)
   |(apply (yDb (u := .d _)); exact rfl; exact rfl)))
   |(apply W.ed; (first
   |(apply yBb; (iterate 3 exact rfl); kernel_rfl; kernel_rfl)
   |(apply yCb; (iterate 3 exact rfl); kernel_rfl)))|(apply W.ln; (apply l_st_box; (iterate 6 exact rfl); (iterate 3 kernel_rfl)))|(refine W.gOff _ _ rfl rfl (by intro h; cases h) ?_)|(apply yA)|(apply yB)|(apply yC; kernel_rfl)|(apply yE)|(apply yG)|(apply yJ)|(apply yP)|(apply yN)|(apply yQ; exact rfl)|(refine W.gF _ _ rfl rfl (fun hb => ?_) (fun hb => ?_) <;> ((try simp only [hb, zK]) <;> (try simp only [zL, zI] at hb) <;> (try (exfalso; omega))))
   |(refine W.cond _ rfl (fun hb => ?_) (fun hb => ?_) <;> ((try simp only [hb, zK]) <;> (try simp only [zL, zI] at hb) <;> (try (exfalso; omega))))))
  all_goals first | (exfalso; omega) | exact Ends.cell2 rfl rfl rfl rfl rfl
end
end Go.Proofs.YtplpgijpmgbaiaaGreatDoor
