import Derived.Test.YtcljokdiblnhiaaGreatDoorMChangeMatchesSpec5
import Derived.WalkKit
import Derived.WalkLawsBesides
import Derived.WalkSpells
import Derived.Handy
import Derived.PlainAid
import Derived.Outline
import Derived.Laws.OwnMore
import Derived.Laws.CopyOwn
import Derived.Deep.AppendLies
import Derived.Deep.Draws
import Derived.Deep.QuietTactic
import Derived.Deep.LoopGhost
import Derived.Deep.DeepFit
import Derived.Deep.DeepCutAuto
import Derived.Deep.RegionLaw
import Derived.Deep.RegionHeld3
import Derived.BigQuiet
import Derived.StillTailTactics
import Derived.Lib.Hide
import Derived.Carry
import Derived.Deep.Onto
import Derived.Test.YtcljokdiblnhiaaGreatDoorChecked
import Derived.Lib.SliceRun
/- Joined texts: Cl4 Cl6 Cl7 Cl8 Rf30 Rf30b Ch5 Ch6 Ch7 Ch8 Ch9 DgB DgP DgD DgD3 DgR DgL1 DgL2 Kern49 Sp1 Sp2 Sp3 Sp4 Sp5. -/
set_option linter.unusedVariables false
set_option linter.unusedSimpArgs false
section
namespace Go.Proofs.YtcljokdiblnhiaaGreatDoor
open Go.RowKit
set_option maxHeartbeats 4000000
set_option maxRecDepth 100000
structure LibOk (cs : List Cd) (vs : List Sv) : Prop where
  cn : ∀ c ∈ cs, NameIn c.1
  ck : ∀ c ∈ cs, chkD c = true
  vn : ∀ v ∈ vs, NameIn v.1
  cl : cs.length ≤ 1000
  vl : vs.length ≤ 1000
abbrev Lb := List Cd × List Sv
def lb0 : Lb := ([], [])
def addCN (cs : List Cd) (vs : List Sv) (c : Cd) : Lb × Int × Int :=
  if chkD c = false then (lb0, 0, 1) else if 0 ≤ fcI cs c.1 then (lb0, 0, 20) else if 8 ≤ cs.length then (lb0, 0, 2) else ((cs ++ [c], vs), (cs.length : Int), 0)
theorem chk_rows {c : Cd} (h : chkD c = true) : c.2.2.2.1.length ≤ 31 ∧ ∀ r ∈ c.2.2.2.1, r.length ≤ 31 := by
  have hv := chk_valid h
  unfold validC at hv
  simp only [Bool.and_eq_true, decide_eq_true_eq, List.all_eq_true] at hv
  obtain ⟨⟨⟨⟨h1, h2⟩, h3⟩, h4⟩, h5⟩ := hv
  have h6 : c.2.2.1 ≤ 31 := by
    unfold chkD chkC at h
    simp only [Bool.and_eq_true, decide_eq_true_eq] at h
    have := h.1.1.2
    omega
  refine ⟨by omega, fun r hr => ?_⟩
  have := h5 r hr
  unfold rowOk at this
  simp only [Bool.and_eq_true, decide_eq_true_eq] at this
  omega
theorem LibOk.fin {cs : List Cd} {vs : List Sv} (h : LibOk cs vs) : ∀ c ∈ cs, FInD c := fun c hc => fin_chk (h.ck c hc) (h.cn c hc)
theorem find_no {i : Int} (h : ¬ 0 ≤ i) : findA i = .tup [iV 0, iV 12] := by
  unfold findA fxI fxE
  rw [if_pos (by omega), if_pos (by omega)]
attribute [local irreducible] Quiet Eff OpOk AWPG ACont ABlock ACalls AGoto
end Go.Proofs.YtcljokdiblnhiaaGreatDoor
end
section
namespace Go.Proofs.YtcljokdiblnhiaaGreatDoor
open Go.RowKit
set_option maxHeartbeats 4000000
set_option maxRecDepth 100000
section
variable {α : Type} {q : α → Bool} {l : List α}
end
theorem getDc {cs : List Cd} {i : Nat} (h : i < cs.length) : cs.getD i cd0 = cs[i] := by rw [List.getD_eq_getElem?_getD, List.getElem?_eq_getElem h]; rfl
theorem getDv {vs : List Sv} {i : Nat} (h : i < vs.length) : vs.getD i sv0 = vs[i] := by rw [List.getD_eq_getElem?_getD, List.getElem?_eq_getElem h]; rfl
structure VOk (cs : List Cd) (vs : List Sv) (i : Nat) (v : Sv) : Prop where
  nm : fvI vs v.1 = (i : Int)
  pl : plausB v.1 v.2.2.2.1 v.2.2.2.2 = true
  kp : keepsB cs v.2.1 v.2.2.2.1 = true
  ne : v.2.2.1 ≠ v.2.1
  kn : v.2.2.1 = -1 ∨ keepsB cs v.2.2.1 v.2.2.2.1 = true
  us : userI vs v.2.1 = (i : Int)
  un : v.2.2.1 = -1 ∨ userI vs v.2.2.1 = (i : Int)
structure Vld (cs : List Cd) (vs : List Sv) : Prop where
  cl : cs.length ≤ 8
  vl : vs.length ≤ 8
  c : ∀ (i : Nat) (h : i < cs.length), fcI cs cs[i].1 = (i : Int) ∧ chkD cs[i] = true
  v : ∀ (i : Nat) (h : i < vs.length), VOk cs vs i vs[i]
end Go.Proofs.YtcljokdiblnhiaaGreatDoor
end
section
namespace Go.Proofs.YtcljokdiblnhiaaGreatDoor
open Go.RowKit
set_option maxHeartbeats 4000000
set_option maxRecDepth 100000
def few30 (c : Cd) : Bool := decide (0 ≤ c.2.2.1) && (decide (c.2.2.1 ≤ 5) && (decide (c.2.2.2.1.length ≤ 5) && decide (c.2.2.1 + (c.2.2.2.1.length : Int) ≤ 7)))
theorem LibOk.nil : LibOk [] [] := ⟨by simp, by simp, by simp, by decide, by decide⟩
theorem LibOk.addC {cs : List Cd} {vs : List Sv} (h : LibOk cs vs) (c : Cd) (h1 : NameIn c.1) (h2 : chkD c = true) (h3 : cs.length < 900) : LibOk (cs ++ [c]) vs where
  cn x hx := by
    rcases List.mem_append.1 hx with h4 | h4
    · exact h.cn x h4
    · rw [List.mem_singleton.1 h4]; exact h1
  ck x hx := by
    rcases List.mem_append.1 hx with h4 | h4
    · exact h.ck x h4
    · rw [List.mem_singleton.1 h4]; exact h2
  vn := h.vn
  cl := by simp; omega
  vl := h.vl
theorem LibOk.addV {cs : List Cd} {vs : List Sv} (h : LibOk cs vs) (v : Sv) (h1 : NameIn v.1) (h3 : vs.length < 900) : LibOk cs (vs ++ [v]) where
  cn := h.cn
  ck := h.ck
  vn x hx := by
    rcases List.mem_append.1 hx with h4 | h4
    · exact h.vn x h4
    · rw [List.mem_singleton.1 h4]; exact h1
  cl := h.cl
  vl := by simp; omega
theorem LibOk.lin {cs : List Cd} {vs : List Sv} (h : LibOk cs vs) : LibIn cs vs where
  cn := h.cn
  cp c hc := by have := (chk_rows (h.ck c hc)).1; omega
  vn := h.vn
  cl := by have := h.cl; omega
  vl := by have := h.vl; omega
def rs30 : Cd := ([114, 115], 8, 2, [[1, 1], [1, 2]], 1)
def pa30 : Cd := ([112, 97, 114], 8, 2, [[1, 1]], 1)
def pb30 : Cd := ([112, 97, 114], 8, 2, [[1, 2]], 1)
def pc30 : Cd := ([112, 97, 114, 50], 8, 2, [[1, 2]], 1)
theorem n_rs : NameIn rs30.1 := ⟨by unfold isB rs30; decide, by decide⟩
theorem n_pa : NameIn pa30.1 := ⟨by unfold isB pa30; decide, by decide⟩
theorem L1 : LibOk [rs30] [] := LibOk.nil.addC rs30 n_rs (by kernel_rfl) (by decide)
theorem L2 : LibOk [rs30, pa30] [] := L1.addC pa30 n_pa (by kernel_rfl) (by decide)
theorem r1 : addCN [] [] rs30 = (([rs30], []), 0, 0) := by kernel_rfl
theorem r2 : addCN [rs30] [] pa30 = (([rs30, pa30], []), 1, 0) := by kernel_rfl
theorem r3 : addCN [rs30, pa30] [] pb30 = (lb0, 0, 20) := by kernel_rfl
theorem r4 : addCN [rs30, pa30] [] pc30 = (([rs30, pa30, pc30], []), 2, 0) := by kernel_rfl
attribute [local irreducible] Quiet Eff OpOk AWPG ACont ABlock ACalls AGoto
end Go.Proofs.YtcljokdiblnhiaaGreatDoor
end
section
namespace Go.Proofs.YtcljokdiblnhiaaGreatDoor
open Go.RowKit
set_option maxHeartbeats 4000000
set_option maxRecDepth 100000
theorem Vld.ok {cs : List Cd} {vs : List Sv} (h : Vld cs vs) (hi : LibIn cs vs) : LibOk cs vs where
  cn := hi.cn
  ck c hc := by
    obtain ⟨i, hi, rfl⟩ := List.getElem_of_mem hc
    exact (h.c i hi).2
  vn := hi.vn
  cl := by have := h.cl; omega
  vl := by have := h.vl; omega
theorem Vld.nil : Vld [] [] := ⟨by decide, by decide, fun i h => absurd h (by simp), fun i h => absurd h (by simp)⟩
structure Gd30 (cs : List Cd) (vs : List Sv) : Prop where
  v : Vld cs vs
  n : LibIn cs vs
theorem Gd30.nil : Gd30 [] [] := ⟨Vld.nil, LibOk.nil.lin⟩
attribute [local irreducible] Quiet Eff OpOk AWPG ACont ABlock ACalls AGoto
end Go.Proofs.YtcljokdiblnhiaaGreatDoor
end
section
namespace Go.Proofs.YtcljokdiblnhiaaGreatDoor
open Go.RowKit
set_option maxHeartbeats 4000000
set_option maxRecDepth 100000
def rightB (cs : List Cd) (v : Sv) : Bool := plausB v.1 v.2.2.2.1 v.2.2.2.2 && (keepsB cs v.2.1 v.2.2.2.1 && (decide (v.2.2.1 ≠ v.2.1) && (decide (v.2.2.1 = -1) || keepsB cs v.2.2.1 v.2.2.2.1)))
theorem okV_right {cs : List Cd} {vs : List Sv} {i : Nat} (h : i < vs.length) : okV cs vs i = (rightB cs vs[i] && (decide (fvI vs vs[i].1 = (i : Int)) && (decide (userI vs vs[i].2.1 = (i : Int)) && (decide (vs[i].2.2.1 = -1) || decide (userI vs vs[i].2.2.1 = (i : Int)))))) := by
  unfold okV aloneB rightB
  rw [getDv h]
  rw [Bool.eq_iff_iff]
  simp only [Bool.and_eq_true, Bool.or_eq_true, decide_eq_true_eq]
  constructor
  · rintro ⟨h1, h2, h3, h4, h5, h6, h7⟩
    exact ⟨⟨h2, h3, h4, h5⟩, h1, h6, h7⟩
  · rintro ⟨⟨h2, h3, h4, h5⟩, h1, h6, h7⟩
    exact ⟨h1, h2, h3, h4, h5, h6, h7⟩
attribute [local irreducible] Quiet Eff OpOk AWPG ACont ABlock ACalls AGoto
theorem A_all9 {n : Nat} (h : n ≤ 3000000) : ACalls Tryz.prog 227 [iV n] [] (bools (List.replicate n true)) [] := by
  refine acalls_of_body Tryz.func227 rfl (Nat.le_of_ble_eq_true rfl) ?_
  (repeat' (first
  | (apply W.qd; (apply q_as; (conv => lhs; whnf)))|(apply yA)|(apply yB)|(apply (W.regionS 2); exact rfl; kernel_rfl)
  | (apply yE)))
  refine AWP.nilRow 3 1 4 rfl (by omega) ?_
  (repeat' (first
  | (apply W.qd; (apply q_as; (conv => lhs; whnf)))|(apply yB)|(apply (W.regionS 3); exact rfl; kernel_rfl)|(apply yE)
  | (apply yG)))
  refine AWP.loopW (α := Nat) (fun i => i ≤ n) (fun i => ⟨[(4, iV i), (3, .osl 0 i 0 (List.replicate i true).length), (0, iV n)], [.row i 1 4 ((List.replicate i true).map tD)]⟩) (fun i => n - i) 0 (Nat.zero_le _) ⟨[0], rfl, rfl, rfl, by (repeat (first | exact trivial | refine ⟨rfl, ?_⟩))⟩ fun i hi => ?_
  by_cases hil : i < n
  · have hrp : List.replicate (i + 1) true = List.replicate i true ++ [true] := List.replicate_succ'
    have hln : (List.replicate i true).length = i := List.length_replicate
    replace hrp := Lib.hid hrp
    generalize List.replicate i true = A at *
    (repeat' (first
  | (apply W.qd; (first
    | (apply q_mv; (conv => lhs; whnf))|(apply q_as; (conv => lhs; whnf))|(apply q_lss; exact rfl; exact rfl)|(apply q_add; exact rfl; exact rfl; omega)
    | (apply q_litF; (iterate 5 exact rfl); kernel_rfl; kernel_rfl; exact rfl)))|(apply W.ld; (apply l_app1; (iterate 8 exact rfl); (first | omega | (focus (simp; omega)) | (focus (simp; done)))))|(apply yA)|(apply yB)|(apply yC; kernel_rfl)|(apply yE)|(apply yG)|(apply yH)|(apply yL)
  | (refine W.cond _ rfl (fun hb => ?_) (fun hb => ?_) <;> ((try simp only [hb, zA, zB]) <;> (try simp only [zC, zD, zE, zF, zG, zH, zI, zJ] at hb) <;> (try (exfalso; omega))))))
    refine ⟨i + 1, by omega, by omega, ?_⟩
    rw [hrp.out]
    exact ⟨[0], rfl, rfl, rfl, iV_eq (by omega), rfl, rfl, trivial⟩
  · obtain rfl : i = n := by omega
    (repeat' (first
  | (apply W.qd; (first
    | (apply q_mv; (conv => lhs; whnf))|(apply q_as; (conv => lhs; whnf))
    | (apply q_lss; exact rfl; exact rfl)))|(apply yA)|(apply yB)|(apply yC; kernel_rfl)|(apply yE)|(apply yI)|(apply yJ)|(apply yK)|(apply yM)
  | (refine W.cond _ rfl (fun hb => ?_) (fun hb => ?_) <;> ((try simp only [hb, zA, zB]) <;> (try simp only [zC, zD, zE, zF, zG, zH, zI, zJ] at hb) <;> (try (exfalso; omega))))))
    exact Ends.osl rfl rfl (by simp) rfl
theorem A_losses9 {nm : List Nat} {M D dom : Int} {par : List (List Int)} (h : FIn nm D par) : ACalls Tryz.prog 203 [cdF nm M D par dom] [] (iV (lossC nm M D par dom)) [] := by
  have h1 := h.d
  have h2 := h.p
  have hmp : (par.map rD).length = par.length := List.length_map _
  obtain ⟨w, hw⟩ : ∃ w : Nat, D + (par.length : Int) = w := ⟨(D + (par.length : Int)).toNat, by omega⟩
  have ha : ACalls Tryz.prog 227 [iV (D + ((par.map rD).length : Int))] [] (bools (List.replicate w true)) [] := by
    rw [hmp, hw]; exact A_all9 (by omega)
  have hl := A_left9 (M := M) (dom := dom) (hv := List.replicate w true) h (by simp; omega)
  have e : lossC nm M D par dom = leftC nm M D par dom (List.replicate w true) := by unfold lossC; rw [hw, Int.toNat_natCast]
  rw [e]
  generalize leftC nm M D par dom (List.replicate w true) = L at *
  generalize List.replicate w true = A at *
  refine acalls_of_body Tryz.func203 rfl (Nat.le_of_ble_eq_true rfl) ?_
  (repeat' (first
  | (apply W.qd; (first
    | (apply (yW (ha)); exact rfl; exact rfl; (iterate 3 kernel_rfl))|(apply (yW (hl)); exact rfl; exact rfl; (iterate 3 kernel_rfl))|(apply q_as; (conv => lhs; whnf))|(apply yS; (iterate 3 exact rfl))|(apply yT; (iterate 4 exact rfl))|(apply yU; (iterate 4 exact rfl))|(apply q_add; exact rfl; exact rfl; omega)
    | (apply yV; exact rfl; exact rfl)))|(apply W.ed; (apply yBb; (iterate 3 exact rfl); kernel_rfl; kernel_rfl))|(apply yA)|(apply yB)|(apply yC; kernel_rfl)|(apply yD; exact rfl; kernel_rfl)|(apply yE)|(apply yF; kernel_rfl)
  | (apply yJ)))
  exact Ends.i rfl rfl
theorem A_losD9 {c : Cd} (h : FInD c) : ACalls Tryz.prog 203 [cdA1 c] [] (iV (losD c)) [] := A_losses9 h
theorem A_rname {s : List Nat} (h : NameIn s) : ACalls Tryz.prog 158 [bS s] [] (bV (nameB s)) [] := by
  refine acalls_of_body Tryz.func158 rfl (Nat.le_of_ble_eq_true rfl) ?_
  have hs := h.b
  have hl := h.l
  have hnB : nameB s = ((decide (1 ≤ s.length) && decide (s.length ≤ 12)) && (List.range s.length).all (wordAt s)) := rfl
  by_cases hg : 1 ≤ s.length ∧ s.length ≤ 12
  case neg =>
    have e : nameB s = false := by
      rw [hnB, Bool.and_eq_false_iff]
      left
      rw [Bool.and_eq_false_iff, decide_eq_false_iff_not, decide_eq_false_iff_not]
      omega
    rw [e]
    (repeat' (first
  | (apply yFb; exact rfl; exact rfl)
  | (apply W.qd; (first
    | (apply q_mv; (conv => lhs; whnf))|(apply q_as; (conv => lhs; whnf))|(apply q_lss; exact rfl; exact rfl)|(apply q_gtr; exact rfl; exact rfl)|(apply q_len_bs; exact rfl; exact rfl)|(apply (yEb (u := .d _)); exact rfl; exact rfl)
    | (apply (yDb (u := .d _)); exact rfl; exact rfl)))|(refine W.gOff _ _ rfl rfl (by intro h; cases h) ?_)|(apply yA)|(apply yB)|(apply (W.regionS 3); exact rfl; kernel_rfl)|(apply yE)|(apply yJ)|(apply yP)|(apply yQ; exact rfl)
  | (refine W.gF _ _ rfl rfl (fun hb => ?_) (fun hb => ?_) <;> ((try simp only [hb, zA, zB]) <;> (try simp only [zC, zD, zE, zF, zG, zH, zI, zJ] at hb) <;> (try (exfalso; omega))))))
    all_goals first | exact Ends.b rfl rfl | (exfalso; omega)
  have hp : 0 < s.length := by omega
  have g0 : s.getD 0 0 = s[0] := by rw [List.getD_eq_getElem?_getD, List.getElem?_eq_getElem hp]; rfl
  rw [decide_eq_true hg.1, decide_eq_true hg.2, Bool.and_true, Bool.true_and] at hnB
  have hbad : ∀ k, k < s.length → wordAt s k = false → nameB s = false := fun k hk h => by
    rw [hnB, List.all_eq_false]
    exact ⟨k, List.mem_range.2 hk, by rw [h]; decide⟩
  have hgood : (∀ k, k < s.length → wordAt s k = true) → nameB s = true := fun h => by
    rw [hnB, List.all_eq_true]
    intro j hj
    exact h j (List.mem_range.1 hj)
  clear hnB
  generalize nameB s = V at *
  by_cases hc : 97 ≤ s[0] ∧ s[0] ≤ 122
  case neg =>
    have e := hbad 0 hp (by
      unfold wordAt letB
      rw [g0, Bool.or_eq_false_iff, Bool.and_eq_false_iff, decide_eq_false_iff_not, decide_eq_false_iff_not]
      exact ⟨by omega, by simp⟩)
    subst e
    (repeat' (first
  | (apply yFb; exact rfl; exact rfl)
  | (apply W.qd; (first
    | (apply q_mv; (conv => lhs; whnf))|(apply q_as; (conv => lhs; whnf))|(apply q_lss; exact rfl; exact rfl)|(apply q_gtr; exact rfl; exact rfl)|(apply q_len_bs; exact rfl; exact rfl)|(apply q_ix_bs; (iterate 3 exact rfl); (first | (with_reducible exact rfl) | exact natI_spec rfl | assumption | exact (Int.toNat_of_nonneg (by omega)).symm); (first | omega | (focus (simp only [List.length_map]; omega)) | (focus (simp; done)) | (focus (simp; omega))); assumption)|(apply (yEb (u := .d _)); exact rfl; exact rfl)
    | (apply (yDb (u := .d _)); exact rfl; exact rfl)))|(refine W.gOff _ _ rfl rfl (by intro h; cases h) ?_)|(apply yA)|(apply yB)|(apply (W.regionS 3); exact rfl; kernel_rfl)|(apply yE)|(apply yJ)|(apply yP)|(apply yQ; exact rfl)|(refine W.gF _ _ rfl rfl (fun hb => ?_) (fun hb => ?_) <;> ((try simp only [hb, zA, zB]) <;> (try simp only [zC, zD, zE, zF, zG, zH, zI, zJ] at hb) <;> (try (exfalso; omega))))
  | (refine W.cond _ rfl (fun hb => ?_) (fun hb => ?_) <;> ((try simp only [hb, zA, zB]) <;> (try simp only [zC, zD, zE, zF, zG, zH, zI, zJ] at hb) <;> (try (exfalso; omega))))))
    all_goals first | exact Ends.b rfl rfl | (exfalso; omega)
  (repeat' (first
  | (apply yFb; exact rfl; exact rfl)
  | (apply W.qd; (first
    | (apply q_mv; (conv => lhs; whnf))|(apply q_as; (conv => lhs; whnf))|(apply q_lss; exact rfl; exact rfl)|(apply q_gtr; exact rfl; exact rfl)|(apply q_len_bs; exact rfl; exact rfl)|(apply q_ix_bs; (iterate 3 exact rfl); (first | (with_reducible exact rfl) | exact natI_spec rfl | assumption | exact (Int.toNat_of_nonneg (by omega)).symm); (first | omega | (focus (simp only [List.length_map]; omega)) | (focus (simp; done)) | (focus (simp; omega))); assumption)
    | (apply (yDb (u := .d _)); exact rfl; exact rfl)))|(apply yA)|(apply yB)|(apply (W.regionS 4); exact rfl; kernel_rfl)|(apply yE)|(apply yG)|(apply yH)|(refine W.gF _ _ rfl rfl (fun hb => ?_) (fun hb => ?_) <;> ((try simp only [hb, zA, zB]) <;> (try simp only [zC, zD, zE, zF, zG, zH, zI, zJ] at hb) <;> (try (exfalso; omega))))
  | (refine W.cond _ rfl (fun hb => ?_) (fun hb => ?_) <;> ((try simp only [hb, zA, zB]) <;> (try simp only [zC, zD, zE, zF, zG, zH, zI, zJ] at hb) <;> (try (exfalso; omega))))))
  all_goals try (exfalso; omega)
  refine AWP.loopW (α := Nat) (fun k => k ≤ s.length ∧ ∀ j, j < k → wordAt s j = true) (fun k => ⟨[(3, iV k), (0, bS s)], []⟩) (fun k => s.length - k) 0 ⟨Nat.zero_le _, fun j hj => by omega⟩ ⟨[], rfl, rfl, rfl, by (repeat (first | exact trivial | refine ⟨rfl, ?_⟩))⟩ fun k hk => ?_
  by_cases hkl : k < s.length
  · have eg : s.getD k 0 = s[k] := by rw [List.getD_eq_getElem?_getD, List.getElem?_eq_getElem hkl]; rfl
    have hnext : wordAt s k = true → ∀ j, j < k + 1 → wordAt s j = true := fun h j hj => by
      by_cases e : j = k
      · subst e; exact h
      · exact hk.2 j (by omega)
    have hbk := hbad k hkl
    have hwa : wordAt s k = true ↔ (97 ≤ s[k] ∧ s[k] ≤ 122) ∨ (48 ≤ s[k] ∧ s[k] ≤ 57) := by
      unfold wordAt letB digB; rw [eg]
      simp only [Bool.or_eq_true, Bool.and_eq_true, decide_eq_true_eq]
      by_cases e : k = 0
      · subst e; exact ⟨fun h => .inl hc, fun h => .inl hc⟩
      · exact ⟨fun h => h.imp id (·.2), fun h => h.imp id fun h => ⟨e, h⟩⟩
    have hwf : ¬ ((97 ≤ s[k] ∧ s[k] ≤ 122) ∨ (48 ≤ s[k] ∧ s[k] ≤ 57)) → wordAt s k = false := fun h => Bool.eq_false_iff.2 fun h2 => h (hwa.1 h2)
    clear hk hbad hgood
    (repeat' (first
  | (apply yFb; exact rfl; exact rfl)
  | (apply W.qd; (first
    | (apply q_mv; (conv => lhs; whnf))|(apply q_as; (conv => lhs; whnf))|(apply q_lss; exact rfl; exact rfl)|(apply q_gtr; exact rfl; exact rfl)|(apply q_add; exact rfl; exact rfl; omega)|(apply q_len_bs; exact rfl; exact rfl)|(apply q_ix_bs; (iterate 3 exact rfl); (first | (with_reducible exact rfl) | exact natI_spec rfl | assumption | exact (Int.toNat_of_nonneg (by omega)).symm); (first | omega | (focus (simp only [List.length_map]; omega)) | (focus (simp; done)) | (focus (simp; omega))); assumption)|(apply (yEb (u := .d _)); exact rfl; exact rfl)
    | (apply (yDb (u := .d _)); exact rfl; exact rfl)))|(refine W.gOff _ _ rfl rfl (by intro h; cases h) ?_)|(apply yA)|(apply yB)|(apply yC; kernel_rfl)|(apply yE)|(apply yG)|(apply yH)|(apply yJ)|(apply yP)|(apply yL)|(apply yN)|(apply yQ; exact rfl)|(apply yR; exact rfl)|(refine W.gT _ _ rfl rfl (fun hb => ?_) (fun hb => ?_) <;> ((try simp only [hb, zA, zB]) <;> (try simp only [zC, zD, zE, zF, zG, zH, zI, zJ] at hb) <;> (try (exfalso; omega))))|(refine W.gF _ _ rfl rfl (fun hb => ?_) (fun hb => ?_) <;> ((try simp only [hb, zA, zB]) <;> (try simp only [zC, zD, zE, zF, zG, zH, zI, zJ] at hb) <;> (try (exfalso; omega))))
  | (refine W.cond _ rfl (fun hb => ?_) (fun hb => ?_) <;> ((try simp only [hb, zA, zB]) <;> (try simp only [zC, zD, zE, zF, zG, zH, zI, zJ] at hb) <;> (try (exfalso; omega))))))
    all_goals first
      | exact Ends.b rfl (hbk (hwf (by omega))).symm
      | exact ⟨k + 1, ⟨by omega, hnext (hwa.2 (by omega))⟩, by omega, [], rfl, rfl, rfl, iV_eq (by omega), rfl, trivial⟩
  · have e : V = true := hgood fun i hi => hk.2 i (by omega)
    subst e
    clear hk hbad hgood
    (repeat' (first
  | (apply W.qd; (first
    | (apply q_mv; (conv => lhs; whnf))|(apply q_as; (conv => lhs; whnf))|(apply q_lss; exact rfl; exact rfl)
    | (apply q_len_bs; exact rfl; exact rfl)))|(apply yA)|(apply yB)|(apply yC; kernel_rfl)|(apply yE)|(apply yI)|(apply yJ)|(apply yK)|(apply yM)
  | (refine W.cond _ rfl (fun hb => ?_) (fun hb => ?_) <;> ((try simp only [hb, zA, zB]) <;> (try simp only [zC, zD, zE, zF, zG, zH, zI, zJ] at hb) <;> (try (exfalso; omega))))))
    all_goals exact Ends.b rfl rfl
theorem A_rfindC {cs : List Cd} {vs : List Sv} {nm : List Nat} (hl : cs.length ≤ 9223372036854775807) (hb1 : ∀ c ∈ cs, isB c.1) (h2 : isB nm) : ACalls Tryz.prog 97 [lib cs vs, bS nm] [] (findA (fcI cs nm)) [] := by
  refine acalls_of_body Tryz.func97 rfl (Nat.le_of_ble_eq_true rfl) ?_
  have hm : (cs.map cdD).length = cs.length := List.length_map _
  (repeat' (first
  | (apply W.qd; (apply q_as; (conv => lhs; whnf)))|(apply W.ed; (apply yBb; (iterate 3 exact rfl); kernel_rfl; kernel_rfl))|(apply yA)|(apply yB)|(apply (W.regionS 2); exact rfl; kernel_rfl)|(apply yE)
  | (apply yG)))
  refine AWP.loopW (α := Nat) (fun k => k ≤ cs.length ∧ ∀ x ∈ cs.take k, decide (x.1 = nm) = false) (fun k => ⟨[(6, iV k), (1, bS nm), (2, .opt 0 0)], [.box [cds cs, svs vs]]⟩) (fun k => cs.length - k) 0 ⟨by omega, by simp⟩ ⟨[0], rfl, rfl, rfl, by (repeat (first | exact trivial | refine ⟨rfl, ?_⟩))⟩ fun k hk => ?_
  by_cases hkl : k < cs.length
  · have hx1 := hb1 cs[k] (List.getElem_mem hkl)
    (repeat' (first
  | (apply W.qd; (first
    | (apply q_mv; (conv => lhs; whnf))|(apply q_as; (conv => lhs; whnf))|(apply yS; (iterate 3 exact rfl))|(apply yT; (iterate 4 exact rfl))|(apply q_lss; exact rfl; exact rfl)|(apply q_add; exact rfl; exact rfl; omega)|(apply yV; exact rfl; exact rfl)|(apply yX; (iterate 3 exact rfl); (first | omega | (focus (simp; done))))|(apply q_fld_fptF; (iterate 3 exact rfl))|(apply yGb; (iterate 4 exact rfl); (first | (with_reducible exact rfl) | exact natI_spec rfl | assumption | exact (Int.toNat_of_nonneg (by omega)).symm); (first | omega | (focus (simp only [List.length_map]; omega)) | (focus (simp; done)) | (focus (simp; omega))))
    | (apply q_eqlS; exact rfl; exact rfl; (first | assumption | exact isB_nil | exact isB_xor (by assumption) (by assumption)); (first | assumption | exact isB_nil | exact isB_xor (by assumption) (by assumption)))))|(apply yA)|(apply yB)|(apply yC; kernel_rfl)|(apply yE)|(apply yG)|(apply yH)|(apply yJ)|(apply yP)|(apply yL)|(apply yN)
  | (refine W.cond _ rfl (fun hb => ?_) (fun hb => ?_) <;> ((try simp only [hb, zA, zB]) <;> (try simp only [zC, zD, zE, zF, zG, zH, zI, zJ] at hb) <;> (try (exfalso; omega))))))
    all_goals first
      | (rw [show fcI cs nm = (k : Int) from idxA_hit hkl (decide_eq_true hb) hk.2, find_nn (by omega)]; exact Ends.two rfl rfl rfl)|(refine ⟨k + 1, ⟨by omega, fun x hx => ?_⟩, by omega, [0], rfl, rfl, rfl, iV_eq (by omega), rfl, rfl, trivial⟩; rw [List.take_succ_eq_append_getElem hkl] at hx; rcases List.mem_append.1 hx with hx | hx <;> first | exact hk.2 x hx | (rw [List.mem_singleton.1 hx]; exact decide_eq_false hb))
  · rw [show fcI cs nm = -1 from idxA_miss fun x hx => hk.2 x (by rwa [List.take_of_length_le (by omega)]), find_no (by omega)]
    clear hk
    (repeat' (first
  | (apply W.qd; (first
    | (apply q_mv; (conv => lhs; whnf))|(apply q_as; (conv => lhs; whnf))|(apply yS; (iterate 3 exact rfl))|(apply yT; (iterate 4 exact rfl))|(apply q_lss; exact rfl; exact rfl)
    | (apply yV; exact rfl; exact rfl)))|(apply yA)|(apply yB)|(apply yC; kernel_rfl)|(apply yE)|(apply yI)|(apply yJ)|(apply yK)|(apply yM)
  | (refine W.cond _ rfl (fun hb => ?_) (fun hb => ?_) <;> ((try simp only [hb, zA, zB]) <;> (try simp only [zC, zD, zE, zF, zG, zH, zI, zJ] at hb) <;> (try (exfalso; omega))))))
    exact Ends.two rfl rfl rfl
theorem A_rfindV {cs : List Cd} {vs : List Sv} {nm : List Nat} (hl : vs.length ≤ 9223372036854775807) (hb1 : ∀ c ∈ vs, isB c.1) (h2 : isB nm) : ACalls Tryz.prog 99 [lib cs vs, bS nm] [] (findA (fvI vs nm)) [] := by
  refine acalls_of_body Tryz.func99 rfl (Nat.le_of_ble_eq_true rfl) ?_
  have hm : (vs.map svD).length = vs.length := List.length_map _
  (repeat' (first
  | (apply W.qd; (apply q_as; (conv => lhs; whnf)))|(apply W.ed; (apply yBb; (iterate 3 exact rfl); kernel_rfl; kernel_rfl))|(apply yA)|(apply yB)|(apply (W.regionS 2); exact rfl; kernel_rfl)|(apply yE)
  | (apply yG)))
  refine AWP.loopW (α := Nat) (fun k => k ≤ vs.length ∧ ∀ x ∈ vs.take k, decide (x.1 = nm) = false) (fun k => ⟨[(6, iV k), (1, bS nm), (2, .opt 0 0)], [.box [cds cs, svs vs]]⟩) (fun k => vs.length - k) 0 ⟨by omega, by simp⟩ ⟨[0], rfl, rfl, rfl, by (repeat (first | exact trivial | refine ⟨rfl, ?_⟩))⟩ fun k hk => ?_
  by_cases hkl : k < vs.length
  · have hx1 := hb1 vs[k] (List.getElem_mem hkl)
    (repeat' (first
  | (apply W.qd; (first
    | (apply q_mv; (conv => lhs; whnf))|(apply q_as; (conv => lhs; whnf))|(apply yS; (iterate 3 exact rfl))|(apply yT; (iterate 4 exact rfl))|(apply q_lss; exact rfl; exact rfl)|(apply q_add; exact rfl; exact rfl; omega)|(apply yV; exact rfl; exact rfl)|(apply yX; (iterate 3 exact rfl); (first | omega | (focus (simp; done))))|(apply q_fld_fptF; (iterate 3 exact rfl))|(apply yGb; (iterate 4 exact rfl); (first | (with_reducible exact rfl) | exact natI_spec rfl | assumption | exact (Int.toNat_of_nonneg (by omega)).symm); (first | omega | (focus (simp only [List.length_map]; omega)) | (focus (simp; done)) | (focus (simp; omega))))
    | (apply q_eqlS; exact rfl; exact rfl; (first | assumption | exact isB_nil | exact isB_xor (by assumption) (by assumption)); (first | assumption | exact isB_nil | exact isB_xor (by assumption) (by assumption)))))|(apply yA)|(apply yB)|(apply yC; kernel_rfl)|(apply yE)|(apply yG)|(apply yH)|(apply yJ)|(apply yP)|(apply yL)|(apply yN)
  | (refine W.cond _ rfl (fun hb => ?_) (fun hb => ?_) <;> ((try simp only [hb, zA, zB]) <;> (try simp only [zC, zD, zE, zF, zG, zH, zI, zJ] at hb) <;> (try (exfalso; omega))))))
    all_goals first
      | (rw [show fvI vs nm = (k : Int) from idxA_hit hkl (decide_eq_true hb) hk.2, find_nn (by omega)]; exact Ends.two rfl rfl rfl)|(refine ⟨k + 1, ⟨by omega, fun x hx => ?_⟩, by omega, [0], rfl, rfl, rfl, iV_eq (by omega), rfl, rfl, trivial⟩; rw [List.take_succ_eq_append_getElem hkl] at hx; rcases List.mem_append.1 hx with hx | hx <;> first | exact hk.2 x hx | (rw [List.mem_singleton.1 hx]; exact decide_eq_false hb))
  · rw [show fvI vs nm = -1 from idxA_miss fun x hx => hk.2 x (by rwa [List.take_of_length_le (by omega)]), find_no (by omega)]
    clear hk
    (repeat' (first
  | (apply W.qd; (first
    | (apply q_mv; (conv => lhs; whnf))|(apply q_as; (conv => lhs; whnf))|(apply yS; (iterate 3 exact rfl))|(apply yT; (iterate 4 exact rfl))|(apply q_lss; exact rfl; exact rfl)
    | (apply yV; exact rfl; exact rfl)))|(apply yA)|(apply yB)|(apply yC; kernel_rfl)|(apply yE)|(apply yI)|(apply yJ)|(apply yK)|(apply yM)
  | (refine W.cond _ rfl (fun hb => ?_) (fun hb => ?_) <;> ((try simp only [hb, zA, zB]) <;> (try simp only [zC, zD, zE, zF, zG, zH, zI, zJ] at hb) <;> (try (exfalso; omega))))))
    exact Ends.two rfl rfl rfl
theorem A_rkeeps {cs : List Cd} {vs : List Sv} {k n : Int} (hF : ∀ c ∈ cs, FInD c) : ACalls Tryz.prog 159 [lib cs vs, iV k, iV n] [] (bV (keepsB cs k n)) [] := by
  refine acalls_of_body Tryz.func159 rfl (Nat.le_of_ble_eq_true rfl) ?_
  have hm : (cs.map cdD).length = cs.length := List.length_map _
  unfold keepsB
  cases hq : hasB cs.length k with
  | false =>
    unfold hasB at hq
    rw [Bool.and_eq_false_iff, decide_eq_false_iff_not, decide_eq_false_iff_not] at hq
    (repeat' (first
  | (apply yFb; exact rfl; exact rfl)
  | (apply W.qd; (first
    | (apply q_mv; (conv => lhs; whnf))|(apply q_as; (conv => lhs; whnf))|(apply yS; (iterate 3 exact rfl))|(apply yT; (iterate 4 exact rfl))|(apply q_lss; exact rfl; exact rfl)|(apply q_geq; exact rfl; exact rfl)|(apply yV; exact rfl; exact rfl)|(apply (yEb (u := .d _)); exact rfl; exact rfl)
    | (apply (yDb (u := .d _)); exact rfl; exact rfl)))|(apply W.ed; (apply yBb; (iterate 3 exact rfl); kernel_rfl; kernel_rfl))|(refine W.gOff _ _ rfl rfl (by intro h; cases h) ?_)|(apply yA)|(apply yB)|(apply yC; kernel_rfl)|(apply yE)|(apply yJ)
  | (refine W.gT _ _ rfl rfl (fun hb => ?_) (fun hb => ?_) <;> ((try simp only [hb, zA, zB]) <;> (try simp only [zC, zD, zE, zF, zG, zH, zI, zJ] at hb) <;> (try (exfalso; omega))))))
    all_goals first | exact Ends.b rfl rfl | (exfalso; omega)
  | true =>
    unfold hasB at hq
    rw [Bool.and_eq_true, decide_eq_true_eq, decide_eq_true_eq] at hq
    obtain ⟨j, rfl⟩ : ∃ j : Nat, k = j := ⟨k.toNat, by omega⟩
    have hj : j < cs.length := by omega
    have hls := A_losD9 (hF cs[j] (List.getElem_mem hj))
    rw [Int.toNat_natCast, getDc hj]
    (repeat' (first
  | (apply yFb; exact rfl; exact rfl)
  | (apply W.qd; (first
    | (apply (yW (hls)); exact rfl; exact rfl; (iterate 3 kernel_rfl))|(apply q_mv; (conv => lhs; whnf))|(apply q_as; (conv => lhs; whnf))|(apply yS; (iterate 3 exact rfl))|(apply yT; (iterate 4 exact rfl))|(apply q_lss; exact rfl; exact rfl)|(apply q_geq; exact rfl; exact rfl)|(apply yV; exact rfl; exact rfl)|(apply yY; (iterate 3 exact rfl); (first | omega | (focus (simp; done))))|(apply yGb; (iterate 4 exact rfl); (first | (with_reducible exact rfl) | exact natI_spec rfl | assumption | exact (Int.toNat_of_nonneg (by omega)).symm); (first | omega | (focus (simp only [List.length_map]; omega)) | (focus (simp; done)) | (focus (simp; omega))))
    | (apply (yEb (u := .d _)); exact rfl; exact rfl)))|(apply W.ed; (apply yBb; (iterate 3 exact rfl); kernel_rfl; kernel_rfl))|(apply yA)|(apply yB)|(apply yC; kernel_rfl)|(apply yE)|(apply yJ)
  | (refine W.gT _ _ rfl rfl (fun hb => ?_) (fun hb => ?_) <;> ((try simp only [hb, zA, zB]) <;> (try simp only [zC, zD, zE, zF, zG, zH, zI, zJ] at hb) <;> (try (exfalso; omega))))))
    all_goals first | exact Ends.b rfl (by simp) | (exfalso; omega)
theorem A_ruser {cs : List Cd} {vs : List Sv} {q : Int} (hl : vs.length ≤ 9223372036854775807) : ACalls Tryz.prog 100 [lib cs vs, iV q] [] (iV (userI vs q)) [] := by
  refine acalls_of_body Tryz.func100 rfl (Nat.le_of_ble_eq_true rfl) ?_
  have hm : (vs.map svD).length = vs.length := List.length_map _
  (repeat' (first
  | (apply W.qd; (apply q_as; (conv => lhs; whnf)))|(apply W.ed; (apply yBb; (iterate 3 exact rfl); kernel_rfl; kernel_rfl))|(apply yA)|(apply yB)|(apply (W.regionS 2); exact rfl; kernel_rfl)|(apply yE)
  | (apply yG)))
  refine AWP.loopW (α := Nat) (fun k => k ≤ vs.length ∧ ∀ x ∈ vs.take k, usesB q x = false) (fun k => ⟨[(5, iV k), (1, iV q), (2, .opt 0 0)], [.box [cds cs, svs vs]]⟩) (fun k => vs.length - k) 0 ⟨by omega, by simp⟩ ⟨[0], rfl, rfl, rfl, by (repeat (first | exact trivial | refine ⟨rfl, ?_⟩))⟩ fun k hk => ?_
  by_cases hkl : k < vs.length
  · have hu : usesB q vs[k] = true ↔ (vs[k].2.1 = q ∨ vs[k].2.2.1 = q) := by unfold usesB; simp
    have hit : usesB q vs[k] = true → userI vs q = (k : Int) := fun h => idxA_hit hkl h hk.2
    have hnx : usesB q vs[k] = false → ∀ x ∈ vs.take (k + 1), usesB q x = false := fun h x hx => by
      rw [List.take_succ_eq_append_getElem hkl] at hx
      rcases List.mem_append.1 hx with hx | hx
      · exact hk.2 x hx
      · rw [List.mem_singleton.1 hx]; exact h
    clear hk
    generalize userI vs q = U at *
    generalize usesB q vs[k] = B at *
    (repeat' (first
  | (apply yFb; exact rfl; exact rfl)
  | (apply W.qd; (first
    | (apply q_mv; (conv => lhs; whnf))|(apply q_as; (conv => lhs; whnf))|(apply yS; (iterate 3 exact rfl))|(apply yT; (iterate 4 exact rfl))|(apply q_lss; exact rfl; exact rfl)|(apply q_eql; exact rfl; exact rfl)|(apply q_add; exact rfl; exact rfl; omega)|(apply yV; exact rfl; exact rfl)|(apply yX; (iterate 3 exact rfl); (first | omega | (focus (simp; done))))|(apply q_fld_fptF; (iterate 3 exact rfl))|(apply yGb; (iterate 4 exact rfl); (first | (with_reducible exact rfl) | exact natI_spec rfl | assumption | exact (Int.toNat_of_nonneg (by omega)).symm); (first | omega | (focus (simp only [List.length_map]; omega)) | (focus (simp; done)) | (focus (simp; omega))))|(apply (yEb (u := .d _)); exact rfl; exact rfl)
    | (apply (yDb (u := .d _)); exact rfl; exact rfl)))|(refine W.gOff _ _ rfl rfl (by intro h; cases h) ?_)|(apply yA)|(apply yB)|(apply yC; kernel_rfl)|(apply yE)|(apply yG)|(apply yH)|(apply yJ)|(apply yP)|(apply yL)|(apply yN)|(apply yQ; exact rfl)|(refine W.gF _ _ rfl rfl (fun hb => ?_) (fun hb => ?_) <;> ((try simp only [hb, zA, zB]) <;> (try simp only [zC, zD, zE, zF, zG, zH, zI, zJ] at hb) <;> (try (exfalso; omega))))
  | (refine W.cond _ rfl (fun hb => ?_) (fun hb => ?_) <;> ((try simp only [hb, zA, zB]) <;> (try simp only [zC, zD, zE, zF, zG, zH, zI, zJ] at hb) <;> (try (exfalso; omega))))))
    all_goals first
      | exact Ends.i rfl (hit (hu.2 (by omega))).symm
      | exact ⟨k + 1, ⟨by omega, hnx (Bool.eq_false_iff.2 fun h => by have := hu.1 h; omega)⟩, by omega, [0], rfl, rfl, rfl, iV_eq (by omega), rfl, rfl, trivial⟩
  · rw [show userI vs q = -1 from idxA_miss fun x hx => hk.2 x (by rwa [List.take_of_length_le (by omega)])]
    clear hk
    (repeat' (first
  | (apply W.qd; (first
    | (apply q_mv; (conv => lhs; whnf))|(apply q_as; (conv => lhs; whnf))|(apply yS; (iterate 3 exact rfl))|(apply yT; (iterate 4 exact rfl))|(apply q_lss; exact rfl; exact rfl)
    | (apply yV; exact rfl; exact rfl)))|(apply yA)|(apply yB)|(apply yC; kernel_rfl)|(apply yE)|(apply yI)|(apply yJ)|(apply yK)|(apply yM)
  | (refine W.cond _ rfl (fun hb => ?_) (fun hb => ?_) <;> ((try simp only [hb, zA, zB]) <;> (try simp only [zC, zD, zE, zF, zG, zH, zI, zJ] at hb) <;> (try (exfalso; omega))))))
    exact Ends.i rfl rfl
theorem A_rright {cs : List Cd} {vs : List Sv} {v : Sv} (hF : ∀ c ∈ cs, FInD c) (hn : NameIn v.1) : ACalls Tryz.prog 98 [lib cs vs, svA1 v] [] (bV (rightB cs v)) [] := by
  refine acalls_of_body Tryz.func98 rfl (Nat.le_of_ble_eq_true rfl) ?_
  have h1 := A_rname hn
  have h2 := A_rkeeps (vs := vs) (k := v.2.1) (n := v.2.2.2.1) hF
  have h3 := A_rkeeps (vs := vs) (k := v.2.2.1) (n := v.2.2.2.1) hF
  unfold rightB plausB
  generalize nameB v.1 = b1 at *
  generalize keepsB cs v.2.1 v.2.2.2.1 = b2 at *
  generalize keepsB cs v.2.2.1 v.2.2.2.1 = b3 at *
  (repeat' (first
  | (apply yFb; exact rfl; exact rfl)
  | (apply W.qd; (first
    | (apply (yW (h1)); exact rfl; exact rfl; (iterate 3 kernel_rfl))|(apply (yW (h2)); exact rfl; exact rfl; (iterate 3 kernel_rfl))|(apply (yW (h3)); exact rfl; exact rfl; (iterate 3 kernel_rfl))|(apply q_mv; (conv => lhs; whnf))|(apply q_as; (conv => lhs; whnf))|(apply yS; (iterate 3 exact rfl))|(apply yT; (iterate 4 exact rfl))|(apply yU; (iterate 4 exact rfl))|(apply q_lss; exact rfl; exact rfl)|(apply q_gtr; exact rfl; exact rfl)|(apply q_eql; exact rfl; exact rfl)|(apply q_not; exact rfl)|(apply (yEb (u := .d _)); exact rfl; exact rfl)
    | (apply (yDb (u := .d _)); exact rfl; exact rfl)))|(apply W.ed; (apply yBb; (iterate 3 exact rfl); kernel_rfl; kernel_rfl))|(refine W.gOff _ _ rfl rfl (by intro h; cases h) ?_)|(apply yA)|(apply yB)|(apply yC; kernel_rfl)|(apply yE)|(apply yH)|(apply yJ)|(apply yP)|(apply yQ; exact rfl)|(refine W.gF _ _ rfl rfl (fun hb => ?_) (fun hb => ?_) <;> ((try simp only [hb, zA, zB]) <;> (try simp only [zC, zD, zE, zF, zG, zH, zI, zJ] at hb) <;> (try (exfalso; omega))))
  | (refine W.cond _ rfl (fun hb => ?_) (fun hb => ?_) <;> ((try simp only [hb, zA, zB]) <;> (try simp only [zC, zD, zE, zF, zG, zH, zI, zJ] at hb) <;> (try (exfalso; omega))))))
  all_goals (refine Ends.b rfl ?_; simp [*] <;> omega)
end Go.Proofs.YtcljokdiblnhiaaGreatDoor
end
section
namespace Go.Proofs.YtcljokdiblnhiaaGreatDoor
open Go.RowKit
set_option maxHeartbeats 4000000
set_option maxRecDepth 100000
attribute [local irreducible] Quiet Eff OpOk AWPG ACont ABlock ACalls AGoto
theorem A_rvalid30 {cs : List Cd} {vs : List Sv} (h : LibIn cs vs) (hF : ∀ c ∈ cs, FInD c) : ACalls Tryz.prog 43 [lib cs vs] [] (bV (validB cs vs)) [] := by
  refine acalls_of_body Tryz.func43 rfl (Nat.le_of_ble_eq_true rfl) ?_
  have hmc : (cs.map cdD).length = cs.length := List.length_map _
  have hmv : (vs.map svD).length = vs.length := List.length_map _
  have hcl := h.cl
  have hvl := h.vl
  by_cases hg : cs.length ≤ 8 ∧ vs.length ≤ 8
  case neg =>
    have e : validB cs vs = false := by
      unfold validB
      rw [Bool.and_eq_false_iff]
      left
      rw [Bool.and_eq_false_iff, decide_eq_false_iff_not, decide_eq_false_iff_not]
      omega
    rw [e]
    (repeat' (first
  | (apply yFb; exact rfl; exact rfl)
  | (apply W.qd; (first
    | (apply q_mv; (conv => lhs; whnf))|(apply q_as; (conv => lhs; whnf))|(apply yS; (iterate 3 exact rfl))|(apply yT; (iterate 4 exact rfl))|(apply q_gtr; exact rfl; exact rfl)|(apply yV; exact rfl; exact rfl)|(apply (yEb (u := .d _)); exact rfl; exact rfl)
    | (apply (yDb (u := .d _)); exact rfl; exact rfl)))|(apply W.ed; (apply yBb; (iterate 3 exact rfl); kernel_rfl; kernel_rfl))|(refine W.gOff _ _ rfl rfl (by intro h; cases h) ?_)|(apply yA)|(apply yB)|(apply (W.regionS 3); exact rfl; kernel_rfl)|(apply yE)|(apply yJ)|(apply yP)|(apply yQ; exact rfl)|(refine W.gF _ _ rfl rfl (fun hb => ?_) (fun hb => ?_) <;> ((try simp only [hb, zA, zB]) <;> (try simp only [zC, zD, zE, zF, zG, zH, zI, zJ] at hb) <;> (try (exfalso; omega))))
  | (refine W.cond _ rfl (fun hb => ?_) (fun hb => ?_) <;> ((try simp only [hb, zA, zB]) <;> (try simp only [zC, zD, zE, zF, zG, zH, zI, zJ] at hb) <;> (try (exfalso; omega))))))
    all_goals first | exact Ends.b rfl rfl | (exfalso; omega)
  obtain ⟨hg1, hg2⟩ := hg
  have hV : validB cs vs = ((List.range cs.length).all (okC cs) && (List.range vs.length).all (okV cs vs)) := by
    unfold validB
    rw [decide_eq_true hg1, decide_eq_true hg2]; rfl
  have hbC : ∀ i, i < cs.length → okC cs i = false → validB cs vs = false := fun i hi h1 => by rw [hV, range_bad hi h1]; rfl
  have hbV : ∀ i, i < vs.length → okV cs vs i = false → validB cs vs = false := fun i hi h1 => by rw [hV, range_bad hi h1, Bool.and_false]
  have hgV : (∀ i, i < cs.length → okC cs i = true) → (∀ i, i < vs.length → okV cs vs i = true) → validB cs vs = true := fun h1 h2 => by rw [hV, all_range.2 h1, all_range.2 h2]; rfl
  clear hV
  generalize validB cs vs = V at *
  (repeat' (first
  | (apply yFb; exact rfl; exact rfl)
  | (apply W.qd; (first
    | (apply q_mv; (conv => lhs; whnf))|(apply q_as; (conv => lhs; whnf))|(apply yS; (iterate 3 exact rfl))|(apply yT; (iterate 4 exact rfl))|(apply q_gtr; exact rfl; exact rfl)|(apply yV; exact rfl; exact rfl)
    | (apply (yDb (u := .d _)); exact rfl; exact rfl)))|(apply W.ed; (apply yBb; (iterate 3 exact rfl); kernel_rfl; kernel_rfl))|(apply yA)|(apply yB)|(apply (W.regionS 4); exact rfl; kernel_rfl)|(apply yE)|(apply yG)|(apply yH)|(refine W.gF _ _ rfl rfl (fun hb => ?_) (fun hb => ?_) <;> ((try simp only [hb, zA, zB]) <;> (try simp only [zC, zD, zE, zF, zG, zH, zI, zJ] at hb) <;> (try (exfalso; omega))))
  | (refine W.cond _ rfl (fun hb => ?_) (fun hb => ?_) <;> ((try simp only [hb, zA, zB]) <;> (try simp only [zC, zD, zE, zF, zG, zH, zI, zJ] at hb) <;> (try (exfalso; omega))))))
  all_goals try (exfalso; omega)
  refine AWP.loopW (α := Nat) (fun k => k ≤ cs.length ∧ ∀ j, j < k → okC cs j = true) (fun k => ⟨[(3, iV k), (1, .opt 0 0)], [.box [cds cs, svs vs]]⟩) (fun k => cs.length - k) 0 ⟨Nat.zero_le _, fun j hj => by omega⟩ ⟨[0], rfl, rfl, rfl, by (repeat (first | exact trivial | refine ⟨rfl, ?_⟩))⟩ fun k hk => ?_
  by_cases hkl : k < cs.length
  · have hmem := List.getElem_mem hkl
    have hn := h.cn _ hmem
    have hf := A_rfindC (cs := cs) (vs := vs) (nm := cs[k].1) hcl (fun c hc => (h.cn c hc).b) hn.b
    have hnn : 0 ≤ fcI cs cs[k].1 := idxA_nn hmem (decide_eq_true rfl)
    rw [find_nn hnn] at hf
    have hFk := hF _ hmem
    obtain ⟨e, hc, he⟩ := A_check7 (M := cs[k].2.1) (D := cs[k].2.2.1) (par := cs[k].2.2.2.1) (dom := cs[k].2.2.2.2) hn.b hn.l hFk.d hFk.p
    have hok : okC cs k = (decide (fcI cs cs[k].1 = (k : Int)) && chkD cs[k]) := by unfold okC; rw [getDc hkl]
    have he2 : e = 0 ↔ chkD cs[k] = true := he
    replace hok := Lib.hid hok
    have hbk := hbC k hkl
    have hnx : okC cs k = true → ∀ j, j < k + 1 → okC cs j = true := fun h1 j hj => by
      by_cases e : j = k
      · subst e; exact h1
      · exact hk.2 j (by omega)
    clear hk hbC hbV hgV he
    generalize fcI cs cs[k].1 = fi at *
    generalize chkD cs[k] = ck at *
    (repeat' (first
  | (apply yFb; exact rfl; exact rfl)
  | (apply W.qd; (first
    | (apply (yW (hf)); exact rfl; exact rfl; (iterate 3 kernel_rfl))|(apply (yW (hc)); exact rfl; exact rfl; (iterate 3 kernel_rfl))|(apply q_mv; (conv => lhs; whnf))|(apply q_as; (conv => lhs; whnf))|(apply yS; (iterate 3 exact rfl))|(apply yT; (iterate 4 exact rfl))|(apply yU; (iterate 4 exact rfl))|(apply q_lss; exact rfl; exact rfl)|(apply q_neq; exact rfl; exact rfl)|(apply q_add; exact rfl; exact rfl; omega)|(apply yAb; exact rfl; exact rfl)|(apply yV; exact rfl; exact rfl)|(apply yX; (iterate 3 exact rfl); (first | omega | (focus (simp; done))))|(apply yY; (iterate 3 exact rfl); (first | omega | (focus (simp; done))))|(apply q_fld_fptF; (iterate 3 exact rfl))|(apply yGb; (iterate 4 exact rfl); (first | (with_reducible exact rfl) | exact natI_spec rfl | assumption | exact (Int.toNat_of_nonneg (by omega)).symm); (first | omega | (focus (simp only [List.length_map]; omega)) | (focus (simp; done)) | (focus (simp; omega))))|(apply (yEb (u := .d _)); exact rfl; exact rfl)
    | (apply (yDb (u := .d _)); exact rfl; exact rfl)))|(refine W.gOff _ _ rfl rfl (by intro h; cases h) ?_)|(apply yA)|(apply yB)|(apply yC; kernel_rfl)|(apply yD; exact rfl; kernel_rfl)|(apply yE)|(apply yF; kernel_rfl)|(apply yG)|(apply yH)|(apply yJ)|(apply yP)|(apply yL)|(apply yN)|(apply yQ; exact rfl)|(refine W.gF _ _ rfl rfl (fun hb => ?_) (fun hb => ?_) <;> ((try simp only [hb, zA, zB]) <;> (try simp only [zC, zD, zE, zF, zG, zH, zI, zJ] at hb) <;> (try (exfalso; omega))))
  | (refine W.cond _ rfl (fun hb => ?_) (fun hb => ?_) <;> ((try simp only [hb, zA, zB]) <;> (try simp only [zC, zD, zE, zF, zG, zH, zI, zJ] at hb) <;> (try (exfalso; omega))))))
    all_goals first
      | (refine Ends.b rfl (hbk ?_).symm; rw [hok.out, Bool.and_eq_false_iff, decide_eq_false_iff_not]; first | (left; omega) | (right; rw [Bool.eq_false_iff]; intro h9; have := he2.2 h9; omega))|(refine ⟨k + 1, ⟨by omega, hnx ?_⟩, by omega, [0], rfl, rfl, rfl, iV_eq (by omega), rfl, trivial⟩; rw [hok.out, Bool.and_eq_true, decide_eq_true_eq]; exact ⟨by omega, he2.1 (by omega)⟩)
  · have hC : ∀ i, i < cs.length → okC cs i = true := fun i hi => hk.2 i (by omega)
    have hgV := hgV hC
    clear hk hbC hC
    (repeat' (first
  | (apply W.qd; (first
    | (apply q_mv; (conv => lhs; whnf))|(apply q_as; (conv => lhs; whnf))|(apply yS; (iterate 3 exact rfl))|(apply yT; (iterate 4 exact rfl))|(apply q_lss; exact rfl; exact rfl)
    | (apply yV; exact rfl; exact rfl)))|(apply yA)|(apply yB)|(apply (W.regionS 11); exact rfl; kernel_rfl)|(apply yE)|(apply yG)|(apply yI)|(apply yK)|(apply yM)
  | (refine W.cond _ rfl (fun hb => ?_) (fun hb => ?_) <;> ((try simp only [hb, zA, zB]) <;> (try simp only [zC, zD, zE, zF, zG, zH, zI, zJ] at hb) <;> (try (exfalso; omega))))))
    all_goals try (exfalso; omega)
    refine AWP.loopW (α := Nat) (fun k => k ≤ vs.length ∧ ∀ j, j < k → okV cs vs j = true) (fun k => ⟨[(7, iV k), (1, .opt 0 0)], [.box [cds cs, svs vs]]⟩) (fun k => vs.length - k) 0 ⟨Nat.zero_le _, fun j hj => by omega⟩ ⟨[0], rfl, rfl, rfl, by (repeat (first | exact trivial | refine ⟨rfl, ?_⟩))⟩ fun k hk => ?_
    by_cases hkv : k < vs.length
    · have hmem := List.getElem_mem hkv
      have hn := h.vn _ hmem
      have hf := A_rfindV (cs := cs) (vs := vs) (nm := vs[k].1) hvl (fun c hc => (h.vn c hc).b) hn.b
      have hnn : 0 ≤ fvI vs vs[k].1 := idxA_nn hmem (decide_eq_true rfl)
      rw [find_nn hnn] at hf
      have hr := A_rright (cs := cs) (vs := vs) hF hn
      have hu1 := A_ruser (cs := cs) (vs := vs) (q := vs[k].2.1) hvl
      have hu2 := A_ruser (cs := cs) (vs := vs) (q := vs[k].2.2.1) hvl
      have hok := okV_right (cs := cs) hkv
      replace hok := Lib.hid hok
      have hbk := hbV k hkv
      have hnx : okV cs vs k = true → ∀ j, j < k + 1 → okV cs vs j = true := fun h1 j hj => by
        by_cases e : j = k
        · subst e; exact h1
        · exact hk.2 j (by omega)
      clear hk hbV hgV
      generalize fvI vs vs[k].1 = fi at *
      generalize userI vs vs[k].2.1 = u1 at *
      generalize userI vs vs[k].2.2.1 = u2 at *
      generalize rightB cs vs[k] = b1 at *
      (repeat' (first
  | (apply yFb; exact rfl; exact rfl)
  | (apply W.qd; (first
    | (apply (yW (hf)); exact rfl; exact rfl; (iterate 3 kernel_rfl))|(apply (yW (hr)); exact rfl; exact rfl; (iterate 3 kernel_rfl))|(apply (yW (hu1)); exact rfl; exact rfl; (iterate 3 kernel_rfl))|(apply (yW (hu2)); exact rfl; exact rfl; (iterate 3 kernel_rfl))|(apply q_mv; (conv => lhs; whnf))|(apply q_as; (conv => lhs; whnf))|(apply yS; (iterate 3 exact rfl))|(apply yT; (iterate 4 exact rfl))|(apply yU; (iterate 4 exact rfl))|(apply q_lss; exact rfl; exact rfl)|(apply q_neq; exact rfl; exact rfl)|(apply q_not; exact rfl)|(apply q_add; exact rfl; exact rfl; omega)|(apply yAb; exact rfl; exact rfl)|(apply yV; exact rfl; exact rfl)|(apply yX; (iterate 3 exact rfl); (first | omega | (focus (simp; done))))|(apply yY; (iterate 3 exact rfl); (first | omega | (focus (simp; done))))|(apply q_fld_fptF; (iterate 3 exact rfl))|(apply yGb; (iterate 4 exact rfl); (first | (with_reducible exact rfl) | exact natI_spec rfl | assumption | exact (Int.toNat_of_nonneg (by omega)).symm); (first | omega | (focus (simp only [List.length_map]; omega)) | (focus (simp; done)) | (focus (simp; omega))))|(apply (yEb (u := .d _)); exact rfl; exact rfl)
    | (apply (yDb (u := .d _)); exact rfl; exact rfl)))|(refine W.gOff _ _ rfl rfl (by intro h; cases h) ?_)|(apply yA)|(apply yB)|(apply yC; kernel_rfl)|(apply yD; exact rfl; kernel_rfl)|(apply yE)|(apply yF; kernel_rfl)|(apply yG)|(apply yH)|(apply yJ)|(apply yP)|(apply yL)|(apply yN)|(apply yQ; exact rfl)|(apply yR; exact rfl)|(refine W.gT _ _ rfl rfl (fun hb => ?_) (fun hb => ?_) <;> ((try simp only [hb, zA, zB]) <;> (try simp only [zC, zD, zE, zF, zG, zH, zI, zJ] at hb) <;> (try (exfalso; omega))))|(refine W.gF _ _ rfl rfl (fun hb => ?_) (fun hb => ?_) <;> ((try simp only [hb, zA, zB]) <;> (try simp only [zC, zD, zE, zF, zG, zH, zI, zJ] at hb) <;> (try (exfalso; omega))))
  | (refine W.cond _ rfl (fun hb => ?_) (fun hb => ?_) <;> ((try simp only [hb, zA, zB]) <;> (try simp only [zC, zD, zE, zF, zG, zH, zI, zJ] at hb) <;> (try (exfalso; omega))))))
      all_goals first
        | (refine Ends.b rfl (hbk ?_).symm; rw [hok.out]; simp [*] <;> omega)|(refine ⟨k + 1, ⟨by omega, hnx ?_⟩, by omega, [0], rfl, rfl, rfl, iV_eq (by omega), rfl, trivial⟩; rw [hok.out]; simp [*] <;> omega)
    · have e : V = true := hgV fun i hi => hk.2 i (by omega)
      subst e
      clear hk hbV hgV
      (repeat' (first
  | (apply W.qd; (first
    | (apply q_mv; (conv => lhs; whnf))|(apply q_as; (conv => lhs; whnf))|(apply yS; (iterate 3 exact rfl))|(apply yT; (iterate 4 exact rfl))|(apply q_lss; exact rfl; exact rfl)
    | (apply yV; exact rfl; exact rfl)))|(apply yA)|(apply yB)|(apply yC; kernel_rfl)|(apply yE)|(apply yI)|(apply yJ)|(apply yK)|(apply yM)
  | (refine W.cond _ rfl (fun hb => ?_) (fun hb => ?_) <;> ((try simp only [hb, zA, zB]) <;> (try simp only [zC, zD, zE, zF, zG, zH, zI, zJ] at hb) <;> (try (exfalso; omega))))))
      all_goals exact Ends.b rfl rfl
end Go.Proofs.YtcljokdiblnhiaaGreatDoor
end
section
namespace Go.Proofs.YtcljokdiblnhiaaGreatDoor
open Go.RowKit
set_option maxHeartbeats 4000000
set_option maxRecDepth 100000
abbrev Sr := Cd × List (List Nat) × List Bool × List Int
def sr0 : Sr := (cd0, [], [], [])
def srD (s : Sr) : List Dat := [.v (.string (bytesOf s.1.1)), .v (.int .i64 s.1.2.1), .v (.int .i64 s.1.2.2.1), .sl 1 (s.1.2.2.2.1.map rD), .v (.int .i64 s.1.2.2.2.2), .sl 1 (s.2.1.map sD), .sl 1 (s.2.2.1.map tD), .sl 1 (s.2.2.2.map iD)]
abbrev srcs (l : List Sr) : AV := .d (.sl 8 (l.map srD))
abbrev srA1 (s : Sr) : AV := .agg ((srD s).map .d)
def srB (s : Sr) : Bool := srcB s.1.2.1 s.1.2.2.1 s.1.2.2.2.1 s.2.1 s.2.2.1 s.2.2.2
structure SrIn (s : Sr) : Prop where
  c : CodeIn s.1.2.2.2.1
  us : s.2.1.length ≤ 10000000
  hv : s.2.2.1.length ≤ 10000000
  ll : s.2.2.2.length ≤ 10000000
  b : ∀ x ∈ s.2.1, isB x ∧ x.length < 9223372036854775808
def recSr (s : Sr) (u : Nat) : Option (List Nat) := recN s.1.2.1.toNat s.1.2.2.1.toNat (s.1.2.2.2.1.map fun r => r.map Int.toNat) s.2.1 s.2.2.1 u
theorem getDs {ss : List Sr} {i : Nat} (h : i < ss.length) : ss.getD i sr0 = ss[i] := by rw [List.getD_eq_getElem?_getD, List.getElem?_eq_getElem h]; rfl
theorem sr_ok {s : Sr} (h : srB s = true) (hb : ∀ x ∈ s.2.1, isB x ∧ x.length < 9223372036854775808) : ∃ (M D : Nat) (ps : List (List Nat)), s.1.2.1 = M ∧ s.1.2.2.1 = D ∧ s.1.2.2.2.1 = toZ ps ∧ SrcOk M D ps s.2.1 s.2.2.1 ∧ ∀ k (hk : k < s.2.2.2.length), 0 ≤ s.2.2.2[k] ∧ s.2.2.2[k] < (D : Int) := by
  unfold srB srcB at h
  simp only [Bool.and_eq_true, decide_eq_true_eq] at h
  obtain ⟨⟨⟨⟨h1, h2⟩, h3⟩, h4⟩, h5⟩ := h
  obtain ⟨M, D, ps, e1, e2, e3, hok⟩ := ok_valid h1
  have hpl : (toZ ps).length = ps.length := List.length_map _
  rw [e2, e3, hpl] at h2 h3
  refine ⟨M, D, ps, e1, e2, e3, ⟨hok, by omega, by omega, fun i hi => ?_, hb⟩, fun k hk => ?_⟩
  · unfold lenB at h4
    rw [List.all_eq_true] at h4
    have hil : i < s.2.2.1.length := by
      rcases Nat.lt_or_ge i s.2.2.1.length with h6 | h6
      · exact h6
      · rw [List.getD_eq_getElem?_getD, List.getElem?_eq_none h6] at hi; cases hi
    have := h4 i (List.mem_range.2 hil)
    rw [hi] at this
    simpa using this
  · have h6 := (incB_drop _ _ _).1 h5
    have hall : ∀ j (hj : j < s.2.2.2.length), 0 ≤ s.2.2.2[j] ∧ s.2.2.2[j] < s.1.2.2.1 := fun j => by
      induction j with
      | zero =>
        intro hj
        have := h6 0 hj
        rw [if_pos rfl] at this
        omega
      | succ j ih =>
        intro hj
        have h7 := h6 (j + 1) hj
        have h8 := ih (by omega)
        rw [if_neg (by omega), Nat.add_sub_cancel, List.getD_eq_getElem?_getD, List.getElem?_eq_getElem (by omega)] at h7
        simp only [Option.getD_some] at h7
        omega
    have := hall k hk
    rw [e2] at this
    exact this
theorem sr_rec {s : Sr} {M D : Nat} {ps : List (List Nat)} (e1 : s.1.2.1 = M) (e2 : s.1.2.2.1 = D) (e3 : s.1.2.2.2.1 = toZ ps) (u : Nat) : recSr s u = recN M D ps s.2.1 s.2.2.1 u := by
  unfold recSr
  rw [e1, e2, e3, toZ_back, Int.toNat_natCast, Int.toNat_natCast]
def liveTo (ss : List Sr) (n : Nat) : List (Nat × Nat) := ((List.range n).map fun j => (ss.getD j sr0).2.2.2.map fun u => (j, u.toNat)).flatten
def preL (ss : List Sr) (i k : Nat) : List (Nat × Nat) := liveTo ss i ++ ((ss.getD i sr0).2.2.2.take k).map fun u => (i, u.toNat)
theorem liveTo_succ (ss : List Sr) (n : Nat) : liveTo ss (n + 1) = liveTo ss n ++ (ss.getD n sr0).2.2.2.map fun u => (n, u.toNat) := by
  unfold liveTo
  rw [List.range_succ, List.map_append, List.flatten_append]
  simp
theorem preL_zero (ss : List Sr) (i : Nat) : preL ss i 0 = liveTo ss i := by unfold preL; simp
theorem preL_succ {ss : List Sr} {i k : Nat} (hi : i < ss.length) (hk : k < ss[i].2.2.2.length) : preL ss i (k + 1) = preL ss i k ++ [(i, ss[i].2.2.2[k].toNat)] := by
  unfold preL
  rw [getDs hi, List.take_succ_eq_append_getElem hk, List.map_append, List.append_assoc]; rfl
theorem preL_next {ss : List Sr} {i : Nat} (hi : i < ss.length) : preL ss i ss[i].2.2.2.length = preL ss (i + 1) 0 := by
  rw [preL_zero, liveTo_succ]
  unfold preL
  rw [getDs hi, List.take_length]
theorem liveTo_le (ss : List Sr) {n m : Nat} (h : n ≤ m) : (liveTo ss n).length ≤ (liveTo ss m).length := by
  induction m with
  | zero => obtain rfl : n = 0 := by omega
            exact Nat.le_refl _
  | succ m ih =>
    by_cases e : n = m + 1
    · rw [e]; exact Nat.le_refl _
    · rw [liveTo_succ, List.length_append]
      have := ih (by omega)
      omega
theorem preL_le {ss : List Sr} {i k : Nat} (hi : i < ss.length) : (preL ss i k).length ≤ (liveTo ss ss.length).length := by
  refine Nat.le_trans ?_ (liveTo_le ss (show i + 1 ≤ ss.length by omega))
  rw [liveTo_succ]
  unfold preL
  rw [List.length_append, List.length_append, List.length_map, List.length_map, List.length_take]
  omega
def recAt (ss : List Sr) (i u : Nat) : Option (List Nat) := recSr (ss.getD i sr0) u
abbrev Mv := Nat × Nat × Nat × Nat
def mvD (m : Mv) : List Dat := [.v (.int .i64 m.1), .v (.int .i64 m.2.1), .v (.int .i64 m.2.2.1), .v (.int .i64 m.2.2.2)]
def stD (u : List (List Nat)) : List Dat := [.sl 1 (u.map sD)]
def movN (D : Nat) (l : List (Nat × Nat)) : List Mv := l.zipIdx.map fun p => (p.1.1, p.1.2, p.2 / D, p.2 % D)
theorem movN_len (D : Nat) (l : List (Nat × Nat)) : (movN D l).length = l.length := by unfold movN; simp
theorem movN_snoc (D : Nat) (l : List (Nat × Nat)) (p : Nat × Nat) : movN D (l ++ [p]) = movN D l ++ [(p.1, p.2, l.length / D, l.length % D)] := by
  unfold movN
  rw [List.zipIdx_append, List.map_append]; simp
abbrev pkA (st : List (List (List Nat))) (mv : List Mv) (lo : List (Nat × Nat)) : AV := .agg [.d (.sl 1 (st.map stD)), .d (.sl 4 (mv.map mvD)), .d (.sl 2 (lo.map tmD))]
def cutN (M D : Nat) (ps : List (List Nat)) (pd : List (List Nat)) (q : Nat) : List (List (List Nat)) := (List.range q).map fun j => encN M ps ((pd.drop (j * D)).take D)
theorem cutN_succ (M D : Nat) (ps : List (List Nat)) (pd : List (List Nat)) (q : Nat) : cutN M D ps pd (q + 1) = cutN M D ps pd q ++ [encN M ps ((pd.drop (q * D)).take D)] := by
  unfold cutN
  rw [List.range_succ, List.map_append]; rfl
theorem cutN_len (M D : Nat) (ps : List (List Nat)) (pd : List (List Nat)) (q : Nat) : (cutN M D ps pd q).length = q := by unfold cutN; simp
def zero32 : List Nat := List.replicate 32 0
theorem pad_ge (D : Nat) (z : List Nat) (l : List (List Nat)) : l.length ≤ (padN D z l).length ∧ (padN D z l).length ≤ l.length + D := by
  unfold padN
  rw [List.length_append, List.length_replicate]
  refine ⟨by omega, ?_⟩
  rcases Nat.eq_zero_or_pos D with h | h
  · subst h; simp
  · have := Nat.mod_lt (D - l.length % D) h; omega
theorem pad_mem {D : Nat} {z : List Nat} {l : List (List Nat)} {x : List Nat} (h : x ∈ padN D z l) : x ∈ l ∨ x = z := by
  unfold padN at h
  rcases List.mem_append.1 h with h1 | h1
  · exact .inl h1
  · exact .inr (List.eq_of_mem_replicate h1)
structure Pkd where
  st : List (List (List Nat))
  mv : List Mv
  lo : List (Nat × Nat)
  e : Int
def packS (ss : List Sr) : PackS := packN (recAt ss) (liveTo ss ss.length)
def padS (D : Nat) (ss : List Sr) : List (List Nat) := padN D zero32 (packS ss).data
def repOk (M D : Nat) (ps : List (List Nat)) (ss : List Sr) : Pkd := ⟨cutN M D ps (padS D ss) ((padS D ss).length / D), movN D (packS ss).from', (packS ss).lost, 0⟩
def repN (tc : Cd) (ss : List Sr) : Pkd := if validC tc.2.1 tc.2.2.1 tc.2.2.2.1 = true ∧ ss.all srB = true then repOk tc.2.1.toNat tc.2.2.1.toNat (tc.2.2.2.1.map fun r => r.map Int.toNat) ss else ⟨[], [], [], 1⟩
abbrev repA (p : Pkd) : AV := .tup [pkA p.st p.mv p.lo, iV p.e]
theorem srA1_le {s : Sr} {F : Nat → Prop} {own : List Ent} {κ : List (Option Nat)} {w : World} {u : Value} (h : AV.sat F own κ w (srA1 s) u) : AV.sat F own κ w (srcA s.1.2.1 s.1.2.2.1 s.1.2.2.2.1 s.2.1 s.2.2.1 s.2.2.2) u := by
  unfold srA1 srD at h
  unfold srcA
  rw [AV.sat] at h ⊢
  obtain ⟨us, h1, h2⟩ := h
  refine ⟨us, h1, ?_⟩
  generalize us.toList = l at h2
  simp only [List.map_cons, List.map_nil] at h2
  rcases l with _ | ⟨a, _ | ⟨b, _ | ⟨c, _ | ⟨d, _ | ⟨e, _ | ⟨f, _ | ⟨g, _ | ⟨i, l⟩⟩⟩⟩⟩⟩⟩⟩ <;> simp only [AV.satL, and_false, and_assoc] at h2 ⊢
  obtain ⟨h3, h4, h5, h6, h7, h8⟩ := h2
  rw [sat_v] at h3 h7
  subst h3; subst h7
  refine ⟨?_, h4, h5, h6, ?_, h8⟩
  · rw [AV.sat, Dat.sat]; rfl
  · rw [AV.sat, Dat.sat]; rfl
theorem ACalls.srF {P : Program} {f : FuncId} {s : Sr} {l : List AV} {r : AV} {own own' : List Ent} (h : ACalls P f (srcA s.1.2.1 s.1.2.2.1 s.1.2.2.2.1 s.2.1 s.2.2.1 s.2.2.2 :: l) own r own') : ACalls P f (srA1 s :: l) own r own' :=
  h.le fun F κ w vs => satL_le1 (fun F own κ w u => srA1_le) F own κ w vs
attribute [local irreducible] Quiet Eff OpOk AWPG ACont ABlock ACalls AGoto
theorem A_srv {s : Sr} (h : SrIn s) : ACalls Tryz.prog 57 [srA1 s] [] (bV (srB s)) [] :=
  (A_cvalid h.c h.us h.hv h.ll (fun u hu => (h.b u hu).2)).srF
theorem A_srec {s : Sr} (hv : srB s = true) (h : SrIn s) {k : Nat} (hk : k < s.2.2.2.length) : ACalls Tryz.prog 25 [cdA1 s.1, strs s.2.1, bools s.2.2.1, iV s.2.2.2[k]] [] (recR (recSr s s.2.2.2[k].toNat)) [] := by
  obtain ⟨M, D, ps, e1, e2, e3, hs, hl⟩ := sr_ok hv h.b
  have hk2 := hl k hk
  have hw := hs.c.w
  have := A_erecS (u := s.2.2.2[k].toNat) hs (by omega)
  rw [← sr_rec e1 e2 e3, Int.toNat_of_nonneg hk2.1, cdN_A, ← e1, ← e2, ← e3] at this
  exact this.cdF (nm := s.1.1) (dom := s.1.2.2.2.2)
theorem sr_rlen {s : Sr} (hv : srB s = true) (h : SrIn s) {k : Nat} (hk : k < s.2.2.2.length) {x : List Nat} (hr : recSr s s.2.2.2[k].toNat = some x) : isB x ∧ x.length = 32 := by
  obtain ⟨M, D, ps, e1, e2, e3, hs, hl⟩ := sr_ok hv h.b
  have hk2 := hl k hk
  rw [sr_rec e1 e2 e3] at hr
  exact hs.rec_len (by have := hs.c.w; omega) hr
end Go.Proofs.YtcljokdiblnhiaaGreatDoor
end
section
namespace Go.Proofs.YtcljokdiblnhiaaGreatDoor
open Go.RowKit
set_option maxHeartbeats 4000000
set_option maxRecDepth 100000
attribute [local irreducible] Quiet Eff OpOk AWPG ACont ABlock ACalls AGoto
theorem A_live0 {ss : List Sr} : ACalls Tryz.prog 58 [srcs ss] [] (.fn 121 [.opt 0 0]) [.box [srcs ss]] := by
  refine acalls_of_bodyO Tryz.func58 rfl (Nat.le_of_ble_eq_true rfl) ?_
  (repeat' (first
  | (apply W.qd; (first
    | (apply q_as; (conv => lhs; whnf))
    | (apply q_makeFunc)))|(apply W.ed; (apply yBb; (iterate 3 exact rfl); kernel_rfl; kernel_rfl))|(apply yA)|(apply yB)|(apply yC; kernel_rfl)|(apply yE)
  | (apply yJ)))
  exact ⟨.inl rfl, [0], [.fn 121 [.opt 0 0]], rfl, rfl, ⟨rfl, trivial⟩, AVle.of_eq rfl, rfl⟩
theorem A_liveIter {ss : List Sr} {E0 E1 E2 E5 L : Ent} {e3 e4 e6 e7 e8 : List (Nat × Nat) → Ent} (hl : ss.length ≤ 10000000) (hll : ∀ s ∈ ss, s.2.2.2.length ≤ 10000000)
    (hcl : ∀ (p : List (Nat × Nat)) (Y : List Ent), selOwn (E0 :: E1 :: E2 :: e3 p :: e4 p :: E5 :: e6 p :: e7 p :: e8 p :: .box [srcs ss] :: L :: Y) [0, 1, 2, 3, 4, 5, 6, 7, 8, 9, 10] = [E0, E1, E2, e3 p, e4 p, E5, e6 p, e7 p, e8 p, .box [srcs ss], L])
    (h : ∀ i (hi : i < ss.length) k (hk : k < ss[i].2.2.2.length), YAt Tryz.prog 10 [E0, E1, E2, e3 (preL ss i k), e4 (preL ss i k), E5, e6 (preL ss i k), e7 (preL ss i k), e8 (preL ss i k), .box [srcs ss], L, .box ((srD ss[i]).map .d)] [iV i, iV ss[i].2.2.2[k]] true [E0, E1, E2, e3 (preL ss i (k + 1)), e4 (preL ss i (k + 1)), E5, e6 (preL ss i (k + 1)), e7 (preL ss i (k + 1)), e8 (preL ss i (k + 1)), .box [srcs ss], L, .box ((srD ss[i]).map .d)]) :
    ACalls Tryz.prog 121 [.yl 10, .opt 9 0] [E0, E1, E2, e3 (preL ss 0 0), e4 (preL ss 0 0), E5, e6 (preL ss 0 0), e7 (preL ss 0 0), e8 (preL ss 0 0), .box [srcs ss], L] (.tup []) [E0, E1, E2, e3 (preL ss ss.length 0), e4 (preL ss ss.length 0), E5, e6 (preL ss ss.length 0), e7 (preL ss ss.length 0), e8 (preL ss ss.length 0), .box [srcs ss], L] := by
  refine acalls_of_bodyS Tryz.func121 rfl (Nat.le_of_ble_eq_true rfl) ?_
  have hm : (ss.map srD).length = ss.length := List.length_map _
  (repeat' (first
  | (apply W.qd; (first
    | (apply q_mv; (conv => lhs; whnf))|(apply yT; (iterate 4 exact rfl))
    | (apply yV; exact rfl; exact rfl)))|(apply yA)|(apply yB)|(apply (W.regionS 1); exact rfl; kernel_rfl)|(apply yE)
  | (apply yG)))
  refine AWP.loopW (α := Nat) (fun i => i ≤ ss.length) (fun i => ⟨[(9, iV i), (8, iV ss.length), (7, srcs ss), (0, .yl 10), (1, .opt 9 0)], [E0, E1, E2, e3 (preL ss i 0), e4 (preL ss i 0), E5, e6 (preL ss i 0), e7 (preL ss i 0), e8 (preL ss i 0), .box [srcs ss], L]⟩) (fun i => ss.length - i) 0 (Nat.zero_le _) ?wkA fun i hi => ?_
  case wkA =>
    refine ⟨[0, 1, 2, 3, 4, 5, 6, 7, 8, 9, 10], rfl, rfl, ?_, rfl, iV_eq (by rw [hm]), rfl, rfl, rfl, trivial⟩
    exact (hcl (preL ss 0 0) []).symm
  by_cases hil : i < ss.length
  · have hli := hll _ (List.getElem_mem hil)
    have hmi : (ss[i].2.2.2.map iD).length = ss[i].2.2.2.length := List.length_map _
    have hY := h i hil
    have hnx := preL_next hil
    (repeat' (first
  | (apply W.qd; (first
    | (apply q_mv; (conv => lhs; whnf))|(apply q_as; (conv => lhs; whnf))|(apply yS; (iterate 3 exact rfl))|(apply yT; (iterate 4 exact rfl))|(apply q_lss; exact rfl; exact rfl)|(apply yV; exact rfl; exact rfl)|(apply yY; (iterate 3 exact rfl); (first | omega | (focus (simp; done))))
    | (apply yGb; (iterate 4 exact rfl); (first | (with_reducible exact rfl) | exact natI_spec rfl | assumption | exact (Int.toNat_of_nonneg (by omega)).symm); (first | omega | (focus (simp only [List.length_map]; omega)) | (focus (simp; done)) | (focus (simp; omega))))))|(apply W.ed; (apply yCb; (iterate 3 exact rfl); kernel_rfl))|(apply W.ln; (apply l_st_box; (iterate 6 exact rfl); (iterate 3 kernel_rfl)))|(apply yA)|(apply yB)|(apply (W.regionS 4); exact rfl; kernel_rfl)|(apply yE)|(apply yG)|(apply yH)
  | (refine W.cond _ rfl (fun hb => ?_) (fun hb => ?_) <;> ((try simp only [hb, zA, zB]) <;> (try simp only [zC, zD, zE, zF, zG, zH, zI, zJ] at hb) <;> (try (exfalso; omega))))))
    refine AWP.loopE (α := Nat) (fun k => k ≤ ss[i].2.2.2.length) (fun k => ⟨[(17, iV k), (16, iV ss[i].2.2.2.length), (15, ints ss[i].2.2.2), (3, iV i), (9, iV i), (8, iV ss.length), (7, srcs ss), (0, .yl 10), (1, .opt 9 0)], [E0, E1, E2, e3 (preL ss i k), e4 (preL ss i k), E5, e6 (preL ss i k), e7 (preL ss i k), e8 (preL ss i k), .box [srcs ss], L, .box ((srD ss[i]).map .d)]⟩) (fun k => ss[i].2.2.2.length - k) 0 (Nat.zero_le _) ⟨rfl, rfl, iV_eq (by rw [hmi]), rfl, rfl, rfl, rfl, rfl, rfl, rfl, trivial⟩ fun k hk => ?_
    by_cases hkl : k < ss[i].2.2.2.length
    · (repeat' (first
  | (apply W.qd; (first
    | (apply q_mv; (conv => lhs; whnf))|(apply q_as; (conv => lhs; whnf))|(apply q_lss; exact rfl; exact rfl)|(apply q_not; exact rfl)|(apply q_add; exact rfl; exact rfl; omega)|(apply yX; (iterate 3 exact rfl); (first | omega | (focus (simp; done))))
    | (apply yGb; (iterate 4 exact rfl); (first | (with_reducible exact rfl) | exact natI_spec rfl | assumption | exact (Int.toNat_of_nonneg (by omega)).symm); (first | omega | (focus (simp only [List.length_map]; omega)) | (focus (simp; done)) | (focus (simp; omega))))))|(apply W.ed; ((exact e_yield (hY k hkl) rfl rfl)))|(apply yA)|(apply yB)|(apply yC; kernel_rfl)|(apply yE)|(apply yG)|(apply yH)|(apply yL)|(apply yR; exact rfl)
  | (refine W.cond _ rfl (fun hb => ?_) (fun hb => ?_) <;> ((try simp only [hb, zA, zB]) <;> (try simp only [zC, zD, zE, zF, zG, zH, zI, zJ] at hb) <;> (try (exfalso; omega))))))
      exact ⟨k + 1, by omega, by omega, rfl, iV_eq (by omega), rfl, rfl, rfl, rfl, rfl, rfl, rfl, rfl, trivial⟩
    · obtain rfl : k = ss[i].2.2.2.length := by omega
      rw [hnx]
      (repeat' (first
  | (apply W.qd; (first
    | (apply q_mv; (conv => lhs; whnf))|(apply q_lss; exact rfl; exact rfl)
    | (apply q_add; exact rfl; exact rfl; omega)))|(apply yA)|(apply yB)|(apply yC; kernel_rfl)|(apply yE)|(apply yI)|(apply yK)|(apply yL)|(apply yM)
  | (refine W.cond _ rfl (fun hb => ?_) (fun hb => ?_) <;> ((try simp only [hb, zA, zB]) <;> (try simp only [zC, zD, zE, zF, zG, zH, zI, zJ] at hb) <;> (try (exfalso; omega))))))
      refine ⟨i + 1, by omega, by omega, [0, 1, 2, 3, 4, 5, 6, 7, 8, 9, 10], rfl, rfl, ?_, iV_eq (by omega), rfl, rfl, rfl, rfl, trivial⟩
      exact (hcl (preL ss (i + 1) 0) [_]).symm
  · obtain rfl : i = ss.length := by omega
    (repeat' (first
  | (apply W.qd; (apply q_lss; exact rfl; exact rfl))|(apply yA)|(apply yB)|(apply yC; kernel_rfl)|(apply yE)|(apply yI)|(apply yK)|(apply yM)
  | (refine W.cond _ rfl (fun hb => ?_) (fun hb => ?_) <;> ((try simp only [hb, zA, zB]) <;> (try simp only [zC, zD, zE, zF, zG, zH, zI, zJ] at hb) <;> (try (exfalso; omega))))))
    exact ⟨.inr rfl, [], trivial, AVle.of_eq rfl, rfl⟩
end Go.Proofs.YtcljokdiblnhiaaGreatDoor
end
section
namespace Go.Proofs.YtcljokdiblnhiaaGreatDoor
open Go.RowKit
set_option maxHeartbeats 8000000
set_option maxRecDepth 100000
structure RepIn (tc : Cd) (ss : List Sr) : Prop where
  c : CodeIn tc.2.2.2.1
  sl : ss.length ≤ 10000000
  s : ∀ s ∈ ss, SrIn s
  tot : (liveTo ss ss.length).length ≤ 10000000
theorem pack_some {ss : List Sr} {i k : Nat} (hi : i < ss.length) (hk : k < ss[i].2.2.2.length) {x : List Nat} (hr : recSr ss[i] ss[i].2.2.2[k].toNat = some x) : packN (recAt ss) (preL ss i (k + 1)) = ⟨(packN (recAt ss) (preL ss i k)).data ++ [x], (packN (recAt ss) (preL ss i k)).from' ++ [(i, ss[i].2.2.2[k].toNat)], (packN (recAt ss) (preL ss i k)).lost⟩ := by
  rw [preL_succ hi hk, packN_succ]
  unfold packStep
  have : recAt ss i ss[i].2.2.2[k].toNat = some x := by unfold recAt; rw [getDs hi]; exact hr
  dsimp only
  rw [this]
theorem pack_none {ss : List Sr} {i k : Nat} (hi : i < ss.length) (hk : k < ss[i].2.2.2.length) (hr : recSr ss[i] ss[i].2.2.2[k].toNat = none) : packN (recAt ss) (preL ss i (k + 1)) = ⟨(packN (recAt ss) (preL ss i k)).data, (packN (recAt ss) (preL ss i k)).from', (packN (recAt ss) (preL ss i k)).lost ++ [(i, ss[i].2.2.2[k].toNat)]⟩ := by
  rw [preL_succ hi hk, packN_succ]
  unfold packStep
  have : recAt ss i ss[i].2.2.2[k].toNat = none := by unfold recAt; rw [getDs hi]; exact hr
  dsimp only
  rw [this]
theorem pack_units {ss : List Sr} (hv : ∀ i (hi : i < ss.length), srB ss[i] = true) (hs : ∀ s ∈ ss, SrIn s) : ∀ x ∈ (packS ss).data, isB x ∧ x.length = 32 := fun x hx => by
  unfold packS packN at hx
  rcases pack_data _ _ _ _ hx with h1 | ⟨p, h1, h2⟩
  · cases h1
  · unfold liveTo at h1
    rw [List.mem_flatten] at h1
    obtain ⟨l, h3, h4⟩ := h1
    rw [List.mem_map] at h3
    obtain ⟨j, h5, rfl⟩ := h3
    have hj := List.mem_range.1 h5
    rw [getDs hj, List.mem_map] at h4
    obtain ⟨u, h6, rfl⟩ := h4
    obtain ⟨k, hk, rfl⟩ := List.getElem_of_mem h6
    unfold recAt at h2
    rw [getDs hj] at h2
    exact sr_rlen (hv j hj) (hs _ (List.getElem_mem hj)) hk h2
theorem rep_bad {tc : Cd} {ss : List Sr} (h : ¬ (validC tc.2.1 tc.2.2.1 tc.2.2.2.1 = true ∧ ss.all srB = true)) : repN tc ss = ⟨[], [], [], 1⟩ := by
  unfold repN
  rw [if_neg h]
theorem repA_err : AVle (.tup [.agg [.d (.v (.slice none 0 0)), .d (.v (.slice none 0 0)), .d (.v (.slice none 0 0))], iV 1]) (repA ⟨[], [], [], 1⟩) := AVle.tup ⟨AVle.agg ⟨AVle.nil 1, AVle.nil 4, AVle.nil 2, trivial⟩, AVle.refl _, trivial⟩
attribute [local irreducible] Quiet Eff OpOk AWPG ACont ABlock ACalls AGoto
theorem A_repack {tc : Cd} {ss : List Sr} (h : RepIn tc ss) : ACalls Tryz.prog 24 [cdA1 tc, srcs ss] [] (repA (repN tc ss)) [] := by
  have hva : ACalls Tryz.prog 56 [cdA1 tc] [] (bV (validC tc.2.1 tc.2.2.1 tc.2.2.2.1)) [] := (A_evalid h.c).cdF (nm := tc.1) (dom := tc.2.2.2.2)
  have hsl := h.sl
  have hms : (ss.map srD).length = ss.length := List.length_map _
  refine acalls_of_body Tryz.func24 rfl (Nat.le_of_ble_eq_true rfl) ?_
  cases hV : validC tc.2.1 tc.2.2.1 tc.2.2.2.1 with
  | false =>
    rw [hV] at hva
    rw [rep_bad (by rw [hV]; simp)]
    (repeat' (first
  | (apply W.qd; (first
    | (apply (yW (hva)); exact rfl; exact rfl; (iterate 3 kernel_rfl))|(apply q_as; (conv => lhs; whnf))|(apply yU; (iterate 4 exact rfl))|(apply q_not; exact rfl)
    | (apply yZ; exact rfl; exact rfl; kernel_rfl)))
  | (apply W.ed; (first
    | (apply yBb; (iterate 3 exact rfl); kernel_rfl; kernel_rfl)
    | (apply yCb; (iterate 3 exact rfl); kernel_rfl)))|(apply W.ln; (apply l_st_box; (iterate 6 exact rfl); (iterate 3 kernel_rfl)))|(apply yA)|(apply yB)|(apply yC; kernel_rfl)|(apply yE)|(apply yJ)|(apply yP)
  | (apply yQ; exact rfl)))
    all_goals exact ⟨.inl rfl, [], [.agg [.d (.v (.slice none 0 0)), .d (.v (.slice none 0 0)), .d (.v (.slice none 0 0))], iV 1], rfl, ⟨⟨2, _, true, rfl, rfl, rfl, rfl⟩, rfl, trivial⟩, repA_err, rfl⟩
  | true =>
  rw [hV] at hva
  have hbad : ∀ i (hi : i < ss.length), srB ss[i] = false → repN tc ss = ⟨[], [], [], 1⟩ := fun i hi h1 => rep_bad fun h2 => by
    have := List.all_eq_true.1 h2.2 _ (List.getElem_mem hi)
    rw [h1] at this; cases this
  have hgood : (∀ i (hi : i < ss.length), srB ss[i] = true) → repN tc ss = repOk tc.2.1.toNat tc.2.2.1.toNat (tc.2.2.2.1.map fun r => r.map Int.toNat) ss := fun h1 => by
    unfold repN
    rw [if_pos]
    refine ⟨hV, List.all_eq_true.2 fun x hx => ?_⟩
    obtain ⟨i, hi, rfl⟩ := List.getElem_of_mem hx
    exact h1 i hi
  generalize repN tc ss = R at *
  (repeat' (first
  | (apply W.qd; (first
    | (apply (yW (hva)); exact rfl; exact rfl; (iterate 3 kernel_rfl))|(apply q_mv; (conv => lhs; whnf))|(apply q_as; (conv => lhs; whnf))|(apply yT; (iterate 4 exact rfl))|(apply yU; (iterate 4 exact rfl))|(apply q_not; exact rfl)
    | (apply yV; exact rfl; exact rfl)))
  | (apply W.ed; (first
    | (apply yBb; (iterate 3 exact rfl); kernel_rfl; kernel_rfl)
    | (apply yCb; (iterate 3 exact rfl); kernel_rfl)))|(apply yA)|(apply yB)|(apply (W.regionS 4); exact rfl; kernel_rfl)|(apply yE)|(apply yG)|(apply yH)
  | (apply yR; exact rfl)))
  refine AWP.loopW (α := Nat) (fun k => k ≤ ss.length ∧ ∀ j (hj : j < ss.length), j < k → srB ss[j] = true) (fun k => ⟨[(24, iV k), (23, iV ss.length), (22, srcs ss), (2, .opt 0 0), (3, .opt 1 0), (4, .opt 2 0)], [.box ((cdD tc).map .d), .box [srcs ss], .box [.d (.v (.slice none 0 0)), .d (.v (.slice none 0 0)), .d (.v (.slice none 0 0))]]⟩) (fun k => ss.length - k) 0 ⟨Nat.zero_le _, fun j hj h => by omega⟩ ?wkA fun k hk => ?_
  case wkA => exact ⟨[0, 1, 2], rfl, rfl, rfl, rfl, iV_eq (by rw [hms]), rfl, rfl, rfl, rfl, trivial⟩
  by_cases hkl : k < ss.length
  · have hv := A_srv (h.s _ (List.getElem_mem hkl))
    have hb0 := hbad k hkl
    have hnx : srB ss[k] = true → ∀ j (hj : j < ss.length), j < k + 1 → srB ss[j] = true := fun h1 j hj hjk => by
      by_cases e : j = k
      · subst e; exact h1
      · exact hk.2 j hj (by omega)
    clear hk hbad hgood
    generalize srB ss[k] = b at *
    cases b with
    | false =>
      rw [hb0 rfl]
      (repeat' (first
  | (apply W.qd; (first
    | (apply (yW (hv)); exact rfl; exact rfl; (iterate 3 kernel_rfl))|(apply q_as; (conv => lhs; whnf))|(apply yU; (iterate 4 exact rfl))|(apply q_lss; exact rfl; exact rfl)|(apply q_not; exact rfl)|(apply yY; (iterate 3 exact rfl); (first | omega | (focus (simp; done))))|(apply yZ; exact rfl; exact rfl; kernel_rfl)
    | (apply yGb; (iterate 4 exact rfl); (first | (with_reducible exact rfl) | exact natI_spec rfl | assumption | exact (Int.toNat_of_nonneg (by omega)).symm); (first | omega | (focus (simp only [List.length_map]; omega)) | (focus (simp; done)) | (focus (simp; omega))))))|(apply W.ed; (apply yCb; (iterate 3 exact rfl); kernel_rfl))|(apply W.ln; (apply l_st_box; (iterate 6 exact rfl); (iterate 3 kernel_rfl)))|(apply yA)|(apply yB)|(apply yC; kernel_rfl)|(apply yE)|(apply yG)|(apply yH)|(apply yJ)|(apply yP)|(apply yN)|(apply yQ; exact rfl)
  | (refine W.cond _ rfl (fun hb => ?_) (fun hb => ?_) <;> ((try simp only [hb, zA, zB]) <;> (try simp only [zC, zD, zE, zF, zG, zH, zI, zJ] at hb) <;> (try (exfalso; omega))))))
      all_goals exact ⟨.inl rfl, [], [.agg [.d (.v (.slice none 0 0)), .d (.v (.slice none 0 0)), .d (.v (.slice none 0 0))], iV 1], rfl, ⟨⟨2, _, true, rfl, rfl, rfl, rfl⟩, rfl, trivial⟩, repA_err, rfl⟩
    | true =>
      (repeat' (first
  | (apply W.qd; (first
    | (apply (yW (hv)); exact rfl; exact rfl; (iterate 3 kernel_rfl))|(apply q_mv; (conv => lhs; whnf))|(apply yU; (iterate 4 exact rfl))|(apply q_lss; exact rfl; exact rfl)|(apply q_not; exact rfl)|(apply q_add; exact rfl; exact rfl; omega)|(apply yY; (iterate 3 exact rfl); (first | omega | (focus (simp; done))))
    | (apply yGb; (iterate 4 exact rfl); (first | (with_reducible exact rfl) | exact natI_spec rfl | assumption | exact (Int.toNat_of_nonneg (by omega)).symm); (first | omega | (focus (simp only [List.length_map]; omega)) | (focus (simp; done)) | (focus (simp; omega))))))|(apply W.ed; (apply yCb; (iterate 3 exact rfl); kernel_rfl))|(apply W.ln; (apply l_st_box; (iterate 6 exact rfl); (iterate 3 kernel_rfl)))|(apply yA)|(apply yB)|(apply yC; kernel_rfl)|(apply yE)|(apply yG)|(apply yH)|(apply yL)|(apply yR; exact rfl)
  | (refine W.cond _ rfl (fun hb => ?_) (fun hb => ?_) <;> ((try simp only [hb, zA, zB]) <;> (try simp only [zC, zD, zE, zF, zG, zH, zI, zJ] at hb) <;> (try (exfalso; omega))))))
      all_goals exact ⟨k + 1, ⟨by omega, hnx rfl⟩, by omega, [0, 1, 2], rfl, rfl, rfl, iV_eq (by omega), rfl, rfl, rfl, rfl, rfl, trivial⟩
  have hall : ∀ i (hi : i < ss.length), srB ss[i] = true := fun i hi => hk.2 i hi (by omega)
  have hR := hgood hall
  clear hbad hgood hk
  subst hR
  obtain ⟨M, D, ps, e1, e2, e3, hok⟩ := ok_valid hV
  rw [e1, e2, e3, Int.toNat_natCast, Int.toNat_natCast, toZ_back]
  have hD1 := hok.d
  have hw1 := hok.w
  have hlive := A_live0 (ss := ss)
  obtain ⟨nm, M', D', par, dom⟩ := tc
  dsimp only at e1 e2 e3
  subst e1 e2 e3
  (repeat' (first
  | (apply W.qd; (apply q_lss; exact rfl; exact rfl))|(apply W.ed; (apply yCb; (iterate 3 exact rfl); kernel_rfl))|(apply yA)|(apply yB)|(apply (W.regionS 11); exact rfl; kernel_rfl)|(apply yE)|(apply yI)|(apply yK)|(apply yM)
  | (refine W.cond _ rfl (fun hb => ?_) (fun hb => ?_) <;> ((try simp only [hb, zA, zB]) <;> (try simp only [zC, zD, zE, zF, zG, zH, zI, zJ] at hb) <;> (try (exfalso; omega))))))
  refine AWP.nilBox (l' := [.osl 5 0 0 0, .d (.v (.slice none 0 0)), .d (.v (.slice none 0 0))]) 3 0 1 47 rfl rfl (by omega) rfl rfl rfl rfl ?_
  refine AWP.nilBox (l' := [.osl 5 0 0 0, .osl 6 0 0 0, .d (.v (.slice none 0 0))]) 3 1 4 65 rfl rfl (by omega) rfl rfl rfl rfl ?_
  refine AWP.nilBox (l' := [.osl 5 0 0 0, .osl 6 0 0 0, .osl 7 0 0 0]) 3 2 2 129 rfl rfl (by omega) rfl rfl rfl rfl ?_
  refine AWP.nilBox (l' := [.osl 8 0 0 0]) 4 0 1 9 rfl rfl (by omega) rfl rfl rfl rfl ?_
  (repeat' (first
  | (apply W.qd; (apply yT; (iterate 4 exact rfl)))|(apply W.ed; (apply (e_callJ (js := []) (hlive)); (iterate 5 exact rfl); kernel_rfl; kernel_rfl))|(apply yB)|(apply yC; kernel_rfl)|(apply yE)
  | (apply yG)))
  have hP0 : packN (recAt ss) (preL ss 0 0) = ⟨[], [], []⟩ := by rw [preL_zero]; rfl
  refine AWP.wk ⟨[(34, .fn 121 [.opt 9 0]), (2, .opt 0 0), (3, .opt 1 0), (4, .opt 2 0), (8, .opt 3 0), (9, .opt 4 0)], [.box [bS nm, iV (M : Int), iV (D : Int), rowsA (toZ ps), iV dom], .box [srcs ss], .box [.d (.v (.slice none 0 0)), .d (.v (.slice none 0 0)), .d (.v (.slice none 0 0))], .box [.osl 5 0 0 0, .osl 6 (movN D (packN (recAt ss) (preL ss 0 0)).from').length 0 (movN D (packN (recAt ss) (preL ss 0 0)).from').length, .osl 7 (packN (recAt ss) (preL ss 0 0)).lost.length 0 (packN (recAt ss) (preL ss 0 0)).lost.length], .box [.osl 8 (packN (recAt ss) (preL ss 0 0)).data.length 0 (packN (recAt ss) (preL ss 0 0)).data.length], .row 0 1 47 [], .row (movN D (packN (recAt ss) (preL ss 0 0)).from').length 4 65 ((movN D (packN (recAt ss) (preL ss 0 0)).from').map mvD), .row (packN (recAt ss) (preL ss 0 0)).lost.length 2 129 ((packN (recAt ss) (preL ss 0 0)).lost.map tmD), .row (packN (recAt ss) (preL ss 0 0)).data.length 1 9 ((packN (recAt ss) (preL ss 0 0)).data.map sD), .box [srcs ss]]⟩ (by rw [hP0]; exact ⟨[0, 1, 2, 3, 4, 5, 6, 7, 8, 9], rfl, rfl, rfl, by (repeat (first | exact trivial | refine ⟨rfl, ?_⟩))⟩) ?_
  refine AWP.range (s2 := ⟨[(2, .opt 0 0), (4, .opt 2 0), (8, .opt 3 0), (9, .opt 4 0)], [.box [bS nm, iV (M : Int), iV (D : Int), rowsA (toZ ps), iV dom], .box [srcs ss], .box [.d (.v (.slice none 0 0)), .d (.v (.slice none 0 0)), .d (.v (.slice none 0 0))], .box [.osl 5 0 0 0, .osl 6 (movN D (packN (recAt ss) (preL ss ss.length 0)).from').length 0 (movN D (packN (recAt ss) (preL ss ss.length 0)).from').length, .osl 7 (packN (recAt ss) (preL ss ss.length 0)).lost.length 0 (packN (recAt ss) (preL ss ss.length 0)).lost.length], .box [.osl 8 (packN (recAt ss) (preL ss ss.length 0)).data.length 0 (packN (recAt ss) (preL ss ss.length 0)).data.length], .row 0 1 47 [], .row (movN D (packN (recAt ss) (preL ss ss.length 0)).from').length 4 65 ((movN D (packN (recAt ss) (preL ss ss.length 0)).from').map mvD), .row (packN (recAt ss) (preL ss ss.length 0)).lost.length 2 129 ((packN (recAt ss) (preL ss ss.length 0)).lost.map tmD), .row (packN (recAt ss) (preL ss ss.length 0)).data.length 1 9 ((packN (recAt ss) (preL ss ss.length 0)).data.map sD)]⟩) rfl (by kernel_rfl)
    (A_liveIter (e3 := fun p => .box [.osl 5 0 0 0, .osl 6 (movN D (packN (recAt ss) p).from').length 0 (movN D (packN (recAt ss) p).from').length, .osl 7 (packN (recAt ss) p).lost.length 0 (packN (recAt ss) p).lost.length]) (e4 := fun p => .box [.osl 8 (packN (recAt ss) p).data.length 0 (packN (recAt ss) p).data.length]) (e6 := fun p => .row (movN D (packN (recAt ss) p).from').length 4 65 ((movN D (packN (recAt ss) p).from').map mvD)) (e7 := fun p => .row (packN (recAt ss) p).lost.length 2 129 ((packN (recAt ss) p).lost.map tmD)) (e8 := fun p => .row (packN (recAt ss) p).data.length 1 9 ((packN (recAt ss) p).data.map sD)) hsl (fun s hs => (h.s s hs).ll) (fun p Y => rfl) (fun i hi k hk => ?_)) rfl (by decide) ⟨[0, 1, 2, 3, 4, 5, 6, 7, 8], rfl, rfl, rfl, by (repeat (first | exact trivial | refine ⟨rfl, ?_⟩))⟩ ?_
  · have hvi := hall i hi
    have hSi := h.s _ (List.getElem_mem hi)
    have hrec := A_srec hvi hSi hk
    have hlen := pack_len (recAt ss) (preL ss i k)
    have hple := preL_le (k := k) hi
    have htot := h.tot
    obtain ⟨_, _, _, _, _, _, _, hnn⟩ := sr_ok hvi hSi.b
    have hnn := (hnn k hk).1
    obtain ⟨v, hv⟩ : ∃ v : Nat, ss[i].2.2.2[k] = v := ⟨ss[i].2.2.2[k].toNat, by omega⟩
    have hmvl := movN_len D (packN (recAt ss) (preL ss i k)).from'
    cases hr : recSr ss[i] ss[i].2.2.2[k].toNat with
    | none =>
      have hst := pack_none hi hk hr
      rw [hr] at hrec
      unfold recR at hrec
      dsimp only at hrec ⊢
      rw [hv, Int.toNat_natCast] at hst
      rw [hv] at hrec ⊢
      have e9 : ((packN (recAt ss) (preL ss i k)).lost ++ [(i, v)]).length = (packN (recAt ss) (preL ss i k)).lost.length + 1 := by simp
      rw [hst]
      dsimp only
      generalize packN (recAt ss) (preL ss i k) = PK at *
      obtain ⟨C, A0, B⟩ := PK
      dsimp only at *
      generalize movN D A0 = A at *
      refine YAt.ok (own1 := [.box [bS nm, iV (M : Int), iV (D : Int), rowsA (toZ ps), iV dom], .box [srcs ss], .box [.d (.v (.slice none 0 0)), .d (.v (.slice none 0 0)), .d (.v (.slice none 0 0))], .box [.osl 5 0 0 0, .osl 6 A.length 0 A.length, .osl 7 (B.length + 1) 0 (B ++ [(i, v)]).length], .box [.osl 8 C.length 0 C.length], .row 0 1 47 [], .row A.length 4 65 (A.map mvD), .row (B.length + 1) 2 129 ((B ++ [(i, v)]).map tmD), .row C.length 1 9 (C.map sD), .box [srcs ss], .lp .busy none #[35, 36] _ _ _, .box ((srD ss[i]).map .d)]) (s2 := ⟨[(10, iV i), (11, iV v), (2, .opt 0 0), (3, .opt 1 0), (8, .opt 3 0), (9, .opt 4 0)], _⟩) rfl rfl rfl rfl (fun g => ?_) rfl (fun g => ?_) rfl (by rw [e9]; rfl)
      · refine AWP.toW ?_
        (repeat' (first
  | (apply W.qd; (apply q_as; (conv => lhs; whnf)))|(apply yA)|(apply yB)|(apply yC; kernel_rfl)
  | (apply yE)))
        exact ⟨rfl, ⟨[0, 1, 2, 3, 4, 5, 6, 7, 8, 9, 10, 11], rfl, rfl, rfl, by (repeat (first | exact trivial | refine ⟨rfl, ?_⟩))⟩⟩
      · refine AWP.toO ?_
        (repeat' (first
  | (apply W.qd; (first
    | (apply (yW (hrec)); exact rfl; exact rfl; (iterate 3 kernel_rfl))|(apply q_mv; (conv => lhs; whnf))|(apply q_as; (conv => lhs; whnf))|(apply yS; (iterate 3 exact rfl))|(apply yT; (iterate 4 exact rfl))|(apply yU; (iterate 4 exact rfl))|(apply q_neq; exact rfl; exact rfl)|(apply yAb; exact rfl; exact rfl)|(apply yY; (iterate 3 exact rfl); (first | omega | (focus (simp; done))))|(apply yZ; exact rfl; exact rfl; kernel_rfl)|(apply q_litF; (iterate 5 exact rfl); kernel_rfl; kernel_rfl; exact rfl)
    | (apply yGb; (iterate 4 exact rfl); (first | (with_reducible exact rfl) | exact natI_spec rfl | assumption | exact (Int.toNat_of_nonneg (by omega)).symm); (first | omega | (focus (simp only [List.length_map]; omega)) | (focus (simp; done)) | (focus (simp; omega))))))
  | (apply W.ed; (first
    | ((apply (e_app1F (f := tmD) (i, v)); (iterate 8 exact rfl); omega))
    | (apply yCb; (iterate 3 exact rfl); kernel_rfl)))|(apply W.ln; (apply l_st_box; (iterate 6 exact rfl); (iterate 3 kernel_rfl)))|(apply yA)|(apply yB)|(apply yC; kernel_rfl)|(apply yE)|(apply yG)|(apply yI)|(apply yK)|(apply yM)
  | (apply yQ; exact rfl)))
        exact ⟨rfl, ⟨[0, 1, 2, 3, 4, 5, 6, 7, 8, 9, 10, 11], rfl, rfl, rfl, by (repeat (first | exact trivial | refine ⟨rfl, ?_⟩))⟩⟩
    | some x =>
      have hst := pack_some hi hk hr
      rw [hr] at hrec
      unfold recR at hrec
      dsimp only at hrec ⊢
      rw [hv, Int.toNat_natCast] at hst
      rw [hv] at hrec ⊢
      rw [hst]
      dsimp only
      rw [movN_snoc]
      dsimp only
      generalize packN (recAt ss) (preL ss i k) = PK at *
      obtain ⟨C, A0, B⟩ := PK
      dsimp only at *
      rw [← hlen.1]
      generalize movN D A0 = A at *
      have e8 : (A ++ [((i, v, C.length / D, C.length % D) : Mv)]).length = A.length + 1 := by simp
      have e9 : (C ++ [x]).length = C.length + 1 := by simp
      refine YAt.ok (own1 := [.box [bS nm, iV (M : Int), iV (D : Int), rowsA (toZ ps), iV dom], .box [srcs ss], .box [.d (.v (.slice none 0 0)), .d (.v (.slice none 0 0)), .d (.v (.slice none 0 0))], .box [.osl 5 0 0 0, .osl 6 (A.length + 1) 0 (A ++ [((i, v, C.length / D, C.length % D) : Mv)]).length, .osl 7 B.length 0 B.length], .box [.osl 8 (C.length + 1) 0 (C ++ [x]).length], .row 0 1 47 [], .row (A.length + 1) 4 65 ((A ++ [((i, v, C.length / D, C.length % D) : Mv)]).map mvD), .row B.length 2 129 (B.map tmD), .row (C.length + 1) 1 9 ((C ++ [x]).map sD), .box [srcs ss], .lp .busy none #[35, 36] _ _ _, .box ((srD ss[i]).map .d)]) (s2 := ⟨[(10, iV i), (11, iV v), (2, .opt 0 0), (3, .opt 1 0), (8, .opt 3 0), (9, .opt 4 0)], _⟩) rfl rfl rfl rfl (fun g => ?_) rfl (fun g => ?_) rfl (by rw [e8, e9]; rfl)
      · refine AWP.toW ?_
        (repeat' (first
  | (apply W.qd; (apply q_as; (conv => lhs; whnf)))|(apply yA)|(apply yB)|(apply yC; kernel_rfl)
  | (apply yE)))
        exact ⟨rfl, ⟨[0, 1, 2, 3, 4, 5, 6, 7, 8, 9, 10, 11], rfl, rfl, rfl, by (repeat (first | exact trivial | refine ⟨rfl, ?_⟩))⟩⟩
      · refine AWP.toO ?_
        (repeat' (first
  | (apply W.qd; (first
    | (apply (yW (hrec)); exact rfl; exact rfl; (iterate 3 kernel_rfl))|(apply q_mv; (conv => lhs; whnf))|(apply q_as; (conv => lhs; whnf))|(apply yS; (iterate 3 exact rfl))|(apply yT; (iterate 4 exact rfl))|(apply yU; (iterate 4 exact rfl))|(apply q_neq; exact rfl; exact rfl)|(apply q_quo; exact rfl; exact rfl; omega; omega; omega)|(apply q_rem; exact rfl; exact rfl; omega; omega)|(apply yAb; exact rfl; exact rfl)|(apply q_len_osl; (iterate 3 exact rfl))|(apply yY; (iterate 3 exact rfl); (first | omega | (focus (simp; done))))|(apply yZ; exact rfl; exact rfl; kernel_rfl)|(apply q_litF; (iterate 5 exact rfl); kernel_rfl; kernel_rfl; exact rfl)
    | (apply yGb; (iterate 4 exact rfl); (first | (with_reducible exact rfl) | exact natI_spec rfl | assumption | exact (Int.toNat_of_nonneg (by omega)).symm); (first | omega | (focus (simp only [List.length_map]; omega)) | (focus (simp; done)) | (focus (simp; omega))))))|(apply W.ld; (apply l_app1; (iterate 8 exact rfl); (first | omega | (focus (simp; omega)) | (focus (simp; done)))))
  | (apply W.ed; (first
    | ((apply (e_app1F (f := mvD) (i, v, C.length / D, C.length % D)); (iterate 8 exact rfl); omega))
    | (apply yCb; (iterate 3 exact rfl); kernel_rfl)))|(apply W.ln; (apply l_st_box; (iterate 6 exact rfl); (iterate 3 kernel_rfl)))|(apply yA)|(apply yB)|(apply yC; kernel_rfl)|(apply yD; exact rfl; kernel_rfl)|(apply yE)|(apply yF; kernel_rfl)|(apply yG)|(apply yH)|(apply yL)
  | (apply yR; exact rfl)))
        exact ⟨rfl, ⟨[0, 1, 2, 3, 4, 5, 6, 7, 8, 9, 10, 11], rfl, rfl, rfl, by (repeat (first | exact trivial | refine ⟨rfl, ?_⟩))⟩⟩
  dsimp only
  rw [preL_zero]
  have hun := pack_units hall h.s
  have hpl := pack_len (recAt ss) (liveTo ss ss.length)
  have htot := h.tot
  unfold repOk padS
  have hPS : packS ss = packN (recAt ss) (liveTo ss ss.length) := rfl
  rw [← hPS] at hpl ⊢
  generalize packS ss = PK at *
  clear hPS hP0
  obtain ⟨C, A0, B⟩ := PK
  dsimp only at *
  have hAl := movN_len D A0
  generalize movN D A0 = A at *
  have hz := A_zero
  have hpg := pad_ge D zero32 C
  have hps := fun l => pad_step (D := D) (by omega) zero32 l
  have hpd := fun l => pad_done (D := D) zero32 l
  have hpm := pad_mod (D := D) (by omega) zero32 C
  have hpu : ∀ x ∈ padN D zero32 C, isB x ∧ x.length = 32 := fun x hx => by
    rcases pad_mem hx with h1 | rfl
    · exact hun x h1
    · exact ⟨isB_zero 32, by simp [zero32]⟩
  have hps2 : ∀ l, padN D zero32 l = padN D zero32 C → l.length % D ≠ 0 → padN D zero32 (l ++ [zero32]) = padN D zero32 C ∧ l.length + 1 ≤ (padN D zero32 C).length := fun l h1 h2 => by
    have h3 := hps l h2
    refine ⟨h3.trans h1, ?_⟩
    have h4 := (pad_ge D zero32 (l ++ [zero32])).1
    rw [h3, h1, List.length_append, List.length_singleton] at h4
    exact h4
  have hpd2 : ∀ l, padN D zero32 l = padN D zero32 C → l.length % D = 0 → l = padN D zero32 C := fun l h1 h2 => by rw [← h1, hpd l h2]
  have hpC : padN D zero32 C = padN D zero32 C := rfl
  have hzz : zero32 = List.replicate 32 0 := rfl
  rw [← hzz] at hz
  clear hps hpd hun hzz hall
  generalize hPD : padN D zero32 C = PD at *
  clear hpC
  (repeat' (first
  | (apply W.qd; (first
    | (apply (yW (hz)); exact rfl; exact rfl; (iterate 3 kernel_rfl))
    | (apply q_as; (conv => lhs; whnf))))|(apply yA)|(apply yB)|(apply (W.regionS 21); exact rfl; kernel_rfl)|(apply yE)|(apply yG)
  | (apply yL)))
  refine AWP.loopW (α := List (List Nat)) (fun l => padN D zero32 l = PD ∧ l.length ≤ PD.length) (fun l => ⟨[(15, bS zero32), (2, .opt 0 0), (4, .opt 2 0), (8, .opt 3 0), (9, .opt 4 0)], [.box [bS nm, iV (M : Int), iV (D : Int), rowsA (toZ ps), iV dom], .box [srcs ss], .box [.d (.v (.slice none 0 0)), .d (.v (.slice none 0 0)), .d (.v (.slice none 0 0))], .box [.osl 5 0 0 0, .osl 6 A.length 0 A.length, .osl 7 B.length 0 B.length], .box [.osl 8 l.length 0 l.length], .row 0 1 47 [], .row A.length 4 65 (A.map mvD), .row B.length 2 129 (B.map tmD), .row l.length 1 9 (l.map sD)]⟩) (fun l => PD.length - l.length) C ⟨hPD, by omega⟩ ⟨[0, 1, 2, 3, 4, 5, 6, 7, 8], rfl, rfl, rfl, by (repeat (first | exact trivial | refine ⟨rfl, ?_⟩))⟩ fun l hl => ?_
  have hmz : ((l.length : Int) % (D : Int)) = ((l.length % D : Nat) : Int) := rfl
  by_cases hm0 : l.length % D ≠ 0
  · have hp2 := hps2 l hl.1 hm0
    have e9 : (l ++ [zero32]).length = l.length + 1 := by simp
    clear hps2 hpd2 hpu
    (repeat' (first
  | (apply W.qd; (first
    | (apply q_mv; (conv => lhs; whnf))|(apply yS; (iterate 3 exact rfl))|(apply yT; (iterate 4 exact rfl))|(apply q_neq; exact rfl; exact rfl)|(apply q_rem; exact rfl; exact rfl; omega; omega)|(apply q_len_osl; (iterate 3 exact rfl))
    | (apply q_litF; (iterate 5 exact rfl); kernel_rfl; kernel_rfl; exact rfl)))|(apply W.ld; (apply l_app1; (iterate 8 exact rfl); (first | omega | (focus (simp; omega)) | (focus (simp; done)))))|(apply W.ln; (apply l_st_box; (iterate 6 exact rfl); (iterate 3 kernel_rfl)))|(apply yA)|(apply yB)|(apply yC; kernel_rfl)|(apply yE)|(apply yG)|(apply yH)|(apply yL)
  | (refine W.cond _ rfl (fun hb => ?_) (fun hb => ?_) <;> ((try simp only [hb, zA, zB]) <;> (try simp only [zC, zD, zE, zF, zG, zH, zI, zJ] at hb) <;> (try (exfalso; omega))))))
    all_goals first
      | (exfalso; omega)|(refine ⟨l ++ [zero32], ⟨hp2.1, by omega⟩, by omega, ?_⟩; (try dsimp only); rw [show @AV.osl 8 (l ++ [zero32]).length 0 (l ++ [zero32]).length = .osl 8 (l.length + 1) 0 (l ++ [zero32]).length by rw [e9], show Ent.row (l ++ [zero32]).length 1 9 ((l ++ [zero32]).map sD) = .row (l.length + 1) 1 9 ((l ++ [zero32]).map sD) by rw [e9]]; exact ⟨[0, 1, 2, 3, 4, 5, 6, 7, 8], rfl, rfl, rfl, by (repeat (first | exact trivial | refine ⟨rfl, ?_⟩))⟩)
  obtain rfl : l = PD := hpd2 l hl.1 (by omega)
  clear hps2 hpd2 hl hPD
  obtain ⟨N, hN⟩ : ∃ N, l.length = N * D := ⟨l.length / D, by rw [Nat.div_mul_cancel (Nat.dvd_of_mod_eq_zero hpm)]⟩
  have hND : l.length / D = N := by rw [hN, Nat.mul_div_cancel _ (by omega)]
  rw [hND]
  (repeat' (first
  | (apply W.qd; (first
    | (apply yS; (iterate 3 exact rfl))|(apply yT; (iterate 4 exact rfl))|(apply q_neq; exact rfl; exact rfl)|(apply q_rem; exact rfl; exact rfl; omega; omega)
    | (apply q_len_osl; (iterate 3 exact rfl))))|(apply yA)|(apply yB)|(apply (W.regionS 23); exact rfl; kernel_rfl)|(apply yE)|(apply yG)|(apply yI)|(apply yK)|(apply yM)
  | (refine W.cond _ rfl (fun hb => ?_) (fun hb => ?_) <;> ((try simp only [hb, zA, zB]) <;> (try simp only [zC, zD, zE, zF, zG, zH, zI, zJ] at hb) <;> (try (exfalso; omega))))))
  all_goals try (exfalso; omega)
  have hcs := fun q => cutN_succ M D ps l q
  have hcl := fun q => cutN_len M D ps l q
  have hc0 : cutN M D ps l 0 = [] := rfl
  have hNle : N ≤ l.length := by rw [hN]; exact Nat.le_mul_of_pos_right N (by omega)
  refine AWP.loopW (α := Nat) (fun q => q ≤ N) (fun q => ⟨[(2, .opt 0 0), (4, .opt 2 0), (8, .opt 3 0), (9, .opt 4 0)], [.box [bS nm, iV (M : Int), iV (D : Int), rowsA (toZ ps), iV dom], .box [srcs ss], .box [.d (.v (.slice none 0 0)), .d (.v (.slice none 0 0)), .d (.v (.slice none 0 0))], .box [.osl 5 q 0 (cutN M D ps l q).length, .osl 6 A.length 0 A.length, .osl 7 B.length 0 B.length], .box [strs (l.drop (q * D))], .row q 1 47 ((cutN M D ps l q).map stD), .row A.length 4 65 (A.map mvD), .row B.length 2 129 (B.map tmD)]⟩) (fun q => N - q) 0 (Nat.zero_le _) ?wkC fun q hq => ?_
  case wkC =>
    refine ⟨[0, 1, 2, 3, 4, 5, 6, 7], rfl, rfl, ?_, rfl, rfl, rfl, rfl, trivial⟩
    simp [selOwn, Ent.frz, AV.frz, AV.frzL, plc, frzSl, hc0]
    exact (List.take_of_length_le (by simp)).symm
  have hqs : q < N → q * D + D ≤ l.length := fun h => by
    have := Nat.mul_le_mul_right D (show q + 1 ≤ N by omega)
    rw [Nat.add_mul, Nat.one_mul] at this; omega
  have hRl : (l.drop (q * D)).length = l.length - q * D := List.length_drop
  have hRm : ((l.drop (q * D)).map sD).length = (l.drop (q * D)).length := List.length_map _
  have hSl := hcl q
  by_cases hqN : q < N
  · have h1 := hqs hqN
    have hen := A_encode hok (us := (l.drop (q * D)).take D) (by rw [List.length_take]; omega) (fun u hu => hpu u (List.mem_of_mem_drop (List.mem_of_mem_take hu))) (n := 32) (by omega) (fit32 hok.f)
    rw [cdN_A] at hen
    have hen := hen.cdF (nm := nm) (dom := dom)
    have hrest : ((l.drop (q * D)).drop D).take ((l.drop (q * D)).length - D) = l.drop ((q + 1) * D) := by
      rw [List.take_of_length_le (by rw [List.length_drop]; omega), List.drop_drop, Nat.add_mul, Nat.one_mul]
    have hcq := hcs q
    clear hcs hcl hpu
    replace hcq := Lib.hid hcq
    replace hrest := Lib.hid hrest
    generalize encN M ps ((l.drop (q * D)).take D) = U at *
    generalize cutN M D ps l q = S at *
    generalize l.drop (q * D) = R at *
    have hen : ACalls Tryz.prog 41 [cdF nm M D (toZ ps) dom, strs ((R.drop 0).take (D - 0))] [] (.tup [strs U, iV 0]) [] := hen
    (repeat' (first
  | (apply W.qd; (first
    | (apply (yW (hen)); exact rfl; exact rfl; (iterate 3 kernel_rfl))|(apply q_mv; (conv => lhs; whnf))|(apply q_as; (conv => lhs; whnf))|(apply yS; (iterate 3 exact rfl))|(apply yT; (iterate 4 exact rfl))|(apply yU; (iterate 4 exact rfl))|(apply q_gtr; exact rfl; exact rfl)|(apply q_neq; exact rfl; exact rfl)|(apply yAb; exact rfl; exact rfl)|(apply yV; exact rfl; exact rfl)|(apply q_litF; (iterate 5 exact rfl); kernel_rfl; kernel_rfl; exact rfl)
    | (apply q_slc_map; exact rfl; exact rfl; (first | exact ⟨_, _, rfl, rfl⟩ | exact ⟨_, _, rfl, natI_spec rfl⟩ | exact ⟨_, _, rfl, (Int.toNat_of_nonneg (by omega)).symm⟩ | exact rfl); (first | exact ⟨_, _, rfl, rfl⟩ | exact ⟨_, _, rfl, natI_spec rfl⟩ | exact ⟨_, _, rfl, (Int.toNat_of_nonneg (by omega)).symm⟩ | exact rfl); (first | omega | (focus (simp only [List.length_map]; omega)) | (focus (simp; done)) | (focus (simp; omega))); (first | omega | (focus (simp only [List.length_map]; omega)) | (focus (simp; done)) | (focus (simp; omega))); exact Or.inl rfl)))|(apply W.ld; (apply l_app1; (iterate 8 exact rfl); (first | omega | (focus (simp; omega)) | (focus (simp; done)))))|(apply W.ln; (apply l_st_box; (iterate 6 exact rfl); (iterate 3 kernel_rfl)))|(apply yA)|(apply yB)|(apply yC; kernel_rfl)|(apply yD; exact rfl; kernel_rfl)|(apply yE)|(apply yF; kernel_rfl)|(apply yG)|(apply yH)|(apply yL)|(apply yR; exact rfl)
  | (refine W.cond _ rfl (fun hb => ?_) (fun hb => ?_) <;> ((try simp only [hb, zA, zB]) <;> (try simp only [zC, zD, zE, zF, zG, zH, zI, zJ] at hb) <;> (try (exfalso; omega))))))
    all_goals try (exfalso; omega)
    refine ⟨q + 1, by omega, by omega, ?_⟩
    rw [hcq.out, ← hrest.out]
    exact ⟨[0, 1, 2, 3, 4, 5, 6, 7], rfl, rfl, rfl, by (repeat (first | exact trivial | refine ⟨rfl, ?_⟩))⟩
  · obtain rfl : q = N := by omega
    clear hcs hcl hpu
    generalize cutN M D ps l q = S at *
    generalize l.drop (q * D) = R at *
    (repeat' (first
  | (apply W.qd; (first
    | (apply q_as; (conv => lhs; whnf))|(apply yT; (iterate 4 exact rfl))|(apply yU; (iterate 4 exact rfl))|(apply q_gtr; exact rfl; exact rfl)
    | (apply yV; exact rfl; exact rfl)))|(apply W.ln; (apply l_st_box; (iterate 6 exact rfl); (iterate 3 kernel_rfl)))|(apply yA)|(apply yB)|(apply yC; kernel_rfl)|(apply yE)|(apply yI)|(apply yJ)|(apply yK)|(apply yM)
  | (refine W.cond _ rfl (fun hb => ?_) (fun hb => ?_) <;> ((try simp only [hb, zA, zB]) <;> (try simp only [zC, zD, zE, zF, zG, zH, zI, zJ] at hb) <;> (try (exfalso; omega))))))
    all_goals try (exfalso; omega)
    refine ⟨.inl rfl, [], [.agg [.osl 5 q 0 S.length, .osl 6 A.length 0 A.length, .osl 7 B.length 0 B.length], iV 0], rfl, ⟨⟨2, _, true, rfl, rfl, rfl, rfl⟩, rfl, trivial⟩, AVle.of_eq ?_, rfl⟩
    show AV.tup [AV.agg [AV.frz _ [] (.osl 5 q 0 S.length), AV.frz _ [] (.osl 6 A.length 0 A.length), AV.frz _ [] (.osl 7 B.length 0 B.length)], iV 0] = _
    rw [frz_rowJ (i := 5) (ver := q) (n := S.length) (l := S.map stD) rfl rfl (by simp), frz_rowJ (i := 6) (ver := A.length) (n := A.length) (l := A.map mvD) rfl rfl (by simp), frz_rowJ (i := 7) (ver := B.length) (n := B.length) (l := B.map tmD) rfl rfl (by simp)]
end Go.Proofs.YtcljokdiblnhiaaGreatDoor
end
section
namespace Go.Proofs.YtcljokdiblnhiaaGreatDoor
open Go.RowKit
set_option maxHeartbeats 8000000
set_option maxRecDepth 100000
def u32 (b : Nat) : List Nat := List.replicate 32 b
theorem isB_u32 {b : Nat} (h : b < 256) : isB (u32 b) := fun x hx => by rw [List.eq_of_mem_replicate hx]; exact h
attribute [local irreducible] Quiet Eff OpOk AWPG ACont ABlock ACalls AGoto
theorem A_few39 {c : Cd} : ACalls Tryz.prog 20 [cdA1 c] [] (bV (few30 c)) [] := by
  obtain ⟨nm, M, D, par, dom⟩ := c
  show ACalls Tryz.prog 20 [cdF nm M D par dom] [] (bV (few30 (nm, M, D, par, dom))) []
  refine acalls_of_body Tryz.func20 rfl (Nat.le_of_ble_eq_true rfl) ?_
  have hmp : (par.map rD).length = par.length := List.length_map _
  unfold few30
  dsimp only
  by_cases h1 : 0 ≤ D
  · by_cases h2 : D ≤ 5
    · by_cases h3 : par.length ≤ 5
      · rw [decide_eq_true h1, decide_eq_true h2, decide_eq_true h3]
        (repeat' (first
  | (apply yFb; exact rfl; exact rfl)
  | (apply W.qd; (first
    | (apply q_mv; (conv => lhs; whnf))|(apply q_as; (conv => lhs; whnf))|(apply yS; (iterate 3 exact rfl))|(apply yT; (iterate 4 exact rfl))|(apply q_leq; exact rfl; exact rfl)|(apply q_geq; exact rfl; exact rfl)|(apply q_add; exact rfl; exact rfl; omega)|(apply yV; exact rfl; exact rfl)
    | (apply (yEb (u := .d _)); exact rfl; exact rfl)))|(apply W.ed; (apply yBb; (iterate 3 exact rfl); kernel_rfl; kernel_rfl))|(apply yA)|(apply yB)|(apply yC; kernel_rfl)|(apply yE)|(apply yJ)
  | (refine W.gT _ _ rfl rfl (fun hb => ?_) (fun hb => ?_) <;> ((try simp only [hb, zA, zB]) <;> (try simp only [zC, zD, zE, zF, zG, zH, zI, zJ] at hb) <;> (try (exfalso; omega))))))
        all_goals refine Ends.b rfl ?_
        all_goals simp [hmp]
      · rw [decide_eq_true h1, decide_eq_true h2, decide_eq_false h3]
        (repeat' (first
  | (apply yFb; exact rfl; exact rfl)
  | (apply W.qd; (first
    | (apply q_mv; (conv => lhs; whnf))|(apply q_as; (conv => lhs; whnf))|(apply yS; (iterate 3 exact rfl))|(apply yT; (iterate 4 exact rfl))|(apply q_leq; exact rfl; exact rfl)|(apply q_geq; exact rfl; exact rfl)|(apply yV; exact rfl; exact rfl)|(apply (yEb (u := .d _)); exact rfl; exact rfl)
    | (apply (yDb (u := .d _)); exact rfl; exact rfl)))|(apply W.ed; (apply yBb; (iterate 3 exact rfl); kernel_rfl; kernel_rfl))|(refine W.gOff _ _ rfl rfl (by intro h; cases h) ?_)|(apply yA)|(apply yB)|(apply yC; kernel_rfl)|(apply yE)|(apply yJ)
  | (refine W.gT _ _ rfl rfl (fun hb => ?_) (fun hb => ?_) <;> ((try simp only [hb, zA, zB]) <;> (try simp only [zC, zD, zE, zF, zG, zH, zI, zJ] at hb) <;> (try (exfalso; omega))))))
        all_goals exact Ends.b rfl rfl
    · rw [decide_eq_true h1, decide_eq_false h2]
      (repeat' (first
  | (apply yFb; exact rfl; exact rfl)
  | (apply W.qd; (first
    | (apply q_mv; (conv => lhs; whnf))|(apply q_as; (conv => lhs; whnf))|(apply yS; (iterate 3 exact rfl))|(apply yT; (iterate 4 exact rfl))|(apply q_leq; exact rfl; exact rfl)|(apply q_geq; exact rfl; exact rfl)|(apply (yEb (u := .d _)); exact rfl; exact rfl)
    | (apply (yDb (u := .d _)); exact rfl; exact rfl)))|(apply W.ed; (apply yBb; (iterate 3 exact rfl); kernel_rfl; kernel_rfl))|(refine W.gOff _ _ rfl rfl (by intro h; cases h) ?_)|(apply yA)|(apply yB)|(apply yC; kernel_rfl)|(apply yE)|(apply yJ)
  | (refine W.gT _ _ rfl rfl (fun hb => ?_) (fun hb => ?_) <;> ((try simp only [hb, zA, zB]) <;> (try simp only [zC, zD, zE, zF, zG, zH, zI, zJ] at hb) <;> (try (exfalso; omega))))))
      all_goals exact Ends.b rfl rfl
  · rw [decide_eq_false h1]
    (repeat' (first
  | (apply W.qd; (first
    | (apply q_mv; (conv => lhs; whnf))|(apply q_as; (conv => lhs; whnf))|(apply yS; (iterate 3 exact rfl))|(apply yT; (iterate 4 exact rfl))|(apply q_geq; exact rfl; exact rfl)
    | (apply (yDb (u := .d _)); exact rfl; exact rfl)))|(apply W.ed; (apply yBb; (iterate 3 exact rfl); kernel_rfl; kernel_rfl))|(refine W.gOff _ _ rfl rfl (by intro h; cases h) ?_)|(apply yA)|(apply yB)|(apply yC; kernel_rfl)|(apply yE)|(apply yJ)
  | (refine W.gT _ _ rfl rfl (fun hb => ?_) (fun hb => ?_) <;> ((try simp only [hb, zA, zB]) <;> (try simp only [zC, zD, zE, zF, zG, zH, zI, zJ] at hb) <;> (try (exfalso; omega))))))
    all_goals exact Ends.b rfl rfl
theorem A_unit39 {b : Nat} (hb : b < 256) : ACalls Tryz.prog 45 [.d (.v (.int .u8 b))] [] (bS (u32 b)) [] := by
  refine acalls_of_body Tryz.func45 rfl (Nat.le_of_ble_eq_true rfl) ?_
  (repeat' (first
  | (apply W.qd; (apply q_as; (conv => lhs; whnf)))|(apply yA)|(apply yB)|(apply (W.regionS 2); exact rfl; kernel_rfl)
  | (apply yE)))
  refine AWP.nilRow 3 1 5 rfl (by omega) ?_
  (repeat' (first
  | (apply W.qd; (apply q_as; (conv => lhs; whnf)))|(apply yB)|(apply (W.regionS 3); exact rfl; kernel_rfl)|(apply yE)
  | (apply yG)))
  refine AWP.loopW (α := Nat) (fun i => i ≤ 32) (fun i => ⟨[(4, iV i), (3, .osl 0 i 0 (List.replicate i b).length), (0, .d (.v (.int .u8 b)))], [.row i 1 5 ((List.replicate i b).map nD)]⟩) (fun i => 32 - i) 0 (Nat.zero_le _) ⟨[0], rfl, rfl, rfl, by (repeat (first | exact trivial | refine ⟨rfl, ?_⟩))⟩ fun i hi => ?_
  by_cases hil : i < 32
  · have hrp : List.replicate (i + 1) b = List.replicate i b ++ [b] := List.replicate_succ'
    have hln : (List.replicate i b).length = i := List.length_replicate
    replace hrp := Lib.hid hrp
    generalize List.replicate i b = A at *
    (repeat' (first
  | (apply W.qd; (first
    | (apply q_mv; (conv => lhs; whnf))|(apply q_as; (conv => lhs; whnf))|(apply q_lss; exact rfl; exact rfl)|(apply q_add; exact rfl; exact rfl; omega)
    | (apply q_litF; (iterate 5 exact rfl); kernel_rfl; kernel_rfl; exact rfl)))|(apply W.ld; (apply l_app1; (iterate 8 exact rfl); (first | omega | (focus (simp; omega)) | (focus (simp; done)))))|(apply yA)|(apply yB)|(apply yC; kernel_rfl)|(apply yE)|(apply yG)|(apply yH)|(apply yL)
  | (refine W.cond _ rfl (fun hb => ?_) (fun hb => ?_) <;> ((try simp only [hb, zA, zB]) <;> (try simp only [zC, zD, zE, zF, zG, zH, zI, zJ] at hb) <;> (try (exfalso; omega))))))
    all_goals try (exfalso; omega)
    refine ⟨i + 1, by omega, by omega, ?_⟩
    rw [hrp.out]
    exact ⟨[0], rfl, rfl, rfl, iV_eq (by omega), rfl, rfl, trivial⟩
  · obtain rfl : i = 32 := by omega
    have hu := isB_u32 hb
    rw [show List.replicate 32 b = u32 b from rfl]
    have hul : (u32 b).length = 32 := List.length_replicate
    generalize u32 b = U at *
    (repeat' (first
  | (apply W.qd; (first
    | (apply q_mv; (conv => lhs; whnf))|(apply q_as; (conv => lhs; whnf))|(apply q_lss; exact rfl; exact rfl)
    | (apply q_str_osl; (iterate 4 exact rfl); (first | rfl | (focus (simp; done))); assumption)))|(apply yA)|(apply yB)|(apply yC; kernel_rfl)|(apply yE)|(apply yI)|(apply yJ)|(apply yK)|(apply yM)
  | (apply yR; exact rfl)))
    exact Ends.d rfl rfl
def rngI (n : Nat) : List Int := (List.range n).map fun i : Nat => (i : Int)
theorem rngI_succ (n : Nat) : rngI (n + 1) = rngI n ++ [(n : Int)] := by unfold rngI; rw [List.range_succ, List.map_append]; rfl
def fullS (c : Cd) (U : List (List Nat)) (D : Nat) : Sr := (c, U, List.replicate U.length true, rngI D)
theorem A_fullOk {M D : Nat} {ps us : List (List Nat)} {nm : List Nat} {dom : Int} (hok : CodeOk M D ps) (hl : us.length = D) (hu : ∀ u ∈ us, isB u ∧ u.length = 32) : ACalls Tryz.prog 22 [cdA1 (nm, M, D, toZ ps, dom), strs us] [] (srA1 (fullS (nm, M, D, toZ ps, dom) (encN M ps us) D)) [] := by
  have hD1 := hok.d
  have hw1 := hok.w
  have hen := A_encode hok hl hu (by omega) (fit32 hok.f)
  rw [cdN_A] at hen
  have hen := hen.cdF (nm := nm) (dom := dom)
  have hUl : (encN M ps us).length = D + ps.length := by unfold encN; simp [hl]
  unfold fullS
  generalize encN M ps us = U at *
  have hmU : (U.map sD).length = U.length := List.length_map _
  refine acalls_of_body Tryz.func22 rfl (Nat.le_of_ble_eq_true rfl) ?_
  show AWP _ _ _ _ _ ⟨env0 0 [cdF nm M D (toZ ps) dom, strs us], []⟩
  (repeat' (first
  | (apply W.qd; (first
    | (apply (yW (hen)); exact rfl; exact rfl; (iterate 3 kernel_rfl))|(apply q_mv; (conv => lhs; whnf))|(apply q_as; (conv => lhs; whnf))|(apply yU; (iterate 4 exact rfl))|(apply q_neq; exact rfl; exact rfl)|(apply yAb; exact rfl; exact rfl)
    | (apply yZ; exact rfl; exact rfl; kernel_rfl)))
  | (apply W.ed; (first
    | (apply yBb; (iterate 3 exact rfl); kernel_rfl; kernel_rfl)
    | (apply yCb; (iterate 3 exact rfl); kernel_rfl)))|(apply W.ln; (apply l_st_box; (iterate 6 exact rfl); (iterate 3 kernel_rfl)))|(apply yA)|(apply yB)|(apply (W.regionS 5); exact rfl; kernel_rfl)|(apply yE)|(apply yH)
  | (apply yR; exact rfl)))
  refine AWP.nilBox (l' := [bS nm, iV (M : Int), iV (D : Int), rowsA (toZ ps), iV dom, strs U, .osl 3 0 0 0, .d (.v (.slice none 0 0))]) 2 6 1 4 rfl rfl (by omega) rfl rfl rfl rfl ?_
  refine AWP.nilBox (l' := [bS nm, iV (M : Int), iV (D : Int), rowsA (toZ ps), iV dom, strs U, .osl 3 0 0 0, .osl 4 0 0 0]) 2 7 1 3 rfl rfl (by omega) rfl rfl rfl rfl ?_
  (repeat' (first
  | (apply W.qd; (apply q_as; (conv => lhs; whnf)))|(apply yB)|(apply (W.regionS 6); exact rfl; kernel_rfl)|(apply yE)
  | (apply yG)))
  refine AWP.loopW (α := Nat) (fun i => i ≤ U.length) (fun i => ⟨[(8, iV i), (5, strs U), (2, .opt 0 0), (4, .opt 1 0), (7, .opt 2 0)], [.box [bS nm, iV (M : Int), iV (D : Int), rowsA (toZ ps), iV dom], .box [.d (.v (.string ⟨#[]⟩)), iV 0, iV 0, .d (.v (.slice none 0 0)), iV 0, .d (.v (.slice none 0 0)), .d (.v (.slice none 0 0)), .d (.v (.slice none 0 0))], .box [bS nm, iV (M : Int), iV (D : Int), rowsA (toZ ps), iV dom, strs U, .osl 3 i 0 (List.replicate i true).length, .osl 4 (min i D) 0 (rngI (min i D)).length], .row i 1 4 ((List.replicate i true).map tD), .row (min i D) 1 3 ((rngI (min i D)).map iD)]⟩) (fun i => U.length - i) 0 (Nat.zero_le _) ?wk0 fun i hi => ?_
  case wk0 =>
    rw [Nat.zero_min]
    exact ⟨[0, 1, 2, 3, 4], rfl, rfl, rfl, by (repeat (first | exact trivial | refine ⟨rfl, ?_⟩))⟩
  by_cases hil : i < U.length
  · have hrp : List.replicate (i + 1) true = List.replicate i true ++ [true] := List.replicate_succ'
    have hln : (List.replicate i true).length = i := List.length_replicate
    replace hrp := Lib.hid hrp
    generalize List.replicate i true = A at *
    by_cases hiD : i < D
    · have hr := rngI_succ i
      rw [Nat.min_eq_left (by omega)]
      have hrl : (rngI i).length = i := by unfold rngI; simp
      replace hr := Lib.hid hr
      generalize rngI i = Z at *
      (repeat' (first
  | (apply W.qd; (first
    | (apply q_mv; (conv => lhs; whnf))|(apply q_as; (conv => lhs; whnf))|(apply yS; (iterate 3 exact rfl))|(apply yT; (iterate 4 exact rfl))|(apply q_lss; exact rfl; exact rfl)|(apply q_add; exact rfl; exact rfl; omega)|(apply yV; exact rfl; exact rfl)
    | (apply q_litF; (iterate 5 exact rfl); kernel_rfl; kernel_rfl; exact rfl)))|(apply W.ld; (apply l_app1; (iterate 8 exact rfl); (first | omega | (focus (simp; omega)) | (focus (simp; done)))))|(apply W.ln; (apply l_st_box; (iterate 6 exact rfl); (iterate 3 kernel_rfl)))|(apply yA)|(apply yB)|(apply yC; kernel_rfl)|(apply yE)|(apply yG)|(apply yH)|(apply yL)
  | (refine W.cond _ rfl (fun hb => ?_) (fun hb => ?_) <;> ((try simp only [hb, zA, zB]) <;> (try simp only [zC, zD, zE, zF, zG, zH, zI, zJ] at hb) <;> (try (exfalso; omega))))))
      all_goals try (exfalso; omega)
      refine ⟨i + 1, by omega, by omega, ?_⟩
      rw [hrp.out, Nat.min_eq_left (show i + 1 ≤ D by omega), hr.out]
      exact ⟨[0, 1, 2, 3, 4], rfl, rfl, rfl, iV_eq (by omega), rfl, rfl, rfl, rfl, trivial⟩
    · rw [Nat.min_eq_right (show D ≤ i by omega)]
      (repeat' (first
  | (apply W.qd; (first
    | (apply q_mv; (conv => lhs; whnf))|(apply q_as; (conv => lhs; whnf))|(apply yS; (iterate 3 exact rfl))|(apply yT; (iterate 4 exact rfl))|(apply q_lss; exact rfl; exact rfl)|(apply q_add; exact rfl; exact rfl; omega)|(apply yV; exact rfl; exact rfl)
    | (apply q_litF; (iterate 5 exact rfl); kernel_rfl; kernel_rfl; exact rfl)))|(apply W.ld; (apply l_app1; (iterate 8 exact rfl); (first | omega | (focus (simp; omega)) | (focus (simp; done)))))|(apply W.ln; (apply l_st_box; (iterate 6 exact rfl); (iterate 3 kernel_rfl)))|(apply yA)|(apply yB)|(apply yC; kernel_rfl)|(apply yE)|(apply yG)|(apply yH)|(apply yL)
  | (refine W.cond _ rfl (fun hb => ?_) (fun hb => ?_) <;> ((try simp only [hb, zA, zB]) <;> (try simp only [zC, zD, zE, zF, zG, zH, zI, zJ] at hb) <;> (try (exfalso; omega))))))
      all_goals try (exfalso; omega)
      refine ⟨i + 1, by omega, by omega, ?_⟩
      rw [hrp.out, Nat.min_eq_right (show D ≤ i + 1 by omega)]
      exact ⟨[0, 1, 2, 3, 4], rfl, rfl, rfl, iV_eq (by omega), rfl, rfl, rfl, rfl, trivial⟩
  · obtain rfl : i = U.length := by omega
    rw [Nat.min_eq_right (by omega)]
    generalize List.replicate U.length true = A at *
    generalize rngI D = Z at *
    (repeat' (first
  | (apply W.qd; (first
    | (apply q_mv; (conv => lhs; whnf))|(apply yU; (iterate 4 exact rfl))|(apply q_lss; exact rfl; exact rfl)
    | (apply yV; exact rfl; exact rfl)))|(apply W.ln; (apply l_st_box; (iterate 6 exact rfl); (iterate 3 kernel_rfl)))|(apply yA)|(apply yB)|(apply yC; kernel_rfl)|(apply yE)|(apply yI)|(apply yJ)|(apply yK)|(apply yM)
  | (refine W.cond _ rfl (fun hb => ?_) (fun hb => ?_) <;> ((try simp only [hb, zA, zB]) <;> (try simp only [zC, zD, zE, zF, zG, zH, zI, zJ] at hb) <;> (try (exfalso; omega))))))
    refine ⟨.inl rfl, [], [.agg [bS nm, iV (M : Int), iV (D : Int), rowsA (toZ ps), iV dom, strs U, .osl 3 U.length 0 A.length, .osl 4 D 0 Z.length]], rfl, ⟨⟨1, _, true, rfl, rfl, rfl, rfl⟩, trivial⟩, AVle.of_eq ?_, rfl⟩
    show AV.agg [bS nm, iV (M : Int), iV (D : Int), rowsA (toZ ps), iV dom, strs U, AV.frz _ [] (.osl 3 U.length 0 A.length), AV.frz _ [] (.osl 4 D 0 Z.length)] = _
    rw [frz_rowJ (i := 3) (ver := U.length) (n := A.length) (l := A.map tD) rfl rfl (by simp), frz_rowJ (i := 4) (ver := D) (n := Z.length) (l := Z.map iD) rfl rfl (by simp)]
    rfl
end Go.Proofs.YtcljokdiblnhiaaGreatDoor
end
section
namespace Go.Proofs.YtcljokdiblnhiaaGreatDoor
open Go.RowKit
set_option maxHeartbeats 8000000
set_option maxRecDepth 100000
def par39 : Cd := ([112, 97, 114], 8, 2, [[1, 1]], 3)
def tri39 : Cd := ([116, 114, 105], 8, 3, [[1, 1, 1]], 4)
def sa39 : Sr := (par39, [u32 1, u32 2, u32 3], [true, true, true], [0, 1])
def sb39 : Sr := (par39, [u32 3, u32 4, u32 7], [true, true, true], [0, 1])
def sc39 : Sr := (par39, [u32 1, u32 2, u32 3], [false, false, true], [0, 1])
def sd39 : Sr := (par39, [u32 1, u32 2, u32 3], [true, true, true], [2])
theorem s39_1 : repN tri39 [sa39, sb39] = ⟨[[u32 1, u32 2, u32 3, u32 0], [u32 4, u32 0, u32 0, u32 4]], [(0, 0, 0, 0), (0, 1, 0, 1), (1, 0, 0, 2), (1, 1, 1, 0)], [], 0⟩ := by kernel_rfl
theorem s39_2 : repN tri39 [sc39, sb39] = ⟨[[u32 3, u32 4, u32 0, u32 7]], [(1, 0, 0, 0), (1, 1, 0, 1)], [(0, 0), (0, 1)], 0⟩ := by kernel_rfl
theorem s39_3 : repN tri39 [sd39] = ⟨[], [], [], 1⟩ := by kernel_rfl
theorem s39_4 : repN tri39 [] = ⟨[], [], [], 0⟩ := by kernel_rfl
theorem s39_5 : encN 8 [[1, 1]] [u32 1, u32 2] = [u32 1, u32 2, u32 3] := by kernel_rfl
theorem s39_6 : encN 8 [[1, 1]] [u32 3, u32 4] = [u32 3, u32 4, u32 7] := by kernel_rfl
theorem ok_par : CodeOk 8 2 [[1, 1]] := by
  obtain ⟨m, d, ps, e1, e2, e3, h⟩ := ok_valid (M := 8) (D := 2) (par := [[1, 1]]) (by kernel_rfl)
  obtain rfl : m = 8 := by omega
  obtain rfl : d = 2 := by omega
  have : ps = [[1, 1]] := by
    have h2 := congrArg (fun p => p.map fun r => r.map Int.toNat) e3
    rw [toZ_back] at h2
    exact h2.symm
  rwa [this] at h
theorem in39 {c : Cd} (h : c = par39 ∨ c = tri39) : CodeIn c.2.2.2.1 := ⟨fun r hr x hx => by
  rcases h with rfl | rfl
  · simp [par39] at hr; subst hr; simp at hx; omega
  · simp [tri39] at hr; subst hr; simp at hx; omega⟩
theorem srIn39 {us : List (List Nat)} {hv : List Bool} {l : List Int} (h1 : us.length ≤ 10) (h2 : hv.length ≤ 10) (h3 : l.length ≤ 10) (h4 : ∀ x ∈ us, ∃ b, b < 256 ∧ x = u32 b) : SrIn (par39, us, hv, l) where
  c := in39 (.inl rfl)
  us := by dsimp only; omega
  hv := by dsimp only; omega
  ll := by dsimp only; omega
  b x hx := by
    obtain ⟨b, hb, rfl⟩ := h4 x hx
    exact ⟨isB_u32 hb, by simp [u32]⟩
theorem mem3 {a b c : Nat} (h : a < 256 ∧ b < 256 ∧ c < 256) : ∀ x ∈ [u32 a, u32 b, u32 c], ∃ n, n < 256 ∧ x = u32 n := fun x hx => by
  simp at hx
  rcases hx with rfl | rfl | rfl
  · exact ⟨a, h.1, rfl⟩
  · exact ⟨b, h.2.1, rfl⟩
  · exact ⟨c, h.2.2, rfl⟩
theorem sIn_a : SrIn sa39 := srIn39 (by decide) (by decide) (by decide) (mem3 (by decide))
theorem sIn_b : SrIn sb39 := srIn39 (by decide) (by decide) (by decide) (mem3 (by decide))
theorem sIn_c : SrIn sc39 := srIn39 (by decide) (by decide) (by decide) (mem3 (by decide))
theorem sIn_d : SrIn sd39 := srIn39 (by decide) (by decide) (by decide) (mem3 (by decide))
theorem rIn39 {ss : List Sr} (h1 : ss.length ≤ 10) (h2 : ∀ s ∈ ss, SrIn s) (h3 : (liveTo ss ss.length).length ≤ 1000) : RepIn tri39 ss := ⟨in39 (.inr rfl), by omega, h2, by omega⟩
theorem mem2S {a b : Sr} (h1 : SrIn a) (h2 : SrIn b) : ∀ s ∈ [a, b], SrIn s := fun s hs => by
  simp at hs
  rcases hs with rfl | rfl
  · exact h1
  · exact h2
theorem fi_tg : fldsInt Tryz.prog 65 = some [0, 1, 2, 3] := by kernel_rfl
attribute [local irreducible] Quiet Eff OpOk AWPG ACont ABlock ACalls AGoto
theorem A_sanity39 : ACalls Tryz.prog 12 [] [] (bV true) [] := by
  refine acalls_of_body Tryz.func12 rfl (Nat.le_of_ble_eq_true rfl) ?_
  have u0 := A_unit39 (b := 0) (by decide)
  have u1 := A_unit39 (b := 1) (by decide)
  have u2 := A_unit39 (b := 2) (by decide)
  have u3 := A_unit39 (b := 3) (by decide)
  have u4 := A_unit39 (b := 4) (by decide)
  have hB0 := isB_u32 (b := 0) (by decide)
  have hB4 := isB_u32 (b := 4) (by decide)
  have f1 := A_fullOk (us := [u32 1, u32 2]) (nm := par39.1) (dom := 3) ok_par rfl (fun u hu => by simp at hu; rcases hu with rfl | rfl <;> exact ⟨isB_u32 (by decide), by simp [u32]⟩)
  rw [s39_5] at f1
  have f1 : ACalls Tryz.prog 22 [cdA1 par39, strs [u32 1, u32 2]] [] (srA1 sa39) [] := f1
  have f2 := A_fullOk (us := [u32 3, u32 4]) (nm := par39.1) (dom := 3) ok_par rfl (fun u hu => by simp at hu; rcases hu with rfl | rfl <;> exact ⟨isB_u32 (by decide), by simp [u32]⟩)
  rw [s39_6] at f2
  have f2 : ACalls Tryz.prog 22 [cdA1 par39, strs [u32 3, u32 4]] [] (srA1 sb39) [] := f2
  have k1 := A_repack (rIn39 (ss := [sa39, sb39]) (by decide) (mem2S sIn_a sIn_b) (by decide))
  rw [s39_1] at k1
  have k2 := A_repack (rIn39 (ss := [sc39, sb39]) (by decide) (mem2S sIn_c sIn_b) (by decide))
  rw [s39_2] at k2
  have k3 := A_repack (rIn39 (ss := [sd39]) (by decide) (fun s hs => by rw [List.mem_singleton.1 hs]; exact sIn_d) (by decide))
  rw [s39_3] at k3
  have k4 := (A_repack (rIn39 (ss := []) (by decide) (fun s hs => by simp at hs) (by decide))).le (args' := [cdA1 tri39, .d (.v (.slice none 0 0))]) fun F κ w us hs => AVleL.sat (xs := [cdA1 tri39, .d (.v (.slice none 0 0))]) (ys := [cdA1 tri39, srcs []]) ⟨AVle.refl _, AVle.nil 8, trivial⟩ F _ κ w us hs
  rw [s39_4] at k4
  (repeat' (first
  | (apply yFb; exact rfl; exact rfl)
  | (apply W.qd; (first
    | (apply (yW (u0)); exact rfl; exact rfl; (iterate 3 kernel_rfl))|(apply (yW (u1)); exact rfl; exact rfl; (iterate 3 kernel_rfl))|(apply (yW (u2)); exact rfl; exact rfl; (iterate 3 kernel_rfl))|(apply (yW (u3)); exact rfl; exact rfl; (iterate 3 kernel_rfl))|(apply (yW (u4)); exact rfl; exact rfl; (iterate 3 kernel_rfl))|(apply (yW (f1)); exact rfl; exact rfl; (iterate 3 kernel_rfl))|(apply (yW (f2)); exact rfl; exact rfl; (iterate 3 kernel_rfl))|(apply (yW (k1)); exact rfl; exact rfl; (iterate 3 kernel_rfl))|(apply (yW (k2)); exact rfl; exact rfl; (iterate 3 kernel_rfl))|(apply (yW (k3)); exact rfl; exact rfl; (iterate 3 kernel_rfl))|(apply (yW (k4)); exact rfl; exact rfl; (iterate 3 kernel_rfl))|(first | (apply (q_eqsI fi_tg); (iterate 5 exact rfl)) | (apply (q_nesI fi_tg); (iterate 5 exact rfl)))|(apply q_mv; (conv => lhs; whnf))|(apply q_as; (conv => lhs; whnf))|(apply yS; (iterate 3 exact rfl))|(apply yT; (iterate 4 exact rfl))|(apply yU; (iterate 4 exact rfl))|(apply q_eql; exact rfl; exact rfl)|(apply q_neq; exact rfl; exact rfl)|(apply yAb; exact rfl; exact rfl)|(apply yV; exact rfl; exact rfl)|(apply yX; (iterate 3 exact rfl); (first | omega | (focus (simp; done))))|(apply yY; (iterate 3 exact rfl); (first | omega | (focus (simp; done))))|(apply yZ; exact rfl; exact rfl; kernel_rfl)|(apply q_litF; (iterate 5 exact rfl); kernel_rfl; kernel_rfl; exact rfl)|(apply yGb; (iterate 4 exact rfl); (first | (with_reducible exact rfl) | exact natI_spec rfl | assumption | exact (Int.toNat_of_nonneg (by omega)).symm); (first | omega | (focus (simp only [List.length_map]; omega)) | (focus (simp; done)) | (focus (simp; omega))))|(apply (yEb (u := .d _)); exact rfl; exact rfl)|(apply (yDb (u := .d _)); exact rfl; exact rfl)
    | (apply q_eqlS; exact rfl; exact rfl; (first | assumption | exact isB_nil | exact isB_xor (by assumption) (by assumption)); (first | assumption | exact isB_nil | exact isB_xor (by assumption) (by assumption)))))|(apply W.ed; (apply yCb; (iterate 3 exact rfl); kernel_rfl))|(apply W.ln; (apply l_st_box; (iterate 6 exact rfl); (iterate 3 kernel_rfl)))|(apply yA)|(apply yB)|(apply yC; kernel_rfl)|(apply yD; exact rfl; kernel_rfl)|(apply yE)|(apply yF; kernel_rfl)|(apply yH)|(apply yJ)
  | (apply yR; exact rfl)))
  all_goals first | exact Ends.b rfl rfl | (exfalso; simp at hb; done)
end Go.Proofs.YtcljokdiblnhiaaGreatDoor
end
section
namespace Go.Proofs.YtcljokdiblnhiaaGreatDoor
open Go.RowKit
def Ints (w : World) (v : Value) (l : List Int) : Prop :=
  ∃ (A : Option Addr) (c : Nat), v = .slice A l.length c ∧ l.length ≤ c ∧ c ≤ maxLen ∧ (0 < l.length → ∃ b o, A = some ⟨b, o, none⟩ ∧ b < w.heap.size ∧ ∀ j, j < l.length → w.cell? ⟨b, o + j, none⟩ = some (.int .i64 (l.getD j 0)))
theorem Ints.keep {w w' : World} {v : Value} {l : List Int} (h : Ints w v l) (hb : Below w.heap.size w w') : Ints w' v l := by
  obtain ⟨A, c, rfl, h1, h2, h3⟩ := h
  refine ⟨A, c, rfl, h1, h2, fun hp => ?_⟩
  obtain ⟨b, o, rfl, hlt, hc⟩ := h3 hp
  refine ⟨b, o, rfl, Nat.lt_of_lt_of_le hlt hb.size, fun j hj => ?_⟩
  rw [hb.cell (p := ⟨b, o + j, none⟩) hlt]; exact hc j hj
theorem Ints.of_own {w : World} {base e n : Nat} {v : Value} {l : List Int} (h : w.ownsRow base e 1 v n (l.map (Value.int .i64))) : Ints w v l := by
  have hn : l.length = n := by have := h.1; simpa using this
  rcases h.2 with ⟨rfl, hx⟩ | ⟨g, cap, cur, rfl, hb, hh, hnc, hcm, hcs, htake⟩
  · subst hx
    have : l = [] := List.eq_nil_of_length_eq_zero hn
    subst this
    exact ⟨none, 0, rfl, by simp, by simp [maxLen], fun hp => by simp at hp⟩
  · subst hn
    refine ⟨_, cap, rfl, hnc, hcm, fun hp => ⟨g, 0, rfl, ?_, fun j hj => ?_⟩⟩
    · rcases Nat.lt_or_ge g w.heap.size with hlt | hge
      · exact hlt
      · rw [Array.getElem?_eq_none hge] at hh; cases hh
    · rw [cell_of_row w g (0 + j) cur e (0, 0) hh, Nat.zero_add]
      have h1 : cur.toList[j]? = (l.map (Value.int .i64))[j]? := by
        rw [← htake, List.getElem?_take, if_pos (by simpa using hj)]
      have h2 : cur[j]? = cur.toList[j]? := by simp
      rw [h2, h1]
      simp [List.getElem?_map, List.getElem?_eq_getElem hj]
theorem ret_i {k : IntKind} {a b : Int} (h : a = b) : Ending.returned (.int k a) = .returned (.int k b) := by rw [h]
theorem Below.then {B : Nat} {a w w' : World} (h : Below B a w) (hb : Below w.heap.size w w') (hB : B ≤ w.heap.size) : Below B a w' := h.trans (hb.mono hB)
theorem Below.lt {B : Nat} {w w' : World} (h : Below B w w') {k : Nat} (hk : k < w.heap.size) : k < w'.heap.size := Nat.lt_of_lt_of_le hk h.size
theorem Ints.drew {w : World} {v : Value} {l : List Int} (h : Ints w v l) : Ints w.drew v l := h
theorem Ints.alloc {w : World} {v : Value} {l : List Int} (h : Ints w v l) (o : Obj) : Ints (w.alloc o) v l := h.keep ((Below.refl _ _).alloc (Nat.le_refl _) o)
theorem Ints.nil (w : World) : Ints w (.slice none 0 0) [] := ⟨none, 0, rfl, by simp, by simp [maxLen], fun h => by simp at h⟩
theorem Below.after {w X w1 : World} (h : Below w.heap.size w X) (hb : Below X.heap.size X w1) : Below w.heap.size w w1 := h.trans (hb.mono h.size)
theorem Ints.lit (w : World) (e : TypeId) (l : List Int) (n : Nat) (hn : l.length = n) (hm : n ≤ 1000000000) :
    Ints (w.alloc (.cells (l.map (Value.int .i64)).toArray e)) (.slice (some ⟨w.heap.size, 0, none⟩) n n) l := by
  have h := World.ownsRow_lit (base := 0) (size := 1) (e := e) w (l.map (Value.int .i64)).toArray n (Nat.zero_le _) (by unfold maxLen; omega) (by simp [hn])
  exact Ints.of_own (by simpa using h)
theorem Ints.ext {w w' : World} {v : Value} {l : List Int} (h : Ints w v l) (hb : Below w.heap.size w w') : Ints w' v l := h.keep hb
def Box6 (w : World) (g : Nat) (d r n s l i : Int) : Prop :=
  g < w.heap.size ∧ w.cell? ⟨g, 0, none⟩ = some (.int .i64 d) ∧ w.cell? ⟨g, 1, none⟩ = some (.int .i64 r) ∧ w.cell? ⟨g, 2, none⟩ = some (.int .i64 n) ∧ w.cell? ⟨g, 3, none⟩ = some (.int .i64 s) ∧ w.cell? ⟨g, 4, none⟩ = some (.int .i64 l) ∧ w.cell? ⟨g, 5, none⟩ = some (.int .i64 i)
theorem Box6.keep {w w' : World} {g : Nat} {d r n s l i : Int} (h : Box6 w g d r n s l i) (hb : Below w.heap.size w w') : Box6 w' g d r n s l i := by
  obtain ⟨h0, h1, h2, h3, h4, h5, h6⟩ := h
  have hc := fun o => hb.cell (p := ⟨g, o, none⟩) h0
  exact ⟨Nat.lt_of_lt_of_le h0 hb.size, (hc 0).trans h1, (hc 1).trans h2, (hc 2).trans h3, (hc 3).trans h4, (hc 4).trans h5, (hc 5).trans h6⟩
theorem Box6.new (w : World) (t : TypeId) (d r n s l i : Int) : Box6 (w.alloc (.cells #[.int .i64 d, .int .i64 r, .int .i64 n, .int .i64 s, .int .i64 l, .int .i64 i] t)) w.heap.size d r n s l i := by
  refine ⟨by simp, ?_, ?_, ?_, ?_, ?_, ?_⟩ <;> simp
def Row (w : World) (b o : Nat) (l : List Int) : Prop := b < w.heap.size ∧ ∀ j, j < l.length → w.cell? ⟨b, o + j, none⟩ = some (.int .i64 (l.getD j 0))
theorem Row.keep {w w' : World} {b o : Nat} {l : List Int} (h : Row w b o l) (hb : Below w.heap.size w w') : Row w' b o l :=
  ⟨Nat.lt_of_lt_of_le h.1 hb.size, fun j hj => (hb.cell (p := ⟨b, o + j, none⟩) h.1).trans (h.2 j hj)⟩
theorem Ints.row {w : World} {v : Value} {l : List Int} (h : Ints w v l) (hp : 0 < l.length) : ∃ b o c, v = .slice (some ⟨b, o, none⟩) l.length c ∧ l.length ≤ c ∧ c ≤ 9223372036854775807 ∧ Row w b o l := by
  obtain ⟨A, c, rfl, h1, h2, h3⟩ := h
  obtain ⟨b, o, rfl, hlt, hc⟩ := h3 hp
  exact ⟨b, o, c, rfl, h1, by unfold maxLen at h2; omega, hlt, hc⟩
theorem Row.ints {w : World} {b o c : Nat} {l : List Int} (h : Row w b o l) (h1 : l.length ≤ c) (h2 : c ≤ 9223372036854775807) : Ints w (.slice (some ⟨b, o, none⟩) l.length c) l :=
  ⟨_, c, rfl, h1, by unfold maxLen; omega, fun _ => ⟨b, o, rfl, h.1, h.2⟩⟩
/-! ### A region that draws its order, whose operations read old cells and whose callees make memory but hand back numbers: one walk of the lexical order. -/
structure Ext (W : World) where
  w : World
  h : Below W.heap.size W w
instance (W : World) : Nonempty (Ext W) := ⟨⟨W, Below.refl _ _⟩⟩
theorem Box6.ext {W : World} {g : Nat} {d r n s l i : Int} (h : Box6 W g d r n s l i) :
    (∀ y : Ext W, y.w.cell? ⟨g, 0, none⟩ = some (.int .i64 d)) ∧ (∀ y : Ext W, y.w.cell? ⟨g, 1, none⟩ = some (.int .i64 r)) ∧ (∀ y : Ext W, y.w.cell? ⟨g, 2, none⟩ = some (.int .i64 n)) ∧
    (∀ y : Ext W, y.w.cell? ⟨g, 3, none⟩ = some (.int .i64 s)) ∧ (∀ y : Ext W, y.w.cell? ⟨g, 4, none⟩ = some (.int .i64 l)) ∧ (∀ y : Ext W, y.w.cell? ⟨g, 5, none⟩ = some (.int .i64 i)) := by
  refine ⟨fun y => ?_, fun y => ?_, fun y => ?_, fun y => ?_, fun y => ?_, fun y => ?_⟩ <;> (obtain ⟨_, h1, h2, h3, h4, h5, h6⟩ := h.keep y.h; assumption)
/-! ### A block that is known whole -/
def BlkB (w : World) (g : Nat) (t : TypeId) (cs : Array Value) : Prop := w.heap[g]? = some (.cells cs t (0, 0))
section
variable {w w' : World} {g : Nat} {t : TypeId} {cs : Array Value}
theorem BlkB.lt (h : BlkB w g t cs) : g < w.heap.size := by
  rcases Nat.lt_or_ge g w.heap.size with hlt | hge
  · exact hlt
  · unfold BlkB at h; rw [Array.getElem?_eq_none hge] at h; cases h
theorem BlkB.cell (h : BlkB w g t cs) (i : Nat) : w.cell? ⟨g, i, none⟩ = cs[i]? := cell_of_row w g i cs t (0, 0) h
theorem BlkB.frozen (h : BlkB w g t cs) (i : Nat) : w.frozen? ⟨g, i, none⟩ = false := by
  unfold BlkB at h
  simp [World.frozen?, h]
theorem BlkB.new (w : World) (t : TypeId) (cs : Array Value) : BlkB (w.alloc (.cells cs t)) w.heap.size t cs := heap_alloc_new w _
theorem BlkB.alloc (h : BlkB w g t cs) (o : Obj) : BlkB (w.alloc o) g t cs := (Below.heap_alloc w o g h.lt).trans h
theorem BlkB.below {B : Nat} (h : BlkB w g t cs) (hb : Below B w w') (hg : g < B) : BlkB w' g t cs := (hb.block g hg).trans h
theorem BlkB.keep (h : BlkB w g t cs) (hb : Below w.heap.size w w') : BlkB w' g t cs := h.below hb h.lt
end
end Go.Proofs.YtcljokdiblnhiaaGreatDoor
end
section
namespace Go.Proofs.YtcljokdiblnhiaaGreatDoor
/-! ### The multipliers -/
def prog (r k : Nat) : List Nat := (List.range k).map fun i => 1 + i * r
def I (l : List Nat) : List Int := l.map fun n : Nat => (n : Int)
end Go.Proofs.YtcljokdiblnhiaaGreatDoor
end
section
namespace Go.Proofs.YtcljokdiblnhiaaGreatDoor
open Go.RowKit
def RetOwn (w : World) (l : List Int) (e : Ending) (w' : World) : Prop :=
  ∃ v, e = .returned v ∧ w'.ownsRow w.heap.size 3 1 v l.length (l.map (Value.int .i64)) ∧ Below w.heap.size w w'
end Go.Proofs.YtcljokdiblnhiaaGreatDoor
end
section
namespace Go.Proofs.YtcljokdiblnhiaaGreatDoor
open Go.RowKit
def OkC (d r n s l i : Int) : Prop := (1 ≤ d ∧ d ≤ 64) ∧ (1 ≤ r ∧ r ≤ 8) ∧ (1 ≤ n ∧ n ≤ 4096) ∧ (0 ≤ s ∧ s ≤ d - 1) ∧ (1 ≤ l ∧ l ≤ 65536) ∧ (1 ≤ i ∧ i ≤ 65536) ∧ d % r = 0
instance (d r n s l i : Int) : Decidable (OkC d r n s l i) := by unfold OkC; infer_instance
def chk13 (d r n s l i : Int) : Int := if OkC d r n s l i then 0 else 1
theorem chk13_yes {d r n s l i : Int} (h : OkC d r n s l i) : chk13 d r n s l i = 0 := if_pos h
theorem chk13_no {d r n s l i : Int} (h : ¬ OkC d r n s l i) : chk13 d r n s l i = 1 := if_neg h
theorem RetOwn.nil {w w' : World} (hb : Below w.heap.size w w') : RetOwn w [] (.returned (.slice none 0 0)) w' := ⟨_, rfl, World.ownsRow_nil _ _ _ _, hb⟩
theorem RetOwn.later {w w1 : World} {l : List Int} {e : Ending} {w' : World} (h : RetOwn w1 l e w') (hb : Below w.heap.size w w1) : RetOwn w l e w' := by
  obtain ⟨v, rfl, ho, hb'⟩ := h
  exact ⟨v, rfl, ho.mono hb.size, hb.trans (hb'.mono hb.size)⟩
end Go.Proofs.YtcljokdiblnhiaaGreatDoor
end
section
namespace Go.Proofs.YtcljokdiblnhiaaGreatDoor
open Go.RowKit
theorem in13_any (a b c : Int) (w : World) :
    Calls Tryz.prog 160 #[.int .i64 a, .int .i64 b, .int .i64 c] w fun e w' => e = .returned (.bool (decide (b ≤ a) && decide (a ≤ c))) ∧ w = w' := by
  by_cases h : b ≤ a
  · by_cases h2 : a ≤ c
    · go_enter Tryz.func160, Tryz.ntmps160
      go_wp2
      go_ret
      first | (simp [h, h2]; done) | (simp [h, h2]; omega)
    · have h2' : c < a := by omega
      go_enter Tryz.func160, Tryz.ntmps160
      go_wp2
      go_ret
      first | (simp [h, h2]; done) | (simp [h, h2]; omega)
  · have h' : a < b := by omega
    go_enter Tryz.func160, Tryz.ntmps160
    go_wp2
    go_ret
    first | (simp [h]; done) | (simp; intros; omega)
set_option maxHeartbeats 1600000 in
theorem rcheck_any (d r n s l i : Int) (w : World) :
    Calls Tryz.prog 101 #[.agg #[.int .i64 d, .int .i64 r, .int .i64 n, .int .i64 s, .int .i64 l, .int .i64 i]] w fun e w' => e = .returned (.int .i64 (chk13 d r n s l i)) ∧ Below w.heap.size w w' := by
  go_enter Tryz.func101, Tryz.ntmps101
  go_wp2_with (go_at_call 160; refine (in13_any _ _ _ _).mono ?_; rintro e w' ⟨rfl, rfl⟩)
  all_goals (go_ret; refine ⟨ret_i ?_, by go_grown⟩)
  all_goals first
    | (rw [chk13_no]; unfold OkC; intro h; obtain ⟨h1, h2, h3, h4, h5, h6, h7⟩ := h; first | (exact absurd h1 ‹_›) | (exact absurd h2 ‹_›) | (exact absurd h3 ‹_›) | (exact absurd h4 ‹_›) | (exact absurd h5 ‹_›) | (exact absurd h7 ‹_›) | (have hx : (!decide (1 ≤ i)) = true ∨ (!decide (i ≤ 65536)) = true := (by assumption); simp at hx; omega) | (have hx : (!decide (0 ≤ s)) = true ∨ (!decide (s ≤ d - 1)) = true := (by assumption); simp at hx; omega); done)
    | (rw [chk13_yes]; have hx : (!decide (1 ≤ i)) = false ∧ (!decide (i ≤ 65536)) = false := (by assumption); have hy : (!decide (0 ≤ s)) = false ∧ (!decide (s ≤ d - 1)) = false := (by assumption); exact ⟨‹_›, ‹_›, ‹_›, by simpa using hy, ‹_›, by simpa using hx, ‹_›⟩)
end Go.Proofs.YtcljokdiblnhiaaGreatDoor
end
section
namespace Go.Proofs.YtcljokdiblnhiaaGreatDoor
open Go.RowKit
set_option maxRecDepth 100000
abbrev cfgA (d r n s l i : Int) : AV := .agg [iV d, iV r, iV n, iV s, iV l, iV i]
theorem A_rdchk (d r n s l i : Int) : ACalls Tryz.prog 101 [cfgA d r n s l i] [] (iV (chk13 d r n s l i)) [] := acalls_of_exact rfl fun w => rcheck_any d r n s l i w
end Go.Proofs.YtcljokdiblnhiaaGreatDoor
end
section
namespace Go.Proofs.YtcljokdiblnhiaaGreatDoor
open Go.RowKit
set_option maxRecDepth 100000
attribute [local irreducible] Quiet Eff OpOk AWPG ACont ABlock ACalls
def OkL (d r n s l i w : Int) : Prop := OkC d r n s l i ∧ 1 ≤ w ∧ w ≤ 32
instance (d r n s l i w : Int) : Decidable (OkL d r n s l i w) := by unfold OkL; infer_instance
def vldL (d r n s l i w : Int) : Bool := decide (OkL d r n s l i w)
def grpI (d r n s l i w : Int) : Int := if OkL d r n s l i w then (d - s) / w else 0
theorem A_rlvalid (d r n s l i wd : Int) : ACalls Tryz.prog 204 [cfgA d r n s l i, iV wd] [] (bV (vldL d r n s l i wd)) [] := by
  refine acalls_of_body Tryz.func204 rfl (Nat.le_of_ble_eq_true rfl) ?_
  (repeat' (first
  | (apply yFb; exact rfl; exact rfl)
  | (apply W.qd; (first
    | (apply (yW (A_rdchk _ _ _ _ _ _)); exact rfl; exact rfl; (iterate 3 kernel_rfl))|(apply q_mv; (conv => lhs; whnf))|(apply q_as; (conv => lhs; whnf))|(apply yU; (iterate 4 exact rfl))|(apply q_leq; exact rfl; exact rfl)|(apply q_geq; exact rfl; exact rfl)|(apply q_eql; exact rfl; exact rfl)|(apply (yEb (u := .d _)); exact rfl; exact rfl)
    | (apply (yDb (u := .d _)); exact rfl; exact rfl)))|(apply W.ed; (apply yBb; (iterate 3 exact rfl); kernel_rfl; kernel_rfl))|(refine W.gOff _ _ rfl rfl (by intro h; cases h) ?_)|(apply yA)|(apply yB)|(apply yC; kernel_rfl)|(apply yE)|(apply yJ)
  | (refine W.gT _ _ rfl rfl (fun hb => ?_) (fun hb => ?_) <;> ((try simp only [hb, zA, zB]) <;> (try simp only [zC, zD, zE, zF, zG, zH, zI, zJ] at hb) <;> (try (exfalso; omega))))))
  all_goals refine Ends.b rfl ?_
  all_goals (unfold chk13 at *; unfold vldL OkL; simp_all)
  omega
theorem OkL.bd {d r n s l i w : Int} (h : OkL d r n s l i w) : (1 ≤ d ∧ d ≤ 64) ∧ (1 ≤ r ∧ r ≤ 8) ∧ (1 ≤ n ∧ n ≤ 4096) ∧ (0 ≤ s ∧ s ≤ d - 1) ∧ 1 ≤ w ∧ w ≤ 32 := by
  obtain ⟨⟨h1, h2, h3, h4, _⟩, h5⟩ := h; exact ⟨h1, h2, h3, h4, h5⟩
theorem A_rgroups (d r n s l i wd : Int) : ACalls Tryz.prog 161 [cfgA d r n s l i, iV wd] [] (iV (grpI d r n s l i wd)) [] := by
  refine acalls_of_body Tryz.func161 rfl (Nat.le_of_ble_eq_true rfl) ?_
  by_cases hok : OkL d r n s l i wd
  · have hv : vldL d r n s l i wd = true := decide_eq_true hok
    have := A_rlvalid d r n s l i wd
    rw [hv] at this
    obtain ⟨h1, h2, h3, h4, h5⟩ := hok.bd
    (repeat' (first
  | (apply W.qd; (first
    | (apply (yW (this)); exact rfl; exact rfl; (iterate 3 kernel_rfl))|(apply q_mv; (conv => lhs; whnf))|(apply q_as; (conv => lhs; whnf))|(apply yS; (iterate 3 exact rfl))|(apply yT; (iterate 4 exact rfl))|(apply yU; (iterate 4 exact rfl))|(apply q_not; exact rfl)|(apply q_sub; exact rfl; exact rfl; omega)
    | (apply q_quo; exact rfl; exact rfl; omega; omega; omega)))|(apply W.ed; (apply yBb; (iterate 3 exact rfl); kernel_rfl; kernel_rfl))|(apply yA)|(apply yB)|(apply yC; kernel_rfl)|(apply yE)|(apply yH)|(apply yJ)
  | (apply yR; exact rfl)))
    all_goals exact Ends.i rfl (if_pos hok).symm
  · have hv : vldL d r n s l i wd = false := decide_eq_false hok
    have := A_rlvalid d r n s l i wd
    rw [hv] at this
    (repeat' (first
  | (apply W.qd; (first
    | (apply (yW (this)); exact rfl; exact rfl; (iterate 3 kernel_rfl))|(apply q_mv; (conv => lhs; whnf))|(apply q_as; (conv => lhs; whnf))|(apply yU; (iterate 4 exact rfl))
    | (apply q_not; exact rfl)))|(apply W.ed; (apply yBb; (iterate 3 exact rfl); kernel_rfl; kernel_rfl))|(apply yA)|(apply yB)|(apply yC; kernel_rfl)|(apply yE)|(apply yJ)|(apply yP)
  | (apply yQ; exact rfl)))
    all_goals exact Ends.i rfl (if_neg hok).symm
end Go.Proofs.YtcljokdiblnhiaaGreatDoor
end
section
namespace Go.Proofs.YtcljokdiblnhiaaGreatDoor
open Go.RowKit
theorem YAt.mk2 {P : Program} {n i : Nat} {ps : Array Tmp} {asn bdy : Code} {envC : List (Nat × AV)} {xs : List AV} {own own1 : List Ent} {e0 : Exit} {s2 : St} {l3 : List AV}
    (hi : own[i]? = some (.lp .ready none ps asn bdy (tmpsOf envC n))) (hin : envIn n envC = true) (hxs : xs.length = ps.size) (hps : (ps.toList.all fun p => decide (p < n)) = true)
    (hA : ∀ g, AWPG (Ctx.round g) P n own.length asn (fun e s => e = .normal ∧ s = s2) ⟨putP ps.toList xs envC, own⟩) (h2 : s2.own[i]? = some (.lp .ready none ps asn bdy (tmpsOf envC n)))
    (hB : ∀ g, AWPG (Ctx.round g) P n own.length bdy (fun e s => e = e0 ∧ s.own = own1) ⟨s2.env, s2.own.set i (.lp .busy none ps asn bdy (tmpsOf envC n))⟩)
    (h1 : own1[i]? = some (.lp .busy none ps asn bdy l3)) (he : okEnd e0 = true) :
    YAt P i own xs (jumpOf e0).isNone (own1.set i (.lp (if (jumpOf e0).isNone then .ready else .done) (jumpOf e0) ps asn bdy l3)) := fun F κ w us g ho hκ hus => by
  obtain ⟨g', r, hg', hr, ⟨rst, rpe, rps, ras, rbd⟩, hsat, -⟩ := lp_set ho hi
  obtain rfl : g = g' := by rw [hκ] at hg'; simpa using hg'
  have hil : i < own.length := (List.getElem?_eq_some_iff.1 hi).1
  have hsz : r.tmps.size = n := by have := satL_length hsat; simpa [tmpsOf] using this.symm
  refine ⟨r, hr, by rw [rps, ← hxs]; exact (satL_length hus).symm, ?_⟩
  rw [ras, rbd, rps]
  have ez : (ps.zip us.toArray).foldl (fun tmps (t, x) => tmps.setIfInBounds t x) r.tmps = (ps.toList.zip us).foldl (fun tmps (p : Nat × Value) => tmps.setIfInBounds p.1 p.2) r.tmps := by
    rw [← Array.foldl_toList, Array.toList_zip]
  rw [ez]
  have henv : EnvSat F own κ w (putP ps.toList xs envC) { tmps := (ps.toList.zip us).foldl (fun tmps (p : Nat × Value) => tmps.setIfInBounds p.1 p.2) r.tmps, defers := [] } :=
    putP_sat hus (fun p hp => by have := List.all_eq_true.1 hps p hp; rw [hsz]; simpa using this) (tmpsOf_sat hin hsat)
  refine roundIn_of_wpIn trivial (wpIn_mono (hA g F ⟨w, own⟩ κ _ κ w trivial ho.len.symm (Sim.start (by rw [← hsz]; exact fold_size) rfl henv ho)) ?_)
  rintro e a1 w1 ⟨s', κ1, ⟨rfl, rfl⟩, hs1⟩
  obtain ⟨env2, own2⟩ := s'
  have hroot : AV.sat F own κ w (.yl i) (.func (.yield g) #[] #[]) := by rw [AV.sat]; exact ⟨g, _, _, _, _, _, _, hi, hκ, rfl⟩
  have at1 : ∀ {own' : List Ent} {κ' : List (Option Nat)} {w' : World} {g' : Nat}, AV.sat F own' κ' w' (.yl i) (.func (.yield g) #[] #[]) → κ'[i]? = some (some g') → g = g' := fun h hg => by
    rw [AV.sat] at h
    obtain ⟨g2, _, _, _, _, _, _, _, h2, h3⟩ := h
    rw [h2] at hg
    obtain rfl : g2 = _ := by simpa using hg
    simpa using h3
  obtain ⟨g1, r1, hg1, hr1, hf1, -, hset1⟩ := lp_set hs1.own h2
  obtain rfl : g = g1 := at1 (hs1.keep _ _ hroot) hg1
  refine ⟨_, run_beginRound hr1 hf1.1, ?_⟩
  have hs2 := hs1.step (m := own.length) ho.len.symm ((hset1 .busy none).2 _) hs1.tm rfl (fun t => ((hset1 .busy none).2 0).keep _ _ (hs1.env t)) (hset1 .busy none).1
  have er : ({ r1 with state := .busy } : Loop) = { r1 with state := .busy, pending := none } := by rw [← hf1.2.1]
  rw [er]
  refine wpIn_mono (hB g F _ κ a1 κ1 _ trivial ho.len.symm hs2) ?_
  rintro e a3 w3 ⟨s3, κ4, ⟨rfl, rfl⟩, hs4⟩
  obtain ⟨g4, r4, hg4, hr4, hf4, -, hset4⟩ := lp_set hs4.own h1
  obtain rfl : g = g4 := at1 (hs4.keep _ _ hroot) hg4
  have htr : Tr F own.length own κ w s3.own κ4 w3 := ⟨hs4.os, hs4.tape, hs4.output, hs4.size, hs4.old, hs4.new, (fun _ => by rw [show own.length = κ.length from ho.len]; exact hs4.pre), hs4.keep⟩
  cases e with
  | normal => exact ⟨_, _, run_endRound none hr4, rfl, κ4, (hset4 _ _).1, htr.trans ((hset4 _ _).2 _)⟩
  | ret => exact ⟨_, _, run_endRound (some .ret) hr4, rfl, κ4, (hset4 _ _).1, htr.trans ((hset4 _ _).2 _)⟩
  | exit id => exact ⟨_, _, run_endRound (some (.exit id)) hr4, rfl, κ4, (hset4 _ _).1, htr.trans ((hset4 _ _).2 _)⟩
  | goto t => exact ⟨_, _, run_endRound (some (.goto t)) hr4, rfl, κ4, (hset4 _ _).1, htr.trans ((hset4 _ _).2 _)⟩
  | panic c => cases he
  | outgrown => cases he
theorem YAt.ok2 {P : Program} {n i : Nat} {ps : Array Tmp} {asn bdy : Code} {envC : List (Nat × AV)} {xs : List AV} {own own1 own' : List Ent} {s2 : St} {l3 : List AV}
    (hi : own[i]? = some (.lp .ready none ps asn bdy (tmpsOf envC n))) (hin : envIn n envC = true) (hxs : xs.length = ps.size) (hps : (ps.toList.all fun p => decide (p < n)) = true)
    (hA : ∀ g, AWPG (Ctx.round g) P n own.length asn (fun e s => e = .normal ∧ s = s2) ⟨putP ps.toList xs envC, own⟩) (h2 : s2.own[i]? = some (.lp .ready none ps asn bdy (tmpsOf envC n)))
    (hB : ∀ g, AWPG (Ctx.round g) P n own.length bdy (fun e s => e = .normal ∧ s.own = own1) ⟨s2.env, s2.own.set i (.lp .busy none ps asn bdy (tmpsOf envC n))⟩)
    (h1 : own1[i]? = some (.lp .busy none ps asn bdy l3)) (h' : own1.set i (.lp .ready none ps asn bdy l3) = own') :
    YAt P i own xs true own' := by
  subst h'
  exact YAt.mk2 hi hin hxs hps hA h2 hB h1 rfl
end Go.Proofs.YtcljokdiblnhiaaGreatDoor
end
section
namespace Go.Proofs.YtcljokdiblnhiaaGreatDoor
open Go.RowKit
abbrev Us := Int × Int × Int
abbrev SRw := Int × Int × List Us
def usD (u : Us) : List Dat := [.v (.int .i64 u.1), .v (.int .i64 u.2.1), .v (.int .i64 u.2.2)]
def rwD (r : SRw) : List Dat := [.v (.int .i64 r.1), .v (.int .i64 r.2.1), .sl 3 (r.2.2.map usD)]
abbrev rws (l : List SRw) : AV := .d (.sl 3 (l.map rwD))
abbrev rwA (r : SRw) : AV := .agg ((rwD r).map .d)
def rw0 : SRw := (0, 0, [])
def spD (s : Nat × Int) : List Dat := [.v (.int .i64 s.1), .v (.int .i64 s.2)]
def strTo (rows : List SRw) (c : Int) (n : Nat) : List (Nat × Int) := ((List.range n).map fun i => if (rows.getD i rw0).1 = c then (rows.getD i rw0).2.2.map fun u => (i, u.1) else []).flatten
def strN (rows : List SRw) (c : Int) : List (Nat × Int) := strTo rows c rows.length
theorem strTo_succ (rows : List SRw) (c : Int) (n : Nat) : strTo rows c (n + 1) = strTo rows c n ++ (if (rows.getD n rw0).1 = c then (rows.getD n rw0).2.2.map fun u => (n, u.1) else []) := by
  unfold strTo
  rw [List.range_succ, List.map_append, List.flatten_append]; simp
def strAt (rows : List SRw) (c : Int) (i k : Nat) : List (Nat × Int) := strTo rows c i ++ ((rows.getD i rw0).2.2.take k).map fun u => (i, u.1)
theorem strAt_zero (rows : List SRw) (c : Int) (i : Nat) : strAt rows c i 0 = strTo rows c i := by unfold strAt; simp
theorem getDr {rows : List SRw} {i : Nat} (h : i < rows.length) : rows.getD i rw0 = rows[i] := by rw [List.getD_eq_getElem?_getD, List.getElem?_eq_getElem h]; rfl
theorem strAt_succ {rows : List SRw} {c : Int} {i k : Nat} (hi : i < rows.length) (hk : k < rows[i].2.2.length) : strAt rows c i (k + 1) = strAt rows c i k ++ [(i, rows[i].2.2[k].1)] := by
  unfold strAt
  rw [getDr hi, List.take_succ_eq_append_getElem hk, List.map_append, List.append_assoc]; rfl
theorem strAt_next {rows : List SRw} {c : Int} {i : Nat} (hi : i < rows.length) (hc : rows[i].1 = c) : strAt rows c i rows[i].2.2.length = strTo rows c (i + 1) := by
  rw [strTo_succ, getDr hi, if_pos hc]
  unfold strAt
  rw [getDr hi, List.take_length]
theorem strTo_skip {rows : List SRw} {c : Int} {i : Nat} (hi : i < rows.length) (hc : rows[i].1 ≠ c) : strTo rows c (i + 1) = strTo rows c i := by
  rw [strTo_succ, getDr hi, if_neg hc, List.append_nil]
end Go.Proofs.YtcljokdiblnhiaaGreatDoor
end
section
namespace Go.Proofs.YtcljokdiblnhiaaGreatDoor
open Go.RowKit
set_option maxHeartbeats 4000000
set_option maxRecDepth 100000
structure RwIn (rows : List SRw) : Prop where
  l : rows.length ≤ 12
  u : ∀ (i : Nat) (hi : i < rows.length), rows[i].2.2.length ≤ 64
theorem strTo_len {rows : List SRw} {c : Int} (h : RwIn rows) : ∀ n, n ≤ rows.length → (strTo rows c n).length ≤ n * 64
  | 0, _ => by simp [strTo]
  | n + 1, hn => by
    have h1 := strTo_len (c := c) h n (by omega)
    have h2 := h.u n (by omega)
    rw [strTo_succ, getDr (show n < rows.length by omega), List.length_append]
    split
    · rw [List.length_map]; omega
    · simp only [List.length_nil]; omega
theorem strAt_len {rows : List SRw} {c : Int} (h : RwIn rows) {i k : Nat} (hi : i < rows.length) : (strAt rows c i k).length ≤ 1000 := by
  have h1 := strTo_len (c := c) h i (by omega)
  have h2 := h.u i hi
  have h3 := h.l
  unfold strAt
  rw [getDr hi, List.length_append, List.length_map, List.length_take]
  omega
theorem strN_len {rows : List SRw} {c : Int} (h : RwIn rows) : (strN rows c).length ≤ 1000 := by
  have h1 := strTo_len (c := c) h rows.length (by omega)
  have h3 := h.l
  unfold strN
  omega
abbrev sps (l : List (Nat × Int)) : AV := .d (.sl 2 (l.map spD))
attribute [local irreducible] Quiet Eff OpOk AWPG ACont ABlock ACalls AGoto
theorem A_of0 {rows : List SRw} {c : Int} : ACalls Tryz.prog 103 [rws rows, iV c] [] (.fn 162 [.opt 0 0, .opt 1 0]) [.box [rws rows], .box [iV c]] := by
  refine acalls_of_bodyO Tryz.func103 rfl (Nat.le_of_ble_eq_true rfl) ?_
  (repeat' (first
  | (apply W.qd; (first
    | (apply q_as; (conv => lhs; whnf))
    | (apply q_makeFunc)))|(apply W.ed; (apply yBb; (iterate 3 exact rfl); kernel_rfl; kernel_rfl))|(apply yA)|(apply yB)|(apply yC; kernel_rfl)|(apply yE)
  | (apply yJ)))
  exact ⟨.inl rfl, [0, 1], [.fn 162 [.opt 0 0, .opt 1 0]], rfl, rfl, ⟨rfl, trivial⟩, AVle.of_eq rfl, rfl⟩
theorem A_ofIter {rows : List SRw} {c : Int} {L : Ent} {e0 e1 : List (Nat × Int) → Ent} (h : RwIn rows)
    (hcl : ∀ (p : List (Nat × Int)) (Y : List Ent), selOwn (e0 p :: e1 p :: .box [rws rows] :: .box [iV c] :: L :: Y) [0, 1, 2, 3, 4] = [e0 p, e1 p, .box [rws rows], .box [iV c], L])
    (hY : ∀ i (hi : i < rows.length), rows[i].1 = c → YAt Tryz.prog 4 [e0 (strTo rows c i), e1 (strTo rows c i), .box [rws rows], .box [iV c], L, .box ((rwD rows[i]).map .d)] [iV i, rwA rows[i]] true [e0 (strTo rows c (i + 1)), e1 (strTo rows c (i + 1)), .box [rws rows], .box [iV c], L, .box ((rwD rows[i]).map .d)]) :
    ACalls Tryz.prog 162 [.yl 4, .opt 2 0, .opt 3 0] [e0 (strTo rows c 0), e1 (strTo rows c 0), .box [rws rows], .box [iV c], L] (.tup []) [e0 (strN rows c), e1 (strN rows c), .box [rws rows], .box [iV c], L] := by
  refine acalls_of_bodyS Tryz.func162 rfl (Nat.le_of_ble_eq_true rfl) ?_
  have hm : (rows.map rwD).length = rows.length := List.length_map _
  have hrl := h.l
  (repeat' (first
  | (apply W.qd; (first
    | (apply q_mv; (conv => lhs; whnf))|(apply yT; (iterate 4 exact rfl))
    | (apply yV; exact rfl; exact rfl)))|(apply yA)|(apply yB)|(apply (W.regionS 1); exact rfl; kernel_rfl)|(apply yE)
  | (apply yG)))
  refine AWP.loopW (α := Nat) (fun i => i ≤ rows.length) (fun i => ⟨[(8, iV i), (7, iV rows.length), (6, rws rows), (0, .yl 4), (1, .opt 2 0), (2, .opt 3 0)], [e0 (strTo rows c i), e1 (strTo rows c i), .box [rws rows], .box [iV c], L]⟩) (fun i => rows.length - i) 0 (Nat.zero_le _) ?wkA fun i hi => ?_
  case wkA =>
    refine ⟨[0, 1, 2, 3, 4], rfl, rfl, ?_, rfl, iV_eq (by rw [hm]), rfl, rfl, rfl, rfl, trivial⟩
    exact (hcl (strTo rows c 0) []).symm
  by_cases hil : i < rows.length
  · by_cases hc : rows[i].1 = c
    · have hy := hY i hil hc
      (repeat' (first
  | (apply yFb; exact rfl; exact rfl)
  | (apply W.qd; (first
    | (apply q_mv; (conv => lhs; whnf))|(apply q_as; (conv => lhs; whnf))|(apply yS; (iterate 3 exact rfl))|(apply yT; (iterate 4 exact rfl))|(apply yU; (iterate 4 exact rfl))|(apply q_lss; exact rfl; exact rfl)|(apply q_eql; exact rfl; exact rfl)|(apply q_not; exact rfl)|(apply q_add; exact rfl; exact rfl; omega)|(apply yY; (iterate 3 exact rfl); (first | omega | (focus (simp; done))))|(apply yGb; (iterate 4 exact rfl); (first | (with_reducible exact rfl) | exact natI_spec rfl | assumption | exact (Int.toNat_of_nonneg (by omega)).symm); (first | omega | (focus (simp only [List.length_map]; omega)) | (focus (simp; done)) | (focus (simp; omega))))
    | (apply (yEb (u := .d _)); exact rfl; exact rfl)))
  | (apply W.ed; (first
    | ((exact e_yield hy rfl rfl))
    | (apply yCb; (iterate 3 exact rfl); kernel_rfl)))|(apply W.ln; (apply l_st_box; (iterate 6 exact rfl); (iterate 3 kernel_rfl)))|(apply yA)|(apply yB)|(apply yC; kernel_rfl)|(apply yE)|(apply yG)|(apply yH)|(apply yL)|(apply yR; exact rfl)|(refine W.gT _ _ rfl rfl (fun hb => ?_) (fun hb => ?_) <;> ((try simp only [hb, zA, zB]) <;> (try simp only [zC, zD, zE, zF, zG, zH, zI, zJ] at hb) <;> (try (exfalso; omega))))
  | (refine W.cond _ rfl (fun hb => ?_) (fun hb => ?_) <;> ((try simp only [hb, zA, zB]) <;> (try simp only [zC, zD, zE, zF, zG, zH, zI, zJ] at hb) <;> (try (exfalso; omega))))))
      all_goals first
        | (exfalso; omega)|(refine ⟨i + 1, by omega, by omega, [0, 1, 2, 3, 4], rfl, rfl, ?_, iV_eq (by omega), rfl, rfl, rfl, rfl, rfl, trivial⟩; exact (hcl (strTo rows c (i + 1)) [_]).symm)
    · have hs := strTo_skip hil hc
      (repeat' (first
  | (apply W.qd; (first
    | (apply q_mv; (conv => lhs; whnf))|(apply q_as; (conv => lhs; whnf))|(apply yS; (iterate 3 exact rfl))|(apply yT; (iterate 4 exact rfl))|(apply q_lss; exact rfl; exact rfl)|(apply q_eql; exact rfl; exact rfl)|(apply q_add; exact rfl; exact rfl; omega)|(apply yY; (iterate 3 exact rfl); (first | omega | (focus (simp; done))))|(apply yGb; (iterate 4 exact rfl); (first | (with_reducible exact rfl) | exact natI_spec rfl | assumption | exact (Int.toNat_of_nonneg (by omega)).symm); (first | omega | (focus (simp only [List.length_map]; omega)) | (focus (simp; done)) | (focus (simp; omega))))
    | (apply (yDb (u := .d _)); exact rfl; exact rfl)))|(apply W.ed; (apply yCb; (iterate 3 exact rfl); kernel_rfl))|(apply W.ln; (apply l_st_box; (iterate 6 exact rfl); (iterate 3 kernel_rfl)))|(refine W.gOff _ _ rfl rfl (by intro h; cases h) ?_)|(apply yA)|(apply yB)|(apply yC; kernel_rfl)|(apply yE)|(apply yG)|(apply yH)|(apply yL)|(apply yR; exact rfl)|(refine W.gT _ _ rfl rfl (fun hb => ?_) (fun hb => ?_) <;> ((try simp only [hb, zA, zB]) <;> (try simp only [zC, zD, zE, zF, zG, zH, zI, zJ] at hb) <;> (try (exfalso; omega))))
  | (refine W.cond _ rfl (fun hb => ?_) (fun hb => ?_) <;> ((try simp only [hb, zA, zB]) <;> (try simp only [zC, zD, zE, zF, zG, zH, zI, zJ] at hb) <;> (try (exfalso; omega))))))
      all_goals first
        | (exfalso; omega)|(refine ⟨i + 1, by omega, by omega, [0, 1, 2, 3, 4], rfl, rfl, ?_, iV_eq (by omega), rfl, rfl, rfl, rfl, rfl, trivial⟩; dsimp only; rw [hs]; exact (hcl (strTo rows c i) [_]).symm)
  · obtain rfl : i = rows.length := by omega
    (repeat' (first
  | (apply W.qd; (apply q_lss; exact rfl; exact rfl))|(apply yA)|(apply yB)|(apply yC; kernel_rfl)|(apply yE)|(apply yI)|(apply yK)|(apply yM)
  | (refine W.cond _ rfl (fun hb => ?_) (fun hb => ?_) <;> ((try simp only [hb, zA, zB]) <;> (try simp only [zC, zD, zE, zF, zG, zH, zI, zJ] at hb) <;> (try (exfalso; omega))))))
    exact ⟨.inr rfl, [], trivial, AVle.of_eq rfl, rfl⟩
theorem A_stripes {rows : List SRw} {c : Int} (h : RwIn rows) : ACalls Tryz.prog 47 [rws rows, iV c] [] (sps (strN rows c)) [] := by
  refine acalls_of_body Tryz.func47 rfl (Nat.le_of_ble_eq_true rfl) ?_
  have hof := A_of0 (rows := rows) (c := c)
  (repeat' (first
  | (apply W.ed; (apply yCb; (iterate 3 exact rfl); kernel_rfl))|(apply yA)|(apply yB)|(apply (W.regionS 1); exact rfl; kernel_rfl)
  | (apply yE)))
  refine AWP.nilBox (l' := [.osl 1 0 0 0]) 0 0 2 33 rfl rfl (by omega) rfl rfl rfl rfl ?_
  (repeat' (first
  | (apply W.qd; (apply q_mv; (conv => lhs; whnf)))|(apply W.ed; (apply (e_callJ (js := []) (hof)); (iterate 5 exact rfl); kernel_rfl; kernel_rfl))|(apply yB)|(apply yC; kernel_rfl)|(apply yE)
  | (apply yG)))
  refine AWP.wk ⟨[(11, .fn 162 [.opt 2 0, .opt 3 0]), (4, .opt 0 0)], [.box [.osl 1 (strTo rows c 0).length 0 (strTo rows c 0).length], .row (strTo rows c 0).length 2 33 ((strTo rows c 0).map spD), .box [rws rows], .box [iV c]]⟩ ⟨[0, 1, 2, 3], rfl, rfl, rfl, by (repeat (first | exact trivial | refine ⟨rfl, ?_⟩))⟩ ?_
  refine AWP.range (s2 := ⟨[(4, .opt 0 0)], [.box [.osl 1 (strN rows c).length 0 (strN rows c).length], .row (strN rows c).length 2 33 ((strN rows c).map spD)]⟩) rfl (by kernel_rfl) (A_ofIter (e0 := fun p => .box [.osl 1 p.length 0 p.length]) (e1 := fun p => .row p.length 2 33 (p.map spD)) h (fun p Y => rfl) (fun i hi hc => ?_)) rfl (by decide) ⟨[0, 1], rfl, rfl, rfl, by (repeat (first | exact trivial | refine ⟨rfl, ?_⟩))⟩ ?_
  · have hu := h.u i hi
    have hmu : (rows[i].2.2.map usD).length = rows[i].2.2.length := List.length_map _
    have hlen := fun k => strAt_len (c := c) (k := k) h hi
    have hsu := fun k (hk : k < rows[i].2.2.length) => strAt_succ (c := c) hi hk
    have hsn := strAt_next hi hc
    have hs0 := strAt_zero rows c i
    try dsimp only
    rw [← hs0, ← hsn]
    clear hsn hs0
    generalize hA : strAt rows c i = A at *
    rcases hR : rows[i] with ⟨rc, rw', us⟩
    rw [hR] at hu hmu hsu
    dsimp only at hu hmu hsu
    refine YAt.ok2 (own1 := [.box [.osl 1 (A us.length).length 0 (A us.length).length], .row (A us.length).length 2 33 ((A us.length).map spD), .box [rws rows], .box [iV c], .lp .busy none #[12, 13] _ _ _, .box ((rwD (rc, rw', us)).map .d)]) (s2 := ⟨[(5, iV i), (6, .opt 6 0), (4, .opt 0 0)], [.box [.osl 1 (A 0).length 0 (A 0).length], .row (A 0).length 2 33 ((A 0).map spD), .box [rws rows], .box [iV c], _, .box ((rwD (rc, rw', us)).map .d), .box ((rwD (rc, rw', us)).map .d)]⟩) rfl rfl rfl rfl (fun g => ?_) rfl (fun g => ?_) rfl rfl
    · refine AWP.toW ?_
      (repeat' (first
  | (apply W.qd; (apply q_as; (conv => lhs; whnf)))|(apply W.ed; (apply yCb; (iterate 3 exact rfl); kernel_rfl))|(apply W.ln; (apply l_st_box; (iterate 6 exact rfl); (iterate 3 kernel_rfl)))|(apply yA)|(apply yB)|(apply yC; kernel_rfl)
  | (apply yE)))
      exact ⟨rfl, ⟨[0, 1, 2, 3, 4, 5, 6], rfl, rfl, rfl, by (repeat (first | exact trivial | refine ⟨rfl, ?_⟩))⟩⟩
    · refine AWP.toO ?_
      refine gen_entE (motive := fun L => AWPG (Ctx.round g) Tryz.prog Tryz.f47.ntmps 6 _ (fun e s9 => e = .normal ∧ Wk 6 s9 ⟨[], [.box [.osl 1 (A us.length).length 0 (A us.length).length], .row (A us.length).length 2 33 ((A us.length).map spD), .box [rws rows], .box [iV c], L, .box ((rwD (rc, rw', us)).map .d)]⟩) ⟨[(5, iV i), (6, .opt 6 0), (4, .opt 0 0)], [.box [.osl 1 (A 0).length 0 (A 0).length], .row (A 0).length 2 33 ((A 0).map spD), .box [rws rows], .box [iV c], L, .box ((rwD (rc, rw', us)).map .d), .box ((rwD (rc, rw', us)).map .d)]⟩) _ fun L hL => ?_
      obtain ⟨cA, cB, hL⟩ : ∃ cA cB, L = .lp .busy none #[12, 13] cA cB (tmpsOf [(11, .fn 162 [.opt 2 0, .opt 3 0]), (4, .opt 0 0)] Tryz.f47.ntmps) := ⟨_, _, hL⟩
      subst hL
      (repeat' (first
  | (apply W.qd; (first
    | (apply q_mv; (conv => lhs; whnf))|(apply yS; (iterate 3 exact rfl))|(apply yT; (iterate 4 exact rfl))
    | (apply yV; exact rfl; exact rfl)))|(apply yA)|(apply yB)|(apply (W.regionS 5); exact rfl; kernel_rfl)|(apply yE)
  | (apply yG)))
      refine AWP.loopW (α := Nat) (fun k => k ≤ us.length) (fun k => ⟨[(17, iV k), (16, iV us.length), (15, .d (.sl 3 (us.map usD))), (5, iV i), (4, .opt 0 0)], [.box [.osl 1 (A k).length 0 (A k).length], .row (A k).length 2 33 ((A k).map spD), .box [rws rows], .box [iV c], .lp .busy none #[12, 13] cA cB (tmpsOf [(11, .fn 162 [.opt 2 0, .opt 3 0]), (4, .opt 0 0)] Tryz.f47.ntmps), .box ((rwD (rc, rw', us)).map .d)]⟩) (fun k => us.length - k) 0 (Nat.zero_le _) ?wkB fun k hk => ?_
      case wkB => exact ⟨[0, 1, 2, 3, 4, 5], rfl, rfl, rfl, rfl, iV_eq (by rw [hmu]), rfl, rfl, rfl, trivial⟩
      by_cases hkl : k < us.length
      · have e9 := hsu k hkl
        have hk1 := hlen k
        have ea : A (k + 1) = A k ++ [((i, us[k].1) : Nat × Int)] := e9
        have el : (A k ++ [((i, us[k].1) : Nat × Int)]).length = (A k).length + 1 := by simp
        clear hsu hlen e9
        generalize A k = Ak at *
        (repeat' (first
  | (apply W.qd; (first
    | (apply q_mv; (conv => lhs; whnf))|(apply yS; (iterate 3 exact rfl))|(apply yT; (iterate 4 exact rfl))|(apply q_lss; exact rfl; exact rfl)|(apply q_add; exact rfl; exact rfl; omega)|(apply yY; (iterate 3 exact rfl); (first | omega | (focus (simp; done))))|(apply yZ; exact rfl; exact rfl; kernel_rfl)|(apply q_litF; (iterate 5 exact rfl); kernel_rfl; kernel_rfl; exact rfl)
    | (apply yGb; (iterate 4 exact rfl); (first | (with_reducible exact rfl) | exact natI_spec rfl | assumption | exact (Int.toNat_of_nonneg (by omega)).symm); (first | omega | (focus (simp only [List.length_map]; omega)) | (focus (simp; done)) | (focus (simp; omega))))))
  | (apply W.ed; (first
    | ((apply (e_app1F (f := spD) (i, us[k].1)); (iterate 8 exact rfl); omega))
    | (apply yCb; (iterate 3 exact rfl); kernel_rfl)))|(apply W.ln; (apply l_st_box; (iterate 6 exact rfl); (iterate 3 kernel_rfl)))|(apply yA)|(apply yB)|(apply yC; kernel_rfl)|(apply yE)|(apply yG)|(apply yH)|(apply yL)
  | (refine W.cond _ rfl (fun hb => ?_) (fun hb => ?_) <;> ((try simp only [hb, zA, zB]) <;> (try simp only [zC, zD, zE, zF, zG, zH, zI, zJ] at hb) <;> (try (exfalso; omega))))))
        refine ⟨k + 1, by omega, by omega, ?_⟩
        rw [ea, el]
        exact ⟨[0, 1, 2, 3, 4, 5], rfl, rfl, rfl, iV_eq (by omega), rfl, rfl, rfl, rfl, trivial⟩
      · obtain rfl : k = us.length := by omega
        (repeat' (first
  | (apply W.qd; (apply q_lss; exact rfl; exact rfl))|(apply yA)|(apply yB)|(apply yC; kernel_rfl)|(apply yE)|(apply yI)|(apply yK)|(apply yL)|(apply yM)
  | (refine W.cond _ rfl (fun hb => ?_) (fun hb => ?_) <;> ((try simp only [hb, zA, zB]) <;> (try simp only [zC, zD, zE, zF, zG, zH, zI, zJ] at hb) <;> (try (exfalso; omega))))))
        exact ⟨rfl, ⟨[0, 1, 2, 3, 4, 5], rfl, rfl, rfl, by (repeat (first | exact trivial | refine ⟨rfl, ?_⟩))⟩⟩
  try dsimp only
  have hln := strN_len (c := c) h
  generalize strN rows c = A at *
  (repeat' (first
  | (apply W.qd; (apply yT; (iterate 4 exact rfl)))|(apply W.ln; (apply l_st_box; (iterate 6 exact rfl); (iterate 3 kernel_rfl)))|(apply yA)|(apply yB)|(apply yC; kernel_rfl)|(apply yE)|(apply yJ)
  | (apply yL)))
  exact ⟨.inl rfl, [], [.osl 1 A.length 0 A.length], rfl, ⟨⟨0, [.osl 1 A.length 0 A.length], false, rfl, rfl, rfl, rfl⟩, trivial⟩, AVle.of_eq (frz_rowJ rfl rfl (by simp)), rfl⟩
end Go.Proofs.YtcljokdiblnhiaaGreatDoor
end
section
namespace Go.Proofs.YtcljokdiblnhiaaGreatDoor
open Go.RowKit
set_option maxHeartbeats 4000000
set_option maxRecDepth 100000
def chgB (vs : List Sv) (k : Int) : Bool := hasB vs.length k && !decide ((vs.getD k.toNat sv0).2.2.1 = -1)
def nextN (vs : List Sv) (k : Int) (rows : List SRw) : (Int × Int) × Int :=
  if hasB vs.length k = false then ((0, 0), 12) else if chgB vs k = false then ((0, 0), 19) else match strN rows (vs.getD k.toNat sv0).2.1 with
    | [] => ((0, 0), 12)
    | s :: _ => ((s.1, s.2), 0)
def leftN39 (vs : List Sv) (k : Int) (rows : List SRw) : Nat := if chgB vs k = true then (strN rows (vs.getD k.toNat sv0).2.1).length else 0
def doneB (vs : List Sv) (k : Int) (rows : List SRw) : Bool := chgB vs k && decide (leftN39 vs k rows = 0)
abbrev nxtA (p : (Int × Int) × Int) : AV := .tup [.agg [iV p.1.1, iV p.1.2], iV p.2]
theorem hasB_iff {n : Nat} {k : Int} : hasB n k = true ↔ 0 ≤ k ∧ k < (n : Int) := by unfold hasB; simp
theorem getV1 {vs : List Sv} {k : Int} (h : hasB vs.length k = true) : ∃ j : Nat, k = j ∧ ∃ hj : j < vs.length, vs.getD k.toNat sv0 = vs[j] := by
  obtain ⟨h1, h2⟩ := hasB_iff.1 h
  refine ⟨k.toNat, by omega, by omega, ?_⟩
  rw [List.getD_eq_getElem?_getD, List.getElem?_eq_getElem (by omega)]; rfl
attribute [local irreducible] Quiet Eff OpOk AWPG ACont ABlock ACalls AGoto
theorem A_changing {cs : List Cd} {vs : List Sv} {k : Int} : ACalls Tryz.prog 46 [lib cs vs, iV k] [] (if hasB vs.length k = true then .tup [iV (vs.getD k.toNat sv0).2.1, bV (chgB vs k)] else .tup [iV 0, bV false]) [] := by
  refine acalls_of_body Tryz.func46 rfl (Nat.le_of_ble_eq_true rfl) ?_
  have hm : (vs.map svD).length = vs.length := List.length_map _
  split
  · rename_i hh
    have hch : chgB vs k = !decide ((vs.getD k.toNat sv0).2.2.1 = -1) := by unfold chgB; rw [hh, Bool.true_and]
    rw [hch]
    obtain ⟨j, rfl, hj, e⟩ := getV1 hh
    rw [e]
    (repeat' (first
  | (apply yFb; exact rfl; exact rfl)
  | (apply W.qd; (first
    | (apply q_mv; (conv => lhs; whnf))|(apply q_as; (conv => lhs; whnf))|(apply yS; (iterate 3 exact rfl))|(apply yT; (iterate 4 exact rfl))|(apply q_lss; exact rfl; exact rfl)|(apply q_geq; exact rfl; exact rfl)|(apply q_neq; exact rfl; exact rfl)|(apply yV; exact rfl; exact rfl)|(apply yY; (iterate 3 exact rfl); (first | omega | (focus (simp; done))))|(apply yGb; (iterate 4 exact rfl); (first | (with_reducible exact rfl) | exact natI_spec rfl | assumption | exact (Int.toNat_of_nonneg (by omega)).symm); (first | omega | (focus (simp only [List.length_map]; omega)) | (focus (simp; done)) | (focus (simp; omega))))
    | (apply (yDb (u := .d _)); exact rfl; exact rfl)))
  | (apply W.ed; (first
    | (apply yBb; (iterate 3 exact rfl); kernel_rfl; kernel_rfl)
    | (apply yCb; (iterate 3 exact rfl); kernel_rfl)))|(apply W.ln; (apply l_st_box; (iterate 6 exact rfl); (iterate 3 kernel_rfl)))|(apply yA)|(apply yB)|(apply yC; kernel_rfl)|(apply yD; exact rfl; kernel_rfl)|(apply yE)|(apply yF; kernel_rfl)|(apply yH)|(apply yJ)
  | (refine W.cond _ rfl (fun hb => ?_) (fun hb => ?_) <;> ((try simp only [hb, zA, zB]) <;> (try simp only [zC, zD, zE, zF, zG, zH, zI, zJ] at hb) <;> (try (exfalso; omega))))))
    all_goals first | (exfalso; omega) | exact Ends.two rfl rfl rfl
  · rename_i hh
    have hh : ¬ (0 ≤ k ∧ k < (vs.length : Int)) := fun h => hh (hasB_iff.2 h)
    (repeat' (first
  | (apply yFb; exact rfl; exact rfl)
  | (apply W.qd; (first
    | (apply q_mv; (conv => lhs; whnf))|(apply q_as; (conv => lhs; whnf))|(apply yS; (iterate 3 exact rfl))|(apply yT; (iterate 4 exact rfl))|(apply q_lss; exact rfl; exact rfl)|(apply q_geq; exact rfl; exact rfl)|(apply yV; exact rfl; exact rfl)|(apply (yEb (u := .d _)); exact rfl; exact rfl)
    | (apply (yDb (u := .d _)); exact rfl; exact rfl)))|(apply W.ed; (apply yBb; (iterate 3 exact rfl); kernel_rfl; kernel_rfl))|(refine W.gOff _ _ rfl rfl (by intro h; cases h) ?_)|(apply yA)|(apply yB)|(apply yC; kernel_rfl)|(apply yE)|(apply yJ)|(apply yP)|(apply yQ; exact rfl)|(refine W.gF _ _ rfl rfl (fun hb => ?_) (fun hb => ?_) <;> ((try simp only [hb, zA, zB]) <;> (try simp only [zC, zD, zE, zF, zG, zH, zI, zJ] at hb) <;> (try (exfalso; omega))))
  | (refine W.cond _ rfl (fun hb => ?_) (fun hb => ?_) <;> ((try simp only [hb, zA, zB]) <;> (try simp only [zC, zD, zE, zF, zG, zH, zI, zJ] at hb) <;> (try (exfalso; omega))))))
    all_goals first | (exfalso; omega) | exact Ends.two rfl rfl rfl
theorem A_left39 {cs : List Cd} {vs : List Sv} {k : Int} {rows : List SRw} (h : RwIn rows) : ACalls Tryz.prog 15 [lib cs vs, iV k, rws rows] [] (iV (leftN39 vs k rows : Nat)) [] := by
  refine acalls_of_body Tryz.func15 rfl (Nat.le_of_ble_eq_true rfl) ?_
  have hc := A_changing (cs := cs) (vs := vs) (k := k)
  unfold leftN39
  by_cases hh : hasB vs.length k = true
  · rw [if_pos hh] at hc
    cases hb9 : chgB vs k with
    | false =>
      rw [hb9] at hc
      rw [if_neg (by simp)]
      (repeat' (first
  | (apply W.qd; (first
    | (apply (yW (hc)); exact rfl; exact rfl; (iterate 3 kernel_rfl))|(apply q_mv; (conv => lhs; whnf))|(apply q_as; (conv => lhs; whnf))|(apply yU; (iterate 4 exact rfl))|(apply q_not; exact rfl)
    | (apply yAb; exact rfl; exact rfl)))|(apply W.ed; (apply yBb; (iterate 3 exact rfl); kernel_rfl; kernel_rfl))|(apply yA)|(apply yB)|(apply yC; kernel_rfl)|(apply yE)|(apply yJ)|(apply yP)
  | (apply yQ; exact rfl)))
      all_goals exact Ends.i rfl rfl
    | true =>
      rw [hb9] at hc
      rw [if_pos rfl]
      have hs := A_stripes (c := (vs.getD k.toNat sv0).2.1) h
      have hl := strN_len (c := (vs.getD k.toNat sv0).2.1) h
      generalize (vs.getD k.toNat sv0).2.1 = c at *
      generalize strN rows c = A at *
      have hmA : (A.map spD).length = A.length := List.length_map _
      (repeat' (first
  | (apply W.qd; (first
    | (apply (yW (hc)); exact rfl; exact rfl; (iterate 3 kernel_rfl))|(apply (yW (hs)); exact rfl; exact rfl; (iterate 3 kernel_rfl))|(apply q_mv; (conv => lhs; whnf))|(apply q_as; (conv => lhs; whnf))|(apply yU; (iterate 4 exact rfl))|(apply q_not; exact rfl)|(apply yAb; exact rfl; exact rfl)
    | (apply yV; exact rfl; exact rfl)))|(apply W.ed; (apply yBb; (iterate 3 exact rfl); kernel_rfl; kernel_rfl))|(apply yA)|(apply yB)|(apply yC; kernel_rfl)|(apply yE)|(apply yH)|(apply yJ)
  | (apply yR; exact rfl)))
      all_goals exact Ends.i rfl (by rw [hmA])
  · rw [if_neg hh] at hc
    have hb9 : chgB vs k = false := by unfold chgB; rw [Bool.eq_false_iff.2 hh]; rfl
    rw [hb9, if_neg (by simp)]
    (repeat' (first
  | (apply W.qd; (first
    | (apply (yW (hc)); exact rfl; exact rfl; (iterate 3 kernel_rfl))|(apply q_mv; (conv => lhs; whnf))|(apply q_as; (conv => lhs; whnf))|(apply yU; (iterate 4 exact rfl))|(apply q_not; exact rfl)
    | (apply yAb; exact rfl; exact rfl)))|(apply W.ed; (apply yBb; (iterate 3 exact rfl); kernel_rfl; kernel_rfl))|(apply yA)|(apply yB)|(apply yC; kernel_rfl)|(apply yE)|(apply yJ)|(apply yP)
  | (apply yQ; exact rfl)))
    all_goals exact Ends.i rfl rfl
theorem A_done39 {cs : List Cd} {vs : List Sv} {k : Int} {rows : List SRw} (h : RwIn rows) : ACalls Tryz.prog 17 [lib cs vs, iV k, rws rows] [] (bV (doneB vs k rows)) [] := by
  refine acalls_of_body Tryz.func17 rfl (Nat.le_of_ble_eq_true rfl) ?_
  have hc := A_changing (cs := cs) (vs := vs) (k := k)
  have hl := A_left39 (cs := cs) (vs := vs) (k := k) h
  unfold doneB
  generalize leftN39 vs k rows = n at *
  by_cases hh : hasB vs.length k = true
  · rw [if_pos hh] at hc
    cases hb9 : chgB vs k with
    | false =>
      rw [hb9] at hc
      (repeat' (first
  | (apply W.qd; (first
    | (apply (yW (hc)); exact rfl; exact rfl; (iterate 3 kernel_rfl))|(apply q_mv; (conv => lhs; whnf))|(apply q_as; (conv => lhs; whnf))|(apply yU; (iterate 4 exact rfl))|(apply yAb; exact rfl; exact rfl)
    | (apply (yDb (u := .d _)); exact rfl; exact rfl)))|(apply W.ed; (apply yBb; (iterate 3 exact rfl); kernel_rfl; kernel_rfl))|(refine W.gOff _ _ rfl rfl (by intro h; cases h) ?_)|(apply yA)|(apply yB)|(apply yC; kernel_rfl)|(apply yE)
  | (apply yJ)))
      all_goals exact Ends.b rfl rfl
    | true =>
      rw [hb9] at hc
      (repeat' (first
  | (apply yFb; exact rfl; exact rfl)
  | (apply W.qd; (first
    | (apply (yW (hc)); exact rfl; exact rfl; (iterate 3 kernel_rfl))|(apply (yW (hl)); exact rfl; exact rfl; (iterate 3 kernel_rfl))|(apply q_mv; (conv => lhs; whnf))|(apply q_as; (conv => lhs; whnf))|(apply yU; (iterate 4 exact rfl))|(apply q_eql; exact rfl; exact rfl)|(apply yAb; exact rfl; exact rfl)
    | (apply (yEb (u := .d _)); exact rfl; exact rfl)))|(apply W.ed; (apply yBb; (iterate 3 exact rfl); kernel_rfl; kernel_rfl))|(apply yA)|(apply yB)|(apply yC; kernel_rfl)|(apply yE)
  | (apply yJ)))
      all_goals (refine Ends.b rfl ?_; rw [Bool.eq_iff_iff]; simp <;> omega)
  · rw [if_neg hh] at hc
    have hb9 : chgB vs k = false := by unfold chgB; rw [Bool.eq_false_iff.2 hh]; rfl
    rw [hb9]
    (repeat' (first
  | (apply W.qd; (first
    | (apply (yW (hc)); exact rfl; exact rfl; (iterate 3 kernel_rfl))|(apply q_mv; (conv => lhs; whnf))|(apply q_as; (conv => lhs; whnf))|(apply yU; (iterate 4 exact rfl))|(apply yAb; exact rfl; exact rfl)
    | (apply (yDb (u := .d _)); exact rfl; exact rfl)))|(apply W.ed; (apply yBb; (iterate 3 exact rfl); kernel_rfl; kernel_rfl))|(refine W.gOff _ _ rfl rfl (by intro h; cases h) ?_)|(apply yA)|(apply yB)|(apply yC; kernel_rfl)|(apply yE)
  | (apply yJ)))
    all_goals exact Ends.b rfl rfl
theorem A_next39 {cs : List Cd} {vs : List Sv} {k : Int} {rows : List SRw} (h : RwIn rows) : ACalls Tryz.prog 13 [lib cs vs, iV k, rws rows] [] (nxtA (nextN vs k rows)) [] := by
  refine acalls_of_body Tryz.func13 rfl (Nat.le_of_ble_eq_true rfl) ?_
  have hc := A_changing (cs := cs) (vs := vs) (k := k)
  have hm : (vs.map svD).length = vs.length := List.length_map _
  unfold nextN
  by_cases hh : hasB vs.length k = true
  · rw [if_pos hh] at hc
    obtain ⟨h0, h1⟩ := hasB_iff.1 hh
    rw [hh, if_neg (by simp)]
    cases hb9 : chgB vs k with
    | false =>
      rw [hb9] at hc
      rw [if_pos rfl]
      (repeat' (first
  | (apply yFb; exact rfl; exact rfl)
  | (apply W.qd; (first
    | (apply (yW (hc)); exact rfl; exact rfl; (iterate 3 kernel_rfl))|(apply q_mv; (conv => lhs; whnf))|(apply q_as; (conv => lhs; whnf))|(apply yS; (iterate 3 exact rfl))|(apply yT; (iterate 4 exact rfl))|(apply yU; (iterate 4 exact rfl))|(apply q_lss; exact rfl; exact rfl)|(apply q_geq; exact rfl; exact rfl)|(apply q_not; exact rfl)|(apply yAb; exact rfl; exact rfl)|(apply yV; exact rfl; exact rfl)|(apply yZ; exact rfl; exact rfl; kernel_rfl)
    | (apply (yDb (u := .d _)); exact rfl; exact rfl)))
  | (apply W.ed; (first
    | (apply yBb; (iterate 3 exact rfl); kernel_rfl; kernel_rfl)
    | (apply yCb; (iterate 3 exact rfl); kernel_rfl)))|(apply W.ln; (apply l_st_box; (iterate 6 exact rfl); (iterate 3 kernel_rfl)))|(apply yA)|(apply yB)|(apply yC; kernel_rfl)|(apply yE)|(apply yG)|(apply yJ)|(apply yP)|(apply yN)|(apply yQ; exact rfl)|(refine W.gF _ _ rfl rfl (fun hb => ?_) (fun hb => ?_) <;> ((try simp only [hb, zA, zB]) <;> (try simp only [zC, zD, zE, zF, zG, zH, zI, zJ] at hb) <;> (try (exfalso; omega))))
  | (refine W.cond _ rfl (fun hb => ?_) (fun hb => ?_) <;> ((try simp only [hb, zA, zB]) <;> (try simp only [zC, zD, zE, zF, zG, zH, zI, zJ] at hb) <;> (try (exfalso; omega))))))
      all_goals first | (exfalso; omega) | exact Ends.cell2 rfl rfl rfl rfl rfl
    | true =>
      rw [hb9] at hc
      rw [if_neg (by simp)]
      have hs := A_stripes (c := (vs.getD k.toNat sv0).2.1) h
      have hl := strN_len (c := (vs.getD k.toNat sv0).2.1) h
      generalize (vs.getD k.toNat sv0).2.1 = c at *
      generalize strN rows c = A at *
      cases A with
      | nil =>
        (repeat' (first
  | (apply yFb; exact rfl; exact rfl)
  | (apply W.qd; (first
    | (apply (yW (hc)); exact rfl; exact rfl; (iterate 3 kernel_rfl))|(apply (yW (hs)); exact rfl; exact rfl; (iterate 3 kernel_rfl))|(apply q_mv; (conv => lhs; whnf))|(apply q_as; (conv => lhs; whnf))|(apply yS; (iterate 3 exact rfl))|(apply yT; (iterate 4 exact rfl))|(apply yU; (iterate 4 exact rfl))|(apply q_lss; exact rfl; exact rfl)|(apply q_geq; exact rfl; exact rfl)|(apply q_not; exact rfl)|(apply yAb; exact rfl; exact rfl)|(apply yV; exact rfl; exact rfl)
    | (apply (yDb (u := .d _)); exact rfl; exact rfl)))
  | (apply W.ed; (first
    | (apply yBb; (iterate 3 exact rfl); kernel_rfl; kernel_rfl)
    | (apply yCb; (iterate 3 exact rfl); kernel_rfl)))|(apply yA)|(apply yB)|(apply (W.regionS 7); exact rfl; kernel_rfl)|(apply yE)|(apply yG)|(apply yH)|(apply yL)|(apply yR; exact rfl)|(refine W.gF _ _ rfl rfl (fun hb => ?_) (fun hb => ?_) <;> ((try simp only [hb, zA, zB]) <;> (try simp only [zC, zD, zE, zF, zG, zH, zI, zJ] at hb) <;> (try (exfalso; omega))))
  | (refine W.cond _ rfl (fun hb => ?_) (fun hb => ?_) <;> ((try simp only [hb, zA, zB]) <;> (try simp only [zC, zD, zE, zF, zG, zH, zI, zJ] at hb) <;> (try (exfalso; omega))))))
        all_goals try (exfalso; omega)
        refine AWP.loopW (α := Nat) (fun j => j ≤ 0) (fun j => ⟨[(36, iV 0), (37, iV j), (6, .opt 1 0)], [.box [cds cs, svs vs], .box [iV 0, iV 0]]⟩) (fun j => 0 - j) 0 (Nat.zero_le _) ⟨[0, 1], rfl, rfl, rfl, by (repeat (first | exact trivial | refine ⟨rfl, ?_⟩))⟩ fun j hj => ?_
        obtain rfl : j = 0 := by omega
        (repeat' (first
  | (apply W.qd; (first
    | (apply q_as; (conv => lhs; whnf))|(apply q_lss; exact rfl; exact rfl)
    | (apply yZ; exact rfl; exact rfl; kernel_rfl)))|(apply W.ln; (apply l_st_box; (iterate 6 exact rfl); (iterate 3 kernel_rfl)))|(apply yA)|(apply yB)|(apply yC; kernel_rfl)|(apply yE)|(apply yI)|(apply yJ)|(apply yK)|(apply yM)
  | (apply yR; exact rfl)))
        all_goals first | (exfalso; omega) | exact Ends.cell2 rfl rfl rfl rfl rfl
      | cons s A =>
        have hmA : ((s :: A).map spD).length = A.length + 1 := by simp
        (repeat' (first
  | (apply yFb; exact rfl; exact rfl)
  | (apply W.qd; (first
    | (apply (yW (hc)); exact rfl; exact rfl; (iterate 3 kernel_rfl))|(apply (yW (hs)); exact rfl; exact rfl; (iterate 3 kernel_rfl))|(apply q_mv; (conv => lhs; whnf))|(apply q_as; (conv => lhs; whnf))|(apply yS; (iterate 3 exact rfl))|(apply yT; (iterate 4 exact rfl))|(apply yU; (iterate 4 exact rfl))|(apply q_lss; exact rfl; exact rfl)|(apply q_geq; exact rfl; exact rfl)|(apply q_not; exact rfl)|(apply yAb; exact rfl; exact rfl)|(apply yV; exact rfl; exact rfl)
    | (apply (yDb (u := .d _)); exact rfl; exact rfl)))
  | (apply W.ed; (first
    | (apply yBb; (iterate 3 exact rfl); kernel_rfl; kernel_rfl)
    | (apply yCb; (iterate 3 exact rfl); kernel_rfl)))|(apply yA)|(apply yB)|(apply (W.regionS 7); exact rfl; kernel_rfl)|(apply yE)|(apply yG)|(apply yH)|(apply yL)|(apply yR; exact rfl)|(refine W.gF _ _ rfl rfl (fun hb => ?_) (fun hb => ?_) <;> ((try simp only [hb, zA, zB]) <;> (try simp only [zC, zD, zE, zF, zG, zH, zI, zJ] at hb) <;> (try (exfalso; omega))))
  | (refine W.cond _ rfl (fun hb => ?_) (fun hb => ?_) <;> ((try simp only [hb, zA, zB]) <;> (try simp only [zC, zD, zE, zF, zG, zH, zI, zJ] at hb) <;> (try (exfalso; omega))))))
        all_goals try (exfalso; omega)
        refine AWP.loopW (α := Nat) (fun j => j ≤ 0) (fun j => ⟨[(35, sps (s :: A)), (36, iV (A.length + 1 : Nat)), (37, iV j), (6, .opt 1 0)], [.box [cds cs, svs vs], .box [iV 0, iV 0]]⟩) (fun j => 0 - j) 0 (Nat.zero_le _) ⟨[0, 1], rfl, rfl, rfl, rfl, iV_eq (by rw [hmA]), rfl, rfl, trivial⟩ fun j hj => ?_
        obtain rfl : j = 0 := by omega
        (repeat' (first
  | (apply W.qd; (first
    | (apply q_as; (conv => lhs; whnf))|(apply yU; (iterate 4 exact rfl))|(apply q_lss; exact rfl; exact rfl)|(apply yY; (iterate 3 exact rfl); (first | omega | (focus (simp; done))))
    | (apply yGb; (iterate 4 exact rfl); (first | (with_reducible exact rfl) | exact natI_spec rfl | assumption | exact (Int.toNat_of_nonneg (by omega)).symm); (first | omega | (focus (simp only [List.length_map]; omega)) | (focus (simp; done)) | (focus (simp; omega))))))|(apply W.ed; (apply yCb; (iterate 3 exact rfl); kernel_rfl))|(apply W.ln; (apply l_st_box; (iterate 6 exact rfl); (iterate 3 kernel_rfl)))|(apply yA)|(apply yB)|(apply yC; kernel_rfl)|(apply yE)|(apply yG)|(apply yH)|(apply yJ)|(apply yP)|(apply yN)
  | (refine W.cond _ rfl (fun hb => ?_) (fun hb => ?_) <;> ((try simp only [hb, zA, zB]) <;> (try simp only [zC, zD, zE, zF, zG, zH, zI, zJ] at hb) <;> (try (exfalso; omega))))))
        all_goals first | (exfalso; omega) | exact Ends.cell2 rfl rfl rfl rfl rfl
  · rw [if_neg hh] at hc
    have hh2 : ¬ (0 ≤ k ∧ k < (vs.length : Int)) := fun h => hh (hasB_iff.2 h)
    rw [Bool.eq_false_iff.2 hh, if_pos rfl]
    (repeat' (first
  | (apply yFb; exact rfl; exact rfl)
  | (apply W.qd; (first
    | (apply (yW (hc)); exact rfl; exact rfl; (iterate 3 kernel_rfl))|(apply q_mv; (conv => lhs; whnf))|(apply q_as; (conv => lhs; whnf))|(apply yS; (iterate 3 exact rfl))|(apply yT; (iterate 4 exact rfl))|(apply yU; (iterate 4 exact rfl))|(apply q_lss; exact rfl; exact rfl)|(apply q_geq; exact rfl; exact rfl)|(apply yAb; exact rfl; exact rfl)|(apply yV; exact rfl; exact rfl)|(apply yZ; exact rfl; exact rfl; kernel_rfl)|(apply (yEb (u := .d _)); exact rfl; exact rfl)
    | (apply (yDb (u := .d _)); exact rfl; exact rfl)))
  | (apply W.ed; (first
    | (apply yBb; (iterate 3 exact rfl); kernel_rfl; kernel_rfl)
    | (apply yCb; (iterate 3 exact rfl); kernel_rfl)))|(apply W.ln; (apply l_st_box; (iterate 6 exact rfl); (iterate 3 kernel_rfl)))|(refine W.gOff _ _ rfl rfl (by intro h; cases h) ?_)|(apply yA)|(apply yB)|(apply yC; kernel_rfl)|(apply yE)|(apply yG)|(apply yJ)|(apply yP)|(apply yN)|(apply yQ; exact rfl)|(refine W.gF _ _ rfl rfl (fun hb => ?_) (fun hb => ?_) <;> ((try simp only [hb, zA, zB]) <;> (try simp only [zC, zD, zE, zF, zG, zH, zI, zJ] at hb) <;> (try (exfalso; omega))))
  | (refine W.cond _ rfl (fun hb => ?_) (fun hb => ?_) <;> ((try simp only [hb, zA, zB]) <;> (try simp only [zC, zD, zE, zF, zG, zH, zI, zJ] at hb) <;> (try (exfalso; omega))))))
    all_goals first | (exfalso; omega) | exact Ends.cell2 rfl rfl rfl rfl rfl
end Go.Proofs.YtcljokdiblnhiaaGreatDoor
end
section
namespace Go.Proofs.YtcljokdiblnhiaaGreatDoor
open Go.RowKit
set_option maxHeartbeats 4000000
set_option maxRecDepth 100000
def grps (us : List Us) : List Int := us.map (·.1)
def rgtR (g : Int) (w : SRw) : Bool := if w.1 = -1 then decide (w.2.1 = 0) && decide (w.2.2.length = 0) else decide (0 ≤ w.1 ∧ w.1 < 8 ∧ 1 ≤ w.2.1 ∧ w.2.1 ≤ 32 ∧ w.2.2.length ≠ 0) && incB g (-1) (grps w.2.2)
def conR (rows : List SRw) (a b : Nat) : Bool := !(decide ((rows.getD b rw0).1 = (rows.getD a rw0).1) && !decide ((rows.getD b rw0).2.1 = (rows.getD a rw0).2.1))
def okR (d r n s l i : Int) (rows : List SRw) (a : Nat) : Bool := rgtR (grpI d r n s l i (rows.getD a rw0).2.1) (rows.getD a rw0) && (List.range a).all (conR rows a)
def validR (d r n s l i : Int) (rows : List SRw) : Bool := decide (chk13 d r n s l i = 0 ∧ (rows.length : Int) = n) && (List.range rows.length).all (okR d r n s l i rows)
theorem incB_len {g : Int} {L : List Int} (h : incB g (-1) L = true) : ∀ k, (hk : k < L.length) → (k : Int) ≤ L[k]
  | 0, hk => by
    have := (incB_drop g L (-1)).1 h 0 hk
    rw [if_pos rfl] at this
    omega
  | k + 1, hk => by
    have h1 := (incB_drop g L (-1)).1 h (k + 1) hk
    have h2 := incB_len h k (by omega)
    rw [if_neg (by omega), Nat.add_sub_cancel, List.getD_eq_getElem?_getD, List.getElem?_eq_getElem (by omega), Option.getD_some] at h1
    omega
theorem incB_le {g : Int} {L : List Int} (h : incB g (-1) L = true) (hg : g ≤ 64) : L.length ≤ 64 := by
  rcases Nat.lt_or_ge 64 L.length with h1 | h1
  · have h2 := incB_len h 64 h1
    have h3 := ((incB_drop g L (-1)).1 h 64 h1).2
    omega
  · exact h1
theorem grpI_le (d r n s l i w : Int) : grpI d r n s l i w ≤ 64 := by
  unfold grpI
  split
  · rename_i h
    obtain ⟨h1, h2, h3, h4, h5⟩ := h.bd
    have := Int.ediv_le_self (a := d - s) w (by omega)
    omega
  · omega
theorem valid_rwin {d r n s l i : Int} {rows : List SRw} (h : validR d r n s l i rows = true) (hl : rows.length ≤ 12) : RwIn rows where
  l := hl
  u a ha := by
    unfold validR at h
    rw [Bool.and_eq_true, List.all_eq_true] at h
    have h1 := h.2 a (List.mem_range.2 ha)
    unfold okR at h1
    rw [Bool.and_eq_true, getDr ha] at h1
    have h2 := h1.1
    unfold rgtR at h2
    split at h2
    · rw [Bool.and_eq_true, decide_eq_true_eq, decide_eq_true_eq] at h2
      omega
    · rw [Bool.and_eq_true] at h2
      have := incB_le h2.2 (grpI_le _ _ _ _ _ _ _)
      unfold grps at this
      rwa [List.length_map] at this
attribute [local irreducible] Quiet Eff OpOk AWPG ACont ABlock ACalls AGoto
theorem A_rstripes {rows : List SRw} {c : Int} (h : RwIn rows) : ACalls Tryz.prog 49 [rws rows, iV c] [] (sps (strN rows c)) [] := by
  refine acalls_of_body Tryz.func49 rfl (Nat.le_of_ble_eq_true rfl) ?_
  have hm : (rows.map rwD).length = rows.length := List.length_map _
  have hrl := h.l
  (repeat' (first
  | (apply W.qd; (apply q_as; (conv => lhs; whnf)))|(apply yA)|(apply yB)|(apply (W.regionS 2); exact rfl; kernel_rfl)
  | (apply yE)))
  refine AWP.nilRow 5 2 33 rfl (by omega) ?_
  (repeat' (first
  | (apply W.qd; (apply q_as; (conv => lhs; whnf)))|(apply yB)|(apply (W.regionS 3); exact rfl; kernel_rfl)|(apply yE)
  | (apply yG)))
  refine AWP.loopW (α := Nat) (fun i => i ≤ rows.length) (fun i => ⟨[(6, iV i), (5, .osl 0 (strTo rows c i).length 0 (strTo rows c i).length), (0, rws rows), (1, iV c)], [.row (strTo rows c i).length 2 33 ((strTo rows c i).map spD)]⟩) (fun i => rows.length - i) 0 (Nat.zero_le _) ⟨[0], rfl, rfl, rfl, by (repeat (first | exact trivial | refine ⟨rfl, ?_⟩))⟩ fun i hi => ?_
  by_cases hil : i < rows.length
  · by_cases hc : rows[i].1 = c
    · have hu := h.u i hil
      have hmu : (rows[i].2.2.map usD).length = rows[i].2.2.length := List.length_map _
      have hlen := fun k => strAt_len (c := c) (k := k) h hil
      have hsu := fun k (hk : k < rows[i].2.2.length) => strAt_succ (c := c) hil hk
      have hsn := strAt_next hil hc
      have hs0 := strAt_zero rows c i
      rw [← hs0]
      clear hs0
      generalize hA : strAt rows c i = A at *
      (repeat' (first
  | (apply W.qd; (first
    | (apply q_mv; (conv => lhs; whnf))|(apply q_as; (conv => lhs; whnf))|(apply q_lss; exact rfl; exact rfl)|(apply q_neq; exact rfl; exact rfl)|(apply yV; exact rfl; exact rfl)|(apply yX; (iterate 3 exact rfl); (first | omega | (focus (simp; done))))|(apply q_fld_fptF; (iterate 3 exact rfl))
    | (apply yGb; (iterate 4 exact rfl); (first | (with_reducible exact rfl) | exact natI_spec rfl | assumption | exact (Int.toNat_of_nonneg (by omega)).symm); (first | omega | (focus (simp only [List.length_map]; omega)) | (focus (simp; done)) | (focus (simp; omega))))))|(apply yA)|(apply yB)|(apply (W.regionS 7); exact rfl; kernel_rfl)|(apply yE)|(apply yG)|(apply yH)
  | (refine W.cond _ rfl (fun hb => ?_) (fun hb => ?_) <;> ((try simp only [hb, zA, zB]) <;> (try simp only [zC, zD, zE, zF, zG, zH, zI, zJ] at hb) <;> (try (exfalso; omega))))))
      all_goals try (exfalso; omega)
      refine AWP.loopW (α := Nat) (fun k => k ≤ rows[i].2.2.length) (fun k => ⟨[(7, iV k), (6, iV i), (5, .osl 0 (A k).length 0 (A k).length), (0, rws rows), (1, iV c)], [.row (A k).length 2 33 ((A k).map spD)]⟩) (fun k => rows[i].2.2.length - k) 0 (Nat.zero_le _) ⟨[0], rfl, rfl, rfl, by (repeat (first | exact trivial | refine ⟨rfl, ?_⟩))⟩ fun k hk => ?_
      by_cases hkl : k < rows[i].2.2.length
      · have ea : A (k + 1) = A k ++ [((i, rows[i].2.2[k].1) : Nat × Int)] := hsu k hkl
        have hk1 := hlen k
        have el : (A k ++ [((i, rows[i].2.2[k].1) : Nat × Int)]).length = (A k).length + 1 := by simp
        clear hsu hlen hsn hA
        generalize A k = Ak at *
        (repeat' (first
  | (apply W.qd; (first
    | (apply q_mv; (conv => lhs; whnf))|(apply q_as; (conv => lhs; whnf))|(apply q_lss; exact rfl; exact rfl)|(apply q_add; exact rfl; exact rfl; omega)|(apply yV; exact rfl; exact rfl)|(apply yX; (iterate 3 exact rfl); (first | omega | (focus (simp; done))))|(apply q_fld_fptF; (iterate 3 exact rfl))|(apply yZ; exact rfl; exact rfl; kernel_rfl)|(apply q_litF; (iterate 5 exact rfl); kernel_rfl; kernel_rfl; exact rfl)
    | (apply yGb; (iterate 4 exact rfl); (first | (with_reducible exact rfl) | exact natI_spec rfl | assumption | exact (Int.toNat_of_nonneg (by omega)).symm); (first | omega | (focus (simp only [List.length_map]; omega)) | (focus (simp; done)) | (focus (simp; omega))))))|(apply W.ed; ((apply (e_app1F (f := spD) (i, rows[i].2.2[k].1)); (iterate 8 exact rfl); omega)))|(apply yA)|(apply yB)|(apply yC; kernel_rfl)|(apply yE)|(apply yG)|(apply yH)|(apply yL)
  | (refine W.cond _ rfl (fun hb => ?_) (fun hb => ?_) <;> ((try simp only [hb, zA, zB]) <;> (try simp only [zC, zD, zE, zF, zG, zH, zI, zJ] at hb) <;> (try (exfalso; omega))))))
        refine ⟨k + 1, by omega, by omega, ?_⟩
        rw [ea, el]
        exact ⟨[0], rfl, rfl, rfl, iV_eq (by omega), rfl, rfl, rfl, rfl, trivial⟩
      · obtain rfl : k = rows[i].2.2.length := by omega
        rw [hsn]
        clear hsu hlen hsn hA
        (repeat' (first
  | (apply W.qd; (first
    | (apply q_mv; (conv => lhs; whnf))|(apply q_as; (conv => lhs; whnf))|(apply q_lss; exact rfl; exact rfl)|(apply q_add; exact rfl; exact rfl; omega)|(apply yV; exact rfl; exact rfl)|(apply yX; (iterate 3 exact rfl); (first | omega | (focus (simp; done))))|(apply q_fld_fptF; (iterate 3 exact rfl))
    | (apply yGb; (iterate 4 exact rfl); (first | (with_reducible exact rfl) | exact natI_spec rfl | assumption | exact (Int.toNat_of_nonneg (by omega)).symm); (first | omega | (focus (simp only [List.length_map]; omega)) | (focus (simp; done)) | (focus (simp; omega))))))|(apply yA)|(apply yB)|(apply yC; kernel_rfl)|(apply yE)|(apply yI)|(apply yK)|(apply yL)|(apply yM)
  | (refine W.cond _ rfl (fun hb => ?_) (fun hb => ?_) <;> ((try simp only [hb, zA, zB]) <;> (try simp only [zC, zD, zE, zF, zG, zH, zI, zJ] at hb) <;> (try (exfalso; omega))))))
        all_goals first
          | (exfalso; omega)
          | exact ⟨i + 1, by omega, by omega, [0], rfl, rfl, rfl, iV_eq (by omega), rfl, rfl, rfl, trivial⟩
    · have hs := strTo_skip hil hc
      (repeat' (first
  | (apply W.qd; (first
    | (apply q_mv; (conv => lhs; whnf))|(apply q_as; (conv => lhs; whnf))|(apply q_lss; exact rfl; exact rfl)|(apply q_neq; exact rfl; exact rfl)|(apply q_add; exact rfl; exact rfl; omega)|(apply yV; exact rfl; exact rfl)|(apply yX; (iterate 3 exact rfl); (first | omega | (focus (simp; done))))|(apply q_fld_fptF; (iterate 3 exact rfl))
    | (apply yGb; (iterate 4 exact rfl); (first | (with_reducible exact rfl) | exact natI_spec rfl | assumption | exact (Int.toNat_of_nonneg (by omega)).symm); (first | omega | (focus (simp only [List.length_map]; omega)) | (focus (simp; done)) | (focus (simp; omega))))))|(apply yA)|(apply yB)|(apply yC; kernel_rfl)|(apply yE)|(apply yG)|(apply yH)|(apply yI)|(apply yK)|(apply yM)
  | (refine W.cond _ rfl (fun hb => ?_) (fun hb => ?_) <;> ((try simp only [hb, zA, zB]) <;> (try simp only [zC, zD, zE, zF, zG, zH, zI, zJ] at hb) <;> (try (exfalso; omega))))))
      all_goals first
        | (exfalso; omega)|(refine ⟨i + 1, by omega, by omega, ?_⟩; rw [hs]; exact ⟨[0], rfl, rfl, rfl, iV_eq (by omega), rfl, rfl, rfl, trivial⟩)
  · obtain rfl : i = rows.length := by omega
    have hln := strN_len (c := c) h
    unfold strN at *
    generalize strTo rows c rows.length = A at *
    (repeat' (first
  | (apply W.qd; (first
    | (apply q_mv; (conv => lhs; whnf))|(apply q_as; (conv => lhs; whnf))|(apply q_lss; exact rfl; exact rfl)
    | (apply yV; exact rfl; exact rfl)))|(apply yA)|(apply yB)|(apply yC; kernel_rfl)|(apply yE)|(apply yI)|(apply yJ)|(apply yK)|(apply yM)
  | (refine W.cond _ rfl (fun hb => ?_) (fun hb => ?_) <;> ((try simp only [hb, zA, zB]) <;> (try simp only [zC, zD, zE, zF, zG, zH, zI, zJ] at hb) <;> (try (exfalso; omega))))))
    exact Ends.osl rfl rfl (by simp) rfl
theorem A_rright24 {d r n s l i : Int} {w : SRw} (hw : w.2.2.length ≤ 9223372036854775807) : ACalls Tryz.prog 102 [cfgA d r n s l i, rwA w] [] (bV (rgtR (grpI d r n s l i w.2.1) w)) [] := by
  obtain ⟨c, wd, us⟩ := w
  dsimp only at hw ⊢
  have hg := A_rgroups d r n s l i wd
  generalize grpI d r n s l i wd = g at *
  have hmu : (us.map usD).length = us.length := List.length_map _
  refine acalls_of_body Tryz.func102 rfl (Nat.le_of_ble_eq_true rfl) ?_
  unfold rgtR
  dsimp only
  by_cases h1 : c = -1
  · rw [if_pos h1]
    (repeat' (first
  | (apply yFb; exact rfl; exact rfl)
  | (apply W.qd; (first
    | (apply q_mv; (conv => lhs; whnf))|(apply q_as; (conv => lhs; whnf))|(apply yS; (iterate 3 exact rfl))|(apply yT; (iterate 4 exact rfl))|(apply q_eql; exact rfl; exact rfl)|(apply yV; exact rfl; exact rfl)|(apply (yEb (u := .d _)); exact rfl; exact rfl)
    | (apply (yDb (u := .d _)); exact rfl; exact rfl)))|(apply W.ed; (apply yBb; (iterate 3 exact rfl); kernel_rfl; kernel_rfl))|(refine W.gOff _ _ rfl rfl (by intro h; cases h) ?_)|(apply yA)|(apply yB)|(apply yC; kernel_rfl)|(apply yE)|(apply yJ)|(apply yP)|(refine W.gT _ _ rfl rfl (fun hb => ?_) (fun hb => ?_) <;> ((try simp only [hb, zA, zB]) <;> (try simp only [zC, zD, zE, zF, zG, zH, zI, zJ] at hb) <;> (try (exfalso; omega))))
  | (refine W.cond _ rfl (fun hb => ?_) (fun hb => ?_) <;> ((try simp only [hb, zA, zB]) <;> (try simp only [zC, zD, zE, zF, zG, zH, zI, zJ] at hb) <;> (try (exfalso; omega))))))
    all_goals first | (exfalso; omega) | (refine Ends.b rfl ?_; rw [Bool.eq_iff_iff]; simp <;> omega)
  rw [if_neg h1]
  by_cases h2 : 0 ≤ c ∧ c < 8 ∧ 1 ≤ wd ∧ wd ≤ 32 ∧ us.length ≠ 0
  case neg =>
    rw [decide_eq_false h2, Bool.false_and]
    (repeat' (first
  | (apply yFb; exact rfl; exact rfl)
  | (apply W.qd; (first
    | (apply q_mv; (conv => lhs; whnf))|(apply q_as; (conv => lhs; whnf))|(apply yS; (iterate 3 exact rfl))|(apply yT; (iterate 4 exact rfl))|(apply q_lss; exact rfl; exact rfl)|(apply q_gtr; exact rfl; exact rfl)|(apply q_geq; exact rfl; exact rfl)|(apply q_eql; exact rfl; exact rfl)|(apply yV; exact rfl; exact rfl)|(apply (yEb (u := .d _)); exact rfl; exact rfl)
    | (apply (yDb (u := .d _)); exact rfl; exact rfl)))|(apply W.ed; (apply yBb; (iterate 3 exact rfl); kernel_rfl; kernel_rfl))|(refine W.gOff _ _ rfl rfl (by intro h; cases h) ?_)|(apply yA)|(apply yB)|(apply (W.regionS 5); exact rfl; kernel_rfl)|(apply yE)|(apply yH)|(apply yJ)|(apply yP)|(apply yQ; exact rfl)|(refine W.gF _ _ rfl rfl (fun hb => ?_) (fun hb => ?_) <;> ((try simp only [hb, zA, zB]) <;> (try simp only [zC, zD, zE, zF, zG, zH, zI, zJ] at hb) <;> (try (exfalso; omega))))
  | (refine W.cond _ rfl (fun hb => ?_) (fun hb => ?_) <;> ((try simp only [hb, zA, zB]) <;> (try simp only [zC, zD, zE, zF, zG, zH, zI, zJ] at hb) <;> (try (exfalso; omega))))))
    all_goals first | (exfalso; omega) | exact Ends.b rfl rfl
  rw [decide_eq_true h2, Bool.true_and]
  (repeat' (first
  | (apply yFb; exact rfl; exact rfl)
  | (apply W.qd; (first
    | (apply (yW (hg)); exact rfl; exact rfl; (iterate 3 kernel_rfl))|(apply q_mv; (conv => lhs; whnf))|(apply q_as; (conv => lhs; whnf))|(apply yS; (iterate 3 exact rfl))|(apply yT; (iterate 4 exact rfl))|(apply yU; (iterate 4 exact rfl))|(apply q_lss; exact rfl; exact rfl)|(apply q_gtr; exact rfl; exact rfl)|(apply q_geq; exact rfl; exact rfl)|(apply q_eql; exact rfl; exact rfl)|(apply yV; exact rfl; exact rfl)
    | (apply (yDb (u := .d _)); exact rfl; exact rfl)))|(apply W.ed; (apply yBb; (iterate 3 exact rfl); kernel_rfl; kernel_rfl))|(apply yA)|(apply yB)|(apply (W.regionS 7); exact rfl; kernel_rfl)|(apply yE)|(apply yG)|(apply yH)|(refine W.gF _ _ rfl rfl (fun hb => ?_) (fun hb => ?_) <;> ((try simp only [hb, zA, zB]) <;> (try simp only [zC, zD, zE, zF, zG, zH, zI, zJ] at hb) <;> (try (exfalso; omega))))
  | (refine W.cond _ rfl (fun hb => ?_) (fun hb => ?_) <;> ((try simp only [hb, zA, zB]) <;> (try simp only [zC, zD, zE, zF, zG, zH, zI, zJ] at hb) <;> (try (exfalso; omega))))))
  all_goals try (exfalso; omega)
  have hml : (grps us).length = us.length := List.length_map _
  have hge : ∀ k (h : k < us.length), (grps us)[k]'(by rw [hml]; exact h) = us[k].1 := fun k h => List.getElem_map _
  have hcnd := incB_drop g (grps us) (-1)
  have hcnd : incB g (-1) (grps us) = true ↔ ∀ k, (h : k < us.length) → lastI (grps us) k < us[k].1 ∧ us[k].1 < g := by
    rw [hcnd]
    constructor
    · intro h3 k h4
      have := h3 k (by rw [hml]; exact h4)
      rw [hge k h4] at this; exact this
    · intro h3 k h4
      rw [hge k (by rw [← hml]; exact h4)]; exact h3 k (by rw [← hml]; exact h4)
  have hl0 : lastI (grps us) 0 = -1 := rfl
  have hls : ∀ k (h : k < us.length), lastI (grps us) (k + 1) = us[k].1 := fun k h => by
    unfold lastI
    rw [if_neg (by omega), Nat.add_sub_cancel, List.getD_eq_getElem?_getD, List.getElem?_eq_getElem (by rw [hml]; exact h), Option.getD_some, hge k h]
  generalize lastI (grps us) = la at *
  generalize incB g (-1) (grps us) = R at *
  clear hml hge h1
  refine AWP.loopW (α := Nat) (fun k => k ≤ us.length ∧ ∀ j, (h : j < us.length) → j < k → (la j < us[j].1 ∧ us[j].1 < g) ∧ 0 ≤ us[j].1) (fun k => ⟨[(6, iV k), (5, iV g), (3, .opt 1 0)], [.box [iV d, iV r, iV n, iV s, iV l, iV i], .box [iV c, iV wd, .d (.sl 3 (us.map usD))]]⟩) (fun k => us.length - k) 0 ⟨Nat.zero_le _, fun j h hj => by omega⟩ ⟨[0, 1], rfl, rfl, rfl, by (repeat (first | exact trivial | refine ⟨rfl, ?_⟩))⟩ fun k hk => ?_
  by_cases hkl : k < us.length
  · have hnx : (la k < us[k].1 ∧ us[k].1 < g) ∧ 0 ≤ us[k].1 → ∀ j, (h : j < us.length) → j < k + 1 → (la j < us[j].1 ∧ us[j].1 < g) ∧ 0 ≤ us[j].1 := fun hg j h hj => by
      by_cases e : j = k
      · subst e; exact hg
      · exact hk.2 j h (by omega)
    have hbd : ¬ (la k < us[k].1 ∧ us[k].1 < g) → R = false := fun hg => by
      cases hq : R with
      | false => rfl
      | true => exact absurd (hcnd.1 hq k hkl) hg
    by_cases hk0 : k = 0
    · subst hk0
      rw [hl0] at hnx hbd
      clear hcnd hls hl0 hk
      (repeat' (first
  | (apply yFb; exact rfl; exact rfl)
  | (apply W.qd; (first
    | (apply q_mv; (conv => lhs; whnf))|(apply q_as; (conv => lhs; whnf))|(apply yS; (iterate 3 exact rfl))|(apply yT; (iterate 4 exact rfl))|(apply q_lss; exact rfl; exact rfl)|(apply q_gtr; exact rfl; exact rfl)|(apply q_geq; exact rfl; exact rfl)|(apply q_add; exact rfl; exact rfl; omega)|(apply yV; exact rfl; exact rfl)|(apply yX; (iterate 3 exact rfl); (first | omega | (focus (simp; done))))|(apply q_fld_fptF; (iterate 3 exact rfl))|(apply yGb; (iterate 4 exact rfl); (first | (with_reducible exact rfl) | exact natI_spec rfl | assumption | exact (Int.toNat_of_nonneg (by omega)).symm); (first | omega | (focus (simp only [List.length_map]; omega)) | (focus (simp; done)) | (focus (simp; omega))))|(apply (yEb (u := .d _)); exact rfl; exact rfl)
    | (apply (yDb (u := .d _)); exact rfl; exact rfl)))|(refine W.gOff _ _ rfl rfl (by intro h; cases h) ?_)|(apply yA)|(apply yB)|(apply yC; kernel_rfl)|(apply yD; exact rfl; kernel_rfl)|(apply yE)|(apply yF; kernel_rfl)|(apply yG)|(apply yH)|(apply yJ)|(apply yP)|(apply yL)|(apply yN)|(apply yQ; exact rfl)|(apply yR; exact rfl)|(refine W.gF _ _ rfl rfl (fun hb => ?_) (fun hb => ?_) <;> ((try simp only [hb, zA, zB]) <;> (try simp only [zC, zD, zE, zF, zG, zH, zI, zJ] at hb) <;> (try (exfalso; omega))))
  | (refine W.cond _ rfl (fun hb => ?_) (fun hb => ?_) <;> ((try simp only [hb, zA, zB]) <;> (try simp only [zC, zD, zE, zF, zG, zH, zI, zJ] at hb) <;> (try (exfalso; omega))))))
      all_goals first
        | exact Ends.b rfl (hbd (by omega)).symm
        | exact ⟨0 + 1, ⟨by omega, hnx (by omega)⟩, by omega, [0, 1], rfl, rfl, rfl, iV_eq (by omega), rfl, rfl, trivial⟩
        | (exfalso; omega)
    · obtain ⟨q, rfl⟩ : ∃ q, k = q + 1 := ⟨k - 1, by omega⟩
      have hq := hk.2 q (by omega) (by omega)
      rw [hls q (by omega)] at hnx hbd
      have hqs : (((q + 1 : Nat) : Int) - 1) = ((q : Nat) : Int) := by omega
      clear hcnd hls hl0 hk
      (repeat' (first
  | (apply yFb; exact rfl; exact rfl)
  | (apply W.qd; (first
    | (apply q_mv; (conv => lhs; whnf))|(apply q_as; (conv => lhs; whnf))|(apply yS; (iterate 3 exact rfl))|(apply yT; (iterate 4 exact rfl))|(apply q_lss; exact rfl; exact rfl)|(apply q_leq; exact rfl; exact rfl)|(apply q_gtr; exact rfl; exact rfl)|(apply q_geq; exact rfl; exact rfl)|(apply q_add; exact rfl; exact rfl; omega)|(apply q_sub; exact rfl; exact rfl; omega)|(apply yV; exact rfl; exact rfl)|(apply yX; (iterate 3 exact rfl); (first | omega | (focus (simp; done))))|(apply q_fld_fptF; (iterate 3 exact rfl))|(apply yGb; (iterate 4 exact rfl); (first | (with_reducible exact rfl) | exact natI_spec rfl | assumption | exact (Int.toNat_of_nonneg (by omega)).symm); (first | omega | (focus (simp only [List.length_map]; omega)) | (focus (simp; done)) | (focus (simp; omega))))|(apply (yEb (u := .d _)); exact rfl; exact rfl)
    | (apply (yDb (u := .d _)); exact rfl; exact rfl)))|(refine W.gOff _ _ rfl rfl (by intro h; cases h) ?_)|(apply yA)|(apply yB)|(apply yC; kernel_rfl)|(apply yD; exact rfl; kernel_rfl)|(apply yE)|(apply yF; kernel_rfl)|(apply yG)|(apply yH)|(apply yJ)|(apply yP)|(apply yL)|(apply yN)|(apply yQ; exact rfl)|(refine W.gT _ _ rfl rfl (fun hb => ?_) (fun hb => ?_) <;> ((try simp only [hb, zA, zB]) <;> (try simp only [zC, zD, zE, zF, zG, zH, zI, zJ] at hb) <;> (try (exfalso; omega))))|(refine W.gF _ _ rfl rfl (fun hb => ?_) (fun hb => ?_) <;> ((try simp only [hb, zA, zB]) <;> (try simp only [zC, zD, zE, zF, zG, zH, zI, zJ] at hb) <;> (try (exfalso; omega))))
  | (refine W.cond _ rfl (fun hb => ?_) (fun hb => ?_) <;> ((try simp only [hb, zA, zB]) <;> (try simp only [zC, zD, zE, zF, zG, zH, zI, zJ] at hb) <;> (try (exfalso; omega))))))
      all_goals first
        | exact Ends.b rfl (hbd (by omega)).symm
        | exact ⟨q + 1 + 1, ⟨by omega, hnx (by omega)⟩, by omega, [0, 1], rfl, rfl, rfl, iV_eq (by omega), rfl, rfl, trivial⟩
        | (exfalso; omega)
  · have ht : R = true := hcnd.2 fun j h => (hk.2 j h (by omega)).1
    rw [ht]
    clear hcnd hls hl0 hk
    (repeat' (first
  | (apply W.qd; (first
    | (apply q_mv; (conv => lhs; whnf))|(apply q_as; (conv => lhs; whnf))|(apply yS; (iterate 3 exact rfl))|(apply yT; (iterate 4 exact rfl))|(apply q_lss; exact rfl; exact rfl)
    | (apply yV; exact rfl; exact rfl)))|(apply yA)|(apply yB)|(apply yC; kernel_rfl)|(apply yE)|(apply yI)|(apply yJ)|(apply yK)|(apply yM)
  | (refine W.cond _ rfl (fun hb => ?_) (fun hb => ?_) <;> ((try simp only [hb, zA, zB]) <;> (try simp only [zC, zD, zE, zF, zG, zH, zI, zJ] at hb) <;> (try (exfalso; omega))))))
    all_goals exact Ends.b rfl rfl
theorem A_rvalid24 {d r n s l i : Int} {rows : List SRw} (hl : rows.length ≤ 12) (hu : ∀ a (h : a < rows.length), rows[a].2.2.length ≤ 9223372036854775807) : ACalls Tryz.prog 44 [cfgA d r n s l i, rws rows] [] (bV (validR d r n s l i rows)) [] := by
  have hck := A_rdchk d r n s l i
  have hm : (rows.map rwD).length = rows.length := List.length_map _
  refine acalls_of_body Tryz.func44 rfl (Nat.le_of_ble_eq_true rfl) ?_
  unfold validR
  by_cases h1 : chk13 d r n s l i = 0 ∧ (rows.length : Int) = n
  case neg =>
    rw [decide_eq_false h1, Bool.false_and]
    generalize chk13 d r n s l i = e at *
    (repeat' (first
  | (apply yFb; exact rfl; exact rfl)
  | (apply W.qd; (first
    | (apply (yW (hck)); exact rfl; exact rfl; (iterate 3 kernel_rfl))|(apply q_mv; (conv => lhs; whnf))|(apply q_as; (conv => lhs; whnf))|(apply yS; (iterate 3 exact rfl))|(apply yT; (iterate 4 exact rfl))|(apply yU; (iterate 4 exact rfl))|(apply q_neq; exact rfl; exact rfl)|(apply yV; exact rfl; exact rfl)|(apply (yEb (u := .d _)); exact rfl; exact rfl)
    | (apply (yDb (u := .d _)); exact rfl; exact rfl)))|(apply W.ed; (apply yBb; (iterate 3 exact rfl); kernel_rfl; kernel_rfl))|(refine W.gOff _ _ rfl rfl (by intro h; cases h) ?_)|(apply yA)|(apply yB)|(apply (W.regionS 4); exact rfl; kernel_rfl)|(apply yE)|(apply yJ)|(apply yP)|(apply yQ; exact rfl)|(refine W.gF _ _ rfl rfl (fun hb => ?_) (fun hb => ?_) <;> ((try simp only [hb, zA, zB]) <;> (try simp only [zC, zD, zE, zF, zG, zH, zI, zJ] at hb) <;> (try (exfalso; omega))))
  | (refine W.cond _ rfl (fun hb => ?_) (fun hb => ?_) <;> ((try simp only [hb, zA, zB]) <;> (try simp only [zC, zD, zE, zF, zG, zH, zI, zJ] at hb) <;> (try (exfalso; omega))))))
    all_goals first | (exfalso; omega) | exact Ends.b rfl rfl
  rw [decide_eq_true h1, Bool.true_and]
  rw [h1.1] at hck
  have hn := h1.2
  clear h1
  have hR := fun a (h : a < rows.length) => A_rright24 (d := d) (r := r) (n := n) (s := s) (l := l) (i := i) (w := rows[a]) (hu a h)
  have hok : ∀ a (h : a < rows.length), okR d r n s l i rows a = (rgtR (grpI d r n s l i rows[a].2.1) rows[a] && (List.range a).all (conR rows a)) := fun a h => by
    unfold okR; rw [getDr h]
  have hcon : ∀ a (h : a < rows.length) b (h2 : b < rows.length), conR rows a b = !(decide (rows[b].1 = rows[a].1) && !decide (rows[b].2.1 = rows[a].2.1)) := fun a h b h2 => by
    unfold conR; rw [getDr h, getDr h2]
  generalize okR d r n s l i rows = Q at *
  (repeat' (first
  | (apply yFb; exact rfl; exact rfl)
  | (apply W.qd; (first
    | (apply (yW (hck)); exact rfl; exact rfl; (iterate 3 kernel_rfl))|(apply q_mv; (conv => lhs; whnf))|(apply q_as; (conv => lhs; whnf))|(apply yS; (iterate 3 exact rfl))|(apply yT; (iterate 4 exact rfl))|(apply yU; (iterate 4 exact rfl))|(apply q_neq; exact rfl; exact rfl)|(apply yV; exact rfl; exact rfl)
    | (apply (yDb (u := .d _)); exact rfl; exact rfl)))|(apply W.ed; (apply yBb; (iterate 3 exact rfl); kernel_rfl; kernel_rfl))|(apply yA)|(apply yB)|(apply (W.regionS 5); exact rfl; kernel_rfl)|(apply yE)|(apply yG)|(apply yH)
  | (refine W.cond _ rfl (fun hb => ?_) (fun hb => ?_) <;> ((try simp only [hb, zA, zB]) <;> (try simp only [zC, zD, zE, zF, zG, zH, zI, zJ] at hb) <;> (try (exfalso; omega))))))
  all_goals try (exfalso; omega)
  refine AWP.loopW (α := Nat) (fun a => a ≤ rows.length ∧ ∀ j, j < a → Q j = true) (fun a => ⟨[(6, iV a), (1, rws rows), (2, .opt 0 0)], [.box [iV d, iV r, iV n, iV s, iV l, iV i]]⟩) (fun a => rows.length - a) 0 ⟨Nat.zero_le _, fun j hj => by omega⟩ ⟨[0], rfl, rfl, rfl, by (repeat (first | exact trivial | refine ⟨rfl, ?_⟩))⟩ fun a ha => ?_
  by_cases hal : a < rows.length
  · have hbad : Q a = false → (List.range rows.length).all Q = false := fun h => by
      rw [List.all_eq_false]
      exact ⟨a, List.mem_range.2 hal, by rw [h]; decide⟩
    have hnx : Q a = true → ∀ j, j < a + 1 → Q j = true := fun h j hj => by
      by_cases e : j = a
      · subst e; exact h
      · exact ha.2 j (by omega)
    have hra := hR a hal
    have hqa := hok a hal
    have hca := fun b (h2 : b < rows.length) => hcon a hal b h2
    clear ha hok hcon hR hu
    generalize (List.range rows.length).all Q = R at *
    generalize rgtR (grpI d r n s l i rows[a].2.1) rows[a] = ra at *
    cases ra with
    | false =>
      rw [Bool.false_and] at hqa
      rw [hbad hqa]
      (repeat' (first
  | (apply W.qd; (first
    | (apply (yW (hra)); exact rfl; exact rfl; (iterate 3 kernel_rfl))|(apply q_mv; (conv => lhs; whnf))|(apply q_as; (conv => lhs; whnf))|(apply yU; (iterate 4 exact rfl))|(apply q_lss; exact rfl; exact rfl)|(apply q_not; exact rfl)|(apply yV; exact rfl; exact rfl)|(apply yY; (iterate 3 exact rfl); (first | omega | (focus (simp; done))))
    | (apply yGb; (iterate 4 exact rfl); (first | (with_reducible exact rfl) | exact natI_spec rfl | assumption | exact (Int.toNat_of_nonneg (by omega)).symm); (first | omega | (focus (simp only [List.length_map]; omega)) | (focus (simp; done)) | (focus (simp; omega))))))|(apply yA)|(apply yB)|(apply (W.regionS 11); exact rfl; kernel_rfl)|(apply (W.regionDS 11); exact rfl; exact rfl; kernel_rfl)|(apply yE)|(apply yF; kernel_rfl)|(apply yG)|(apply yH)|(apply yJ)|(apply yP)|(apply yN)|(apply yQ; exact rfl)
  | (refine W.cond _ rfl (fun hb => ?_) (fun hb => ?_) <;> ((try simp only [hb, zA, zB]) <;> (try simp only [zC, zD, zE, zF, zG, zH, zI, zJ] at hb) <;> (try (exfalso; omega))))))
      all_goals first | (exfalso; omega) | exact Ends.b rfl rfl
    | true =>
      rw [Bool.true_and] at hqa
      (repeat' (first
  | (apply W.qd; (first
    | (apply (yW (hra)); exact rfl; exact rfl; (iterate 3 kernel_rfl))|(apply q_mv; (conv => lhs; whnf))|(apply q_as; (conv => lhs; whnf))|(apply yU; (iterate 4 exact rfl))|(apply q_lss; exact rfl; exact rfl)|(apply q_not; exact rfl)|(apply yV; exact rfl; exact rfl)|(apply yY; (iterate 3 exact rfl); (first | omega | (focus (simp; done))))
    | (apply yGb; (iterate 4 exact rfl); (first | (with_reducible exact rfl) | exact natI_spec rfl | assumption | exact (Int.toNat_of_nonneg (by omega)).symm); (first | omega | (focus (simp only [List.length_map]; omega)) | (focus (simp; done)) | (focus (simp; omega))))))|(apply yA)|(apply yB)|(apply (W.regionS 11); exact rfl; kernel_rfl)|(apply (W.regionDS 11); exact rfl; exact rfl; kernel_rfl)|(apply yE)|(apply yF; kernel_rfl)|(apply yG)|(apply yH)|(apply yR; exact rfl)
  | (refine W.cond _ rfl (fun hb => ?_) (fun hb => ?_) <;> ((try simp only [hb, zA, zB]) <;> (try simp only [zC, zD, zE, zF, zG, zH, zI, zJ] at hb) <;> (try (exfalso; omega))))))
      all_goals try (exfalso; omega)
      refine AWP.loopW (α := Nat) (fun b => b ≤ a ∧ ∀ j, j < b → conR rows a j = true) (fun b => ⟨[(8, iV b), (6, iV a), (1, rws rows), (2, .opt 0 0)], [.box [iV d, iV r, iV n, iV s, iV l, iV i]]⟩) (fun b => a - b) 0 ⟨Nat.zero_le _, fun j hj => by omega⟩ ⟨[0], rfl, rfl, rfl, by (repeat (first | exact trivial | refine ⟨rfl, ?_⟩))⟩ fun b hb9 => ?_
      by_cases hbl : b < a
      · have hcb := hca b (by omega)
        have hbd : conR rows a b = false → R = false := fun h => hbad (by rw [hqa, List.all_eq_false]; exact ⟨b, List.mem_range.2 hbl, by rw [h]; decide⟩)
        have hn2 : conR rows a b = true → ∀ j, j < b + 1 → conR rows a j = true := fun h j hj => by
          by_cases e : j = b
          · subst e; exact h
          · exact hb9.2 j (by omega)
        have hb1 := hb9.1
        clear hb9 hca hqa hnx hbad
        have hbr : b < rows.length := by omega
        by_cases e1 : rows[b].1 = rows[a].1
        · by_cases e2 : rows[b].2.1 = rows[a].2.1
          · rw [decide_eq_true e1, decide_eq_true e2] at hcb
            (repeat' (first
  | (apply yFb; exact rfl; exact rfl)
  | (apply W.qd; (first
    | (apply q_mv; (conv => lhs; whnf))|(apply q_as; (conv => lhs; whnf))|(apply q_lss; exact rfl; exact rfl)|(apply q_eql; exact rfl; exact rfl)|(apply q_neq; exact rfl; exact rfl)|(apply q_add; exact rfl; exact rfl; omega)|(apply yX; (iterate 3 exact rfl); (first | omega | (focus (simp; done))))|(apply q_fld_fptF; (iterate 3 exact rfl))|(apply yGb; (iterate 4 exact rfl); (first | (with_reducible exact rfl) | exact natI_spec rfl | assumption | exact (Int.toNat_of_nonneg (by omega)).symm); (first | omega | (focus (simp only [List.length_map]; omega)) | (focus (simp; done)) | (focus (simp; omega))))
    | (apply (yEb (u := .d _)); exact rfl; exact rfl)))|(apply yA)|(apply yB)|(apply yC; kernel_rfl)|(apply yD; exact rfl; kernel_rfl)|(apply yE)|(apply yF; kernel_rfl)|(apply yG)|(apply yH)|(apply yL)|(refine W.gT _ _ rfl rfl (fun hb => ?_) (fun hb => ?_) <;> ((try simp only [hb, zA, zB]) <;> (try simp only [zC, zD, zE, zF, zG, zH, zI, zJ] at hb) <;> (try (exfalso; omega))))
  | (refine W.cond _ rfl (fun hb => ?_) (fun hb => ?_) <;> ((try simp only [hb, zA, zB]) <;> (try simp only [zC, zD, zE, zF, zG, zH, zI, zJ] at hb) <;> (try (exfalso; omega))))))
            all_goals first
              | (exfalso; omega)
              | exact ⟨b + 1, ⟨by omega, hn2 hcb⟩, by omega, [0], rfl, rfl, rfl, iV_eq (by omega), rfl, rfl, rfl, trivial⟩
          · rw [decide_eq_true e1, decide_eq_false e2] at hcb
            rw [hbd hcb]
            (repeat' (first
  | (apply yFb; exact rfl; exact rfl)
  | (apply W.qd; (first
    | (apply q_mv; (conv => lhs; whnf))|(apply q_as; (conv => lhs; whnf))|(apply q_lss; exact rfl; exact rfl)|(apply q_eql; exact rfl; exact rfl)|(apply q_neq; exact rfl; exact rfl)|(apply yX; (iterate 3 exact rfl); (first | omega | (focus (simp; done))))|(apply q_fld_fptF; (iterate 3 exact rfl))|(apply yGb; (iterate 4 exact rfl); (first | (with_reducible exact rfl) | exact natI_spec rfl | assumption | exact (Int.toNat_of_nonneg (by omega)).symm); (first | omega | (focus (simp only [List.length_map]; omega)) | (focus (simp; done)) | (focus (simp; omega))))
    | (apply (yEb (u := .d _)); exact rfl; exact rfl)))|(apply yA)|(apply yB)|(apply yC; kernel_rfl)|(apply yD; exact rfl; kernel_rfl)|(apply yE)|(apply yF; kernel_rfl)|(apply yG)|(apply yH)|(apply yJ)|(apply yP)|(apply yN)|(refine W.gT _ _ rfl rfl (fun hb => ?_) (fun hb => ?_) <;> ((try simp only [hb, zA, zB]) <;> (try simp only [zC, zD, zE, zF, zG, zH, zI, zJ] at hb) <;> (try (exfalso; omega))))
  | (refine W.cond _ rfl (fun hb => ?_) (fun hb => ?_) <;> ((try simp only [hb, zA, zB]) <;> (try simp only [zC, zD, zE, zF, zG, zH, zI, zJ] at hb) <;> (try (exfalso; omega))))))
            all_goals first | (exfalso; omega) | exact Ends.b rfl rfl
        · rw [decide_eq_false e1, Bool.false_and] at hcb
          (repeat' (first
  | (apply W.qd; (first
    | (apply q_mv; (conv => lhs; whnf))|(apply q_as; (conv => lhs; whnf))|(apply q_lss; exact rfl; exact rfl)|(apply q_eql; exact rfl; exact rfl)|(apply q_add; exact rfl; exact rfl; omega)|(apply yX; (iterate 3 exact rfl); (first | omega | (focus (simp; done))))|(apply q_fld_fptF; (iterate 3 exact rfl))|(apply yGb; (iterate 4 exact rfl); (first | (with_reducible exact rfl) | exact natI_spec rfl | assumption | exact (Int.toNat_of_nonneg (by omega)).symm); (first | omega | (focus (simp only [List.length_map]; omega)) | (focus (simp; done)) | (focus (simp; omega))))
    | (apply (yDb (u := .d _)); exact rfl; exact rfl)))|(refine W.gOff _ _ rfl rfl (by intro h; cases h) ?_)|(apply yA)|(apply yB)|(apply yC; kernel_rfl)|(apply yD; exact rfl; kernel_rfl)|(apply yE)|(apply yF; kernel_rfl)|(apply yG)|(apply yH)|(apply yL)|(apply yR; exact rfl)|(refine W.gT _ _ rfl rfl (fun hb => ?_) (fun hb => ?_) <;> ((try simp only [hb, zA, zB]) <;> (try simp only [zC, zD, zE, zF, zG, zH, zI, zJ] at hb) <;> (try (exfalso; omega))))
  | (refine W.cond _ rfl (fun hb => ?_) (fun hb => ?_) <;> ((try simp only [hb, zA, zB]) <;> (try simp only [zC, zD, zE, zF, zG, zH, zI, zJ] at hb) <;> (try (exfalso; omega))))))
          all_goals first
            | (exfalso; omega)
            | exact ⟨b + 1, ⟨by omega, hn2 hcb⟩, by omega, [0], rfl, rfl, rfl, iV_eq (by omega), rfl, rfl, rfl, trivial⟩
      · obtain rfl : b = a := by omega
        have hq1 : Q b = true := by
          rw [hqa, List.all_eq_true]
          intro j hj
          exact hb9.2 j (List.mem_range.1 hj)
        have hn3 := hnx hq1
        clear hb9 hca hqa hnx hbad hn
        (repeat' (first
  | (apply W.qd; (first
    | (apply q_mv; (conv => lhs; whnf))|(apply q_as; (conv => lhs; whnf))|(apply q_lss; exact rfl; exact rfl)
    | (apply q_add; exact rfl; exact rfl; omega)))|(apply yA)|(apply yB)|(apply yC; kernel_rfl)|(apply yE)|(apply yI)|(apply yK)|(apply yL)|(apply yM)
  | (refine W.cond _ rfl (fun hb => ?_) (fun hb => ?_) <;> ((try simp only [hb, zA, zB]) <;> (try simp only [zC, zD, zE, zF, zG, zH, zI, zJ] at hb) <;> (try (exfalso; omega))))))
        all_goals first
          | (exfalso; omega)
          | exact ⟨b + 1, ⟨by omega, hn3⟩, by omega, [0], rfl, rfl, rfl, iV_eq (by omega), rfl, rfl, trivial⟩
  · have hall : (List.range rows.length).all Q = true := by
      rw [List.all_eq_true]
      intro j hj
      exact ha.2 j (by have := List.mem_range.1 hj; omega)
    rw [hall]
    clear ha hok hcon hR hu
    (repeat' (first
  | (apply W.qd; (first
    | (apply q_mv; (conv => lhs; whnf))|(apply q_as; (conv => lhs; whnf))|(apply q_lss; exact rfl; exact rfl)
    | (apply yV; exact rfl; exact rfl)))|(apply yA)|(apply yB)|(apply yC; kernel_rfl)|(apply yE)|(apply yI)|(apply yJ)|(apply yK)|(apply yM)
  | (refine W.cond _ rfl (fun hb => ?_) (fun hb => ?_) <;> ((try simp only [hb, zA, zB]) <;> (try simp only [zC, zD, zE, zF, zG, zH, zI, zJ] at hb) <;> (try (exfalso; omega))))))
    all_goals exact Ends.b rfl rfl
end Go.Proofs.YtcljokdiblnhiaaGreatDoor
end
section
namespace Go.Proofs.YtcljokdiblnhiaaGreatDoor
open Go.RowKit
set_option maxHeartbeats 4000000
set_option maxRecDepth 100000
def vldS (d n : Int) (cs : List Cd) (vs : List Sv) (rows : List SRw) : Bool := decide (d ≤ 12 ∧ n ≤ 12 ∧ rows.length ≤ 12 ∧ cs.length ≤ 8 ∧ vs.length ≤ 8)
def vld39 (d r n s l i : Int) (cs : List Cd) (vs : List Sv) (rows : List SRw) : Bool := (vldS d n cs vs rows && cs.all few30) && (validB cs vs && validR d r n s l i rows)
structure RwB (rows : List SRw) : Prop where
  l : rows.length ≤ 9223372036854775807
  u : ∀ a (h : a < rows.length), rows[a].2.2.length ≤ 9223372036854775807
theorem vld_rwin {d r n s l i : Int} {cs : List Cd} {vs : List Sv} {rows : List SRw} (h : vld39 d r n s l i cs vs rows = true) : RwIn rows := by
  unfold vld39 vldS at h
  simp only [Bool.and_eq_true, decide_eq_true_eq] at h
  exact valid_rwin h.2.2 h.1.1.2.2.1
theorem few_fin {c : Cd} (h1 : few30 c = true) (hn : NameIn c.1) : FInD c := by
  unfold few30 at h1
  simp only [Bool.and_eq_true, decide_eq_true_eq] at h1
  exact ⟨hn.b, hn.l, by omega, by omega⟩
attribute [local irreducible] Quiet Eff OpOk AWPG ACont ABlock ACalls AGoto
theorem A_valid39 {d r n s l i : Int} {cs : List Cd} {vs : List Sv} {rows : List SRw} (hL : LibIn cs vs) (hB : RwB rows) : ACalls Tryz.prog 11 [cfgA d r n s l i, lib cs vs, rws rows] [] (bV (vld39 d r n s l i cs vs rows)) [] := by
  have hcl := hL.cl
  have hvl := hL.vl
  have hrl := hB.l
  have hmc : (cs.map cdD).length = cs.length := List.length_map _
  have hmv : (vs.map svD).length = vs.length := List.length_map _
  have hmr : (rows.map rwD).length = rows.length := List.length_map _
  refine acalls_of_body Tryz.func11 rfl (Nat.le_of_ble_eq_true rfl) ?_
  unfold vld39 vldS
  by_cases h1 : d ≤ 12 ∧ n ≤ 12 ∧ rows.length ≤ 12 ∧ cs.length ≤ 8 ∧ vs.length ≤ 8
  case neg =>
    rw [decide_eq_false h1, Bool.false_and, Bool.false_and]
    (repeat' (first
  | (apply yFb; exact rfl; exact rfl)
  | (apply W.qd; (first
    | (apply q_mv; (conv => lhs; whnf))|(apply q_as; (conv => lhs; whnf))|(apply yS; (iterate 3 exact rfl))|(apply yT; (iterate 4 exact rfl))|(apply q_gtr; exact rfl; exact rfl)|(apply yV; exact rfl; exact rfl)|(apply (yEb (u := .d _)); exact rfl; exact rfl)
    | (apply (yDb (u := .d _)); exact rfl; exact rfl)))|(apply W.ed; (apply yBb; (iterate 3 exact rfl); kernel_rfl; kernel_rfl))|(refine W.gOff _ _ rfl rfl (by intro h; cases h) ?_)|(apply yA)|(apply yB)|(apply (W.regionS 3); exact rfl; kernel_rfl)|(apply yE)|(apply yJ)|(apply yP)|(apply yQ; exact rfl)|(refine W.gF _ _ rfl rfl (fun hb => ?_) (fun hb => ?_) <;> ((try simp only [hb, zA, zB]) <;> (try simp only [zC, zD, zE, zF, zG, zH, zI, zJ] at hb) <;> (try (exfalso; omega))))
  | (refine W.cond _ rfl (fun hb => ?_) (fun hb => ?_) <;> ((try simp only [hb, zA, zB]) <;> (try simp only [zC, zD, zE, zF, zG, zH, zI, zJ] at hb) <;> (try (exfalso; omega))))))
    all_goals first | (exfalso; omega) | exact Ends.b rfl rfl
  rw [decide_eq_true h1, Bool.true_and]
  obtain ⟨g1, g2, g3, g4, g5⟩ := h1
  have hf := fun k (h : k < cs.length) => A_few39 (c := cs[k])
  have hv24 := A_rvalid24 (d := d) (r := r) (n := n) (s := s) (l := l) (i := i) (rows := rows) g3 hB.u
  (repeat' (first
  | (apply yFb; exact rfl; exact rfl)
  | (apply W.qd; (first
    | (apply q_mv; (conv => lhs; whnf))|(apply q_as; (conv => lhs; whnf))|(apply yS; (iterate 3 exact rfl))|(apply yT; (iterate 4 exact rfl))|(apply q_gtr; exact rfl; exact rfl)|(apply yV; exact rfl; exact rfl)
    | (apply (yDb (u := .d _)); exact rfl; exact rfl)))|(apply W.ed; (apply yBb; (iterate 3 exact rfl); kernel_rfl; kernel_rfl))|(apply yA)|(apply yB)|(apply (W.regionS 4); exact rfl; kernel_rfl)|(apply yE)|(apply yG)|(apply yH)|(refine W.gF _ _ rfl rfl (fun hb => ?_) (fun hb => ?_) <;> ((try simp only [hb, zA, zB]) <;> (try simp only [zC, zD, zE, zF, zG, zH, zI, zJ] at hb) <;> (try (exfalso; omega))))
  | (refine W.cond _ rfl (fun hb => ?_) (fun hb => ?_) <;> ((try simp only [hb, zA, zB]) <;> (try simp only [zC, zD, zE, zF, zG, zH, zI, zJ] at hb) <;> (try (exfalso; omega))))))
  all_goals try (exfalso; omega)
  refine AWP.loopW (α := Nat) (fun k => k ≤ cs.length ∧ ∀ j (hj : j < cs.length), j < k → few30 cs[j] = true) (fun k => ⟨[(7, iV k), (2, rws rows), (3, .opt 0 0), (4, .opt 1 0)], [.box [iV d, iV r, iV n, iV s, iV l, iV i], .box [cds cs, svs vs]]⟩) (fun k => cs.length - k) 0 ⟨Nat.zero_le _, fun j hj h => by omega⟩ ⟨[0, 1], rfl, rfl, rfl, by (repeat (first | exact trivial | refine ⟨rfl, ?_⟩))⟩ fun k hk => ?_
  by_cases hkl : k < cs.length
  · have hfk := hf k hkl
    have hnx : few30 cs[k] = true → ∀ j (hj : j < cs.length), j < k + 1 → few30 cs[j] = true := fun h j hj hji => by
      by_cases e : j = k
      · subst e; exact h
      · exact hk.2 j hj (by omega)
    have hbad : few30 cs[k] = false → cs.all few30 = false := fun h => by
      rw [List.all_eq_false]
      exact ⟨_, List.getElem_mem hkl, by rw [h]; decide⟩
    clear hk hf hv24
    generalize few30 cs[k] = b at *
    cases b with
    | false =>
      rw [hbad rfl, Bool.false_and]
      (repeat' (first
  | (apply W.qd; (first
    | (apply (yW (hfk)); exact rfl; exact rfl; (iterate 3 kernel_rfl))|(apply q_mv; (conv => lhs; whnf))|(apply q_as; (conv => lhs; whnf))|(apply yS; (iterate 3 exact rfl))|(apply yT; (iterate 4 exact rfl))|(apply q_lss; exact rfl; exact rfl)|(apply q_not; exact rfl)|(apply yV; exact rfl; exact rfl)|(apply yY; (iterate 3 exact rfl); (first | omega | (focus (simp; done))))
    | (apply yGb; (iterate 4 exact rfl); (first | (with_reducible exact rfl) | exact natI_spec rfl | assumption | exact (Int.toNat_of_nonneg (by omega)).symm); (first | omega | (focus (simp only [List.length_map]; omega)) | (focus (simp; done)) | (focus (simp; omega))))))|(apply yA)|(apply yB)|(apply yC; kernel_rfl)|(apply yE)|(apply yG)|(apply yH)|(apply yJ)|(apply yP)|(apply yN)|(apply yQ; exact rfl)
  | (refine W.cond _ rfl (fun hb => ?_) (fun hb => ?_) <;> ((try simp only [hb, zA, zB]) <;> (try simp only [zC, zD, zE, zF, zG, zH, zI, zJ] at hb) <;> (try (exfalso; omega))))))
      all_goals first | (exfalso; omega) | exact Ends.b rfl rfl
    | true =>
      (repeat' (first
  | (apply W.qd; (first
    | (apply (yW (hfk)); exact rfl; exact rfl; (iterate 3 kernel_rfl))|(apply q_mv; (conv => lhs; whnf))|(apply q_as; (conv => lhs; whnf))|(apply yS; (iterate 3 exact rfl))|(apply yT; (iterate 4 exact rfl))|(apply q_lss; exact rfl; exact rfl)|(apply q_not; exact rfl)|(apply q_add; exact rfl; exact rfl; omega)|(apply yV; exact rfl; exact rfl)|(apply yY; (iterate 3 exact rfl); (first | omega | (focus (simp; done))))
    | (apply yGb; (iterate 4 exact rfl); (first | (with_reducible exact rfl) | exact natI_spec rfl | assumption | exact (Int.toNat_of_nonneg (by omega)).symm); (first | omega | (focus (simp only [List.length_map]; omega)) | (focus (simp; done)) | (focus (simp; omega))))))|(apply yA)|(apply yB)|(apply yC; kernel_rfl)|(apply yE)|(apply yG)|(apply yH)|(apply yL)|(apply yR; exact rfl)
  | (refine W.cond _ rfl (fun hb => ?_) (fun hb => ?_) <;> ((try simp only [hb, zA, zB]) <;> (try simp only [zC, zD, zE, zF, zG, zH, zI, zJ] at hb) <;> (try (exfalso; omega))))))
      all_goals first
        | (exfalso; omega)
        | exact ⟨k + 1, ⟨by omega, hnx rfl⟩, by omega, [0, 1], rfl, rfl, rfl, iV_eq (by omega), rfl, rfl, rfl, trivial⟩
  · have hall : cs.all few30 = true := by
      rw [List.all_eq_true]
      intro x hx
      obtain ⟨j, hj, rfl⟩ := List.getElem_of_mem hx
      exact hk.2 j hj (by omega)
    rw [hall, Bool.true_and]
    have hF : ∀ c ∈ cs, FInD c := fun c hc => few_fin (List.all_eq_true.1 hall c hc) (hL.cn c hc)
    have hv30 := A_rvalid30 hL hF
    clear hk hf hF hall
    generalize validR d r n s l i rows = b2 at *
    cases hb1 : validB cs vs with
    | false =>
      rw [hb1] at hv30
      (repeat' (first
  | (apply W.qd; (first
    | (apply (yW (hv30)); exact rfl; exact rfl; (iterate 3 kernel_rfl))|(apply q_mv; (conv => lhs; whnf))|(apply q_as; (conv => lhs; whnf))|(apply yS; (iterate 3 exact rfl))|(apply yT; (iterate 4 exact rfl))|(apply yU; (iterate 4 exact rfl))|(apply q_lss; exact rfl; exact rfl)|(apply yV; exact rfl; exact rfl)
    | (apply (yDb (u := .d _)); exact rfl; exact rfl)))|(refine W.gOff _ _ rfl rfl (by intro h; cases h) ?_)|(apply yA)|(apply yB)|(apply yC; kernel_rfl)|(apply yE)|(apply yI)|(apply yJ)|(apply yK)|(apply yM)
  | (refine W.cond _ rfl (fun hb => ?_) (fun hb => ?_) <;> ((try simp only [hb, zA, zB]) <;> (try simp only [zC, zD, zE, zF, zG, zH, zI, zJ] at hb) <;> (try (exfalso; omega))))))
      all_goals exact Ends.b rfl rfl
    | true =>
      rw [hb1] at hv30
      (repeat' (first
  | (apply yFb; exact rfl; exact rfl)
  | (apply W.qd; (first
    | (apply (yW (hv30)); exact rfl; exact rfl; (iterate 3 kernel_rfl))|(apply (yW (hv24)); exact rfl; exact rfl; (iterate 3 kernel_rfl))|(apply q_mv; (conv => lhs; whnf))|(apply q_as; (conv => lhs; whnf))|(apply yS; (iterate 3 exact rfl))|(apply yT; (iterate 4 exact rfl))|(apply yU; (iterate 4 exact rfl))|(apply q_lss; exact rfl; exact rfl)|(apply yV; exact rfl; exact rfl)
    | (apply (yEb (u := .d _)); exact rfl; exact rfl)))|(apply yA)|(apply yB)|(apply yC; kernel_rfl)|(apply yE)|(apply yI)|(apply yJ)|(apply yK)|(apply yM)
  | (refine W.cond _ rfl (fun hb => ?_) (fun hb => ?_) <;> ((try simp only [hb, zA, zB]) <;> (try simp only [zC, zD, zE, zF, zG, zH, zI, zJ] at hb) <;> (try (exfalso; omega))))))
      all_goals exact Ends.b rfl rfl
theorem A_rold {cs : List Cd} {vs : List Sv} {k : Int} : ACalls Tryz.prog 48 [lib cs vs, iV k] [] (if chgB vs k = true then .tup [iV (vs.getD k.toNat sv0).2.1, bV true] else .tup [iV 0, bV false]) [] := by
  refine acalls_of_body Tryz.func48 rfl (Nat.le_of_ble_eq_true rfl) ?_
  have hm : (vs.map svD).length = vs.length := List.length_map _
  unfold chgB
  by_cases hh : hasB vs.length k = true
  · rw [hh, Bool.true_and]
    obtain ⟨j, rfl, hj, e⟩ := getV1 hh
    rw [e]
    by_cases e2 : vs[j].2.2.1 = -1
    · rw [decide_eq_true e2, if_neg (by decide)]
      (repeat' (first
  | (apply yFb; exact rfl; exact rfl)
  | (apply W.qd; (first
    | (apply q_mv; (conv => lhs; whnf))|(apply q_as; (conv => lhs; whnf))|(apply yS; (iterate 3 exact rfl))|(apply yT; (iterate 4 exact rfl))|(apply q_lss; exact rfl; exact rfl)|(apply q_geq; exact rfl; exact rfl)|(apply q_eql; exact rfl; exact rfl)|(apply yV; exact rfl; exact rfl)|(apply yX; (iterate 3 exact rfl); (first | omega | (focus (simp; done))))|(apply q_fld_fptF; (iterate 3 exact rfl))|(apply yGb; (iterate 4 exact rfl); (first | (with_reducible exact rfl) | exact natI_spec rfl | assumption | exact (Int.toNat_of_nonneg (by omega)).symm); (first | omega | (focus (simp only [List.length_map]; omega)) | (focus (simp; done)) | (focus (simp; omega))))
    | (apply (yDb (u := .d _)); exact rfl; exact rfl)))|(apply W.ed; (apply yBb; (iterate 3 exact rfl); kernel_rfl; kernel_rfl))|(apply yA)|(apply yB)|(apply yC; kernel_rfl)|(apply yE)|(apply yJ)|(apply yP)|(refine W.gF _ _ rfl rfl (fun hb => ?_) (fun hb => ?_) <;> ((try simp only [hb, zA, zB]) <;> (try simp only [zC, zD, zE, zF, zG, zH, zI, zJ] at hb) <;> (try (exfalso; omega))))
  | (refine W.cond _ rfl (fun hb => ?_) (fun hb => ?_) <;> ((try simp only [hb, zA, zB]) <;> (try simp only [zC, zD, zE, zF, zG, zH, zI, zJ] at hb) <;> (try (exfalso; omega))))))
      all_goals first | (exfalso; omega) | exact Ends.two rfl rfl rfl
    · rw [decide_eq_false e2, if_pos (by decide)]
      (repeat' (first
  | (apply yFb; exact rfl; exact rfl)
  | (apply W.qd; (first
    | (apply q_mv; (conv => lhs; whnf))|(apply q_as; (conv => lhs; whnf))|(apply yS; (iterate 3 exact rfl))|(apply yT; (iterate 4 exact rfl))|(apply q_lss; exact rfl; exact rfl)|(apply q_geq; exact rfl; exact rfl)|(apply q_eql; exact rfl; exact rfl)|(apply yV; exact rfl; exact rfl)|(apply yX; (iterate 3 exact rfl); (first | omega | (focus (simp; done))))|(apply q_fld_fptF; (iterate 3 exact rfl))|(apply yGb; (iterate 4 exact rfl); (first | (with_reducible exact rfl) | exact natI_spec rfl | assumption | exact (Int.toNat_of_nonneg (by omega)).symm); (first | omega | (focus (simp only [List.length_map]; omega)) | (focus (simp; done)) | (focus (simp; omega))))
    | (apply (yDb (u := .d _)); exact rfl; exact rfl)))|(apply W.ed; (apply yBb; (iterate 3 exact rfl); kernel_rfl; kernel_rfl))|(apply yA)|(apply yB)|(apply yC; kernel_rfl)|(apply yE)|(apply yH)|(apply yJ)|(refine W.gF _ _ rfl rfl (fun hb => ?_) (fun hb => ?_) <;> ((try simp only [hb, zA, zB]) <;> (try simp only [zC, zD, zE, zF, zG, zH, zI, zJ] at hb) <;> (try (exfalso; omega))))
  | (refine W.cond _ rfl (fun hb => ?_) (fun hb => ?_) <;> ((try simp only [hb, zA, zB]) <;> (try simp only [zC, zD, zE, zF, zG, zH, zI, zJ] at hb) <;> (try (exfalso; omega))))))
      all_goals first | (exfalso; omega) | exact Ends.two rfl rfl rfl
  · rw [Bool.eq_false_iff.2 hh, Bool.false_and, if_neg (by decide)]
    have hh : ¬ (0 ≤ k ∧ k < (vs.length : Int)) := fun h => hh (hasB_iff.2 h)
    (repeat' (first
  | (apply yFb; exact rfl; exact rfl)
  | (apply W.qd; (first
    | (apply q_mv; (conv => lhs; whnf))|(apply q_as; (conv => lhs; whnf))|(apply yS; (iterate 3 exact rfl))|(apply yT; (iterate 4 exact rfl))|(apply q_lss; exact rfl; exact rfl)|(apply q_geq; exact rfl; exact rfl)|(apply yV; exact rfl; exact rfl)|(apply (yEb (u := .d _)); exact rfl; exact rfl)
    | (apply (yDb (u := .d _)); exact rfl; exact rfl)))|(apply W.ed; (apply yBb; (iterate 3 exact rfl); kernel_rfl; kernel_rfl))|(refine W.gOff _ _ rfl rfl (by intro h; cases h) ?_)|(apply yA)|(apply yB)|(apply yC; kernel_rfl)|(apply yE)|(apply yJ)|(apply yP)|(apply yQ; exact rfl)
  | (refine W.gF _ _ rfl rfl (fun hb => ?_) (fun hb => ?_) <;> ((try simp only [hb, zA, zB]) <;> (try simp only [zC, zD, zE, zF, zG, zH, zI, zJ] at hb) <;> (try (exfalso; omega))))))
    all_goals first | (exfalso; omega) | exact Ends.two rfl rfl rfl
theorem A_rleft39 {cs : List Cd} {vs : List Sv} {k : Int} {rows : List SRw} (h : RwIn rows) : ACalls Tryz.prog 16 [lib cs vs, iV k, rws rows] [] (iV (leftN39 vs k rows : Nat)) [] := by
  refine acalls_of_body Tryz.func16 rfl (Nat.le_of_ble_eq_true rfl) ?_
  have hc := A_rold (cs := cs) (vs := vs) (k := k)
  unfold leftN39
  cases hb9 : chgB vs k with
  | false =>
    rw [hb9, if_neg (by decide)] at hc
    rw [if_neg (by simp)]
    (repeat' (first
  | (apply W.qd; (first
    | (apply (yW (hc)); exact rfl; exact rfl; (iterate 3 kernel_rfl))|(apply q_mv; (conv => lhs; whnf))|(apply q_as; (conv => lhs; whnf))|(apply yU; (iterate 4 exact rfl))|(apply q_not; exact rfl)
    | (apply yAb; exact rfl; exact rfl)))|(apply W.ed; (apply yBb; (iterate 3 exact rfl); kernel_rfl; kernel_rfl))|(apply yA)|(apply yB)|(apply yC; kernel_rfl)|(apply yE)|(apply yJ)|(apply yP)
  | (apply yQ; exact rfl)))
    all_goals exact Ends.i rfl rfl
  | true =>
    rw [hb9, if_pos rfl] at hc
    rw [if_pos rfl]
    have hs := A_rstripes (c := (vs.getD k.toNat sv0).2.1) h
    have hl := strN_len (c := (vs.getD k.toNat sv0).2.1) h
    generalize (vs.getD k.toNat sv0).2.1 = c at *
    generalize strN rows c = A at *
    have hmA : (A.map spD).length = A.length := List.length_map _
    (repeat' (first
  | (apply W.qd; (first
    | (apply (yW (hc)); exact rfl; exact rfl; (iterate 3 kernel_rfl))|(apply (yW (hs)); exact rfl; exact rfl; (iterate 3 kernel_rfl))|(apply q_mv; (conv => lhs; whnf))|(apply q_as; (conv => lhs; whnf))|(apply yU; (iterate 4 exact rfl))|(apply q_not; exact rfl)|(apply yAb; exact rfl; exact rfl)
    | (apply yV; exact rfl; exact rfl)))|(apply W.ed; (apply yBb; (iterate 3 exact rfl); kernel_rfl; kernel_rfl))|(apply yA)|(apply yB)|(apply yC; kernel_rfl)|(apply yE)|(apply yH)|(apply yJ)
  | (apply yR; exact rfl)))
    all_goals exact Ends.i rfl (by rw [hmA])
theorem A_rdone39 {cs : List Cd} {vs : List Sv} {k : Int} {rows : List SRw} (h : RwIn rows) : ACalls Tryz.prog 18 [lib cs vs, iV k, rws rows] [] (bV (doneB vs k rows)) [] := by
  refine acalls_of_body Tryz.func18 rfl (Nat.le_of_ble_eq_true rfl) ?_
  have hc := A_rold (cs := cs) (vs := vs) (k := k)
  have hl := A_rleft39 (cs := cs) (vs := vs) (k := k) h
  unfold doneB
  generalize leftN39 vs k rows = n at *
  cases hb9 : chgB vs k with
  | false =>
    rw [hb9, if_neg (by decide)] at hc
    (repeat' (first
  | (apply W.qd; (first
    | (apply (yW (hc)); exact rfl; exact rfl; (iterate 3 kernel_rfl))|(apply q_mv; (conv => lhs; whnf))|(apply q_as; (conv => lhs; whnf))|(apply yU; (iterate 4 exact rfl))|(apply yAb; exact rfl; exact rfl)
    | (apply (yDb (u := .d _)); exact rfl; exact rfl)))|(apply W.ed; (apply yBb; (iterate 3 exact rfl); kernel_rfl; kernel_rfl))|(refine W.gOff _ _ rfl rfl (by intro h; cases h) ?_)|(apply yA)|(apply yB)|(apply yC; kernel_rfl)|(apply yE)
  | (apply yJ)))
    all_goals exact Ends.b rfl rfl
  | true =>
    rw [hb9, if_pos rfl] at hc
    (repeat' (first
  | (apply yFb; exact rfl; exact rfl)
  | (apply W.qd; (first
    | (apply (yW (hc)); exact rfl; exact rfl; (iterate 3 kernel_rfl))|(apply (yW (hl)); exact rfl; exact rfl; (iterate 3 kernel_rfl))|(apply q_mv; (conv => lhs; whnf))|(apply q_as; (conv => lhs; whnf))|(apply yU; (iterate 4 exact rfl))|(apply q_eql; exact rfl; exact rfl)|(apply yAb; exact rfl; exact rfl)
    | (apply (yEb (u := .d _)); exact rfl; exact rfl)))|(apply W.ed; (apply yBb; (iterate 3 exact rfl); kernel_rfl; kernel_rfl))|(apply yA)|(apply yB)|(apply yC; kernel_rfl)|(apply yE)
  | (apply yJ)))
    all_goals (refine Ends.b rfl ?_; rw [Bool.eq_iff_iff]; simp <;> omega)
theorem A_rnext39 {cs : List Cd} {vs : List Sv} {k : Int} {rows : List SRw} (h : RwIn rows) : ACalls Tryz.prog 14 [lib cs vs, iV k, rws rows] [] (nxtA (nextN vs k rows)) [] := by
  refine acalls_of_body Tryz.func14 rfl (Nat.le_of_ble_eq_true rfl) ?_
  have hc := A_rold (cs := cs) (vs := vs) (k := k)
  have hm : (vs.map svD).length = vs.length := List.length_map _
  unfold nextN
  by_cases hh : hasB vs.length k = true
  · obtain ⟨h0, h1⟩ := hasB_iff.1 hh
    rw [hh, if_neg (by simp)]
    cases hb9 : chgB vs k with
    | false =>
      rw [hb9, if_neg (by decide)] at hc
      rw [if_pos rfl]
      (repeat' (first
  | (apply yFb; exact rfl; exact rfl)
  | (apply W.qd; (first
    | (apply (yW (hc)); exact rfl; exact rfl; (iterate 3 kernel_rfl))|(apply q_mv; (conv => lhs; whnf))|(apply q_as; (conv => lhs; whnf))|(apply yS; (iterate 3 exact rfl))|(apply yT; (iterate 4 exact rfl))|(apply yU; (iterate 4 exact rfl))|(apply q_lss; exact rfl; exact rfl)|(apply q_geq; exact rfl; exact rfl)|(apply q_not; exact rfl)|(apply yAb; exact rfl; exact rfl)|(apply yV; exact rfl; exact rfl)|(apply yZ; exact rfl; exact rfl; kernel_rfl)
    | (apply (yDb (u := .d _)); exact rfl; exact rfl)))
  | (apply W.ed; (first
    | (apply yBb; (iterate 3 exact rfl); kernel_rfl; kernel_rfl)
    | (apply yCb; (iterate 3 exact rfl); kernel_rfl)))|(apply W.ln; (apply l_st_box; (iterate 6 exact rfl); (iterate 3 kernel_rfl)))|(apply yA)|(apply yB)|(apply yC; kernel_rfl)|(apply yE)|(apply yH)|(apply yJ)|(apply yP)|(apply yQ; exact rfl)|(refine W.gF _ _ rfl rfl (fun hb => ?_) (fun hb => ?_) <;> ((try simp only [hb, zA, zB]) <;> (try simp only [zC, zD, zE, zF, zG, zH, zI, zJ] at hb) <;> (try (exfalso; omega))))
  | (refine W.cond _ rfl (fun hb => ?_) (fun hb => ?_) <;> ((try simp only [hb, zA, zB]) <;> (try simp only [zC, zD, zE, zF, zG, zH, zI, zJ] at hb) <;> (try (exfalso; omega))))))
      all_goals first | (exfalso; omega) | exact Ends.cell2 rfl rfl rfl rfl rfl
    | true =>
      rw [hb9, if_pos rfl] at hc
      rw [if_neg (by simp)]
      have hs := A_rstripes (c := (vs.getD k.toNat sv0).2.1) h
      have hl := strN_len (c := (vs.getD k.toNat sv0).2.1) h
      generalize (vs.getD k.toNat sv0).2.1 = c at *
      generalize strN rows c = A at *
      cases A with
      | nil =>
        (repeat' (first
  | (apply yFb; exact rfl; exact rfl)
  | (apply W.qd; (first
    | (apply (yW (hc)); exact rfl; exact rfl; (iterate 3 kernel_rfl))|(apply (yW (hs)); exact rfl; exact rfl; (iterate 3 kernel_rfl))|(apply q_mv; (conv => lhs; whnf))|(apply q_as; (conv => lhs; whnf))|(apply yS; (iterate 3 exact rfl))|(apply yT; (iterate 4 exact rfl))|(apply yU; (iterate 4 exact rfl))|(apply q_lss; exact rfl; exact rfl)|(apply q_geq; exact rfl; exact rfl)|(apply q_eql; exact rfl; exact rfl)|(apply q_not; exact rfl)|(apply yAb; exact rfl; exact rfl)|(apply yV; exact rfl; exact rfl)|(apply yZ; exact rfl; exact rfl; kernel_rfl)
    | (apply (yDb (u := .d _)); exact rfl; exact rfl)))
  | (apply W.ed; (first
    | (apply yBb; (iterate 3 exact rfl); kernel_rfl; kernel_rfl)
    | (apply yCb; (iterate 3 exact rfl); kernel_rfl)))|(apply W.ln; (apply l_st_box; (iterate 6 exact rfl); (iterate 3 kernel_rfl)))|(apply yA)|(apply yB)|(apply yC; kernel_rfl)|(apply yE)|(apply yH)|(apply yJ)|(apply yP)|(apply yQ; exact rfl)|(apply yR; exact rfl)|(refine W.gF _ _ rfl rfl (fun hb => ?_) (fun hb => ?_) <;> ((try simp only [hb, zA, zB]) <;> (try simp only [zC, zD, zE, zF, zG, zH, zI, zJ] at hb) <;> (try (exfalso; omega))))
  | (refine W.cond _ rfl (fun hb => ?_) (fun hb => ?_) <;> ((try simp only [hb, zA, zB]) <;> (try simp only [zC, zD, zE, zF, zG, zH, zI, zJ] at hb) <;> (try (exfalso; omega))))))
        all_goals first | (exfalso; omega) | exact Ends.cell2 rfl rfl rfl rfl rfl
      | cons s A =>
        have hmA : ((s :: A).map spD).length = A.length + 1 := by simp
        (repeat' (first
  | (apply yFb; exact rfl; exact rfl)
  | (apply W.qd; (first
    | (apply (yW (hc)); exact rfl; exact rfl; (iterate 3 kernel_rfl))|(apply (yW (hs)); exact rfl; exact rfl; (iterate 3 kernel_rfl))|(apply q_mv; (conv => lhs; whnf))|(apply q_as; (conv => lhs; whnf))|(apply yS; (iterate 3 exact rfl))|(apply yT; (iterate 4 exact rfl))|(apply yU; (iterate 4 exact rfl))|(apply q_lss; exact rfl; exact rfl)|(apply q_geq; exact rfl; exact rfl)|(apply q_eql; exact rfl; exact rfl)|(apply q_not; exact rfl)|(apply yAb; exact rfl; exact rfl)|(apply yV; exact rfl; exact rfl)|(apply yY; (iterate 3 exact rfl); (first | omega | (focus (simp; done))))|(apply yGb; (iterate 4 exact rfl); (first | (with_reducible exact rfl) | exact natI_spec rfl | assumption | exact (Int.toNat_of_nonneg (by omega)).symm); (first | omega | (focus (simp only [List.length_map]; omega)) | (focus (simp; done)) | (focus (simp; omega))))
    | (apply (yDb (u := .d _)); exact rfl; exact rfl)))
  | (apply W.ed; (first
    | (apply yBb; (iterate 3 exact rfl); kernel_rfl; kernel_rfl)
    | (apply yCb; (iterate 3 exact rfl); kernel_rfl)))|(apply W.ln; (apply l_st_box; (iterate 6 exact rfl); (iterate 3 kernel_rfl)))|(apply yA)|(apply yB)|(apply yC; kernel_rfl)|(apply yE)|(apply yH)|(apply yJ)|(apply yR; exact rfl)|(refine W.gF _ _ rfl rfl (fun hb => ?_) (fun hb => ?_) <;> ((try simp only [hb, zA, zB]) <;> (try simp only [zC, zD, zE, zF, zG, zH, zI, zJ] at hb) <;> (try (exfalso; omega))))
  | (refine W.cond _ rfl (fun hb => ?_) (fun hb => ?_) <;> ((try simp only [hb, zA, zB]) <;> (try simp only [zC, zD, zE, zF, zG, zH, zI, zJ] at hb) <;> (try (exfalso; omega))))))
        all_goals first | (exfalso; omega) | exact Ends.cell2 rfl rfl rfl rfl rfl
  · have hh2 : ¬ (0 ≤ k ∧ k < (vs.length : Int)) := fun h => hh (hasB_iff.2 h)
    rw [Bool.eq_false_iff.2 hh, if_pos rfl]
    (repeat' (first
  | (apply yFb; exact rfl; exact rfl)
  | (apply W.qd; (first
    | (apply q_mv; (conv => lhs; whnf))|(apply q_as; (conv => lhs; whnf))|(apply yS; (iterate 3 exact rfl))|(apply yT; (iterate 4 exact rfl))|(apply q_lss; exact rfl; exact rfl)|(apply q_geq; exact rfl; exact rfl)|(apply yV; exact rfl; exact rfl)|(apply yZ; exact rfl; exact rfl; kernel_rfl)|(apply (yEb (u := .d _)); exact rfl; exact rfl)
    | (apply (yDb (u := .d _)); exact rfl; exact rfl)))
  | (apply W.ed; (first
    | (apply yBb; (iterate 3 exact rfl); kernel_rfl; kernel_rfl)
    | (apply yCb; (iterate 3 exact rfl); kernel_rfl)))|(apply W.ln; (apply l_st_box; (iterate 6 exact rfl); (iterate 3 kernel_rfl)))|(refine W.gOff _ _ rfl rfl (by intro h; cases h) ?_)|(apply yA)|(apply yB)|(apply yC; kernel_rfl)|(apply yE)|(apply yJ)|(apply yP)|(apply yQ; exact rfl)|(refine W.gF _ _ rfl rfl (fun hb => ?_) (fun hb => ?_) <;> ((try simp only [hb, zA, zB]) <;> (try simp only [zC, zD, zE, zF, zG, zH, zI, zJ] at hb) <;> (try (exfalso; omega))))
  | (refine W.cond _ rfl (fun hb => ?_) (fun hb => ?_) <;> ((try simp only [hb, zA, zB]) <;> (try simp only [zC, zD, zE, zF, zG, zH, zI, zJ] at hb) <;> (try (exfalso; omega))))))
    all_goals first | (exfalso; omega) | exact Ends.cell2 rfl rfl rfl rfl rfl
theorem fi_spe : fldsInt Tryz.prog 33 = some [0, 1] := by kernel_rfl
theorem A_matches39 {d r n s l i k : Int} {cs : List Cd} {vs : List Sv} {rows : List SRw} (hL : LibIn cs vs) (hB : RwB rows) : ACalls Tryz.prog 3 [cfgA d r n s l i, lib cs vs, rws rows, iV k] [] (bV true) [] := by
  refine acalls_of_body Tryz.func3 rfl (Nat.le_of_ble_eq_true rfl) ?_
  have hsa := A_sanity39
  have hva := A_valid39 (d := d) (r := r) (n := n) (s := s) (l := l) (i := i) hL hB
  cases hv : vld39 d r n s l i cs vs rows with
  | false =>
    rw [hv] at hva
    (repeat' (first
  | (apply W.qd; (first
    | (apply (yW (hva)); exact rfl; exact rfl; (iterate 3 kernel_rfl))|(apply (yW (hsa)); exact rfl; exact rfl; (iterate 3 kernel_rfl))|(apply q_mv; (conv => lhs; whnf))|(apply q_as; (conv => lhs; whnf))|(apply yU; (iterate 4 exact rfl))
    | (apply q_not; exact rfl)))|(apply W.ed; (apply yBb; (iterate 3 exact rfl); kernel_rfl; kernel_rfl))|(apply yA)|(apply yB)|(apply yC; kernel_rfl)|(apply yE)|(apply yJ)|(apply yP)
  | (apply yQ; exact rfl)))
    all_goals exact Ends.b rfl rfl
  | true =>
    rw [hv] at hva
    have hR := vld_rwin hv
    have f1 := A_next39 (cs := cs) (vs := vs) (k := k) hR
    have f2 := A_rnext39 (cs := cs) (vs := vs) (k := k) hR
    have f3 := A_left39 (cs := cs) (vs := vs) (k := k) hR
    have f4 := A_rleft39 (cs := cs) (vs := vs) (k := k) hR
    have f5 := A_done39 (cs := cs) (vs := vs) (k := k) hR
    have f6 := A_rdone39 (cs := cs) (vs := vs) (k := k) hR
    generalize nextN vs k rows = N at *
    obtain ⟨⟨n1, n2⟩, n3⟩ := N
    generalize leftN39 vs k rows = a2 at *
    generalize doneB vs k rows = a3 at *
    (repeat' (first
  | (apply yFb; exact rfl; exact rfl)
  | (apply W.qd; (first
    | (apply (yW (hva)); exact rfl; exact rfl; (iterate 3 kernel_rfl))|(apply (yW (hsa)); exact rfl; exact rfl; (iterate 3 kernel_rfl))|(apply (yW (f1)); exact rfl; exact rfl; (iterate 3 kernel_rfl))|(apply (yW (f2)); exact rfl; exact rfl; (iterate 3 kernel_rfl))|(apply (yW (f3)); exact rfl; exact rfl; (iterate 3 kernel_rfl))|(apply (yW (f4)); exact rfl; exact rfl; (iterate 3 kernel_rfl))|(apply (yW (f5)); exact rfl; exact rfl; (iterate 3 kernel_rfl))|(apply (yW (f6)); exact rfl; exact rfl; (iterate 3 kernel_rfl))|(first | (apply (q_eqsI fi_spe); (iterate 5 exact rfl)) | (apply (q_nesI fi_spe); (iterate 5 exact rfl)))|(apply q_mv; (conv => lhs; whnf))|(apply q_as; (conv => lhs; whnf))|(apply yU; (iterate 4 exact rfl))|(apply q_eql; exact rfl; exact rfl)|(apply q_not; exact rfl)|(apply yAb; exact rfl; exact rfl)|(apply (yEb (u := .d _)); exact rfl; exact rfl)
    | (apply q_eqlB; (iterate 3 exact rfl))))
  | (apply W.ed; (first
    | (apply yBb; (iterate 3 exact rfl); kernel_rfl; kernel_rfl)
    | (apply yCb; (iterate 3 exact rfl); kernel_rfl)))|(apply W.ln; (apply l_st_box; (iterate 6 exact rfl); (iterate 3 kernel_rfl)))|(apply yA)|(apply yB)|(apply yC; kernel_rfl)|(apply yD; exact rfl; kernel_rfl)|(apply yE)|(apply yF; kernel_rfl)|(apply yH)|(apply yJ)|(apply yR; exact rfl)
  | (refine W.gT _ _ rfl rfl (fun hb => ?_) (fun hb => ?_) <;> ((try simp only [hb, zA, zB]) <;> (try simp only [zC, zD, zE, zF, zG, zH, zI, zJ] at hb) <;> (try (exfalso; omega))))))
    all_goals first | (exfalso; simp at hb; done) | exact Ends.b rfl (by simp)
end Go.Proofs.YtcljokdiblnhiaaGreatDoor
end
