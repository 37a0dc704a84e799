import Derived.Test.YtplpgijpmgbaiaaGreatDoorMAdmitIsMonotone3
import Derived.Laws.CopyRow
import Derived.Laws.IdiomCopy
import Derived.Shelf.Strings.Repeat
import Derived.Shelf.Bits.Mul64
import Derived.Test.YtplpgijpmgbaiaaGreatDoorProg
import Derived.WalkKit
import Derived.WalkLawsBesides
import Derived.WalkSpells
import Derived.Handy
import Derived.PlainAid
import Derived.Outline
import Derived.Laws.OwnMore
import Derived.Laws.CopyOwn
import Derived.Deep.AppendLies
import Derived.Deep.Draws
import Derived.Deep.QuietTactic
import Derived.Deep.LoopGhost
import Derived.Deep.DeepFit
import Derived.Deep.DeepCutAuto
import Derived.Deep.RegionLaw
import Derived.Deep.RegionHeld3
import Derived.BigQuiet
import Derived.StillTailTactics
import Derived.Lib.Hide
import Derived.Carry
import Derived.Deep.Onto
import Derived.Test.YtplpgijpmgbaiaaGreatDoorChecked
import Derived.Lib.SliceRun
/- Joined texts: Ds4 Ds5 Ds6 Kern43 Shf Ds7 Ds8 Kern46 Kern47 Cl1 Cl2 Cl4 Cl5 Cl6 Cl7 Cl8 DgB DgP DgD DgD3 DgR DgL1 DgL2 Kern52 Kern53 Sp1 Sp2 Sp4 DgL6 Ad1 Ad2 Sp8 Ad3. -/
set_option linter.unusedVariables false
set_option linter.unusedSimpArgs false
namespace Go.Proofs.YtplpgijpmgbaiaaGreatDoor
open Go.RowKit
set_option maxHeartbeats 4000000
set_option maxRecDepth 100000
section
theorem wrap_sum {a : Int} {n : Nat} (ha : 1 ≤ a ∧ a ≤ 31) (hn : n ≤ 9223372036854775807) : (a + (n : Int) < 9223372036854775808 ∧ IntKind.i64.wrap (a + (n : Int)) = a + (n : Int)) ∨ (9223372036854775808 ≤ a + (n : Int) ∧ IntKind.i64.wrap (a + (n : Int)) < 0) := by
 by_cases h : a + (n : Int) < 9223372036854775808
 ·exact .inl ⟨h,wrap_in ⟨by omega,h⟩⟩
 ·refine .inr ⟨by omega, ?_⟩
  rw [IntKind.wrap_i64];omega
section
variable {P : Program} {m : Nat} {env : List (Nat × AV)} {own : List Ent} {dst : Option Tmp} {ty : TypeId} {pos : String} {af : Array Edge} {gd : Option (Nat × Bool)}
theorem q_addV (wd : Int) {t t' : TypeId} {x y : Operand} {a b : Int} (hx : lookO env x = iV a) (hy : lookO env y = iV b) (h : IntKind.i64.wrap (a + b) = wd) :
 Quiet P m ⟨dst,.binOp .add t x y t',ty,pos,af,gd⟩ env own [] (iV wd) := by
 subst h;exact q_addw hx hy
end
theorem shr8 {x : Int} (h : 0 ≤ x) : (0 < ((x.toNat >>> 8 : Nat) : Int)) ↔ 256 ≤ x := by
 rw [Nat.shiftRight_eq_div_pow];omega
theorem shr16 {x : Int} (h : 0 ≤ x) : (0 < ((x.toNat >>> 16 : Nat) : Int)) ↔ 65536 ≤ x := by
 rw [Nat.shiftRight_eq_div_pow];omega
attribute [local irreducible] Quiet Eff OpOk AWPG ACont ABlock ACalls AGoto
theorem A_lcheckG {nm : List Nat} {M D dom : Int} {par : List (List Int)} (hn : isB nm) (hnl : nm.length < 9223372036854775808) (hP : par.length ≤ 9223372036854775807) :
 ∃ e : Int,ACalls Tryz.prog 104 [cdF nm M D par dom] [] (iV e) [] ∧ (e = 0 ↔ chkC nm M D par dom = true) := by
 have hW := A_isWord hn hnl
 have hI := A_isField M
 have hmp : (par.map rD).length = par.length := List.length_map _
 obtain ⟨wd,hWe⟩ : ∃ wd,IntKind.i64.wrap (D + ((par.map rD).length : Int)) = wd := ⟨_,rfl⟩
 by_cases c1 : wordB nm = true
 case neg =>
  have c1 := Bool.eq_false_iff.2 c1
  refine ⟨4,?_,by unfold chkC;rw [c1];simp⟩
  rw [c1] at hW
  refine acalls_of_body Tryz.func104 rfl (zU rfl) ?_
  (repeat' (first
   |(apply W.qd;(first
   |((apply (q_addV wd);exact rfl;exact rfl;assumption))|(exact zW (hW))|(exact zN)|(exact jAq)|(exact jAh)|(exact q_not rfl)
   |(exact jAu)))|(apply W.ed;(exact jAa))|(apply yA)|(apply yB)|(refine jAc ?_)|(apply yE)|(apply yG)|(apply yJ)|(apply yP)|(apply yN)
   |(refine jAv ?_)))
  exact Ends.i rfl rfl
 rw [c1] at hW
 by_cases c2 : nm.length ≤ 12
 case neg =>
  refine ⟨2,?_,by unfold chkC;rw [decide_eq_false c2];simp⟩
  refine acalls_of_body Tryz.func104 rfl (zU rfl) ?_
  (repeat' (first
   |(apply W.qd;(first
   |((apply (q_addV wd);exact rfl;exact rfl;assumption))|(exact zW (hW))|(exact zN)|(exact jAq)|(exact jAh)|(exact q_gtr rfl rfl)|(exact q_not rfl)|(exact jAu)
   |(exact q_len_bs rfl rfl)))|(apply W.ed;(exact jAa))|(apply yA)|(apply yB)|(refine jAc ?_)|(apply yE)|(apply yG)|(apply yJ)|(apply yP)|(apply yN)|(refine jAx ?_)
   |(refine W.cond _ rfl (fun hb => ?_) (fun hb => ?_) <;> ((try simp only [hb,zK]) <;> (try simp only [zL,zI] at hb) <;> (try (exfalso;omega))))))
  exact Ends.i rfl rfl
 by_cases c3 : (M = 8 ∨ M = 16) ∧ 1 ≤ D ∧ D ≤ 31 ∧ par.length ≠ 0
 case neg =>
  refine ⟨1,?_,?_⟩
  ·refine acalls_of_body Tryz.func104 rfl (zU rfl) ?_
   (repeat' (first
    |(apply yFb;exact rfl;exact rfl)
    |(apply W.qd;(first
    |((apply (q_addV wd);exact rfl;exact rfl;assumption))|(exact zW (hW))|(exact zW (hI))|(exact zM)|(exact zN)|(exact jAq)|(exact jAh)|(exact jAk)|(exact q_gtr rfl rfl)|(exact q_eql rfl rfl)|(exact q_not rfl)|(exact jAu)|(exact q_len_bs rfl rfl)|(apply (yEb (u := .d _));exact rfl;exact rfl)
    |(apply (yDb (u := .d _));exact rfl;exact rfl)))|(apply W.ed;(exact jAa))|(refine W.gOff _ _ rfl rfl (by intro h;cases h) ?_)|(apply yA)|(apply yB)|(refine jAc ?_)|(apply yE)|(apply yG)|(apply yJ)|(apply yP)|(apply yN)|(refine jAv ?_)|(refine jAx ?_)|(refine W.gF _ _ rfl rfl (fun hb => ?_) (fun hb => ?_) <;> ((try simp only [hb,zK]) <;> (try simp only [zL,zI] at hb) <;> (try (exfalso;omega))))
    |(refine W.cond _ rfl (fun hb => ?_) (fun hb => ?_) <;> ((try simp only [hb,zK]) <;> (try simp only [zL,zI] at hb) <;> (try (exfalso;omega))))))
   all_goals first | exact Ends.i rfl rfl | (exfalso;apply c3;refine ⟨by assumption,by omega,by omega,by omega⟩)
  ·refine ⟨fun h => by omega, fun h => ?_⟩
   unfold chkC at h
   simp only [Bool.and_eq_true,decide_eq_true_eq] at h
   exact absurd ⟨h.1.1.2.1.1.1.1,h.1.1.2.1.1.1.2,h.1.1.2.1.1.2,h.1.1.2.1.2⟩ c3
 obtain ⟨c3,c4,c5,c6⟩ := c3
 rw [decide_eq_true c3] at hI
 have hWv := wrap_sum (a := D) (n := par.length) (by omega) hP
 rw [← hmp,hWe,hmp] at hWv
 by_cases c7 : wd ≤ 32
 case neg =>
  refine ⟨2,?_,by unfold chkC;rw [decide_eq_false (show ¬ D + (par.length : Int) ≤ 32 by omega)];simp⟩
  refine acalls_of_body Tryz.func104 rfl (zU rfl) ?_
  (repeat' (first
   |(apply yFb;exact rfl;exact rfl)
   |(apply W.qd;(first
   |((apply (q_addV wd);exact rfl;exact rfl;assumption))|(exact zW (hW))|(exact zW (hI))|(exact zM)|(exact zN)|(exact jAq)|(exact jAh)|(exact jAk)|(exact q_gtr rfl rfl)|(exact q_eql rfl rfl)|(exact q_not rfl)|(exact jAu)|(exact q_len_bs rfl rfl)
   |(apply (yDb (u := .d _));exact rfl;exact rfl)))|(apply W.ed;(exact jAa))|(apply yA)|(apply yB)|(refine jAc ?_)|(apply yE)|(apply yG)|(apply yJ)|(apply yP)|(apply yN)|(refine jAx ?_)|(refine W.gF _ _ rfl rfl (fun hb => ?_) (fun hb => ?_) <;> ((try simp only [hb,zK]) <;> (try simp only [zL,zI] at hb) <;> (try (exfalso;omega))))
   |(refine W.cond _ rfl (fun hb => ?_) (fun hb => ?_) <;> ((try simp only [hb,zK]) <;> (try simp only [zL,zI] at hb) <;> (try (exfalso;omega))))))
  exact Ends.i rfl rfl
 have hall : ∀ e : Int,(par.all (rowOk M D) = false → e = 1) → (par.all (rowOk M D) = true → e = if 1 ≤ dom ∧ dom ≤ wd then 0 else 1) → ACalls Tryz.prog 104 [cdF nm M D par dom] [] (iV e) [] := fun e he0 he1 => by
  refine acalls_of_body Tryz.func104 rfl (zU rfl) ?_
  (repeat' (first
   |(apply yFb;exact rfl;exact rfl)
   |(apply W.qd;(first
   |((apply (q_addV wd);exact rfl;exact rfl;assumption))|(exact zW (hW))|(exact zW (hI))|(exact zM)|(exact zN)|(exact jAq)|(exact jAh)|(exact jAk)|(exact q_gtr rfl rfl)|(exact q_eql rfl rfl)|(exact q_not rfl)|(exact jAu)|(exact q_len_bs rfl rfl)
   |(apply (yDb (u := .d _));exact rfl;exact rfl)))|(apply W.ed;(exact jAa))|(apply yA)|(apply yB)|(apply (W.regionS 11);exact rfl;kernel_rfl)|(apply yE)|(apply yG)|(apply yH)|(apply yL)|(refine jAx ?_)|(refine W.gF _ _ rfl rfl (fun hb => ?_) (fun hb => ?_) <;> ((try simp only [hb,zK]) <;> (try simp only [zL,zI] at hb) <;> (try (exfalso;omega))))
   |(refine W.cond _ rfl (fun hb => ?_) (fun hb => ?_) <;> ((try simp only [hb,zK]) <;> (try simp only [zL,zI] at hb) <;> (try (exfalso;omega))))))
  refine AWP.loopW (α := Nat) (fun k => k ≤ par.length ∧ ∀ j,j < k → rowOk M D (par.getD j []) = true) (fun k => ⟨[(49,iV k),(48,iV par.length),(47,rowsA par),(3,iV wd),(1,.opt 0 0)],[.box [bS nm,iV M,iV D,rowsA par,iV dom]]⟩) (fun k => par.length - k) 0 ⟨Nat.zero_le _,fun j hj => by omega⟩ ?wk0 fun k hk => ?_
  case wk0 => exact ⟨[0],rfl,rfl,rfl,rfl,iV_eq (by omega),rfl,rfl,rfl,trivial⟩
  by_cases hkl : k < par.length
  ·have eg : par.getD k [] = par[k] := by rw [List.getD_eq_getElem?_getD, List.getElem?_eq_getElem hkl]; rfl
   have hnext : rowOk M D par[k] = true → ∀ j,j < k + 1 → rowOk M D (par.getD j []) = true := fun h j hj => by
    by_cases e : j = k
    ·subst e;rw [eg];exact h
    ·exact hk.2 j (by omega)
   have hbad : rowOk M D par[k] = false → e = 1 := fun h => he0 (by rw [List.all_eq_false];exact ⟨par[k],List.getElem_mem hkl,by rw [h];decide⟩)
   generalize hr : par[k] = r at hnext hbad
   have hmr : (r.map iD).length = r.length := List.length_map _
   by_cases hrl : (r.length : Int) = D
   ·have h0 : 0 < r.length := by omega
    have hmn := A_minI h0 (by omega)
    have hmx := A_maxI h0 (by omega)
    have hro := rowOk_min (M := M) c3 hrl h0
    generalize minK r (r.length - 1) = mn at *
    generalize maxK r (r.length - 1) = mx at *
    rw [← hr] at hmn hmx hrl
    clear he0 he1 hk
    rcases c3 with rfl | rfl
    ·rw [if_pos rfl] at hro
     have hsh := fun h => shr8 (x := mx) h
     replace hro := Lib.hid hro
     (repeat' (first
      |(apply yFb;exact rfl;exact rfl)
      |(apply W.qd;(first
      |(exact zW (hmn))|(exact zW (hmx))|(exact zM)|(exact zN)|(exact jAq)|(exact jAh)|(exact jAk)|(exact q_gtr rfl rfl)|(exact q_neq rfl rfl)|(exact jAl)|(exact jAu)|(exact jAg)|(exact jA)|(apply (yEb (u := .d _));exact rfl;exact rfl)|(apply (yDb (u := .d _));exact rfl;exact rfl)
      |(exact jAn)))|(refine W.gOff _ _ rfl rfl (by intro h;cases h) ?_)|(apply yA)|(apply yB)|(refine jAc ?_)|(refine jAs ?_)|(apply yE)|(refine jBa ?_)|(apply yG)|(apply yH)|(apply yJ)|(apply yP)|(apply yL)|(apply yN)|(refine jAv ?_)|(refine W.gF _ _ rfl rfl (fun hb => ?_) (fun hb => ?_) <;> ((try simp only [hb,zK]) <;> (try simp only [zL,zI] at hb) <;> (try (exfalso;omega))))
      |(refine W.cond _ rfl (fun hb => ?_) (fun hb => ?_) <;> ((try simp only [hb,zK]) <;> (try simp only [zL,zI] at hb) <;> (try (exfalso;omega))))))
     all_goals first
      |(refine Ends.i rfl (hbad ?_).symm;rw [hro.out,Bool.and_eq_false_iff,Bool.and_eq_false_iff,decide_eq_false_iff_not,decide_eq_false_iff_not,decide_eq_false_iff_not];omega)|(refine ⟨k + 1,⟨by omega,hnext ?_⟩,by omega,[0],rfl,rfl,rfl,iV_eq (by omega),rfl,rfl,rfl,rfl,trivial⟩;rw [hro.out,Bool.and_eq_true,Bool.and_eq_true,decide_eq_true_eq,decide_eq_true_eq,decide_eq_true_eq];omega)
    ·rw [if_neg (by decide)] at hro
     have hsh := fun h => shr16 (x := mx) h
     replace hro := Lib.hid hro
     (repeat' (first
      |(apply yFb;exact rfl;exact rfl)
      |(apply W.qd;(first
      |(exact zW (hmn))|(exact zW (hmx))|(exact zM)|(exact zN)|(exact jAq)|(exact jAh)|(exact jAk)|(exact q_gtr rfl rfl)|(exact q_neq rfl rfl)|(exact jAl)|(exact jAu)|(exact jAg)|(exact jA)|(apply (yEb (u := .d _));exact rfl;exact rfl)|(apply (yDb (u := .d _));exact rfl;exact rfl)
      |(exact jAn)))|(refine W.gOff _ _ rfl rfl (by intro h;cases h) ?_)|(apply yA)|(apply yB)|(refine jAc ?_)|(refine jAs ?_)|(apply yE)|(refine jBa ?_)|(apply yG)|(apply yH)|(apply yJ)|(apply yP)|(apply yL)|(apply yN)|(refine jAv ?_)|(refine W.gF _ _ rfl rfl (fun hb => ?_) (fun hb => ?_) <;> ((try simp only [hb,zK]) <;> (try simp only [zL,zI] at hb) <;> (try (exfalso;omega))))
      |(refine W.cond _ rfl (fun hb => ?_) (fun hb => ?_) <;> ((try simp only [hb,zK]) <;> (try simp only [zL,zI] at hb) <;> (try (exfalso;omega))))))
     all_goals first
      |(refine Ends.i rfl (hbad ?_).symm;rw [hro.out,Bool.and_eq_false_iff,Bool.and_eq_false_iff,decide_eq_false_iff_not,decide_eq_false_iff_not,decide_eq_false_iff_not];omega)|(refine ⟨k + 1,⟨by omega,hnext ?_⟩,by omega,[0],rfl,rfl,rfl,iV_eq (by omega),rfl,rfl,rfl,rfl,trivial⟩;rw [hro.out,Bool.and_eq_true,Bool.and_eq_true,decide_eq_true_eq,decide_eq_true_eq,decide_eq_true_eq];omega)
   ·have hb0 : e = 1 := hbad (by unfold rowOk; rw [decide_eq_false hrl]; rfl)
    rw [← hr] at hrl
    clear he0 he1 hk
    (repeat' (first
     |(apply W.qd;(first
     |(exact zM)|(exact zN)|(exact jAq)|(exact jAh)|(exact jAk)|(exact q_neq rfl rfl)|(exact jAu)|(exact jAg)|(exact jA)
     |(apply (yEb (u := .d _));exact rfl;exact rfl)))|(refine W.gOff _ _ rfl rfl (by intro h;cases h) ?_)|(apply yA)|(apply yB)|(refine jAc ?_)|(refine jAs ?_)|(apply yE)|(refine jBa ?_)|(apply yG)|(apply yH)|(apply yJ)|(apply yP)|(apply yN)|(refine jAv ?_)|(refine W.gF _ _ rfl rfl (fun hb => ?_) (fun hb => ?_) <;> ((try simp only [hb,zK]) <;> (try simp only [zL,zI] at hb) <;> (try (exfalso;omega))))
     |(refine W.cond _ rfl (fun hb => ?_) (fun hb => ?_) <;> ((try simp only [hb,zK]) <;> (try simp only [zL,zI] at hb) <;> (try (exfalso;omega))))))
    all_goals first | exact Ends.i rfl hb0.symm | (exfalso;omega)
  ·have ha : par.all (rowOk M D) = true := by
    rw [List.all_eq_true]
    intro r hr
    obtain ⟨j,hj,rfl⟩ := List.getElem_of_mem hr
    have := hk.2 j (by omega)
    rwa [List.getD_eq_getElem?_getD,List.getElem?_eq_getElem hj] at this
   have he := he1 ha
   clear he0 he1 hk
   (repeat' (first
    |(apply yFb;exact rfl;exact rfl)
    |(apply W.qd;(first
    |(exact zM)|(exact zN)|(exact jAq)|(exact jAh)|(exact jAk)|(exact q_gtr rfl rfl)|(apply (yEb (u := .d _));exact rfl;exact rfl)
    |(apply (yDb (u := .d _));exact rfl;exact rfl)))|(refine W.gOff _ _ rfl rfl (by intro h;cases h) ?_)|(apply yA)|(apply yB)|(refine jAc ?_)|(apply yE)|(apply yH)|(apply yI)|(apply yJ)|(apply yK)|(apply yP)|(apply yM)|(refine jAv ?_)|(refine W.gF _ _ rfl rfl (fun hb => ?_) (fun hb => ?_) <;> ((try simp only [hb,zK]) <;> (try simp only [zL,zI] at hb) <;> (try (exfalso;omega))))
    |(refine W.cond _ rfl (fun hb => ?_) (fun hb => ?_) <;> ((try simp only [hb,zK]) <;> (try simp only [zL,zI] at hb) <;> (try (exfalso;omega))))))
   all_goals (refine Ends.i rfl ?_;rw [he];first | (rw [if_pos (by omega)];done) | (rw [if_neg (by omega)];done))
 by_cases c8 : D + (par.length : Int) ≤ 32
 case neg =>
  refine ⟨1,hall 1 (fun _ => rfl) (fun _ => by rw [if_neg (by omega)]),by unfold chkC;rw [decide_eq_false c8];simp⟩
 have hWq : wd = D + (par.length : Int) := by omega
 rw [hWq] at hall
 have hc : chkC nm M D par dom = (par.all (rowOk M D) && (decide (1 ≤ dom) && decide (dom ≤ D + (par.length : Int)))) := by
  unfold chkC
  rw [c1,decide_eq_true c2,decide_eq_true c3,decide_eq_true c4,decide_eq_true c5,decide_eq_true c6,decide_eq_true c8]
  rfl
 refine ⟨if par.all (rowOk M D) = true then (if 1 ≤ dom ∧ dom ≤ D + (par.length : Int) then 0 else 1) else 1,hall _ (fun h => by rw [h];rfl) (fun h => by rw [if_pos h]),?_⟩
 rw [hc]
 cases par.all (rowOk M D) with
 | false => simp
 | true =>
   rw [if_pos rfl,Bool.true_and,Bool.and_eq_true,decide_eq_true_eq,decide_eq_true_eq]
   split <;> simp_all
theorem A_lcheck {nm : List Nat} {M D dom : Int} {par : List (List Int)} (hn : isB nm) (hnl : nm.length < 9223372036854775808) (hD : 0 ≤ D ∧ D ≤ 1000000) (hP : par.length ≤ 1000000) :
 ∃ e : Int,ACalls Tryz.prog 104 [cdF nm M D par dom] [] (iV e) [] ∧ (e = 0 ↔ chkC nm M D par dom = true) := A_lcheckG hn hnl (by omega)
end
section
def upK (hv : List Bool) (k : Nat) : List Nat := (List.range k).filter fun i => hv.getD i false
theorem upK_succ (hv : List Bool) (k : Nat) : upK hv (k + 1) = if hv.getD k false = true then upK hv k ++ [k] else upK hv k := by
 unfold upK
 rw [List.range_succ,List.filter_append]
 cases h : hv.getD k false with
 | true => rw [if_pos rfl];simp only [List.filter_cons,h,if_true,List.filter_nil]
 | false => rw [if_neg (by decide)];simp only [List.filter_cons,h,Bool.false_eq_true,if_false,List.filter_nil,List.append_nil]
theorem upK_len (hv : List Bool) (k : Nat) : (upK hv k).length ≤ k := Nat.le_trans (List.length_filter_le _ _) (by simp)
def badF (g : List Nat → Bool) (S : List (List Nat)) : Option (List Nat) := S.find? fun s => !g s
theorem badF_app (g : List Nat → Bool) (A B : List (List Nat)) : badF g (A ++ B) = (badF g A).or (badF g B) := List.find?_append
def subT (l : List Nat) (i k : Nat) (set : List Nat) : List (List Nat) := (subsN (l.drop i) (k - set.length)).map (set ++ ·)
theorem subT_step {l : List Nat} {i k : Nat} {set : List Nat} (hi : i < l.length) (hs : set.length < k) : subT l i k set = subT l (i + 1) k (set ++ [l[i]]) ++ subT l (i + 1) k set := by
 unfold subT
 rw [List.drop_eq_getElem_cons hi,show k - set.length = (k - set.length - 1) + 1 by omega,subsN,List.map_append,List.map_map]
 rw [show k - (set ++ [l[i]]).length = k - set.length - 1 by simp;omega]
 congr 1
 congr 1
 funext s
 simp
theorem subT_full {l : List Nat} {i k : Nat} {set : List Nat} (h : set.length = k) : subT l i k set = [set] := by
 unfold subT
 rw [show k - set.length = 0 by omega]
 have : subsN (l.drop i) 0 = [[]] := by unfold subsN;rfl
 rw [this];simp
theorem subT_end {l : List Nat} {k : Nat} {set : List Nat} (h : set.length < k) : subT l l.length k set = [] := by
 unfold subT
 rw [show k - set.length = (k - set.length - 1) + 1 by omega,List.drop_length,subsN];rfl
attribute [local irreducible] Quiet Eff OpOk AWPG ACont ABlock ACalls AGoto
theorem A_present {hv : List Bool} (hl : hv.length ≤ 1000000) : ACalls Tryz.prog 301 [bools hv] [] (nats (upN hv)) [] := by
 refine acalls_of_body Tryz.func301 rfl (zU rfl) ?_
 have hmh : (hv.map tD).length = hv.length := List.length_map _
 (repeat' (first
  |(apply W.qd;(exact zN))|(apply yA)|(apply yB)|(apply (W.regionS 1);exact rfl;kernel_rfl)
  |(apply yE)))
 refine AWP.nilRow 2 1 3 rfl (by omega) ?_
 (repeat' (first
  |(apply W.qd;(first
  |(exact zM)
  |(exact jAu)))|(apply yB)|(refine jAc ?_)|(apply yE)
  |(apply yG)))
 refine AWP.loopW (α := Nat) (fun k => k ≤ hv.length) (fun k => ⟨[(7,iV k),(6,iV hv.length),(5,bools hv),(2,.osl 0 (upK hv k).length 0 (upK hv k).length)],[.row (upK hv k).length 1 3 ((upK hv k).map kD)]⟩) (fun k => hv.length - k) 0 (Nat.zero_le _) ?wk0 fun k hk => ?_
 case wk0 => exact ⟨[0],rfl,rfl,rfl,rfl,iV_eq (by rw [hmh]),rfl,rfl,trivial⟩
 have hln := upK_len hv k
 by_cases hkl : k < hv.length
 ·have eg : hv.getD k false = hv[k] := by rw [List.getD_eq_getElem?_getD, List.getElem?_eq_getElem hkl]; rfl
  have hs := Lib.hid (upK_succ hv k)
  rw [eg] at hs
  generalize upK hv k = A at *
  (repeat' (first
   |(apply W.qd;(first
   |(exact zM)|(exact zN)|(exact jAk)|(exact jAl)|(exact jAg)|(exact jAp)
   |(exact jA)))|(apply W.ld;(apply l_app1;(iterate 8 exact rfl);(first | omega | (focus (simp;omega)) | (focus (simp;done)))))|(apply yA)|(apply yB)|(refine jAc ?_)|(apply yE)|(apply yG)|(apply yH)|(apply yL)
   |(refine W.cond _ rfl (fun hb => ?_) (fun hb => ?_) <;> ((try simp only [hb,zK]) <;> (try simp only [zL,zI] at hb) <;> (try (exfalso;omega))))))
  ·replace hs := Lib.hid (hs.out.trans (if_pos hb))
   refine ⟨k + 1,by omega,by omega,?_⟩
   rw [hs.out,show (A ++ [k]).length = A.length + 1 by simp]
   exact ⟨[0],rfl,rfl,rfl,iV_eq (by omega),rfl,rfl,congrArg (AV.osl 0 (A.length + 1) 0) (by simp),trivial⟩
  ·replace hs := Lib.hid (hs.out.trans (if_neg (by rw [hb]; decide)))
   refine ⟨k + 1,by omega,by omega,?_⟩
   rw [hs.out]
   exact ⟨[0],rfl,rfl,rfl,iV_eq (by omega),rfl,rfl,rfl,trivial⟩
 ·have e : k = hv.length := by omega
  subst e
  rw [show upN hv = upK hv hv.length from rfl]
  generalize upK hv hv.length = A at *
  (repeat' (first
   |(apply W.qd;(first
   |(exact zM)|(exact zN)
   |(exact jAk)))|(apply yA)|(apply yB)|(refine jAc ?_)|(apply yE)|(apply yI)|(apply yJ)|(apply yK)|(apply yM)
   |(refine W.cond _ rfl (fun hb => ?_) (fun hb => ?_) <;> ((try simp only [hb,zK]) <;> (try simp only [zL,zI] at hb) <;> (try (exfalso;omega))))))
  exact Ends.osl rfl rfl (by simp) rfl
theorem A_cloneN {l : List Nat} (h0 : 0 < l.length) (hl : l.length ≤ 1000000) : ACalls Tryz.prog 281 [nats l] [] (nats l) [] := by
 refine acalls_of_body Tryz.func281 rfl (zU rfl) ?_
 have hm : (l.map kD).length = l.length := List.length_map _
 (repeat' (first
  |(apply W.ed;(apply e_lit0F;(iterate 5 exact rfl)))
  |(apply W.qd;(first
  |(exact zM)|(exact zN)
  |(apply q_eqnilm;(iterate 3 exact rfl);(first | assumption | omega))))|(apply W.ed;(apply e_appF;(iterate 8 exact rfl);(first | rfl | simp);(first | exact Nat.zero_lt_one | (focus (simp;done)) | omega);(first | (focus (simp;done)) | (focus (simp;omega)) | omega)))|(apply yA)|(apply yB)|(refine jAc ?_)|(apply yE)|(apply yH)|(apply yJ)
  |(refine jAx ?_)))
 exact Ends.osl rfl rfl (by simp) rfl
abbrev subO (E0 E1 E2 E3 E4 : Ent) (l : List Nat) (k : Nat) (L : Ent) : List Ent := [E0,E1,E2,E3,E4,.box [nats l],.box [iV k],L,.box [.yl 7],.box [.fn 310 [.opt 6 0,.opt 8 0,.opt 5 0,.opt 9 0]]]
def outB (o : Option (List Nat)) : Bool := o.isNone
section
variable {l : List Nat} {k : Nat} {g : List Nat → Bool} {E0 E1 E2 E3 E4 L : Ent} {F2 F7 : Ent} {F3 : List Nat → Ent}
abbrev subE (o : Option (List Nat)) (F : List Nat → Ent) (E : Ent) : Ent := match o with | none => E | some s => F s
abbrev subX (E0 E1 E2 E3 E4 : Ent) (l : List Nat) (k : Nat) (L : Ent) (F2 F7 : Ent) (F3 : List Nat → Ent) (o : Option (List Nat)) : List Ent := subO E0 E1 (subE o (fun _ => F2) E2) (subE o F3 E3) E4 l k (subE o (fun _ => F7) L)
theorem A_fromStep {i : Nat} {set : List Nat} (hl : l.length ≤ 1000) (hk1 : 1 ≤ k) (hk : k ≤ 1000)
 (hY : ∀ s : List Nat,s.Sublist l → s.length = k → YAt Tryz.prog 7 (subO E0 E1 E2 E3 E4 l k L) [nats s] (g s) (if g s = true then subO E0 E1 E2 E3 E4 l k L else subO E0 E1 F2 (F3 s) E4 l k F7))
 (hi : i ≤ l.length) (hs : set.length ≤ k) (hsub : set.Sublist (l.take i))
 (ih : ∀ (j : Nat) (set' : List Nat), i < j → j ≤ l.length → set'.length ≤ k → set'.Sublist (l.take j) →
  ACalls Tryz.prog 310 [iV j,nats set',.opt 6 0,.opt 8 0,.opt 5 0,.opt 9 0] (subO E0 E1 E2 E3 E4 l k L) (bV (outB (badF g (subT l j k set')))) (subX E0 E1 E2 E3 E4 l k L F2 F7 F3 (badF g (subT l j k set')))) :
 ACalls Tryz.prog 310 [iV i,nats set,.opt 6 0,.opt 8 0,.opt 5 0,.opt 9 0] (subO E0 E1 E2 E3 E4 l k L) (bV (outB (badF g (subT l i k set)))) (subX E0 E1 E2 E3 E4 l k L F2 F7 F3 (badF g (subT l i k set))) := by
 have hms : (set.map kD).length = set.length := List.length_map _
 have hml : (l.map kD).length = l.length := List.length_map _
 by_cases hfull : set.length = k
 ·have hy := hY set (hsub.trans (List.take_sublist _ _)) hfull
  have hcl := A_cloneN (l := set) (by omega) (by omega)
  rw [subT_full hfull]
  have hb0 : badF g [set] = if g set = true then none else some set := by
   unfold badF
   cases hg : g set <;> simp [hg]
  rw [hb0]
  cases hg : g set with
  | true =>
    rw [hg,if_pos rfl] at hy
    rw [if_pos rfl]
    refine acalls_of_bodyS Tryz.func310 rfl (zU rfl) ?_
    (repeat' (first
     |(apply W.qd;(first
     |(exact zW (hcl))|(exact zM)|(exact zN)|(exact jAh)|(exact q_eql rfl rfl)
     |(exact jAu)))|(apply W.ed;((exact e_yield hy rfl rfl)))|(apply yA)|(apply yB)|(refine jAc ?_)|(refine jAs ?_)|(apply yE)|(refine jBa ?_)|(apply yJ)|(apply yP)
     |(refine W.cond _ rfl (fun hb => ?_) (fun hb => ?_) <;> ((try simp only [hb,zK]) <;> (try simp only [zL,zI] at hb) <;> (try (exfalso;omega))))))
    exact EndsS.b rfl rfl
  | false =>
    rw [hg,if_neg (by decide)] at hy
    rw [if_neg (by decide)]
    refine acalls_of_bodyS Tryz.func310 rfl (zU rfl) ?_
    (repeat' (first
     |(apply W.qd;(first
     |(exact zW (hcl))|(exact zM)|(exact zN)|(exact jAh)|(exact q_eql rfl rfl)
     |(exact jAu)))|(apply W.ed;((exact e_yield hy rfl rfl)))|(apply yA)|(apply yB)|(refine jAc ?_)|(refine jAs ?_)|(apply yE)|(refine jBa ?_)|(apply yJ)|(apply yP)
     |(refine W.cond _ rfl (fun hb => ?_) (fun hb => ?_) <;> ((try simp only [hb,zK]) <;> (try simp only [zL,zI] at hb) <;> (try (exfalso;omega))))))
    exact EndsS.b rfl rfl
 ·generalize hR : badF g (subT l i k set) = R
  refine acalls_of_bodyS Tryz.func310 rfl (zU rfl) ?_
  (repeat' (first
   |(apply W.qd;(first
   |(exact zM)|(exact zN)|(exact jAh)|(exact q_eql rfl rfl)
   |(exact jAu)))|(apply yA)|(apply yB)|(refine jAc ?_)|(apply yE)|(apply yG)|(apply yH)
   |(refine W.cond _ rfl (fun hb => ?_) (fun hb => ?_) <;> ((try simp only [hb,zK]) <;> (try simp only [zL,zI] at hb) <;> (try (exfalso;omega))))))
  refine AWP.loopE (α := Nat) (fun j => i ≤ j ∧ j ≤ l.length ∧ badF g (subT l j k set) = R) (fun j => ⟨[(0,iV j),(1,nats set),(2,.opt 6 0),(3,.opt 8 0),(4,.opt 5 0),(5,.opt 9 0)],subO E0 E1 E2 E3 E4 l k L⟩) (fun j => l.length - j) i ⟨Nat.le_refl _,hi,hR⟩ ⟨rfl,by (repeat (first | exact trivial | refine ⟨rfl,?_⟩))⟩ fun j hj => ?_
  obtain ⟨hj1,hj2,hj3⟩ := hj
  by_cases hjl : j < l.length
  ·have hst := subT_step (k := k) (set := set) hjl (by omega)
   have hih := ih (j + 1) (set ++ [l[j]]) (by omega) (by omega) (by simp;omega) (by
    rw [List.take_succ_eq_append_getElem hjl]
    refine List.Sublist.append (hsub.trans ?_) (List.Sublist.refl _)
    have : l.take i = (l.take j).take i := by rw [List.take_take,Nat.min_eq_left hj1]
    rw [this];exact List.take_sublist _ _)
   rw [hst,badF_app] at hj3
   rw [show nats (set ++ [l[j]]) = .d (.sl 1 (set.map kD ++ [kD l[j]])) by show AV.d (.sl 1 ((set ++ [l[j]]).map kD)) = _;rw [List.map_append];rfl] at hih
   have ej : iV ((j + 1 : Nat) : Int) = iV ((j : Int) + 1) := iV_eq (by omega)
   rw [ej] at hih
   cases hB : badF g (subT l (j + 1) k (set ++ [l[j]])) with
   | none =>
     rw [hB] at hih hj3
     clear ih hY
     (repeat' (first
      |(apply W.qd;(first
      |(exact zM)|(exact zN)|(exact jAh)|(exact jAk)|(exact q_not rfl)|(exact jAl)|(exact jAu)|(exact jAg)|(exact jAp)|(exact jA)|(apply q_slc3;(iterate 3 exact rfl);(first | exact ⟨_,_,rfl,rfl⟩ | exact ⟨_,_,rfl,natI_spec rfl⟩ | exact ⟨_,_,rfl,(Int.toNat_of_nonneg (by omega)).symm⟩ | exact rfl);(first | exact ⟨_,_,rfl,rfl⟩ | exact ⟨_,_,rfl,natI_spec rfl⟩ | exact ⟨_,_,rfl,(Int.toNat_of_nonneg (by omega)).symm⟩ | exact rfl);exact rfl;exact rfl)
      |(apply q_appcl;(iterate 6 exact rfl);(first | exact Nat.zero_lt_one | (focus (simp;done)) | omega);(first | (focus (simp;done)) | (focus (simp;omega)) | omega))))|(apply W.ed;((exact e_callA hih rfl rfl rfl)))|(apply yA)|(apply yB)|(refine jAc ?_)|(refine jAs ?_)|(apply yE)|(refine jBa ?_)|(apply yG)|(apply yH)|(apply yL)|(refine jAx ?_)
      |(refine W.cond _ rfl (fun hb => ?_) (fun hb => ?_) <;> ((try simp only [hb,zK]) <;> (try simp only [zL,zI] at hb) <;> (try (exfalso;omega))))))
     exact ⟨j + 1,⟨by omega,by omega,hj3⟩,by omega,rfl,iV_eq (by omega),rfl,rfl,rfl,rfl,rfl,trivial⟩
   | some s =>
     rw [hB] at hih hj3
     obtain rfl : some s = R := hj3
     clear ih hY
     (repeat' (first
      |(apply W.qd;(first
      |(exact zM)|(exact zN)|(exact jAh)|(exact jAk)|(exact q_not rfl)|(exact jAl)|(exact jAu)|(exact jAg)|(exact jAp)|(exact jA)|(apply q_slc3;(iterate 3 exact rfl);(first | exact ⟨_,_,rfl,rfl⟩ | exact ⟨_,_,rfl,natI_spec rfl⟩ | exact ⟨_,_,rfl,(Int.toNat_of_nonneg (by omega)).symm⟩ | exact rfl);(first | exact ⟨_,_,rfl,rfl⟩ | exact ⟨_,_,rfl,natI_spec rfl⟩ | exact ⟨_,_,rfl,(Int.toNat_of_nonneg (by omega)).symm⟩ | exact rfl);exact rfl;exact rfl)
      |(apply q_appcl;(iterate 6 exact rfl);(first | exact Nat.zero_lt_one | (focus (simp;done)) | omega);(first | (focus (simp;done)) | (focus (simp;omega)) | omega))))|(apply W.ed;((exact e_callA hih rfl rfl rfl)))|(apply yA)|(apply yB)|(refine jAc ?_)|(refine jAs ?_)|(apply yE)|(refine jBa ?_)|(apply yG)|(apply yH)|(apply yJ)|(apply yP)|(apply yN)|(refine jAv ?_)
      |(refine W.cond _ rfl (fun hb => ?_) (fun hb => ?_) <;> ((try simp only [hb,zK]) <;> (try simp only [zL,zI] at hb) <;> (try (exfalso;omega))))))
     exact EndsS.b rfl rfl
  ·have ejl : j = l.length := by omega
   subst ejl
   rw [subT_end (by omega)] at hj3
   obtain rfl : none = R := hj3
   clear ih hY
   (repeat' (first
    |(apply W.qd;(first
    |(exact zM)|(exact zN)|(exact jAh)|(exact jAk)
    |(exact jAu)))|(apply yA)|(apply yB)|(refine jAc ?_)|(apply yE)|(apply yI)|(apply yJ)|(apply yK)|(apply yM)
    |(refine W.cond _ rfl (fun hb => ?_) (fun hb => ?_) <;> ((try simp only [hb,zK]) <;> (try simp only [zL,zI] at hb) <;> (try (exfalso;omega))))))
   exact EndsS.b rfl rfl
theorem A_from (hl : l.length ≤ 1000) (hk1 : 1 ≤ k) (hk : k ≤ 1000)
 (hY : ∀ s : List Nat,s.Sublist l → s.length = k → YAt Tryz.prog 7 (subO E0 E1 E2 E3 E4 l k L) [nats s] (g s) (if g s = true then subO E0 E1 E2 E3 E4 l k L else subO E0 E1 F2 (F3 s) E4 l k F7)) :
 ∀ (n i : Nat) (set : List Nat),l.length - i ≤ n → i ≤ l.length → set.length ≤ k → set.Sublist (l.take i) →
 ACalls Tryz.prog 310 [iV i,nats set,.opt 6 0,.opt 8 0,.opt 5 0,.opt 9 0] (subO E0 E1 E2 E3 E4 l k L) (bV (outB (badF g (subT l i k set)))) (subX E0 E1 E2 E3 E4 l k L F2 F7 F3 (badF g (subT l i k set)))
 | 0,i,set,hn,hi,hs,hsub => A_fromStep hl hk1 hk hY hi hs hsub fun j set' h1 h2 => by omega
 | n + 1,i,set,hn,hi,hs,hsub => A_fromStep hl hk1 hk hY hi hs hsub fun j set' h1 h2 h3 h4 => A_from hl hk1 hk hY n j set' (by omega) h2 h3 h4
theorem A_subIter {R : Option (List Nat)} (hl : l.length ≤ 1000) (hk1 : 1 ≤ k) (hk : k ≤ 1000) (hB : badF g (subsN l k) = R)
 (hY : ∀ s : List Nat,s.Sublist l → s.length = k → YAt Tryz.prog 7 (subO E0 E1 E2 E3 E4 l k L) [nats s] (g s) (if g s = true then subO E0 E1 E2 E3 E4 l k L else subO E0 E1 F2 (F3 s) E4 l k F7)) :
 ACalls Tryz.prog 309 [.yl 7,.opt 6 0,.opt 5 0] [E0,E1,E2,E3,E4,.box [nats l],.box [iV k],L] (.tup []) (subX E0 E1 E2 E3 E4 l k L F2 F7 F3 R) := by
 have h0 := A_from hl hk1 hk hY l.length 0 [] (by omega) (by omega) (by simp) (List.nil_sublist _)
 have e : subT l 0 k [] = subsN l k := by unfold subT;simp
 rw [e,hB] at h0
 have h0 := h0.le (args' := [iV 0,.d (.v (.slice none 0 0)),.opt 6 0,.opt 8 0,.opt 5 0,.opt 9 0]) fun F κ w vs hs => by
  refine AVleL.sat (xs := [iV 0,.d (.v (.slice none 0 0)),.opt 6 0,.opt 8 0,.opt 5 0,.opt 9 0]) ?_ F _ κ w vs hs
  exact ⟨AVle.refl _,AVle.nil 1,AVle.refl _,AVle.refl _,AVle.refl _,AVle.refl _,trivial⟩
 refine acalls_of_bodyS Tryz.func309 rfl (zU rfl) ?_
 (repeat' (first
  |(apply W.qd;(first
  |(exact jAh)
  |(apply q_makeFunc)))
  |(apply W.ed;(first
  |((exact e_callA h0 rfl rfl rfl))|(exact jAa)
  |(exact jAm)))|(apply W.ln;(exact jAe))|(apply yA)|(apply yB)|(refine jAc ?_)
  |(apply yE)))
 exact ⟨.inr rfl,[],trivial,AVle.of_eq rfl,rfl⟩
end
end
section
theorem AWP.toX {Γ : Ctx} {P : Program} {n m : Nat} {c : Code} {s : St} {own' : List Ent} {e0 : Exit} (h : AWPG Γ P n m c (fun e s => e = e0 ∧ Wk m s ⟨[],own'⟩) s) : AWPG Γ P n m c (fun e s => e = e0 ∧ s.own = own') s := fun F W κ0 a κ w hH hm hs =>
 wpIn_mono (h F W κ0 a κ w hH hm hs) fun e a' w' ⟨s',κ',⟨he,hw⟩,hs'⟩ => by
  obtain ⟨κ2,h2⟩ := hs'.wk hm hw
  exact ⟨_,κ2,⟨he,rfl⟩,h2⟩
theorem AVle.anyV {v : Value} (h : v.oneCell' = true) : AVle (.d (.v v)) (.d .any) := fun F own κ w u hs => by
 rw [sat_v] at hs
 subst hs
 rw [AV.sat,Dat.sat];exact h
theorem AVle.anyS (sz : Nat) (l : List (List Dat)) : AVle (.d (.sl sz l)) (.d .any) := fun F own κ w u hs => by
 rw [AV.sat,Dat.sat] at hs
 obtain ⟨A,c,rfl,_⟩ := hs
 rw [AV.sat,Dat.sat];rfl
theorem minusN_snoc (hv : List Bool) (L : List Nat) (u : Nat) : minusN hv (L ++ [u]) = (minusN hv L).set u false := by
 unfold minusN
 rw [List.foldl_append];rfl
theorem badN_iff {dec : List Bool → Bool} {hv : List Bool} {f : Nat} : badN dec hv f = (badF (fun s => dec (minusN hv s)) (subsN (upN hv) (f + 1))).isSome := by
 unfold badN badF
 rw [Bool.eq_iff_iff,List.any_eq_true,List.find?_isSome]
theorem gen_entE {motive : Ent → Prop} (E : Ent) (h : ∀ L,L = E → motive L) : motive E := h E rfl
attribute [local irreducible] Quiet Eff OpOk AWPG ACont ABlock ACalls AGoto
theorem A_subsets0 {l : List Nat} {f : Nat} : ACalls Tryz.prog 302 [nats l,iV ((f : Int) + 1)] [] (.fn 309 [.opt 1 0,.opt 0 0]) [.box [nats l],.box [iV ((f + 1 : Nat) : Int)]] := by
 rw [show iV ((f : Int) + 1) = iV ((f + 1 : Nat) : Int) from iV_eq (by omega)]
 refine acalls_of_bodyO Tryz.func302 rfl (zU rfl) ?_
 (repeat' (first
  |(apply W.qd;(first
  |(exact zN)
  |(apply q_makeFunc)))|(apply W.ed;(exact jAa))|(apply yA)|(apply yB)|(refine jAc ?_)|(apply yE)
  |(apply yJ)))
 exact ⟨.inl rfl,[0,1],[.fn 309 [.opt 1 0,.opt 0 0]],rfl,rfl,⟨rfl,trivial⟩,AVle.of_eq rfl,rfl⟩
abbrev srcB0 (M D : Nat) (ps : List (List Nat)) : Ent := .box [.d .any,iV M,iV D,rowsN ps,.d .any]
abbrev srcEnv (hv : List Bool) (f : Nat) : List (Nat × AV) := [(24,.fn 309 [.opt 6 0,.opt 5 0]),(2,.opt 0 0),(3,.opt 1 0),(4,.opt 2 0),(5,.opt 3 0),(6,nats (upN hv)),(7,.opt 4 0),(18,iV f)]
theorem A_search {M D : Nat} {ps : List (List Nat)} {hv : List Bool} (h : CodeOk M D ps) (hl : hv.length = D + ps.length) : ACalls Tryz.prog 288 [cdN M D ps,bools hv] [] (.tup [iV (leftN (decN M D ps) hv),.d .any]) [] := by
 have h1 := h.d
 have h2 := h.w
 have hdec := A_decodable h hl
 have hpre := A_present (hv := hv) (by omega)
 have hd0 : decN M D ps hv = decide ((basisN M D ps hv).length = D) := by unfold decN;rw [decide_eq_true hl,Bool.true_and]
 rw [← hd0] at hdec
 have hcl := A_cloneB (l := hv) (by omega) (by omega)
 have hdecs : ∀ s : List Nat,ACalls Tryz.prog 300 [cdN M D ps,bools (minusN hv s)] [] (bV (decN M D ps (minusN hv s))) [] := fun s => by
  have hls : (minusN hv s).length = D + ps.length := by rw [minusN_length];exact hl
  have := A_decodable h hls
  have hd1 : decN M D ps (minusN hv s) = decide ((basisN M D ps (minusN hv s)).length = D) := by unfold decN;rw [decide_eq_true hls,Bool.true_and]
  rwa [← hd1] at this
 have hup : ∀ u ∈ upN hv,u < hv.length := fun u hu => by
  have := (List.mem_filter.1 hu).1
  exact List.mem_range.1 this
 have hupl : (upN hv).length ≤ 1000 := by have := upK_len hv hv.length;have e : (upN hv).length = (upK hv hv.length).length := rfl;omega
 unfold leftN
 generalize decN M D ps = dec at *
 refine acalls_of_body Tryz.func288 rfl (zU rfl) ?_
 cases hd : dec hv with
 | false =>
   rw [if_neg (by decide)]
   rw [hd] at hdec
   (repeat' (first
    |(apply W.qd;(first
    |(exact zW (hdec))|(exact jAh)|(exact jAo)
    |(exact q_not rfl)))
    |(apply W.ed;(first
    |(exact jAa)
    |(exact jAm)))|(apply W.ln;(exact jAe))|(apply yA)|(apply yB)|(refine jAc ?_)|(apply yE)|(apply yJ)|(apply yP)
    |(refine jAv ?_)))
   exact ⟨.inl rfl,[],[iV (-1),.d (.v (.slice none 0 0))],rfl,⟨⟨2,[iV (-1)],false,rfl,rfl,rfl,rfl⟩,⟨3,[.d (.v (.slice none 0 0))],false,rfl,rfl,rfl,rfl⟩,trivial⟩,AVle.tup2 (AVle.refl _) (AVle.anyV rfl),rfl⟩
 | true =>
   rw [if_pos rfl]
   rw [hd] at hdec
   generalize hR : ((List.range 4).find? (badN dec hv)).getD 4 = R
   (repeat' (first
    |(apply W.qd;(first
    |(exact zW (hdec))|(exact zW (hpre))|(exact zM)|(exact zN)|(exact jAh)|(exact jAo)
    |(exact q_not rfl)))
    |(apply W.ed;(first
    |(exact jAa)
    |(exact jAm)))|(apply yA)|(apply yB)|(refine jAc ?_)|(apply yE)|(apply yG)|(apply yH)
    |(refine jAx ?_)))
   refine AWP.loopW (α := Nat) (fun f => f ≤ 4 ∧ ∀ g,g < f → badN dec hv g = false) (fun f => ⟨[(18,iV f),(6,nats (upN hv)),(2,.opt 0 0),(3,.opt 1 0),(4,.opt 2 0),(5,.opt 3 0)],[.box [.d .any,iV M,iV D,rowsN ps,.d .any],.box [bools hv],.box [iV 0],.box [.d (.v (.slice none 0 0))]]⟩) (fun f => 4 - f) 0 ⟨by omega,fun g hg => by omega⟩ ⟨[0,1,2,3],rfl,rfl,rfl,by (repeat (first | exact trivial | refine ⟨rfl,?_⟩))⟩ fun f hf => ?_
   by_cases hf4 : f < 4
   ·have hs0 := A_subsets0 (l := upN hv) (f := f)
    (repeat' (first
     |(apply W.qd;(first
     |(exact zM)|(exact jAh)|(exact jAk)
     |(exact jAl)))
     |(apply W.ed;(first
     |(apply (e_callJ (js := []) (hs0));(iterate 5 exact rfl);kernel_rfl;kernel_rfl)
     |(exact jAm)))|(apply W.ln;(exact jAe))|(apply yA)|(apply yB)|(refine jAc ?_)|(apply yE)|(apply yG)|(apply yH)
     |(refine W.cond _ rfl (fun hb => ?_) (fun hb => ?_) <;> ((try simp only [hb,zK]) <;> (try simp only [zL,zI] at hb) <;> (try (exfalso;omega))))))
    refine AWP.wk ⟨srcEnv hv f,[.box [.d .any,iV M,iV D,rowsN ps,.d .any],.box [bools hv],.box [iV 0],.box [.d (.v (.slice none 0 0))],.box [iV f],.box [nats (upN hv)],.box [iV ((f + 1 : Nat) : Int)]]⟩ ⟨[0,1,2,3,4,5,6],rfl,rfl,rfl,by (repeat (first | exact trivial | refine ⟨rfl,?_⟩))⟩ ?_
    have hbI := badN_iff (dec := dec) (hv := hv) (f := f)
    cases hB : badF (fun s => dec (minusN hv s)) (subsN (upN hv) (f + 1)) with
    | none =>
      rw [hB] at hbI
      refine AWP.range (s2 := ⟨[(18,iV f),(6,nats (upN hv)),(2,.opt 0 0),(3,.opt 1 0),(4,.opt 2 0),(5,.opt 3 0)],[srcB0 M D ps,.box [bools hv],.box [iV 0],.box [.d (.v (.slice none 0 0))]]⟩) rfl (by kernel_rfl) (A_subIter (F2 := .box []) (F7 := .box []) (F3 := fun _ => .box []) hupl (by omega) (by omega) hB fun s hs1 hs2 => ?_) rfl (by decide) ⟨[0,1,2,3],rfl,rfl,rfl,by (repeat (first | exact trivial | refine ⟨rfl,?_⟩))⟩ ?_
      ·have hg : dec (minusN hv s) = true := by
        unfold badF at hB
        rw [List.find?_eq_none] at hB
        have := hB s (mem_subsN.2 ⟨hs1,hs2⟩)
        simpa using this
       rw [hg,if_pos rfl]
       refine YAt.ok (own1 := subO (srcB0 M D ps) (.box [bools hv]) (.box [iV 0]) (.box [.d (.v (.slice none 0 0))]) (.box [iV f]) (upN hv) (f + 1) (.lp .busy none #[25] _ _ _)) (s2 := ⟨(8,nats s) :: srcEnv hv f,_⟩) rfl rfl rfl rfl (fun g => ?_) rfl (fun g => ?_) rfl rfl
       ·refine AWP.toW ?_
        (repeat' (first
         |(apply W.qd;(exact zN))|(refine jAc ?_)
         |(apply yE)))
        exact ⟨rfl,⟨[0,1,2,3,4,5,6,7,8,9],rfl,rfl,rfl,by (repeat (first | exact trivial | refine ⟨rfl,?_⟩))⟩⟩
       ·refine AWP.toO ?_
        refine gen_entE (motive := fun L => AWPG (Ctx.round g) Tryz.prog Tryz.f288.ntmps 10 _ (fun e s9 => e = .normal ∧ Wk 10 s9 ⟨[],subO (srcB0 M D ps) (.box [bools hv]) (.box [iV 0]) (.box [.d (.v (.slice none 0 0))]) (.box [iV f]) (upN hv) (f + 1) L⟩) ⟨(8,nats s) :: srcEnv hv f,subO (srcB0 M D ps) (.box [bools hv]) (.box [iV 0]) (.box [.d (.v (.slice none 0 0))]) (.box [iV f]) (upN hv) (f + 1) L⟩) _ fun L hL => ?_
        obtain ⟨cA,cB,hL⟩ : ∃ cA cB,L = .lp .busy none #[25] cA cB (tmpsOf (srcEnv hv f) Tryz.f288.ntmps) := ⟨_,_,hL⟩
        subst hL
        have hms : (s.map kD).length = s.length := List.length_map _
        (repeat' (first
         |(apply W.qd;(first
         |(exact zM)|(exact zN)|(exact jAh)
         |(exact jAu)))|(apply W.ed;(apply (e_callJ (js := []) (hcl));(iterate 5 exact rfl);kernel_rfl;kernel_rfl))|(apply yA)|(apply yB)|(refine jAc ?_)|(apply yE)
         |(apply yG)))
        refine AWP.loopW (α := Nat) (fun j => j ≤ s.length) (fun j => ⟨[(30,iV j),(29,iV s.length),(28,nats s),(9,.osl 10 1 0 hv.length),(8,nats s),(2,.opt 0 0),(4,.opt 2 0),(5,.opt 3 0),(7,.opt 4 0)],subO (srcB0 M D ps) (.box [bools hv]) (.box [iV 0]) (.box [.d (.v (.slice none 0 0))]) (.box [iV f]) (upN hv) (f + 1) (.lp .busy none #[25] cA cB (tmpsOf (srcEnv hv f) Tryz.f288.ntmps)) ++ [.row 1 1 4 ((minusN hv (s.take j)).map tD)]⟩) (fun j => s.length - j) 0 (Nat.zero_le _) ?wkr1 fun j hj => ?_
        case wkr1 => exact ⟨[0,1,2,3,4,5,6,7,8,9,10],rfl,rfl,rfl,rfl,iV_eq (by rw [hms]),rfl,rfl,rfl,rfl,rfl,rfl,rfl,trivial⟩
        by_cases hjl : j < s.length
        ·have hu := hup s[j] (hs1.subset (List.getElem_mem hjl))
         have hmn := minusN_length (s.take j) hv
         have hsn := minusN_snoc hv (s.take j) s[j]
         rw [← List.take_succ_eq_append_getElem hjl] at hsn
         replace hsn := Lib.hid hsn
         generalize minusN hv (s.take j) = A at *
         (repeat' (first
          |(apply W.qd;(first
          |(exact zM)|(exact zN)|(exact jAk)|(exact jAl)|(exact jAg)|(exact jA)
          |(exact jAf)))|(apply W.ln;(apply l_st_rpt;(iterate 7 exact rfl);exact fun _ => rfl;(first | omega | (focus (simp only [List.length_map];omega)) | (focus (simp;omega)))))|(apply yA)|(apply yB)|(refine jAc ?_)|(apply yE)|(apply yG)|(apply yH)|(apply yL)
          |(refine W.cond _ rfl (fun hb => ?_) (fun hb => ?_) <;> ((try simp only [hb,zK]) <;> (try simp only [zL,zI] at hb) <;> (try (exfalso;omega))))))
         refine ⟨j + 1,by omega,by omega,?_⟩
         rw [hsn.out]
         exact ⟨[0,1,2,3,4,5,6,7,8,9,10],rfl,rfl,rfl,iV_eq (by omega),rfl,rfl,rfl,rfl,rfl,rfl,rfl,rfl,trivial⟩
        have ejl : j = s.length := by omega
        subst ejl
        rw [List.take_length]
        have hmn := minusN_length s hv
        (repeat' (first
         |(apply W.qd;(exact jAk))|(apply yA)|(apply yB)|(apply (W.regionS 15);exact rfl;kernel_rfl)|(apply yE)|(apply yI)|(apply yK)|(apply yM)
         |(refine W.cond _ rfl (fun hb => ?_) (fun hb => ?_) <;> ((try simp only [hb,zK]) <;> (try simp only [zL,zI] at hb) <;> (try (exfalso;omega))))))
        refine AWP.wk ⟨[(9,bools (minusN hv s)),(8,nats s),(2,.opt 0 0),(4,.opt 2 0),(5,.opt 3 0),(7,.opt 4 0)],subO (srcB0 M D ps) (.box [bools hv]) (.box [iV 0]) (.box [.d (.v (.slice none 0 0))]) (.box [iV f]) (upN hv) (f + 1) (.lp .busy none #[25] cA cB (tmpsOf (srcEnv hv f) Tryz.f288.ntmps))⟩ ?wkf1 ?_
        case wkf1 => exact ⟨[0,1,2,3,4,5,6,7,8,9],rfl,rfl,rfl,(frz_rowJ (i := 10) (ver := 1) (n := hv.length) (l := (minusN hv s).map tD) rfl rfl (by rw [List.length_map,hmn])).symm,rfl,rfl,rfl,rfl,rfl,trivial⟩
        have hds := hdecs s
        rw [show dec (minusN hv s) = true from hg] at hds
        (repeat' (first
         |(apply W.qd;(first
         |(exact zW (hds))|(exact zM)|(exact jAo)
         |(exact q_not rfl)))|(apply yB)|(refine jAc ?_)|(apply yE)|(apply yH)|(apply yL)
         |(refine jAx ?_)))
        exact ⟨rfl,⟨[0,1,2,3,4,5,6,7,8,9],rfl,rfl,rfl,by (repeat (first | exact trivial | refine ⟨rfl,?_⟩))⟩⟩
      dsimp only
      (repeat' (first
       |(apply W.qd;(first
       |(exact zM)
       |(exact jAl)))|(apply yB)|(refine jAc ?_)|(apply yE)
       |(apply yL)))
      refine ⟨f + 1,⟨by omega,fun g hg => ?_⟩,by omega,[0,1,2,3],rfl,rfl,rfl,iV_eq (by omega),rfl,rfl,rfl,rfl,rfl,trivial⟩
      by_cases e : g = f
      ·subst e;exact hbI
      ·exact hf.2 g (by omega)
    | some s0 =>
      rw [hB] at hbI
      have hfr : f = R := by
       have hq : (List.range 4).find? (badN dec hv) = some f := List.find?_range_eq_some.2 ⟨hbI,List.mem_range.2 hf4,fun g hg => by rw [hf.2 g hg];rfl⟩
       rw [hq] at hR;exact hR
      subst hfr
      refine AWP.range (s2 := ⟨[(4,.opt 2 0),(5,.opt 3 0)],[srcB0 M D ps,.box [bools hv],.box [iV f],.box [nats s0]]⟩) rfl (by kernel_rfl) (A_subIter (F2 := .box [iV f]) (F7 := .lp .done (some .ret) _ _ _ (tmpsOf (srcEnv hv f) Tryz.f288.ntmps)) (F3 := fun s => .box [nats s]) hupl (by omega) (by omega) hB fun s hs1 hs2 => ?_) rfl (by decide) ⟨[0,1,2,3],rfl,rfl,rfl,by (repeat (first | exact trivial | refine ⟨rfl,?_⟩))⟩ ?_
      ·cases hg : dec (minusN hv s) with
       | true =>
         rw [if_pos rfl]
         refine YAt.ok (own1 := subO (srcB0 M D ps) (.box [bools hv]) (.box [iV 0]) (.box [.d (.v (.slice none 0 0))]) (.box [iV f]) (upN hv) (f + 1) (.lp .busy none #[25] _ _ _)) (s2 := ⟨(8,nats s) :: srcEnv hv f,_⟩) rfl rfl rfl rfl (fun g => ?_) rfl (fun g => ?_) rfl rfl
         ·refine AWP.toW ?_
          (repeat' (first
           |(apply W.qd;(exact zN))|(refine jAc ?_)
           |(apply yE)))
          exact ⟨rfl,⟨[0,1,2,3,4,5,6,7,8,9],rfl,rfl,rfl,by (repeat (first | exact trivial | refine ⟨rfl,?_⟩))⟩⟩
         ·refine AWP.toO ?_
          refine gen_entE (motive := fun L => AWPG (Ctx.round g) Tryz.prog Tryz.f288.ntmps 10 _ (fun e s9 => e = .normal ∧ Wk 10 s9 ⟨[],subO (srcB0 M D ps) (.box [bools hv]) (.box [iV 0]) (.box [.d (.v (.slice none 0 0))]) (.box [iV f]) (upN hv) (f + 1) L⟩) ⟨(8,nats s) :: srcEnv hv f,subO (srcB0 M D ps) (.box [bools hv]) (.box [iV 0]) (.box [.d (.v (.slice none 0 0))]) (.box [iV f]) (upN hv) (f + 1) L⟩) _ fun L hL => ?_
          obtain ⟨cA,cB,hL⟩ : ∃ cA cB,L = .lp .busy none #[25] cA cB (tmpsOf (srcEnv hv f) Tryz.f288.ntmps) := ⟨_,_,hL⟩
          subst hL
          have hms : (s.map kD).length = s.length := List.length_map _
          (repeat' (first
           |(apply W.qd;(first
           |(exact zM)|(exact zN)|(exact jAh)
           |(exact jAu)))|(apply W.ed;(apply (e_callJ (js := []) (hcl));(iterate 5 exact rfl);kernel_rfl;kernel_rfl))|(apply yA)|(apply yB)|(refine jAc ?_)|(apply yE)
           |(apply yG)))
          refine AWP.loopW (α := Nat) (fun j => j ≤ s.length) (fun j => ⟨[(30,iV j),(29,iV s.length),(28,nats s),(9,.osl 10 1 0 hv.length),(8,nats s),(2,.opt 0 0),(4,.opt 2 0),(5,.opt 3 0),(7,.opt 4 0)],subO (srcB0 M D ps) (.box [bools hv]) (.box [iV 0]) (.box [.d (.v (.slice none 0 0))]) (.box [iV f]) (upN hv) (f + 1) (.lp .busy none #[25] cA cB (tmpsOf (srcEnv hv f) Tryz.f288.ntmps)) ++ [.row 1 1 4 ((minusN hv (s.take j)).map tD)]⟩) (fun j => s.length - j) 0 (Nat.zero_le _) ?wkr2 fun j hj => ?_
          case wkr2 => exact ⟨[0,1,2,3,4,5,6,7,8,9,10],rfl,rfl,rfl,rfl,iV_eq (by rw [hms]),rfl,rfl,rfl,rfl,rfl,rfl,rfl,trivial⟩
          by_cases hjl : j < s.length
          ·have hu := hup s[j] (hs1.subset (List.getElem_mem hjl))
           have hmn := minusN_length (s.take j) hv
           have hsn := minusN_snoc hv (s.take j) s[j]
           rw [← List.take_succ_eq_append_getElem hjl] at hsn
           replace hsn := Lib.hid hsn
           generalize minusN hv (s.take j) = A at *
           (repeat' (first
            |(apply W.qd;(first
            |(exact zM)|(exact zN)|(exact jAk)|(exact jAl)|(exact jAg)|(exact jA)
            |(exact jAf)))|(apply W.ln;(apply l_st_rpt;(iterate 7 exact rfl);exact fun _ => rfl;(first | omega | (focus (simp only [List.length_map];omega)) | (focus (simp;omega)))))|(apply yA)|(apply yB)|(refine jAc ?_)|(apply yE)|(apply yG)|(apply yH)|(apply yL)
            |(refine W.cond _ rfl (fun hb => ?_) (fun hb => ?_) <;> ((try simp only [hb,zK]) <;> (try simp only [zL,zI] at hb) <;> (try (exfalso;omega))))))
           refine ⟨j + 1,by omega,by omega,?_⟩
           rw [hsn.out]
           exact ⟨[0,1,2,3,4,5,6,7,8,9,10],rfl,rfl,rfl,iV_eq (by omega),rfl,rfl,rfl,rfl,rfl,rfl,rfl,rfl,trivial⟩
          have ejl : j = s.length := by omega
          subst ejl
          rw [List.take_length]
          have hmn := minusN_length s hv
          (repeat' (first
           |(apply W.qd;(exact jAk))|(apply yA)|(apply yB)|(apply (W.regionS 15);exact rfl;kernel_rfl)|(apply yE)|(apply yI)|(apply yK)|(apply yM)
           |(refine W.cond _ rfl (fun hb => ?_) (fun hb => ?_) <;> ((try simp only [hb,zK]) <;> (try simp only [zL,zI] at hb) <;> (try (exfalso;omega))))))
          refine AWP.wk ⟨[(9,bools (minusN hv s)),(8,nats s),(2,.opt 0 0),(4,.opt 2 0),(5,.opt 3 0),(7,.opt 4 0)],subO (srcB0 M D ps) (.box [bools hv]) (.box [iV 0]) (.box [.d (.v (.slice none 0 0))]) (.box [iV f]) (upN hv) (f + 1) (.lp .busy none #[25] cA cB (tmpsOf (srcEnv hv f) Tryz.f288.ntmps))⟩ ?wkf2 ?_
          case wkf2 => exact ⟨[0,1,2,3,4,5,6,7,8,9],rfl,rfl,rfl,(frz_rowJ (i := 10) (ver := 1) (n := hv.length) (l := (minusN hv s).map tD) rfl rfl (by rw [List.length_map,hmn])).symm,rfl,rfl,rfl,rfl,rfl,trivial⟩
          have hds := hdecs s
          rw [hg] at hds
          (repeat' (first
           |(apply W.qd;(first
           |(exact zW (hds))|(exact zM)|(exact jAo)
           |(exact q_not rfl)))|(apply yB)|(refine jAc ?_)|(apply yE)|(apply yH)|(apply yL)
           |(refine jAx ?_)))
          exact ⟨rfl,⟨[0,1,2,3,4,5,6,7,8,9],rfl,rfl,rfl,by (repeat (first | exact trivial | refine ⟨rfl,?_⟩))⟩⟩
       | false =>
         rw [if_neg (by decide)]
         refine YAt.ret (own1 := subO (srcB0 M D ps) (.box [bools hv]) (.box [iV f]) (.box [nats s]) (.box [iV f]) (upN hv) (f + 1) (.lp .busy none #[25] _ _ _)) (s2 := ⟨(8,nats s) :: srcEnv hv f,_⟩) rfl rfl rfl rfl (fun g => ?_) rfl (fun g => ?_) rfl rfl
         ·refine AWP.toW ?_
          (repeat' (first
           |(apply W.qd;(exact zN))|(refine jAc ?_)
           |(apply yE)))
          exact ⟨rfl,⟨[0,1,2,3,4,5,6,7,8,9],rfl,rfl,rfl,by (repeat (first | exact trivial | refine ⟨rfl,?_⟩))⟩⟩
         ·refine AWP.toX ?_
          refine gen_entE (motive := fun L => AWPG (Ctx.round g) Tryz.prog Tryz.f288.ntmps 10 _ (fun e s9 => e = .ret ∧ Wk 10 s9 ⟨[],subO (srcB0 M D ps) (.box [bools hv]) (.box [iV f]) (.box [nats s]) (.box [iV f]) (upN hv) (f + 1) L⟩) ⟨(8,nats s) :: srcEnv hv f,subO (srcB0 M D ps) (.box [bools hv]) (.box [iV 0]) (.box [.d (.v (.slice none 0 0))]) (.box [iV f]) (upN hv) (f + 1) L⟩) _ fun L hL => ?_
          obtain ⟨cA,cB,hL⟩ : ∃ cA cB,L = .lp .busy none #[25] cA cB (tmpsOf (srcEnv hv f) Tryz.f288.ntmps) := ⟨_,_,hL⟩
          subst hL
          have hms : (s.map kD).length = s.length := List.length_map _
          (repeat' (first
           |(apply W.qd;(first
           |(exact zM)|(exact zN)|(exact jAh)
           |(exact jAu)))|(apply W.ed;(apply (e_callJ (js := []) (hcl));(iterate 5 exact rfl);kernel_rfl;kernel_rfl))|(apply yA)|(apply yB)|(refine jAc ?_)|(apply yE)
           |(apply yG)))
          refine AWP.loopW (α := Nat) (fun j => j ≤ s.length) (fun j => ⟨[(30,iV j),(29,iV s.length),(28,nats s),(9,.osl 10 1 0 hv.length),(8,nats s),(2,.opt 0 0),(4,.opt 2 0),(5,.opt 3 0),(7,.opt 4 0)],subO (srcB0 M D ps) (.box [bools hv]) (.box [iV 0]) (.box [.d (.v (.slice none 0 0))]) (.box [iV f]) (upN hv) (f + 1) (.lp .busy none #[25] cA cB (tmpsOf (srcEnv hv f) Tryz.f288.ntmps)) ++ [.row 1 1 4 ((minusN hv (s.take j)).map tD)]⟩) (fun j => s.length - j) 0 (Nat.zero_le _) ?wkr3 fun j hj => ?_
          case wkr3 => exact ⟨[0,1,2,3,4,5,6,7,8,9,10],rfl,rfl,rfl,rfl,iV_eq (by rw [hms]),rfl,rfl,rfl,rfl,rfl,rfl,rfl,trivial⟩
          by_cases hjl : j < s.length
          ·have hu := hup s[j] (hs1.subset (List.getElem_mem hjl))
           have hmn := minusN_length (s.take j) hv
           have hsn := minusN_snoc hv (s.take j) s[j]
           rw [← List.take_succ_eq_append_getElem hjl] at hsn
           replace hsn := Lib.hid hsn
           generalize minusN hv (s.take j) = A at *
           (repeat' (first
            |(apply W.qd;(first
            |(exact zM)|(exact zN)|(exact jAk)|(exact jAl)|(exact jAg)|(exact jA)
            |(exact jAf)))|(apply W.ln;(apply l_st_rpt;(iterate 7 exact rfl);exact fun _ => rfl;(first | omega | (focus (simp only [List.length_map];omega)) | (focus (simp;omega)))))|(apply yA)|(apply yB)|(refine jAc ?_)|(apply yE)|(apply yG)|(apply yH)|(apply yL)
            |(refine W.cond _ rfl (fun hb => ?_) (fun hb => ?_) <;> ((try simp only [hb,zK]) <;> (try simp only [zL,zI] at hb) <;> (try (exfalso;omega))))))
           refine ⟨j + 1,by omega,by omega,?_⟩
           rw [hsn.out]
           exact ⟨[0,1,2,3,4,5,6,7,8,9,10],rfl,rfl,rfl,iV_eq (by omega),rfl,rfl,rfl,rfl,rfl,rfl,rfl,rfl,trivial⟩
          have ejl : j = s.length := by omega
          subst ejl
          rw [List.take_length]
          have hmn := minusN_length s hv
          (repeat' (first
           |(apply W.qd;(exact jAk))|(apply yA)|(apply yB)|(apply (W.regionS 15);exact rfl;kernel_rfl)|(apply yE)|(apply yI)|(apply yK)|(apply yM)
           |(refine W.cond _ rfl (fun hb => ?_) (fun hb => ?_) <;> ((try simp only [hb,zK]) <;> (try simp only [zL,zI] at hb) <;> (try (exfalso;omega))))))
          refine AWP.wk ⟨[(9,bools (minusN hv s)),(8,nats s),(2,.opt 0 0),(4,.opt 2 0),(5,.opt 3 0),(7,.opt 4 0)],subO (srcB0 M D ps) (.box [bools hv]) (.box [iV 0]) (.box [.d (.v (.slice none 0 0))]) (.box [iV f]) (upN hv) (f + 1) (.lp .busy none #[25] cA cB (tmpsOf (srcEnv hv f) Tryz.f288.ntmps))⟩ ?wkf3 ?_
          case wkf3 => exact ⟨[0,1,2,3,4,5,6,7,8,9],rfl,rfl,rfl,(frz_rowJ (i := 10) (ver := 1) (n := hv.length) (l := (minusN hv s).map tD) rfl rfl (by rw [List.length_map,hmn])).symm,rfl,rfl,rfl,rfl,rfl,trivial⟩
          have hds := hdecs s
          rw [hg] at hds
          (repeat' (first
           |(apply W.qd;(first
           |(exact zW (hds))|(exact zM)|(exact jAh)|(exact jAo)
           |(exact q_not rfl)))|(apply W.ln;(exact jAe))|(apply yA)|(apply yB)|(refine jAc ?_)|(apply yE)|(apply yJ)|(apply yN)
           |(refine jAv ?_)))
          exact ⟨rfl,⟨[0,1,2,3,4,5,6,7,8,9],rfl,rfl,rfl,by (repeat (first | exact trivial | refine ⟨rfl,?_⟩))⟩⟩
      dsimp only
      (repeat' (first
       |(apply yJ)|(apply yP)
       |(apply yN)))
      exact ⟨.inl rfl,[],[iV f,nats s0],rfl,⟨⟨2,[iV f],false,rfl,rfl,rfl,rfl⟩,⟨3,[nats s0],false,rfl,rfl,rfl,rfl⟩,trivial⟩,AVle.tup2 (AVle.refl _) (AVle.anyS _ _),rfl⟩
   ·have e4 : f = 4 := by omega
    subst e4
    have hn : (List.range 4).find? (badN dec hv) = none := by
     rw [List.find?_eq_none]
     intro g hg
     rw [hf.2 g (List.mem_range.1 hg)];decide
    rw [hn] at hR
    obtain rfl : 4 = R := hR
    (repeat' (first
     |(apply W.qd;(exact jAk))|(apply W.ln;(exact jAe))|(apply yA)|(apply yB)|(refine jAc ?_)|(apply yE)|(apply yI)|(apply yJ)|(apply yK)|(apply yM)
     |(refine jAx ?_)))
    exact ⟨.inl rfl,[],[iV 4,.d (.v (.slice none 0 0))],rfl,⟨⟨2,[iV 4],false,rfl,rfl,rfl,rfl⟩,⟨3,[.d (.v (.slice none 0 0))],false,rfl,rfl,rfl,rfl⟩,trivial⟩,AVle.tup2 (AVle.refl _) (AVle.anyV rfl),rfl⟩
end
section
theorem seg_get (l us : List Value) (o x : Nat) (h : o + us.length ≤ l.length) : (l.take o ++ us ++ l.drop (o + us.length))[x]? = if o ≤ x ∧ x < o + us.length then us[x - o]? else l[x]? := by
 have ht : (l.take o).length = o := by rw [List.length_take];omega
 by_cases h1 : x < o
 ·rw [if_neg (by omega),List.append_assoc,List.getElem?_append_left (by omega),List.getElem?_take,if_pos h1]
 ·by_cases h2 : x < o + us.length
  ·rw [if_pos ⟨by omega,h2⟩,List.append_assoc,List.getElem?_append_right (by omega),ht,List.getElem?_append_left (by omega)]
  ·rw [if_neg (by omega), List.getElem?_append_right (by rw [List.length_append, ht]; omega), List.length_append, ht, List.getElem?_drop]
   congr 1
   omega
theorem setK_same {κ : List (Option Nat)} {i : Nat} {og : Option Nat} (h : κ[i]? = some og) : κ.set i og = κ := List.ext_getElem? fun j => by
 by_cases hj : j = i
 ·subst hj;rw [List.getElem?_set_self (List.getElem?_eq_some_iff.1 h).1,h]
 ·rw [List.getElem?_set_ne (Ne.symm hj)]
theorem row_put {F : Nat → Prop} {κ : List (Option Nat)} {w : World} {m : Nat} {own : List Ent} {i ver sz g : Nat} {e : TypeId} {l l' : List (List Dat)} {cur cur' : Array Value} (ho : OwnSat F own κ w) (hi : own[i]? = some (.row ver sz e l)) (h3 : κ[i]? = some (some g)) (h5 : w.heap[g]? = some (.cells cur e (0, 0))) (h0 : 0 < sz) (hs : cur'.size = cur.size) (hl : l'.length = l.length) (h6 : l.length * sz ≤ cur.size)
 (hr : ∀ j e',l'[j]? = some e' → e'.length = sz ∧ ∀ q y,e'[q]? = some y → ∃ u,cur'[j * sz + q]? = some u ∧ u.oneCell' = true ∧ Dat.sat (badK F κ) w y u) :
 OwnSat F (own.set i (.row ver sz e l')) κ (w.setRow g cur') ∧ Tr F m own κ w (own.set i (.row ver sz e l')) κ (w.setRow g cur') := by
 have hrow := setRow_heap w g cur cur' e (0,0) h5
 have key := step_upd (m := m) (x' := .row ver sz e l') (og := some g) (og' := some g) (w' := w.setRow g cur') ho hi h3 rfl rfl rfl (by simp [World.setRow]) (fun b hb hne => by
  simp only [World.setRow,Array.getElem?_modify]
  rw [if_neg (fun e => hne (by rw [e]))]) (.inl rfl) (.inr rfl) (.inr ⟨rfl,rfl,rfl,hl.symm,rfl,fun g' hg' cur2 t' fz' hcur' => by
   obtain rfl : g = g' := by simpa using hg'
   rw [h5] at hcur'
   obtain ⟨rfl,rfl,rfl⟩ : cur = cur2 ∧ e = t' ∧ (0,0) = fz' := by simpa using hcur'
   exact ⟨_,_,_,hrow,hs.symm⟩⟩) (fun hst => ⟨h0,.inr ⟨g,rfl,_,hrow,by rw [hl,hs];exact h6,by
    rw [Dat.rowsSat_iff]
    intro j' e' hj'
    obtain ⟨h8,h9⟩ := hr j' e' hj'
    refine ⟨h8,?_⟩
    rw [Dat.rowSat_iff]
    intro q y hq
    obtain ⟨u,q1,q2,q3⟩ := h9 q y hq
    refine ⟨u,?_,q2,Dat.sat_wide hst.wide y q3⟩
    rw [cell_of_row _ g _ _ e (0,0) hrow,Nat.zero_add]
    exact q1⟩⟩)
 rw [setK_same h3] at key
 exact key
theorem row_cells {F : Nat → Prop} {κ : List (Option Nat)} {w : World} {own : List Ent} {i ver sz g : Nat} {e : TypeId} {l : List (List Dat)} (ho : OwnSat F own κ w) (hi : own[i]? = some (.row ver sz e l)) (h3 : κ[i]? = some (some g)) :
 0 < sz ∧ ∃ cur,w.heap[g]? = some (.cells cur e (0,0)) ∧ l.length * sz ≤ cur.size ∧ ∀ j e',l[j]? = some e' → e'.length = sz ∧ ∀ q y,e'[q]? = some y → ∃ u,cur[j * sz + q]? = some u ∧ u.oneCell' = true ∧ Dat.sat (badK F κ) w y u := by
 obtain ⟨h0,hent⟩ := ho.ent i _ hi
 rw [getD_some h3] at hent
 rcases hent with ⟨hxx,_⟩ | ⟨g',hg',cur,h5,h6,h7⟩
 ·cases hxx
 ·obtain rfl : g = g' := by simpa using hg'
  refine ⟨h0,cur,h5,h6,fun j e' hj => ?_⟩
  rw [Dat.rowsSat_iff] at h7
  obtain ⟨h8,h9⟩ := h7 j e' hj
  refine ⟨h8,fun q y hq => ?_⟩
  rw [Dat.rowSat_iff] at h9
  obtain ⟨u,q1,q2,q3⟩ := h9 q y hq
  rw [cell_of_row w g _ cur e (0,0) h5,Nat.zero_add] at q1
  exact ⟨u,q1,q2,q3⟩
theorem row1_vals {B : Nat → Prop} {w : World} {b o : Nat} {s : List (List Dat)} (h : Dat.rowsSat B w b 1 o s) : ∃ us : List Value,us.length = s.length ∧ (∀ (j : Nat) (u : Value),us[j]? = some u → w.cell? ⟨b,o + j,none⟩ = some u) ∧ ∀ (j : Nat) (e' : List Dat),s[j]? = some e' → e'.length = 1 ∧ ∀ y,e'[0]? = some y → ∃ u,us[j]? = some u ∧ u.oneCell' = true ∧ Dat.sat B w y u := by
 rw [Dat.rowsSat_iff] at h
 have each : ∀ (j : Nat) (e' : List Dat),s[j]? = some e' → e'.length = 1 ∧ ∀ y,e'[0]? = some y → ∃ u,w.cell? ⟨b,o + j,none⟩ = some u ∧ u.oneCell' = true ∧ Dat.sat B w y u := fun j e' hj => by
  obtain ⟨h8,h9⟩ := h j e' hj
  refine ⟨h8,fun y hy => ?_⟩
  rw [Dat.rowSat_iff] at h9
  have := h9 0 y hy
  rwa [Nat.mul_one,Nat.add_zero] at this
 refine ⟨(List.range s.length).map fun i => ((w.cell? ⟨b,o + i,none⟩).getD undef),by simp,fun j u hu => ?_,fun j e' hj => ?_⟩
 ·have hlt : j < s.length := by have := (List.getElem?_eq_some_iff.1 hu).1; simpa using this
  obtain ⟨h8,h9⟩ := each j _ (List.getElem?_eq_getElem hlt)
  obtain ⟨u',q1,_,_⟩ := h9 _ (List.getElem?_eq_getElem (by omega))
  rw [List.getElem?_map,List.getElem?_range hlt] at hu
  simp only [Option.map_some,q1,Option.getD_some,Option.some.injEq] at hu
  subst hu;exact q1
 ·have hlt : j < s.length := (List.getElem?_eq_some_iff.1 hj).1
  obtain ⟨h8,h9⟩ := each j e' hj
  refine ⟨h8,fun y hy => ?_⟩
  obtain ⟨u,q1,q2,q3⟩ := h9 y hy
  exact ⟨u,by rw [List.getElem?_map,List.getElem?_range hlt];simp [q1],q2,q3⟩
theorem vals1_one {B : Nat → Prop} {w : World} {s : List (List Dat)} {us : List Value} (hl : us.length = s.length) (h : ∀ (j : Nat) (e' : List Dat),s[j]? = some e' → e'.length = 1 ∧ ∀ y,e'[0]? = some y → ∃ u,us[j]? = some u ∧ u.oneCell' = true ∧ Dat.sat B w y u) : ∀ u ∈ us,u.oneCell' = true := fun u hu => by
 obtain ⟨j,hj⟩ := List.mem_iff_getElem?.1 hu
 have hlt : j < s.length := by rw [← hl];exact (List.getElem?_eq_some_iff.1 hj).1
 obtain ⟨h8,h9⟩ := h j _ (List.getElem?_eq_getElem hlt)
 obtain ⟨u',q1,q2,_⟩ := h9 _ (List.getElem?_eq_getElem (by omega))
 rw [hj] at q1
 obtain rfl : u = u' := by simpa using q1
 exact q2
section
variable {P : Program} {m : Nat} {env : List (Nat × AV)} {own : List Ent} {dst : Option Tmp} {ty : TypeId} {pos : String} {af : Array Edge} {gd : Option (Nat × Bool)}
theorem sat_slice_own {F : Nat → Prop} {κ : List (Option Nat)} {w : World} {p ver q n sz : Nat} {e : TypeId} {l : List (List Dat)} {u : Value} (hp : own[p]? = some (.row ver sz e l)) (h : AV.sat F own κ w (.osl p ver q n) u) (hn : 0 < n) : q + n ≤ l.length ∧ ∃ g c,κ[p]? = some (some g) ∧ u = .slice (some ⟨g,q * sz,none⟩) n c := by
 rw [AV.sat] at h
 obtain ⟨h1,A,c,h2,h3,h4,h5⟩ := h.2 sz e l hp
 rcases h5 (.inl hn) with ⟨g,g1,rfl,_⟩ | ⟨_,_,hc⟩
 ·exact ⟨h1,g,c,g1,h2⟩
 ·omega
theorem copy_fin {F : Nat → Prop} {κ : List (Option Nat)} {w : World} {p ver q n k g : Nat} {e : TypeId} {l s : List (List Dat)} {cs : List Value} {cur : Array Value} (ho : OwnSat F own κ w) (hp : own[p]? = some (.row ver 1 e l)) (hg : κ[p]? = some (some g)) (h5 : w.heap[g]? = some (.cells cur e (0, 0))) (hqn : q + n ≤ l.length) (hk : k ≤ n) (hks : k ≤ s.length) (hcs : cs.length = k)
 (hv : ∀ j e',s[j]? = some e' → j < k → e'.length = 1 ∧ ∀ y,e'[0]? = some y → ∃ u,cs[j]? = some u ∧ u.oneCell' = true ∧ Dat.sat (badK F κ) w y u) :
 OwnSat F (own.set p (.row ver 1 e (l.take q ++ s.take k ++ l.drop (q + k)))) κ (w.setRow g (cur.toList.take q ++ cs ++ cur.toList.drop (q + cs.length)).toArray) ∧ Tr F m own κ w (own.set p (.row ver 1 e (l.take q ++ s.take k ++ l.drop (q + k)))) κ (w.setRow g (cur.toList.take q ++ cs ++ cur.toList.drop (q + cs.length)).toArray) := by
 obtain ⟨h0,cur2,h5',h6,h7⟩ := row_cells ho hp hg
 obtain rfl : cur = cur2 := by rw [h5] at h5';simpa using h5'
 have hcl : cur.toList.length = cur.size := Array.length_toList
 rw [Nat.mul_one] at h6
 have hlt : (l.take q).length = q := by rw [List.length_take];omega
 have hls : (s.take k).length = k := by rw [List.length_take];omega
 refine row_put (l' := l.take q ++ s.take k ++ l.drop (q + k)) ho hp hg h5 h0 (by simp;omega) (by simp;omega) (by rw [Nat.mul_one];exact h6) fun j e' hj => ?_
 have hget : ∀ x,(cur.toList.take q ++ cs ++ cur.toList.drop (q + cs.length)).toArray[x]? = if q ≤ x ∧ x < q + k then cs[x - q]? else cur[x]? := fun x => by
  have ec : cur.toList[x]? = cur[x]? := Array.getElem?_toList
  rw [List.getElem?_toArray,seg_get _ _ _ _ (by omega),hcs,ec]
 have old : ∀ j' e2,l[j']? = some e2 → ¬ (q ≤ j' ∧ j' < q + k) → e2.length = 1 ∧ ∀ q' y,e2[q']? = some y → ∃ u,(cur.toList.take q ++ cs ++ cur.toList.drop (q + cs.length)).toArray[j' * 1 + q']? = some u ∧ u.oneCell' = true ∧ Dat.sat (badK F κ) w y u := fun j' e2 h hn => by
  obtain ⟨h8,h9⟩ := h7 j' e2 h
  refine ⟨h8,fun q' y hq => ?_⟩
  have hq0 : q' = 0 := by have := (List.getElem?_eq_some_iff.1 hq).1;omega
  subst hq0
  obtain ⟨u,q1,q2,q3⟩ := h9 0 y hq
  refine ⟨u,?_,q2,q3⟩
  rw [hget,if_neg (by omega)];exact q1
 by_cases h1 : j < q
 ·rw [List.append_assoc, List.getElem?_append_left (by omega), List.getElem?_take, if_pos h1] at hj
  exact old j e' hj (by omega)
 ·by_cases h2 : j < q + k
  ·rw [List.append_assoc, List.getElem?_append_right (by omega), hlt, List.getElem?_append_left (by omega), List.getElem?_take, if_pos (by omega)] at hj
   obtain ⟨h8,h9⟩ := hv _ _ hj (by omega)
   refine ⟨h8,fun q' y hq => ?_⟩
   have hq0 : q' = 0 := by have := (List.getElem?_eq_some_iff.1 hq).1;omega
   subst hq0
   obtain ⟨u,q1,q2,q3⟩ := h9 y hq
   refine ⟨u,?_,q2,q3⟩
   rw [hget,Nat.mul_one,Nat.add_zero,if_pos ⟨by omega,h2⟩];exact q1
  ·rw [List.getElem?_append_right (by rw [List.length_append]; omega), List.length_append, hlt, hls, List.getElem?_drop, show q + k + (j - (q + k)) = j by omega] at hj
   exact old j e' hj (by omega)
theorem info_one {t e : TypeId} {by' : Nat} {z : Value} (ht : slInfo P t = some (e,1,by',z)) : P.underlying t = some (.slice e) ∧ (P.info? e).map (·.size) = some 1 := by
 obtain ⟨h1,i,h2,h3,_⟩ := slInfo_spec ht
 exact ⟨h1,by rw [h2];simp [h3]⟩
theorem e_copyD {t t2 e e' : TypeId} {by' : Nat} {z : Value} {x y : Operand} {p ver q n : Nat} {l s : List (List Dat)} {own' : List Ent} (k : Nat) (hx : lookO env x = .osl p ver q n) (hp : own[p]? = some (.row ver 1 e l)) (hy : lookO env y = .d (.sl 1 s)) (ht : slInfo P t = some (e', 1, by', z)) (hk : k = min s.length n) (h0 : 0 < k) (ho' : setF own p (.row ver 1 e (l.take q ++ s.take k ++ l.drop (q + k))) = some own') :
 Eff P m ⟨dst,.call ⟨.builtin .copy,#[x,y],#[t,t2]⟩,ty,pos,af,gd⟩ env own [p] (iV k) own' := by
 rw [setF_spec ho']
 exact Eff.mk (set_same _ p) fun F κ a w hs ho hm => by
  have hx1 := hs x (by simp [Op.operands,Call.operands]);rw [hx] at hx1
  have hy1 := hs y (by simp [Op.operands,Call.operands]);rw [hy,AV.sat,Dat.sat] at hy1
  obtain ⟨h1,g,c,hg,hxv⟩ := sat_slice_own hp hx1 (by omega)
  obtain ⟨A,c2,hyv,_,_,h4⟩ := hy1
  obtain ⟨b,o,rfl,hb1,hb2,hb3⟩ := h4 (by omega)
  obtain ⟨h00,cur,h5,h6,h7⟩ := row_cells ho hp hg
  obtain ⟨us,hul,hv2,hv1⟩ := row1_vals hb3
  obtain ⟨hu,hsz⟩ := info_one ht
  rw [Nat.mul_one] at hxv
  have hct : (us.take k).length = k := by rw [List.length_take];omega
  have hrun := run_copy_row (P := P) w t t2 ty e' g q n c ⟨b,o,none⟩ s.length c2 cur e (us.take k) hu hsz h5 (by rw [hct,hk]) (fun j v hj => by
   rw [List.getElem?_take] at hj
   split at hj
   ·rw [add_none];exact hv2 j v hj
   ·cases hj) (by rw [hct];omega) (fun v hv => vals1_one hul hv1 v (List.mem_of_mem_take hv))
  have hex : (execOp a.eval ⟨dst,.call ⟨.builtin .copy,#[x,y],#[t,t2]⟩,ty,pos,af,gd⟩).run P w = .ok (.value (goInt k)) (w.setRow g (cur.toList.take q ++ us.take k ++ cur.toList.drop (q + (us.take k).length)).toArray) := by
   rw [exec_builtin]
   simp only [builtin,List.map_toArray,List.map_cons,List.map_nil]
   rw [hxv,hyv]
   have := exec_v hrun
   rw [hct] at this ⊢
   exact this
  rw [hex]
  obtain ⟨r1,r2⟩ := copy_fin (m := m) (n := n) (s := s) ho hp hg h5 h1 (by omega) (by omega) hct (fun j e2 hj hjk => by
   obtain ⟨h8,h9⟩ := hv1 j e2 hj
   refine ⟨h8,fun y2 hy2 => ?_⟩
   obtain ⟨u,q1,q2,q3⟩ := h9 y2 hy2
   exact ⟨u,by rw [List.getElem?_take,if_pos hjk];exact q1,q2,q3⟩)
  exact ⟨κ,by rw [AV.sat,Dat.sat];rfl,r1,r2⟩
theorem e_copyO {t t2 e e' : TypeId} {by' : Nat} {z : Value} {x y : Operand} {p ver q n q2 n2 : Nat} {l : List (List Dat)} {own' : List Ent} (k : Nat) (hx : lookO env x = .osl p ver q n) (hp : own[p]? = some (.row ver 1 e l)) (hy : lookO env y = .osl p ver q2 n2) (ht : slInfo P t = some (e', 1, by', z)) (hk : k = min n2 n) (h0 : 0 < k) (ho' : setF own p (.row ver 1 e (l.take q ++ (l.drop q2).take k ++ l.drop (q + k))) = some own') :
 Eff P m ⟨dst,.call ⟨.builtin .copy,#[x,y],#[t,t2]⟩,ty,pos,af,gd⟩ env own [p] (iV k) own' := by
 rw [setF_spec ho']
 exact Eff.mk (set_same _ p) fun F κ a w hs ho hm => by
  have hx1 := hs x (by simp [Op.operands,Call.operands]);rw [hx] at hx1
  have hy1 := hs y (by simp [Op.operands,Call.operands]);rw [hy] at hy1
  obtain ⟨h1,g,c,hg,hxv⟩ := sat_slice_own hp hx1 (by omega)
  obtain ⟨h2,g2,c2,hg2,hyv⟩ := sat_slice_own hp hy1 (by omega)
  obtain rfl : g = g2 := by rw [hg] at hg2;simpa using hg2
  obtain ⟨h00,cur,h5,h6,h7⟩ := row_cells ho hp hg
  rw [Nat.mul_one] at h6
  obtain ⟨hu,hsz⟩ := info_one ht
  rw [Nat.mul_one] at hxv hyv
  have hcl : cur.toList.length = cur.size := Array.length_toList
  have hct : ((cur.toList.drop q2).take k).length = k := by rw [List.length_take,List.length_drop];omega
  have hgc : ∀ j u,((cur.toList.drop q2).take k)[j]? = some u → cur[q2 + j]? = some u := fun j u hj => by
   rw [List.getElem?_take] at hj
   split at hj
   ·rw [List.getElem?_drop] at hj
    have ec : cur.toList[q2 + j]? = cur[q2 + j]? := Array.getElem?_toList
    rw [← ec];exact hj
   ·cases hj
  have hv : ∀ (j : Nat) (e2 : List Dat),(l.drop q2)[j]? = some e2 → j < k → e2.length = 1 ∧ ∀ y2,e2[0]? = some y2 → ∃ u,((cur.toList.drop q2).take k)[j]? = some u ∧ u.oneCell' = true ∧ Dat.sat (badK F κ) w y2 u := fun j e2 hj hjk => by
   rw [List.getElem?_drop] at hj
   obtain ⟨h8,h9⟩ := h7 _ e2 hj
   refine ⟨h8,fun y2 hy2 => ?_⟩
   obtain ⟨u,q1,q3,q4⟩ := h9 0 y2 hy2
   rw [Nat.mul_one,Nat.add_zero] at q1
   have ec : cur.toList[q2 + j]? = cur[q2 + j]? := Array.getElem?_toList
   exact ⟨u,by rw [List.getElem?_take,if_pos hjk,List.getElem?_drop,ec];exact q1,q3,q4⟩
  have hone : ∀ v ∈ (cur.toList.drop q2).take k,v.oneCell' = true := fun v hvm => by
   obtain ⟨j,hj⟩ := List.mem_iff_getElem?.1 hvm
   have hjk : j < k := by have := (List.getElem?_eq_some_iff.1 hj).1;omega
   obtain ⟨h8,h9⟩ := hv j _ (List.getElem?_eq_getElem (show j < (l.drop q2).length by rw [List.length_drop];omega)) hjk
   obtain ⟨u,q1,q3,_⟩ := h9 _ (List.getElem?_eq_getElem (by omega))
   rw [hj] at q1
   obtain rfl : v = u := by simpa using q1
   exact q3
  have hrun := run_copy_row (P := P) w t t2 ty e' g q n c ⟨g,q2,none⟩ n2 c2 cur e ((cur.toList.drop q2).take k) hu hsz h5 (by rw [hct,hk]) (fun j v hj => by
   rw [add_none,cell_of_row w g _ cur e (0,0) h5]
   exact hgc j v hj) (by rw [hct];omega) hone
  have hex : (execOp a.eval ⟨dst,.call ⟨.builtin .copy,#[x,y],#[t,t2]⟩,ty,pos,af,gd⟩).run P w = .ok (.value (goInt k)) (w.setRow g (cur.toList.take q ++ (cur.toList.drop q2).take k ++ cur.toList.drop (q + ((cur.toList.drop q2).take k).length)).toArray) := by
   rw [exec_builtin]
   simp only [builtin,List.map_toArray,List.map_cons,List.map_nil]
   rw [hxv,hyv]
   have := exec_v hrun
   rw [hct] at this ⊢
   exact this
  rw [hex]
  obtain ⟨r1,r2⟩ := copy_fin (m := m) (n := n) (s := l.drop q2) ho hp hg h5 h1 (by omega) (by rw [List.length_drop];omega) hct hv
  exact ⟨κ,by rw [AV.sat,Dat.sat];rfl,r1,r2⟩
theorem e_copyDm {t t2 e e' : TypeId} {by' : Nat} {z : Value} {x y : Operand} {p ver q n : Nat} {l s l' : List (List Dat)} {own' : List Ent} (k : Nat) (hx : lookO env x = .osl p ver q n) (hp : own[p]? = some (.row ver 1 e l)) (hy : lookO env y = .d (.sl 1 s)) (ht : slInfo P t = some (e', 1, by', z)) (hk : k = min s.length n) (h0 : 0 < k) (hl : l.take q ++ s.take k ++ l.drop (q + k) = l') (ho' : setF own p (.row ver 1 e l') = some own') :
 Eff P m ⟨dst,.call ⟨.builtin .copy,#[x,y],#[t,t2]⟩,ty,pos,af,gd⟩ env own [p] (iV k) own' := by
 subst hl
 exact e_copyD k hx hp hy ht hk h0 ho'
theorem e_copyOm {t t2 e e' : TypeId} {by' : Nat} {z : Value} {x y : Operand} {p ver q n q2 n2 : Nat} {l l' : List (List Dat)} {own' : List Ent} (k : Nat) (hx : lookO env x = .osl p ver q n) (hp : own[p]? = some (.row ver 1 e l)) (hy : lookO env y = .osl p ver q2 n2) (ht : slInfo P t = some (e', 1, by', z)) (hk : k = min n2 n) (h0 : 0 < k) (hl : l.take q ++ (l.drop q2).take k ++ l.drop (q + k) = l') (ho' : setF own p (.row ver 1 e l') = some own') :
 Eff P m ⟨dst,.call ⟨.builtin .copy,#[x,y],#[t,t2]⟩,ty,pos,af,gd⟩ env own [p] (iV k) own' := by
 subst hl
 exact e_copyO k hx hp hy ht hk h0 ho'
end
end
section
open Go.Shelf Go.RowKit
def layRepeat_ren : Go.Shelf.Ren := ⟨fun | 105 => 79 | 212 => 134 | 99 => 135 | 165 => 136 | 166 => 137 | 170 => 138 | 169 => 139 | 263 => 196 | 264 => 197 | 206 => 198 | 240 => 199 | 241 => 200 | 276 => 246 | 277 => 247 | n => n,fun | 9 => 9 | 3 => 3 | 4 => 4 | 20 => 20 | 0 => 0 | 46 => 200 | 109 => 225 | 5 => 5 | 72 => 230 | 76 => 234 | 51 => 192 | 146 => 275 | 53 => 277 | 148 => 278 | 70 => 228 | 37 => 44 | 75 => 233 | 127 => 280 | 164 => 304 | 80 => 237 | n => n,fun | n => n⟩
theorem layRepeat : Go.Proofs.Lays.n105 Tryz.prog layRepeat_ren := {
 mixed := by kernel_rfl
 f99 := Tryz.func135.trans (congrArg some (by kernel_rfl))
 f105 := Tryz.func79.trans (congrArg some (by kernel_rfl))
 f165 := Tryz.func136.trans (congrArg some (by kernel_rfl))
 f166 := Tryz.func137.trans (congrArg some (by kernel_rfl))
 f169 := Tryz.func139.trans (congrArg some (by kernel_rfl))
 f170 := Tryz.func138.trans (congrArg some (by kernel_rfl))
 f206 := Tryz.func198.trans (congrArg some (by kernel_rfl))
 f212 := Tryz.func134.trans (congrArg some (by kernel_rfl))
 f240 := Tryz.func199.trans (congrArg some (by kernel_rfl))
 f241 := Tryz.func200.trans (congrArg some (by kernel_rfl))
 f263 := Tryz.func196.trans (congrArg some (by kernel_rfl))
 f264 := Tryz.func197.trans (congrArg some (by kernel_rfl))
 f276 := Tryz.func246.trans (congrArg some (by kernel_rfl))
 f277 := Tryz.func247.trans (congrArg some (by kernel_rfl))
 t0 := Tryz.underlying0
 a0 := Tryz.isAgg0
 z0 := Tryz.sizeOf0
 v0 := Tryz.zeroValue0
 t3 := Tryz.underlying3
 a3 := Tryz.isAgg3
 z3 := Tryz.sizeOf3
 v3 := Tryz.zeroValue3
 t4 := Tryz.underlying4
 a4 := Tryz.isAgg4
 z4 := Tryz.sizeOf4
 v4 := Tryz.zeroValue4
 t5 := Tryz.underlying5
 a5 := Tryz.isAgg5
 z5 := Tryz.sizeOf5
 v5 := Tryz.zeroValue5
 t9 := Tryz.underlying9
 a9 := Tryz.isAgg9
 z9 := Tryz.sizeOf9
 v9 := Tryz.zeroValue9
 t20 := Tryz.underlying20
 a20 := Tryz.isAgg20
 z20 := Tryz.sizeOf20
 v20 := Tryz.zeroValue20
 t37 := Tryz.underlying44
 a37 := Tryz.isAgg44
 z37 := Tryz.sizeOf44
 v37 := Tryz.zeroValue44
 t46 := Tryz.underlying200
 a46 := Tryz.isAgg200
 z46 := Tryz.sizeOf200
 v46 := Tryz.zeroValue200
 t51 := Tryz.underlying192
 a51 := Tryz.isAgg192
 z51 := Tryz.sizeOf192
 v51 := Tryz.zeroValue192
 t53 := Tryz.underlying277
 a53 := Tryz.isAgg277
 z53 := Tryz.sizeOf277
 v53 := Tryz.zeroValue277
 t70 := Tryz.underlying228
 a70 := Tryz.isAgg228
 z70 := Tryz.sizeOf228
 v70 := Tryz.zeroValue228
 t72 := Tryz.underlying230
 a72 := Tryz.isAgg230
 z72 := Tryz.sizeOf230
 v72 := Tryz.zeroValue230
 t75 := Tryz.underlying233
 a75 := Tryz.isAgg233
 z75 := Tryz.sizeOf233
 v75 := Tryz.zeroValue233
 t76 := Tryz.underlying234
 a76 := Tryz.isAgg234
 z76 := Tryz.sizeOf234
 v76 := Tryz.zeroValue234
 t109 := Tryz.underlying225
 a109 := Tryz.isAgg225
 z109 := Tryz.sizeOf225
 v109 := Tryz.zeroValue225
 t127 := Tryz.underlying280
 a127 := Tryz.isAgg280
 z127 := Tryz.sizeOf280
 v127 := Tryz.zeroValue280
 t146 := Tryz.underlying275
 a146 := Tryz.isAgg275
 z146 := Tryz.sizeOf275
 v146 := Tryz.zeroValue275
 t148 := Tryz.underlying278
 a148 := Tryz.isAgg278
 z148 := Tryz.sizeOf278
 v148 := Tryz.zeroValue278
 t164 := Tryz.underlying304
 a164 := Tryz.isAgg304
 z164 := Tryz.sizeOf304
 v164 := Tryz.zeroValue304 }
abbrev mul_ren : Ren := layRepeat_ren
theorem mulLay : Go.Proofs.Lays.n212 Tryz.prog mul_ren := { layRepeat with }
end
section
theorem ACalls.ler {P : Program} {f : FuncId} {args : List AV} {r r' : AV} {own own' : List Ent} (h : ACalls P f args own r own') (hle : AVle r r') : ACalls P f args own r' own' := fun F κ w vs ho hsat => (h F κ w vs ho hsat).mono fun e w' ⟨v,κ',h1,h2,h3,h4⟩ => ⟨v,κ',h1,hle _ _ _ _ _ h2,h3,h4⟩
theorem AVle.tupV (a b : Value) : AVle (.d (.v (.tuple #[a,b]))) (.tup [.d (.v a),.d (.v b)]) := fun F own κ w u hs => by
 rw [sat_v] at hs
 subst hs
 rw [AV.sat]
 exact ⟨_,rfl,by simp [AV.satL,sat_v]⟩
theorem A_bmul {x y : Nat} (h : x * y < 18446744073709551616) (hx : x < 18446744073709551616) (hy : y < 18446744073709551616) : ACalls Tryz.prog 134 [.d (.v (.int .u64 x)),.d (.v (.int .u64 y))] [] (.tup [.d (.v (.int .u64 (0 : Nat))),.d (.v (.int .u64 (x * y : Nat)))]) [] := by
 refine ACalls.ler (r := .d (.v (.tuple #[.int .u64 (0 : Nat),.int .u64 (x * y : Nat)]))) ?_ (AVle.tupV _ _)
 refine acalls_of_exact rfl fun w => ?_
 have := Go.Proofs.Any.bits_Mul mulLay x y hx hy w
 rw [Nat.div_eq_of_lt h,Nat.mod_eq_of_lt h] at this
 exact this.mono fun e w' ⟨h1,h2⟩ => ⟨h1,h2 ▸ Below.refl _ _⟩
section
variable {P : Program} {m : Nat} {env : List (Nat × AV)} {own : List Ent} {dst : Option Tmp} {ty : TypeId} {pos : String} {af : Array Edge} {gd : Option (Nat × Bool)}
theorem q_convU {src dst' : TypeId} {x : Operand} {k : IntKind} {n : Int} {v : Nat} (hx : lookO env x = .d (.v (.int k n))) (hs : (P.underlying src).isSome = true) (hd : isInt P dst' .u64 = true) (hn : n = (v : Int)) (h : v < 18446744073709551616) :
 Quiet P m ⟨dst,.convert src dst' x,ty,pos,af,gd⟩ env own [] (.d (.v (.int .u64 (v : Int)))) := by
 have := q_conv (P := P) (m := m) (env := env) (own := own) (dst := dst) (ty := ty) (pos := pos) (af := af) (gd := gd) (src := src) .u64 hs hd hx
 rwa [hn,capK_wrap (k := .u64) h] at this
end
def repT (w n : Nat) : List Bool := List.replicate n true ++ List.replicate (w - n) false
theorem rep_first {w : Nat} (h : 1 ≤ w) : ((List.replicate w false).map tD).take 0 ++ ([true].map tD).take 1 ++ ((List.replicate w false).map tD).drop (0 + 1) = (repT w 1).map tD := by
 unfold repT
 simp
theorem rep_step {w n : Nat} (h : 1 ≤ n) (hl : n < w) : ((repT w n).map tD).take n ++ (((repT w n).map tD).drop 0).take (min n (w - n)) ++ ((repT w n).map tD).drop (n + min n (w - n)) = (repT w (n + min n (w - n))).map tD := by
 generalize hk : min n (w - n) = k
 have a1 : (repT w n).take n = List.replicate n true := List.take_left' (by simp)
 have a2 : ((repT w n).drop 0).take k = List.replicate k true := by
  unfold repT
  rw [List.drop_zero,List.take_append_of_le_length (by simp;omega),List.take_replicate,Nat.min_eq_left (by omega)]
 have a3 : (repT w n).drop (n + k) = List.replicate (w - (n + k)) false := by
  unfold repT
  rw [List.drop_append]
  simp
  omega
 rw [← List.map_take,← List.map_drop,← List.map_drop,← List.map_take,a1,a2,a3,← List.map_append,← List.map_append,List.replicate_append_replicate]
 rfl
attribute [local irreducible] Quiet Eff OpOk AWPG ACont ABlock ACalls AGoto
theorem A_repeatT {w : Nat} (h1 : 1 ≤ w) (hw : w ≤ 1000000) : ACalls Tryz.prog 266 [bools [true],iV w] [] (bools (List.replicate w true)) [] := by
 refine acalls_of_body Tryz.func266 rfl (zU rfl) ?_
 have hm := A_bmul (x := 1) (y := w) (by omega) (by omega) (by omega)
 rw [Nat.one_mul] at hm
 have hx : (([true] : List Bool).map tD).length = 1 := rfl
 have hT : ∀ n,(repT w n).length = n + (w - n) := fun n => by unfold repT;simp
 (repeat' (first
  |(apply yFb;exact rfl;exact rfl)
  |(apply W.qd;(first
  |(exact zW (hm))
  |((apply q_convU;(iterate 3 exact rfl);with_reducible exact rfl;omega))|(exact zM)|(exact zN)|(exact jAk)|(exact q_gtr rfl rfl)|(exact yAb rfl rfl)|(exact jAu)|(apply (yDb (u := .d _));exact rfl;exact rfl)
  |(apply q_convI;(iterate 3 exact rfl);omega)))|(apply W.ed;((apply (e_makeG (f := tD) false);(iterate 10 exact rfl);omega)))|(apply yA)|(apply yB)|(apply (W.regionS 7);exact rfl;kernel_rfl)|(apply yE)|(apply yH)|(refine jAx ?_)
  |(refine W.cond _ rfl (fun hb => ?_) (fun hb => ?_) <;> ((try simp only [hb,zK]) <;> (try simp only [zL,zI] at hb) <;> (try (exfalso;omega))))))
 (repeat' (first
  |(apply W.qd;(first
  |(exact zM)
  |(exact zN)))|(apply W.ed;((exact e_copyDm 1 rfl rfl rfl rfl (show 1 = min ([true].map tD).length w by simp;omega) (by omega) (rep_first h1) rfl)))|(apply yA)|(apply yB)|(refine jAc ?_)|(apply yE)
  |(apply yG)))
 refine AWP.loopW (α := Nat) (fun n => 1 ≤ n ∧ n ≤ w) (fun n => ⟨[(8,iV n),(7,.osl 0 0 0 w)],[.row 0 1 4 ((repT w n).map tD)]⟩) (fun n => w - n) 1 ⟨Nat.le_refl _,h1⟩ ⟨[0],rfl,rfl,rfl,by (repeat (first | exact trivial | refine ⟨rfl,?_⟩))⟩ fun n hn => ?_
 obtain ⟨hn1,hn2⟩ := hn
 by_cases hlt : n < w
 ·have hst := rep_step hn1 hlt
  have hTn := hT n
  generalize hk : min n (w - n) = k at *
  (repeat' (first
   |(apply W.qd;(first
   |(exact zM)|(exact zN)|(exact jAk)|(exact jAl)|(exact q_len_osl rfl rfl rfl)
   |(apply q_slc_osl;(iterate 3 exact rfl);(first | exact ⟨_,_,rfl,rfl⟩ | exact ⟨_,_,rfl,natI_spec rfl⟩ | exact ⟨_,_,rfl,(Int.toNat_of_nonneg (by omega)).symm⟩ | exact rfl);(first | exact ⟨_,_,rfl,rfl⟩ | exact ⟨_,_,rfl,natI_spec rfl⟩ | exact ⟨_,_,rfl,(Int.toNat_of_nonneg (by omega)).symm⟩ | exact rfl);omega;omega)))|(apply W.ed;((exact e_copyOm k rfl rfl rfl rfl (show k = min (n - 0) (w - n) by omega) (by omega) (by simp only [Nat.zero_add];exact hst) rfl)))|(apply yA)|(apply yB)|(refine jAc ?_)|(refine jAs ?_)|(apply yE)|(refine jBa ?_)|(apply yG)|(apply yH)|(apply yL)
   |(refine W.cond _ rfl (fun hb => ?_) (fun hb => ?_) <;> ((try simp only [hb,zK]) <;> (try simp only [zL,zI] at hb) <;> (try (exfalso;omega))))))
  refine ⟨n + k,⟨by omega,by omega⟩,by omega,[0],rfl,rfl,rfl,iV_eq (by omega),rfl,trivial⟩
 ·have e : n = w := by omega
  subst e
  have e2 : repT n n = List.replicate n true := by unfold repT;simp
  rw [e2]
  (repeat' (first
   |(apply W.qd;(first
   |(exact zM)|(exact zN)|(exact jAk)
   |(exact q_len_osl rfl rfl rfl)))|(apply yA)|(apply yB)|(refine jAc ?_)|(apply yE)|(apply yI)|(apply yJ)|(apply yK)|(apply yM)
   |(refine W.cond _ rfl (fun hb => ?_) (fun hb => ?_) <;> ((try simp only [hb,zK]) <;> (try simp only [zL,zI] at hb) <;> (try (exfalso;omega))))))
  exact Ends.osl rfl rfl (by simp) rfl
end
section
def decZ (M D : Int) (par : List (List Int)) : List Bool → Bool := decN M.toNat D.toNat (par.map fun r => r.map Int.toNat)
def leftC (nm : List Nat) (M D : Int) (par : List (List Int)) (dom : Int) (hv : List Bool) : Int := if chkC nm M D par dom = true ∧ (hv.length : Int) = D + (par.length : Int) then leftN (decZ M D par) hv else -1
def lossC (nm : List Nat) (M D : Int) (par : List (List Int)) (dom : Int) : Int := leftC nm M D par dom (List.replicate (D + (par.length : Int)).toNat true)
structure FIn (nm : List Nat) (D : Int) (par : List (List Int)) : Prop where
 n : isB nm
 l : nm.length < 9223372036854775808
 d : 0 ≤ D ∧ D ≤ 1000000
 p : par.length ≤ 1000000
theorem toZ_back (ps : List (List Nat)) : ((toZ ps).map fun r => r.map Int.toNat) = ps := by
 unfold toZ
 rw [List.map_map]
 have : ((fun r : List Int => r.map Int.toNat) ∘ fun r : List Nat => r.map fun n : Nat => (n : Int)) = id := by
  funext r
  simp [Function.comp_def]
 rw [this];simp
theorem decZ_nat (M D : Nat) (ps : List (List Nat)) : decZ M D (toZ ps) = decN M D ps := by
 unfold decZ
 rw [toZ_back];rfl
theorem chk_code {nm : List Nat} {M D dom : Int} {par : List (List Int)} (h : chkC nm M D par dom = true) : ∃ (m d : Nat) (ps : List (List Nat)),M = m ∧ D = d ∧ par = toZ ps ∧ CodeOk m d ps := ok_valid (chk_valid h)
attribute [local irreducible] Quiet Eff OpOk AWPG ACont ABlock ACalls AGoto
theorem A_dvalid {nm : List Nat} {M D dom : Int} {par : List (List Int)} {n : Nat} (h : FIn nm D par) : ACalls Tryz.prog 287 [cdF nm M D par dom,iV n] [] (bV (decide (chkC nm M D par dom = true ∧ (n : Int) = D + (par.length : Int)))) [] := by
 obtain ⟨e,hc,he⟩ := A_lcheck (M := M) (dom := dom) h.n h.l h.d h.p
 refine acalls_of_body Tryz.func287 rfl (zU rfl) ?_
 by_cases hk : chkC nm M D par dom = true
 ·obtain rfl : e = 0 := he.2 hk
  have hV := chk_valid hk
  obtain ⟨m,d,ps,rfl,rfl,rfl,hok⟩ := chk_code hk
  have hw := (A_ewidth (M := m) (D := d) (code_in hok)).cdF (nm := nm) (dom := dom)
  rw [if_pos hV] at hw
  (repeat' (first
   |(apply yFb;exact rfl;exact rfl)
   |(apply W.qd;(first
   |(exact zW (hc))|(exact zW (hw))|(exact zM)|(exact zN)|(exact jAo)|(exact q_eql rfl rfl)
   |(apply (yEb (u := .d _));exact rfl;exact rfl)))|(apply W.ed;(exact jAa))|(apply yA)|(apply yB)|(refine jAc ?_)|(apply yE)
   |(apply yJ)))
  refine Ends.b rfl ?_
  rw [decide_eq_decide]
  exact ⟨fun h => ⟨hk,h⟩,fun h => h.2⟩
 ·have hne : e ≠ 0 := fun h0 => hk (he.1 h0)
  (repeat' (first
   |(apply W.qd;(first
   |(exact zW (hc))|(exact zM)|(exact zN)|(exact jAo)|(exact q_eql rfl rfl)
   |(apply (yDb (u := .d _));exact rfl;exact rfl)))|(apply W.ed;(exact jAa))|(refine W.gOff _ _ rfl rfl (by intro h;cases h) ?_)|(apply yA)|(apply yB)|(refine jAc ?_)|(apply yE)|(apply yJ)
   |(refine W.gT _ _ rfl rfl (fun hb => ?_) (fun hb => ?_) <;> ((try simp only [hb,zK]) <;> (try simp only [zL,zI] at hb) <;> (try (exfalso;omega))))))
  exact Ends.b rfl (decide_eq_false fun h => hk h.1).symm
theorem A_left {nm : List Nat} {M D dom : Int} {par : List (List Int)} {hv : List Bool} (h : FIn nm D par) (hl : hv.length < 9223372036854775808) : ACalls Tryz.prog 265 [cdF nm M D par dom,bools hv] [] (iV (leftC nm M D par dom hv)) [] := by
 have hv0 := A_dvalid (M := M) (dom := dom) (n := hv.length) h
 refine acalls_of_body Tryz.func265 rfl (zU rfl) ?_
 have hmh : (hv.map tD).length = hv.length := List.length_map _
 rw [← hmh] at hv0
 unfold leftC
 by_cases hk : chkC nm M D par dom = true ∧ (hv.length : Int) = D + (par.length : Int)
 ·rw [if_pos hk]
  rw [hmh,decide_eq_true hk,← hmh] at hv0
  obtain ⟨m,d,ps,rfl,rfl,rfl,hok⟩ := chk_code hk.1
  have hpl : (toZ ps).length = ps.length := List.length_map _
  have hs := A_search hok (hv := hv) (by omega)
  rw [cdN_A] at hs
  have hs := hs.cdF (nm := nm) (dom := dom)
  rw [decZ_nat]
  (repeat' (first
   |(apply W.qd;(first
   |(exact zW (hv0))|(exact zW (hs))|(exact zM)|(exact zN)|(exact jAo)|(exact q_not rfl)|(exact yAb rfl rfl)
   |(exact jAu)))|(apply W.ed;(exact jAa))|(apply yA)|(apply yB)|(refine jAc ?_)|(apply yE)|(apply yH)|(apply yJ)
   |(refine jAx ?_)))
  exact Ends.i rfl rfl
 ·rw [if_neg hk]
  rw [hmh,decide_eq_false hk,← hmh] at hv0
  (repeat' (first
   |(apply W.qd;(first
   |(exact zW (hv0))|(exact zM)|(exact zN)|(exact jAo)|(exact q_not rfl)
   |(exact jAu)))|(apply W.ed;(exact jAa))|(apply yA)|(apply yB)|(refine jAc ?_)|(apply yE)|(apply yJ)|(apply yP)
   |(refine jAv ?_)))
  exact Ends.i rfl rfl
theorem A_losses {nm : List Nat} {M D dom : Int} {par : List (List Int)} (h : FIn nm D par) : ACalls Tryz.prog 229 [cdF nm M D par dom] [] (iV (lossC nm M D par dom)) [] := by
 obtain ⟨e,hc,he⟩ := A_lcheck (M := M) (dom := dom) h.n h.l h.d h.p
 refine acalls_of_body Tryz.func229 rfl (zU rfl) ?_
 by_cases hk : chkC nm M D par dom = true
 ·obtain rfl : e = 0 := he.2 hk
  have hV := chk_valid hk
  have hl := A_left (M := M) (dom := dom) (hv := List.replicate (D + (par.length : Int)).toNat true) h (by have := h.d;have := h.p;simp;omega)
  rw [show leftC nm M D par dom (List.replicate (D + (par.length : Int)).toNat true) = lossC nm M D par dom from rfl] at hl
  obtain ⟨m,d,ps,rfl,rfl,rfl,hok⟩ := chk_code hk
  have hw := (A_ewidth (M := m) (D := d) (code_in hok)).cdF (nm := nm) (dom := dom)
  rw [if_pos hV] at hw
  have hd1 := hok.d
  have hw1 := hok.w
  have hpl : (toZ ps).length = ps.length := List.length_map _
  have eW : ((d : Int) + ((toZ ps).length : Int)) = ((d + ps.length : Nat) : Int) := by omega
  rw [eW] at hw hl
  have hr := A_repeatT (w := d + ps.length) (by omega) (by omega)
  rw [Int.toNat_natCast] at hl
  (repeat' (first
   |(apply W.qd;(first
   |(exact zW (hc))|(exact zW (hw))|(exact zW (hr))|(exact zW (hl))|(exact zN)|(exact jAo)|(exact q_neq rfl rfl)
   |(exact jAp)))|(apply W.ed;(exact jAa))|(apply yA)|(apply yB)|(refine jAc ?_)|(refine jAs ?_)|(apply yE)|(refine jBa ?_)|(apply yH)|(apply yJ)
   |(refine jAx ?_)))
  exact Ends.i rfl rfl
 ·have hne : e ≠ 0 := fun h0 => hk (he.1 h0)
  have e1 : lossC nm M D par dom = -1 := if_neg fun h => hk h.1
  rw [e1]
  (repeat' (first
   |(apply W.qd;(first
   |(exact zW (hc))|(exact zN)|(exact jAo)
   |(exact q_neq rfl rfl)))|(apply W.ed;(exact jAa))|(apply yA)|(apply yB)|(refine jAc ?_)|(apply yE)|(apply yJ)|(apply yP)
   |(refine W.cond _ rfl (fun hb => ?_) (fun hb => ?_) <;> ((try simp only [hb,zK]) <;> (try simp only [zL,zI] at hb) <;> (try (exfalso;omega))))))
  exact Ends.i rfl rfl
end
section
section
variable {P : Program} {m : Nat} {env : List (Nat × AV)} {own : List Ent} {dst : Option Tmp} {ty : TypeId} {pos : String} {af : Array Edge} {gd : Option (Nat × Bool)}
theorem e_appE {t e : TypeId} {sz by' : Nat} {z : Value} {x y : Operand} {p ver n : Nat} {l l2 : List (List Dat)} {own' : List Ent} (hx : lookO env x = .osl p ver 0 n) (hp : own[p]? = some (.row ver sz e l)) (hy : lookO env y = .d (.sl sz l2)) (ho' : setF own p (.row (ver + 1) sz e (l ++ l2)) = some own') (ht : slInfo P t = some (e, sz, by', z)) (hz : z.cells.size = sz) (hby : Nat.ble by' 1024 = true) (hm : Nat.ble 0 p = true) (hn : n = l.length)
 (hb : l.length + l2.length ≤ 1000000000) :
 Eff P m ⟨dst,.call ⟨.builtin .append,#[x,y],#[t,t]⟩,ty,pos,af,gd⟩ env own [p] (.osl p (ver + 1) 0 (l.length + l2.length)) own' := by
 rcases Nat.eq_zero_or_pos l2.length with h0 | h0
 case inr => exact e_appF hx hp hy ho' ht hz hby hm hn h0 hb
 obtain rfl := List.eq_nil_of_length_eq_zero h0
 rw [setF_spec ho']
 refine Eff.mk (set_same _ p) fun F κ a w hs ho hmk => ?_
 subst hn
 have hx1 := hs x (by simp [Op.operands,Call.operands]);rw [hx] at hx1
 have hy1 := hs y (by simp [Op.operands,Call.operands]);rw [hy,AV.sat,Dat.sat] at hy1
 have hx2 := hx1
 rw [AV.sat] at hx2
 obtain ⟨h3,A,c,h4,h5,h6,h7⟩ := hx2.2 sz e l hp
 obtain ⟨B,c2,hyv,_,_,_⟩ := hy1
 obtain ⟨he,inf,hi1,hi2,_,_⟩ := slInfo_spec ht
 have hf : (Builtin.firstCells inf.size 0 (.slice B 0 c2)).run P w = .ok #[] w := by
  cases B with
  | none => exact run_firstCells_none w inf.size 0 0 c2
  | some b => exact run_firstCells_some w inf.size 0 b 0 c2 [] (by simp) (fun j v hj => by simp at hj)
 rw [run_builtin_append (dst := dst) (pos := pos) (af := af) (gd := gd) (v := .slice A l.length c) (w' := w) (by
  rw [h4,hyv]
  cases A <;> simp [Builtin.append_,run_underlying he,sizeOf,typeInfo,hi1,Builtin.lenOf,h5,hf,storeCells])]
 obtain ⟨og,hog⟩ := ho.kap p _ hp
 have hκ := setK_same hog
 have hent := ho.ent p _ hp
 have hgd : κ.getD p none = og := by simp [List.getD_eq_getElem?_getD,hog]
 rw [hgd] at hent
 have hpl : p < own.length := (List.getElem?_eq_some_iff.1 hp).1
 obtain ⟨g1,g2⟩ := step_upd (m := m) (x' := .row (ver + 1) sz e (l ++ [])) (og' := og) (w' := w) ho hp hog rfl rfl rfl (Nat.le_refl _) (fun _ _ _ => rfl) (.inl rfl) (.inr rfl) (.inl (Nat.lt_succ_self ver)) (fun hst => by
  rw [hκ]
  unfold EntSat at hent ⊢
  rw [List.append_nil]
  exact hent)
 refine ⟨_,?_,g1,g2⟩
 rw [AV.sat]
 have hself : (own.set p (.row (ver + 1) sz e (l ++ [])))[p]? = some (.row (ver + 1) sz e (l ++ [])) := by rw [List.getElem?_set_self hpl]
 refine ⟨⟨_,hself,Nat.le_refl _,rfl⟩,fun sz2 e2 c2 hc => ?_⟩
 rw [hself] at hc
 obtain ⟨rfl,rfl,rfl⟩ : sz = sz2 ∧ e = e2 ∧ l ++ [] = c2 := by simpa using hc
 rw [hκ]
 exact ⟨by simp,A,c,by simp,by simpa using h5,h6,fun _ => h7 (.inr rfl)⟩
end
end
section
section
variable {P : Program} {Γ : Ctx} {n m : Nat} {c : Code} {Q : Exit → St → Prop} {env : List (Nat × AV)} {own : List Ent}
end
section
variable {P : Program} {m : Nat} {env : List (Nat × AV)} {own : List Ent} {dst : Option Tmp} {ty : TypeId} {pos : String} {af : Array Edge} {gd : Option (Nat × Bool)}
theorem q_fld_rptF {s f off o' : Nat} {t : TypeId} {x : Operand} {i ver j o sz : Nat} {e : TypeId} {l : List (List Dat)} (hx : lookO env x = .rpt i ver j o) (hi : own[i]? = some (.row ver sz e l)) (h : fldInfo P s f = some (off,t)) (hn : natF (o + off) = some o') : Quiet P m ⟨dst,.fieldAddr s x f,ty,pos,af,gd⟩ env own [i] (.rpt i ver j o') := by
 rw [natF_spec hn];exact q_fld_rpt h hx hi
end
end
section
abbrev Cd := List Nat × Int × Int × List (List Int) × Int
abbrev Sv := List Nat × Int × Int × Int × Int
def cdD (c : Cd) : List Dat := [.v (.string (bytesOf c.1)),.v (.int .i64 c.2.1),.v (.int .i64 c.2.2.1),.sl 1 (c.2.2.2.1.map rD),.v (.int .i64 c.2.2.2.2)]
def svD (v : Sv) : List Dat := [.v (.string (bytesOf v.1)),.v (.int .i64 v.2.1),.v (.int .i64 v.2.2.1),.v (.int .i64 v.2.2.2.1),.v (.int .i64 v.2.2.2.2)]
abbrev cdA1 (c : Cd) : AV := .agg ((cdD c).map .d)
abbrev svA1 (v : Sv) : AV := .agg ((svD v).map .d)
abbrev cds (l : List Cd) : AV := .d (.sl 5 (l.map cdD))
abbrev svs (l : List Sv) : AV := .d (.sl 5 (l.map svD))
abbrev lib (cs : List Cd) (vs : List Sv) : AV := .agg [cds cs,svs vs]
def cd0 : Cd := ([],0,0,[],0)
def sv0 : Sv := ([],0,0,0,0)
def chkD (c : Cd) : Bool := chkC c.1 c.2.1 c.2.2.1 c.2.2.2.1 c.2.2.2.2
def losD (c : Cd) : Int := lossC c.1 c.2.1 c.2.2.1 c.2.2.2.1 c.2.2.2.2
def FInD (c : Cd) : Prop := FIn c.1 c.2.2.1 c.2.2.2.1
structure NameIn (s : List Nat) : Prop where
 b : isB s
 l : s.length < 9223372036854775808
def nameB (s : List Nat) : Bool := (decide (1 ≤ s.length) && decide (s.length ≤ 12)) && (List.range s.length).all (wordAt s)
def fxI (i : Int) : Int := if i < 0 then 0 else i
def fxE (i : Int) : Int := if i < 0 then 12 else 0
abbrev findA (i : Int) : AV := .tup [iV (fxI i),iV (fxE i)]
def fcI (cs : List Cd) (nm : List Nat) : Int := idxA (fun c => decide (c.1 = nm)) cs
def fvI (vs : List Sv) (nm : List Nat) : Int := idxA (fun v => decide (v.1 = nm)) vs
def hasB (n : Nat) (k : Int) : Bool := decide (0 ≤ k) && decide (k < (n : Int))
def keepsB (cs : List Cd) (k n : Int) : Bool := hasB cs.length k && decide (n ≤ losD (cs.getD k.toNat cd0))
def plausB (nm : List Nat) (l w : Int) : Bool := nameB nm && (decide (0 ≤ l) && (decide (l ≤ 4) && (decide (1 ≤ w) && decide (w ≤ 1048576))))
def usesB (k : Int) (v : Sv) : Bool := decide (v.2.1 = k) || decide (v.2.2.1 = k)
def userI (vs : List Sv) (k : Int) : Int := idxA (usesB k) vs
def aloneB (vs : List Sv) (i : Nat) : Bool := decide (userI vs (vs.getD i sv0).2.1 = (i : Int)) && (decide ((vs.getD i sv0).2.2.1 = -1) || decide (userI vs (vs.getD i sv0).2.2.1 = (i : Int)))
attribute [local irreducible] Quiet Eff OpOk AWPG ACont ABlock ACalls AGoto
theorem A_small30 (c : Nat) : ACalls Tryz.prog 264 [.d (.v (.int .u8 c))] [] (bV (letB c)) [] := by
 refine acalls_of_body Tryz.func264 rfl (zU rfl) ?_
 unfold letB
 (repeat' (first
  |(apply yFb;exact rfl;exact rfl)
  |(apply W.qd;(first
  |(exact zM)|(exact zN)|(exact q_leq rfl rfl)|(exact q_geq rfl rfl)|(apply (yEb (u := .d _));exact rfl;exact rfl)
  |(apply (yDb (u := .d _));exact rfl;exact rfl)))|(refine W.gOff _ _ rfl rfl (by intro h;cases h) ?_)|(apply yA)|(apply yB)|(refine jAc ?_)|(apply yE)|(apply yJ)
  |(refine W.gT _ _ rfl rfl (fun hb => ?_) (fun hb => ?_) <;> ((try simp only [hb,zK]) <;> (try simp only [zL,zI] at hb) <;> (try (exfalso;omega))))))
 all_goals refine Ends.b rfl ?_
 all_goals first | (rw [Bool.eq_iff_iff];simp <;> omega) | (simp;omega)
theorem A_name30 {s : List Nat} (h : NameIn s) : ACalls Tryz.prog 227 [bS s] [] (bV (nameB s)) [] := by
 refine acalls_of_body Tryz.func227 rfl (zU rfl) ?_
 have hs := h.b
 have hl := h.l
 have hL := A_small30
 (repeat' (first
  |(apply W.qd;(first
  |(exact zM)|(exact zN)
  |(exact q_len_bs rfl rfl)))|(apply yA)|(apply yB)|(apply (W.regionS 3);exact rfl;kernel_rfl)|(apply yE)
  |(apply yG)))
 refine AWP.loopW (α := Nat) (fun k => k ≤ s.length ∧ ∀ j,j < k → wordAt s j = true) (fun k => ⟨[(8,iV k),(7,iV s.length),(3,.fn 264 []),(0,bS s)],[]⟩) (fun k => s.length - k) 0 ⟨Nat.zero_le _,fun j hj => by omega⟩ ⟨[],rfl,rfl,rfl,by (repeat (first | exact trivial | refine ⟨rfl,?_⟩))⟩ fun k hk => ?_
 by_cases hkl : k < s.length
 ·have eg : s.getD k 0 = s[k] := by rw [List.getD_eq_getElem?_getD, List.getElem?_eq_getElem hkl]; rfl
  have hnext : wordAt s k = true → ∀ j,j < k + 1 → wordAt s j = true := fun h j hj => by
   by_cases e : j = k
   ·subst e;exact h
   ·exact hk.2 j (by omega)
  have hbad : wordAt s k = false → nameB s = false := fun h => by
   unfold nameB
   rw [Bool.and_eq_false_iff]
   right
   rw [List.all_eq_false]
   exact ⟨k,List.mem_range.2 hkl,by rw [h];decide⟩
  have hwa : wordAt s k = (letB s[k] || (decide (k ≠ 0) && (decide (48 ≤ s[k]) && decide (s[k] ≤ 57)))) := by unfold wordAt digB;rw [eg]
  replace hwa := Lib.hid hwa
  clear hk
  (repeat' (first
   |(apply yFb;exact rfl;exact rfl)
   |(apply W.qd;(first
   |(exact zW (hL s[k]))|(exact zM)|(exact zN)|(exact jAk)|(exact q_gtr rfl rfl)|(exact q_eql rfl rfl)|(exact q_not rfl)|(exact jAl)|(apply q_ix_bs;(iterate 3 exact rfl);(first | (with_reducible exact rfl) | exact natI_spec rfl | assumption | exact (Int.toNat_of_nonneg (by omega)).symm);(first | omega | (focus (simp only [List.length_map];omega)) | (focus (simp;done)) | (focus (simp;omega)));assumption)|(apply (yEb (u := .d _));exact rfl;exact rfl)
   |(apply (yDb (u := .d _));exact rfl;exact rfl)))|(refine W.gOff _ _ rfl rfl (by intro h;cases h) ?_)|(apply yA)|(apply yB)|(refine jAc ?_)|(apply yE)|(apply yG)|(apply yH)|(apply yJ)|(apply yP)|(apply yL)|(apply yN)|(refine jAv ?_)|(refine jAx ?_)|(refine W.gT _ _ rfl rfl (fun hb => ?_) (fun hb => ?_) <;> ((try simp only [hb,zK]) <;> (try simp only [zL,zI] at hb) <;> (try (exfalso;omega))))|(refine W.gF _ _ rfl rfl (fun hb => ?_) (fun hb => ?_) <;> ((try simp only [hb,zK]) <;> (try simp only [zL,zI] at hb) <;> (try (exfalso;omega))))
   |(refine W.cond _ rfl (fun hb => ?_) (fun hb => ?_) <;> ((try simp only [hb,zK]) <;> (try simp only [zL,zI] at hb) <;> (try (exfalso;omega))))))
  all_goals first
   |(refine Ends.b rfl (hbad ?_).symm;rw [hwa.out,Bool.or_eq_false_iff];refine ⟨by assumption,?_⟩;simp;omega)|(refine ⟨k + 1,⟨by omega,hnext ?_⟩,by omega,[],rfl,rfl,rfl,iV_eq (by omega),rfl,rfl,rfl,trivial⟩;rw [hwa.out,Bool.or_eq_true];first | exact .inl (by assumption) | (refine .inr ?_;simp;omega))
 ·have hall : (List.range s.length).all (wordAt s) = true := by
   rw [List.all_eq_true]
   intro j hj
   exact hk.2 j (by have := List.mem_range.1 hj;omega)
  unfold nameB
  rw [hall,Bool.and_true]
  clear hk hall
  (repeat' (first
   |(apply yFb;exact rfl;exact rfl)
   |(apply W.qd;(first
   |(exact zM)|(exact zN)|(exact jAk)|(exact q_leq rfl rfl)|(exact q_geq rfl rfl)|(exact q_len_bs rfl rfl)|(apply (yEb (u := .d _));exact rfl;exact rfl)
   |(apply (yDb (u := .d _));exact rfl;exact rfl)))|(refine W.gOff _ _ rfl rfl (by intro h;cases h) ?_)|(apply yA)|(apply yB)|(refine jAc ?_)|(apply yE)|(apply yI)|(apply yJ)|(apply yK)|(apply yM)|(refine W.gT _ _ rfl rfl (fun hb => ?_) (fun hb => ?_) <;> ((try simp only [hb,zK]) <;> (try simp only [zL,zI] at hb) <;> (try (exfalso;omega))))
   |(refine W.cond _ rfl (fun hb => ?_) (fun hb => ?_) <;> ((try simp only [hb,zK]) <;> (try simp only [zL,zI] at hb) <;> (try (exfalso;omega))))))
  all_goals (refine Ends.b rfl ?_;rw [Bool.eq_iff_iff];simp <;> omega)
theorem A_plausible {nm : List Nat} {l w : Int} (h : NameIn nm) : ACalls Tryz.prog 170 [bS nm,iV l,iV w] [] (bV (plausB nm l w)) [] := by
 refine acalls_of_body Tryz.func170 rfl (zU rfl) ?_
 have hn := A_name30 h
 unfold plausB
 cases hq : nameB nm with
 | false =>
   rw [hq] at hn
   (repeat' (first
    |(apply W.qd;(first
    |(exact zW (hn))|(exact zM)|(exact zN)
    |(apply (yDb (u := .d _));exact rfl;exact rfl)))|(refine W.gOff _ _ rfl rfl (by intro h;cases h) ?_)|(apply yA)|(apply yB)|(refine jAc ?_)|(apply yE)
    |(apply yJ)))
   all_goals exact Ends.b rfl rfl
 | true =>
   rw [hq] at hn
   (repeat' (first
    |(apply yFb;exact rfl;exact rfl)
    |(apply W.qd;(first
    |(exact zW (hn))|(exact zM)|(exact zN)|(exact q_leq rfl rfl)|(exact q_geq rfl rfl)|(apply (yEb (u := .d _));exact rfl;exact rfl)
    |(apply (yDb (u := .d _));exact rfl;exact rfl)))|(refine W.gOff _ _ rfl rfl (by intro h;cases h) ?_)|(apply yA)|(apply yB)|(refine jAc ?_)|(apply yE)|(apply yJ)
    |(refine W.gT _ _ rfl rfl (fun hb => ?_) (fun hb => ?_) <;> ((try simp only [hb,zK]) <;> (try simp only [zL,zI] at hb) <;> (try (exfalso;omega))))))
   all_goals (refine Ends.b rfl ?_;rw [Bool.eq_iff_iff];simp <;> omega)
theorem A_nmC (c : Cd) : ACalls Tryz.prog 224 [cdA1 c] [] (bS c.1) [] := by
 refine acalls_of_body Tryz.func224 rfl (zU rfl) ?_
 (repeat' (first
  |(apply W.qd;(first
  |(exact zN)|(exact jAq)
  |(exact jAh)))|(apply W.ed;(exact jAa))|(apply yA)|(apply yB)|(refine jAc ?_)|(apply yE)
  |(apply yJ)))
 exact Ends.d rfl rfl
theorem A_ixC {O : List Ent} {g : FuncId} {caps : List AV} (q : Cd → Bool) (l : List Cd) (hl : l.length ≤ 9223372036854775807) (hgf : isFn Tryz.prog g = true) (hg : ∀ x ∈ l,ACalls Tryz.prog g (cdA1 x :: caps) O (bV (q x)) O) : ACalls Tryz.prog 260 [cds l,.fn g caps] O (iV (idxA q l)) O := by
 refine acalls_of_bodyS Tryz.func260 rfl (zU rfl) ?_
 have hm : (l.map cdD).length = l.length := List.length_map _
 (repeat (first
  |(apply W.qd;(first
  |(exact zM)|(exact zN)
  |(exact jAu)))|(apply yA)|(apply yB)|(refine jAc ?_)|(apply yE)
  |(apply yG)))
 refine AWP.loopE (α := Nat) (fun k => k ≤ l.length ∧ ∀ x ∈ l.take k,q x = false) (fun k => ⟨[(8,iV k),(7,iV l.length),(0,cds l),(1,.fn g caps)],O⟩) (fun k => l.length - k) 0 ⟨by omega,by simp⟩ ⟨rfl,rfl,iV_eq (by rw [hm]),rfl,rfl,trivial⟩ fun k hk => ?_
 by_cases hkl : k < l.length
 ·have hx := hg l[k] (List.getElem_mem hkl)
  (repeat' (first
   |(apply W.qd;(first
   |(exact zM)|(exact zN)|(exact jAk)|(exact jAl)|(exact jAj)
   |(exact jA)))|(apply W.ed;(apply (e_callS (hx));exact rfl;exact rfl;(first | assumption | kernel_rfl)))|(apply yA)|(apply yB)|(refine jAc ?_)|(apply yE)|(apply yG)|(apply yH)|(apply yJ)|(apply yP)|(apply yL)|(apply yN)
   |(refine W.cond _ rfl (fun hb => ?_) (fun hb => ?_) <;> ((try simp only [hb,zK]) <;> (try simp only [zL,zI] at hb) <;> (try (exfalso;omega))))))
  ·exact EndsS.i rfl (idxA_hit hkl hb hk.2).symm
  ·refine ⟨k + 1, ⟨by omega, fun x hx => ?_⟩, by omega, ⟨rfl, by (repeat (first | exact trivial | refine ⟨rfl, ?_⟩))⟩⟩
   rw [List.take_succ_eq_append_getElem hkl] at hx
   rcases List.mem_append.1 hx with hx | hx
   ·exact hk.2 x hx
   ·rw [List.mem_singleton.1 hx];exact hb
 ·(repeat' (first
  |(apply W.qd;(first
  |(exact zN)
  |(exact jAk)))|(apply yA)|(apply yB)|(refine jAc ?_)|(apply yE)|(apply yI)|(apply yJ)|(apply yK)|(apply yM)
  |(refine W.cond _ rfl (fun hb => ?_) (fun hb => ?_) <;> ((try simp only [hb,zK]) <;> (try simp only [zL,zI] at hb) <;> (try (exfalso;omega))))))
  refine EndsS.i rfl (idxA_miss fun x hx => hk.2 x ?_).symm
  rwa [List.take_of_length_le (by omega)]
abbrev findOC (nm : List Nat) : List Ent := [.box [.fn 224 []],.box [bS nm]]
theorem A_find1C (c : Cd) {nm : List Nat} (h1 : isB c.1) (h2 : isB nm) : ACalls Tryz.prog 261 [cdA1 c,.opt 0 0,.opt 1 0] (findOC nm) (bV (decide (c.1 = nm))) (findOC nm) := by
 refine acalls_of_bodyO Tryz.func261 rfl (zU rfl) ?_
 have hn := A_nmC c
 (repeat' (first
  |(apply W.qd;(first
  |(exact zW (hn))|(exact zN)|(exact jAh)|(exact jAo)
  |(apply q_eqlS;exact rfl;exact rfl;(first | assumption | exact isB_nil | exact isB_xor (by assumption) (by assumption));(first | assumption | exact isB_nil | exact isB_xor (by assumption) (by assumption)))))|(apply W.ed;(exact jAa))|(apply yA)|(apply yB)|(refine jAc ?_)|(refine jAs ?_)|(apply yE)|(refine jBa ?_)
  |(apply yJ)))
 exact ⟨.inl rfl,[0,1],[bV (decide (c.1 = nm))],rfl,rfl,⟨rfl,trivial⟩,AVle.of_eq rfl,rfl⟩
theorem A_findFC {l : List Cd} {nm : List Nat} (hl : l.length ≤ 9223372036854775807) (hb1 : ∀ c ∈ l,isB c.1) (h2 : isB nm) : ACalls Tryz.prog 223 [cds l,.fn 224 [],bS nm] [] (findA (fcI l nm)) [] := by
 refine acalls_of_body Tryz.func223 rfl (zU rfl) ?_
 have hi := A_ixC (O := findOC nm) (g := 261) (caps := [.opt 0 0,.opt 1 0]) (fun c => decide (c.1 = nm)) l hl (by kernel_rfl) (fun c hc => A_find1C c (hb1 c hc) h2)
 rw [show idxA (fun c : Cd => decide (c.1 = nm)) l = fcI l nm from rfl] at hi
 unfold findA fxI fxE
 generalize fcI l nm = i at *
 by_cases hi0 : i < 0
 ·rw [if_pos hi0, if_pos hi0]
  (repeat' (first
   |(apply W.qd;(first
   |(exact zM)|(exact zN)|(exact jAk)
   |(apply q_makeFunc)))
   |(apply W.ed;(first
   |(apply (e_callS (hi));exact rfl;exact rfl;(first | assumption | kernel_rfl))
   |(exact jAa)))|(apply yA)|(apply yB)|(refine jAc ?_)|(apply yE)|(apply yJ)|(apply yP)
   |(refine W.cond _ rfl (fun hb => ?_) (fun hb => ?_) <;> ((try simp only [hb,zK]) <;> (try simp only [zL,zI] at hb) <;> (try (exfalso;omega))))))
  exact Ends.two rfl rfl rfl
 ·rw [if_neg hi0, if_neg hi0]
  (repeat' (first
   |(apply W.qd;(first
   |(exact zM)|(exact zN)|(exact jAk)
   |(apply q_makeFunc)))
   |(apply W.ed;(first
   |(apply (e_callS (hi));exact rfl;exact rfl;(first | assumption | kernel_rfl))
   |(exact jAa)))|(apply yA)|(apply yB)|(refine jAc ?_)|(apply yE)|(apply yH)|(apply yJ)
   |(refine W.cond _ rfl (fun hb => ?_) (fun hb => ?_) <;> ((try simp only [hb,zK]) <;> (try simp only [zL,zI] at hb) <;> (try (exfalso;omega))))))
  exact Ends.two rfl rfl rfl
theorem A_findC {cs : List Cd} {vs : List Sv} {nm : List Nat} (hl : cs.length ≤ 9223372036854775807) (hb1 : ∀ c ∈ cs,isB c.1) (h2 : isB nm) : ACalls Tryz.prog 168 [lib cs vs,bS nm] [] (findA (fcI cs nm)) [] := by
 refine acalls_of_body Tryz.func168 rfl (zU rfl) ?_
 have hf := A_findFC hl hb1 h2
 (repeat' (first
  |(apply W.qd;(first
  |(exact zW (hf))|(exact zM)|(exact zN)|(exact jAq)|(exact jAh)
  |(exact yAb rfl rfl)))|(apply W.ed;(exact jAa))|(apply yA)|(apply yB)|(refine jAc ?_)|(apply yE)
  |(apply yJ)))
 exact Ends.two rfl rfl rfl
theorem A_nmV (c : Sv) : ACalls Tryz.prog 226 [svA1 c] [] (bS c.1) [] := by
 refine acalls_of_body Tryz.func226 rfl (zU rfl) ?_
 (repeat' (first
  |(apply W.qd;(first
  |(exact zN)|(exact jAq)
  |(exact jAh)))|(apply W.ed;(exact jAa))|(apply yA)|(apply yB)|(refine jAc ?_)|(apply yE)
  |(apply yJ)))
 exact Ends.d rfl rfl
theorem A_ixV {O : List Ent} {g : FuncId} {caps : List AV} (q : Sv → Bool) (l : List Sv) (hl : l.length ≤ 9223372036854775807) (hgf : isFn Tryz.prog g = true) (hg : ∀ x ∈ l,ACalls Tryz.prog g (svA1 x :: caps) O (bV (q x)) O) : ACalls Tryz.prog 262 [svs l,.fn g caps] O (iV (idxA q l)) O := by
 refine acalls_of_bodyS Tryz.func262 rfl (zU rfl) ?_
 have hm : (l.map svD).length = l.length := List.length_map _
 (repeat (first
  |(apply W.qd;(first
  |(exact zM)|(exact zN)
  |(exact jAu)))|(apply yA)|(apply yB)|(refine jAc ?_)|(apply yE)
  |(apply yG)))
 refine AWP.loopE (α := Nat) (fun k => k ≤ l.length ∧ ∀ x ∈ l.take k,q x = false) (fun k => ⟨[(8,iV k),(7,iV l.length),(0,svs l),(1,.fn g caps)],O⟩) (fun k => l.length - k) 0 ⟨by omega,by simp⟩ ⟨rfl,rfl,iV_eq (by rw [hm]),rfl,rfl,trivial⟩ fun k hk => ?_
 by_cases hkl : k < l.length
 ·have hx := hg l[k] (List.getElem_mem hkl)
  (repeat' (first
   |(apply W.qd;(first
   |(exact zM)|(exact zN)|(exact jAk)|(exact jAl)|(exact jAj)
   |(exact jA)))|(apply W.ed;(apply (e_callS (hx));exact rfl;exact rfl;(first | assumption | kernel_rfl)))|(apply yA)|(apply yB)|(refine jAc ?_)|(apply yE)|(apply yG)|(apply yH)|(apply yJ)|(apply yP)|(apply yL)|(apply yN)
   |(refine W.cond _ rfl (fun hb => ?_) (fun hb => ?_) <;> ((try simp only [hb,zK]) <;> (try simp only [zL,zI] at hb) <;> (try (exfalso;omega))))))
  ·exact EndsS.i rfl (idxA_hit hkl hb hk.2).symm
  ·refine ⟨k + 1, ⟨by omega, fun x hx => ?_⟩, by omega, ⟨rfl, by (repeat (first | exact trivial | refine ⟨rfl, ?_⟩))⟩⟩
   rw [List.take_succ_eq_append_getElem hkl] at hx
   rcases List.mem_append.1 hx with hx | hx
   ·exact hk.2 x hx
   ·rw [List.mem_singleton.1 hx];exact hb
 ·(repeat' (first
  |(apply W.qd;(first
  |(exact zN)
  |(exact jAk)))|(apply yA)|(apply yB)|(refine jAc ?_)|(apply yE)|(apply yI)|(apply yJ)|(apply yK)|(apply yM)
  |(refine W.cond _ rfl (fun hb => ?_) (fun hb => ?_) <;> ((try simp only [hb,zK]) <;> (try simp only [zL,zI] at hb) <;> (try (exfalso;omega))))))
  refine EndsS.i rfl (idxA_miss fun x hx => hk.2 x ?_).symm
  rwa [List.take_of_length_le (by omega)]
abbrev findOV (nm : List Nat) : List Ent := [.box [.fn 226 []],.box [bS nm]]
theorem A_find1V (c : Sv) {nm : List Nat} (h1 : isB c.1) (h2 : isB nm) : ACalls Tryz.prog 263 [svA1 c,.opt 0 0,.opt 1 0] (findOV nm) (bV (decide (c.1 = nm))) (findOV nm) := by
 refine acalls_of_bodyO Tryz.func263 rfl (zU rfl) ?_
 have hn := A_nmV c
 (repeat' (first
  |(apply W.qd;(first
  |(exact zW (hn))|(exact zN)|(exact jAh)|(exact jAo)
  |(apply q_eqlS;exact rfl;exact rfl;(first | assumption | exact isB_nil | exact isB_xor (by assumption) (by assumption));(first | assumption | exact isB_nil | exact isB_xor (by assumption) (by assumption)))))|(apply W.ed;(exact jAa))|(apply yA)|(apply yB)|(refine jAc ?_)|(refine jAs ?_)|(apply yE)|(refine jBa ?_)
  |(apply yJ)))
 exact ⟨.inl rfl,[0,1],[bV (decide (c.1 = nm))],rfl,rfl,⟨rfl,trivial⟩,AVle.of_eq rfl,rfl⟩
theorem A_findFV {l : List Sv} {nm : List Nat} (hl : l.length ≤ 9223372036854775807) (hb1 : ∀ c ∈ l,isB c.1) (h2 : isB nm) : ACalls Tryz.prog 225 [svs l,.fn 226 [],bS nm] [] (findA (fvI l nm)) [] := by
 refine acalls_of_body Tryz.func225 rfl (zU rfl) ?_
 have hi := A_ixV (O := findOV nm) (g := 263) (caps := [.opt 0 0,.opt 1 0]) (fun c => decide (c.1 = nm)) l hl (by kernel_rfl) (fun c hc => A_find1V c (hb1 c hc) h2)
 rw [show idxA (fun c : Sv => decide (c.1 = nm)) l = fvI l nm from rfl] at hi
 unfold findA fxI fxE
 generalize fvI l nm = i at *
 by_cases hi0 : i < 0
 ·rw [if_pos hi0, if_pos hi0]
  (repeat' (first
   |(apply W.qd;(first
   |(exact zM)|(exact zN)|(exact jAk)
   |(apply q_makeFunc)))
   |(apply W.ed;(first
   |(apply (e_callS (hi));exact rfl;exact rfl;(first | assumption | kernel_rfl))
   |(exact jAa)))|(apply yA)|(apply yB)|(refine jAc ?_)|(apply yE)|(apply yJ)|(apply yP)
   |(refine W.cond _ rfl (fun hb => ?_) (fun hb => ?_) <;> ((try simp only [hb,zK]) <;> (try simp only [zL,zI] at hb) <;> (try (exfalso;omega))))))
  exact Ends.two rfl rfl rfl
 ·rw [if_neg hi0, if_neg hi0]
  (repeat' (first
   |(apply W.qd;(first
   |(exact zM)|(exact zN)|(exact jAk)
   |(apply q_makeFunc)))
   |(apply W.ed;(first
   |(apply (e_callS (hi));exact rfl;exact rfl;(first | assumption | kernel_rfl))
   |(exact jAa)))|(apply yA)|(apply yB)|(refine jAc ?_)|(apply yE)|(apply yH)|(apply yJ)
   |(refine W.cond _ rfl (fun hb => ?_) (fun hb => ?_) <;> ((try simp only [hb,zK]) <;> (try simp only [zL,zI] at hb) <;> (try (exfalso;omega))))))
  exact Ends.two rfl rfl rfl
theorem A_findV {cs : List Cd} {vs : List Sv} {nm : List Nat} (hl : vs.length ≤ 9223372036854775807) (hb1 : ∀ c ∈ vs,isB c.1) (h2 : isB nm) : ACalls Tryz.prog 169 [lib cs vs,bS nm] [] (findA (fvI vs nm)) [] := by
 refine acalls_of_body Tryz.func169 rfl (zU rfl) ?_
 have hf := A_findFV hl hb1 h2
 (repeat' (first
  |(apply W.qd;(first
  |(exact zW (hf))|(exact zM)|(exact zN)|(exact jAq)|(exact jAh)
  |(exact yAb rfl rfl)))|(apply W.ed;(exact jAa))|(apply yA)|(apply yB)|(refine jAc ?_)|(apply yE)
  |(apply yJ)))
 exact Ends.two rfl rfl rfl
theorem A_has {cs : List Cd} {vs : List Sv} {k : Int} : ACalls Tryz.prog 228 [lib cs vs,iV k] [] (bV (hasB cs.length k)) [] := by
 refine acalls_of_body Tryz.func228 rfl (zU rfl) ?_
 have hm : (cs.map cdD).length = cs.length := List.length_map _
 unfold hasB
 (repeat' (first
  |(apply yFb;exact rfl;exact rfl)
  |(apply W.qd;(first
  |(exact zM)|(exact zN)|(exact jAq)|(exact jAh)|(exact jAk)|(exact q_geq rfl rfl)|(exact jAu)|(apply (yEb (u := .d _));exact rfl;exact rfl)
  |(apply (yDb (u := .d _));exact rfl;exact rfl)))|(apply W.ed;(exact jAa))|(refine W.gOff _ _ rfl rfl (by intro h;cases h) ?_)|(apply yA)|(apply yB)|(refine jAc ?_)|(apply yE)|(apply yJ)
  |(refine W.gT _ _ rfl rfl (fun hb => ?_) (fun hb => ?_) <;> ((try simp only [hb,zK]) <;> (try simp only [zL,zI] at hb) <;> (try (exfalso;omega))))))
 all_goals (refine Ends.b rfl ?_;rw [Bool.eq_iff_iff];simp <;> omega)
theorem A_losD {c : Cd} (h : FInD c) : ACalls Tryz.prog 229 [cdA1 c] [] (iV (losD c)) [] := A_losses h
theorem A_keeps {cs : List Cd} {vs : List Sv} {k n : Int} (hF : ∀ c ∈ cs,FInD c) : ACalls Tryz.prog 171 [lib cs vs,iV k,iV n] [] (bV (keepsB cs k n)) [] := by
 refine acalls_of_body Tryz.func171 rfl (zU rfl) ?_
 have hm : (cs.map cdD).length = cs.length := List.length_map _
 have hh := A_has (cs := cs) (vs := vs) (k := k)
 unfold keepsB
 cases hq : hasB cs.length k with
 | false =>
   rw [hq] at hh
   (repeat' (first
    |(apply W.qd;(first
    |(exact zW (hh))|(exact zM)|(exact zN)|(exact jAo)
    |(apply (yDb (u := .d _));exact rfl;exact rfl)))|(apply W.ed;(exact jAa))|(refine W.gOff _ _ rfl rfl (by intro h;cases h) ?_)|(apply yA)|(apply yB)|(refine jAc ?_)|(apply yE)
    |(apply yJ)))
   all_goals exact Ends.b rfl rfl
 | true =>
   rw [hq] at hh
   unfold hasB at hq
   rw [Bool.and_eq_true,decide_eq_true_eq,decide_eq_true_eq] at hq
   obtain ⟨j,rfl⟩ : ∃ j : Nat,k = j := ⟨k.toNat,by omega⟩
   have hj : j < cs.length := by omega
   have hls := A_losD (hF cs[j] (List.getElem_mem hj))
   have eg : cs.getD (j : Int).toNat cd0 = cs[j] := by rw [Int.toNat_natCast,List.getD_eq_getElem?_getD,List.getElem?_eq_getElem hj];rfl
   rw [eg]
   (repeat' (first
    |(apply yFb;exact rfl;exact rfl)
    |(apply W.qd;(first
    |(exact zW (hh))|(exact zW (hls))|(exact zM)|(exact zN)|(exact jAq)|(exact jAh)|(exact jAo)|(exact q_geq rfl rfl)|(exact jAj)|(exact jA)
    |(apply (yEb (u := .d _));exact rfl;exact rfl)))|(apply W.ed;(exact jAa))|(apply yA)|(apply yB)|(refine jAc ?_)|(apply yE)
    |(apply yJ)))
   all_goals exact Ends.b rfl (by simp)
theorem A_user1 (v : Sv) {cs : List Cd} {vs : List Sv} {k : Int} : ACalls Tryz.prog 267 [svA1 v,.opt 1 0] [.box [cds cs,svs vs],.box [iV k]] (bV (usesB k v)) [.box [cds cs,svs vs],.box [iV k]] := by
 refine acalls_of_bodyO Tryz.func267 rfl (zU rfl) ?_
 unfold usesB
 (repeat' (first
  |(apply yFb;exact rfl;exact rfl)
  |(apply W.qd;(first
  |(exact zM)|(exact zN)|(exact jAq)|(exact jAh)|(exact q_eql rfl rfl)|(apply (yEb (u := .d _));exact rfl;exact rfl)
  |(apply (yDb (u := .d _));exact rfl;exact rfl)))|(apply W.ed;(exact jAa))|(refine W.gOff _ _ rfl rfl (by intro h;cases h) ?_)|(apply yA)|(apply yB)|(refine jAc ?_)|(apply yE)|(apply yJ)
  |(refine W.gF _ _ rfl rfl (fun hb => ?_) (fun hb => ?_) <;> ((try simp only [hb,zK]) <;> (try simp only [zL,zI] at hb) <;> (try (exfalso;omega))))))
 all_goals (refine ⟨.inl rfl,[0,1],[_],rfl,rfl,⟨rfl,trivial⟩,AVle.of_eq (congrArg bV ?_),rfl⟩;rw [Bool.eq_iff_iff];simp <;> omega)
theorem A_user {cs : List Cd} {vs : List Sv} {k : Int} (hl : vs.length ≤ 9223372036854775807) : ACalls Tryz.prog 230 [lib cs vs,iV k] [] (iV (userI vs k)) [] := by
 refine acalls_of_body Tryz.func230 rfl (zU rfl) ?_
 have hi := A_ixV (O := [.box [cds cs,svs vs],.box [iV k]]) (g := 267) (caps := [.opt 1 0]) (usesB k) vs hl (by kernel_rfl) (fun v _ => A_user1 v)
 (repeat' (first
  |(apply W.qd;(first
  |(exact zN)|(exact jAq)|(exact jAh)
  |(apply q_makeFunc)))
  |(apply W.ed;(first
  |(apply (e_callS (hi));exact rfl;exact rfl;(first | assumption | kernel_rfl))
  |(exact jAa)))|(apply yA)|(apply yB)|(refine jAc ?_)|(apply yE)
  |(apply yJ)))
 exact Ends.i rfl rfl
theorem A_alone {cs : List Cd} {vs : List Sv} {i : Nat} (hl : vs.length ≤ 9223372036854775807) (hi : i < vs.length) : ACalls Tryz.prog 172 [lib cs vs,iV i] [] (bV (aloneB vs i)) [] := by
 refine acalls_of_body Tryz.func172 rfl (zU rfl) ?_
 have hm : (vs.map svD).length = vs.length := List.length_map _
 have eg : vs.getD i sv0 = vs[i] := by rw [List.getD_eq_getElem?_getD,List.getElem?_eq_getElem hi];rfl
 have h1 := A_user (cs := cs) (vs := vs) (k := vs[i].2.1) hl
 have h2 := A_user (cs := cs) (vs := vs) (k := vs[i].2.2.1) hl
 unfold aloneB
 rw [eg]
 generalize userI vs vs[i].2.1 = u1 at *
 generalize userI vs vs[i].2.2.1 = u2 at *
 (repeat' (first
  |(apply yFb;exact rfl;exact rfl)
  |(apply W.qd;(first
  |(exact zW (h1))|(exact zW (h2))|(exact zM)|(exact zN)|(exact jAq)|(exact jAh)|(exact jAo)|(exact q_eql rfl rfl)|(exact jAj)|(exact jA)|(apply (yEb (u := .d _));exact rfl;exact rfl)
  |(apply (yDb (u := .d _));exact rfl;exact rfl)))
  |(apply W.ed;(first
  |(exact jAa)
  |(exact jAm)))|(apply W.ln;(exact jAe))|(refine W.gOff _ _ rfl rfl (by intro h;cases h) ?_)|(apply yA)|(apply yB)|(refine jAc ?_)|(apply yE)|(apply yJ)|(refine W.gT _ _ rfl rfl (fun hb => ?_) (fun hb => ?_) <;> ((try simp only [hb,zK]) <;> (try simp only [zL,zI] at hb) <;> (try (exfalso;omega))))
  |(refine W.gF _ _ rfl rfl (fun hb => ?_) (fun hb => ?_) <;> ((try simp only [hb,zK]) <;> (try simp only [zL,zI] at hb) <;> (try (exfalso;omega))))))
 all_goals (refine Ends.b rfl ?_;rw [Bool.eq_iff_iff];simp <;> omega)
end
section
structure LibIn (cs : List Cd) (vs : List Sv) : Prop where
 cn : ∀ c ∈ cs,NameIn c.1
 cp : ∀ c ∈ cs,c.2.2.2.1.length ≤ 9223372036854775807
 vn : ∀ v ∈ vs,NameIn v.1
 cl : cs.length ≤ 9223372036854775807
 vl : vs.length ≤ 9223372036854775807
def okC (cs : List Cd) (i : Nat) : Bool := decide (fcI cs (cs.getD i cd0).1 = (i : Int)) && chkD (cs.getD i cd0)
def okV (cs : List Cd) (vs : List Sv) (i : Nat) : Bool := decide (fvI vs (vs.getD i sv0).1 = (i : Int)) && (plausB (vs.getD i sv0).1 (vs.getD i sv0).2.2.2.1 (vs.getD i sv0).2.2.2.2 && (keepsB cs (vs.getD i sv0).2.1 (vs.getD i sv0).2.2.2.1 && (decide ((vs.getD i sv0).2.2.1 ≠ (vs.getD i sv0).2.1) && ((decide ((vs.getD i sv0).2.2.1 = -1) || keepsB cs (vs.getD i sv0).2.2.1 (vs.getD i sv0).2.2.2.1) && aloneB vs i))))
def validB (cs : List Cd) (vs : List Sv) : Bool := (decide (cs.length ≤ 8) && decide (vs.length ≤ 8)) && ((List.range cs.length).all (okC cs) && (List.range vs.length).all (okV cs vs))
theorem idxA_nn {α : Type} {q : α → Bool} {l : List α} {x : α} (hx : x ∈ l) (h : q x = true) : 0 ≤ idxA q l := by
 unfold idxA
 split
 ·omega
 ·rename_i hn
  have := (List.findIdx?_eq_none_iff.1 hn) x hx
  rw [h] at this;cases this
theorem find_nn {i : Int} (h : 0 ≤ i) : findA i = .tup [iV i,iV 0] := by
 unfold findA fxI fxE
 rw [if_neg (by omega),if_neg (by omega)]
theorem fin_chk {c : Cd} (h : chkD c = true) (hn : NameIn c.1) : FInD c := by
 have hv := chk_valid h
 unfold validC at hv
 simp only [Bool.and_eq_true,decide_eq_true_eq] at hv
 exact ⟨hn.b,hn.l,by omega,by omega⟩
theorem all_range {n : Nat} {p : Nat → Bool} : (List.range n).all p = true ↔ ∀ i,i < n → p i = true := by
 rw [List.all_eq_true]
 exact ⟨fun h i hi => h i (List.mem_range.2 hi),fun h i hi => h i (List.mem_range.1 hi)⟩
theorem range_bad {n i : Nat} {p : Nat → Bool} (hi : i < n) (h : p i = false) : (List.range n).all p = false := by
 rw [List.all_eq_false]
 exact ⟨i,List.mem_range.2 hi,by rw [h];decide⟩
attribute [local irreducible] Quiet Eff OpOk AWPG ACont ABlock ACalls AGoto
theorem A_valid30 {cs : List Cd} {vs : List Sv} (h : LibIn cs vs) : ACalls Tryz.prog 108 [lib cs vs] [] (bV (validB cs vs)) [] := by
 refine acalls_of_body Tryz.func108 rfl (zU rfl) ?_
 have hmc : (cs.map cdD).length = cs.length := List.length_map _
 have hmv : (vs.map svD).length = vs.length := List.length_map _
 have hcl := h.cl
 have hvl := h.vl
 by_cases hg : cs.length ≤ 8 ∧ vs.length ≤ 8
 case neg =>
  have e : validB cs vs = false := by
   unfold validB
   rw [Bool.and_eq_false_iff]
   left
   rw [Bool.and_eq_false_iff,decide_eq_false_iff_not,decide_eq_false_iff_not]
   omega
  rw [e]
  (repeat' (first
   |(apply yFb;exact rfl;exact rfl)
   |(apply W.qd;(first
   |(exact zM)|(exact zN)|(exact jAq)|(exact jAh)|(exact q_gtr rfl rfl)|(exact jAu)|(apply (yEb (u := .d _));exact rfl;exact rfl)
   |(apply (yDb (u := .d _));exact rfl;exact rfl)))|(apply W.ed;(exact jAa))|(refine W.gOff _ _ rfl rfl (by intro h;cases h) ?_)|(apply yA)|(apply yB)|(apply (W.regionS 3);exact rfl;kernel_rfl)|(apply yE)|(apply yJ)|(apply yP)|(refine jAv ?_)|(refine W.gF _ _ rfl rfl (fun hb => ?_) (fun hb => ?_) <;> ((try simp only [hb,zK]) <;> (try simp only [zL,zI] at hb) <;> (try (exfalso;omega))))
   |(refine W.cond _ rfl (fun hb => ?_) (fun hb => ?_) <;> ((try simp only [hb,zK]) <;> (try simp only [zL,zI] at hb) <;> (try (exfalso;omega))))))
  all_goals first | exact Ends.b rfl rfl | (exfalso;omega)
 obtain ⟨hg1,hg2⟩ := hg
 have hV : validB cs vs = ((List.range cs.length).all (okC cs) && (List.range vs.length).all (okV cs vs)) := by
  unfold validB
  rw [decide_eq_true hg1,decide_eq_true hg2];rfl
 have hbC : ∀ i,i < cs.length → okC cs i = false → validB cs vs = false := fun i hi h1 => by rw [hV,range_bad hi h1];rfl
 have hbV : ∀ i,i < vs.length → okV cs vs i = false → validB cs vs = false := fun i hi h1 => by rw [hV,range_bad hi h1,Bool.and_false]
 have hgV : (∀ i,i < cs.length → okC cs i = true) → (∀ i,i < vs.length → okV cs vs i = true) → validB cs vs = true := fun h1 h2 => by rw [hV,all_range.2 h1,all_range.2 h2];rfl
 clear hV
 generalize validB cs vs = V at *
 (repeat' (first
  |(apply yFb;exact rfl;exact rfl)
  |(apply W.qd;(first
  |(exact zM)|(exact zN)|(exact jAq)|(exact jAh)|(exact q_gtr rfl rfl)|(exact jAu)
  |(apply (yDb (u := .d _));exact rfl;exact rfl)))|(apply W.ed;(exact jAa))|(apply yA)|(apply yB)|(apply (W.regionS 4);exact rfl;kernel_rfl)|(apply yE)|(apply yG)|(apply yH)|(refine W.gF _ _ rfl rfl (fun hb => ?_) (fun hb => ?_) <;> ((try simp only [hb,zK]) <;> (try simp only [zL,zI] at hb) <;> (try (exfalso;omega))))
  |(refine W.cond _ rfl (fun hb => ?_) (fun hb => ?_) <;> ((try simp only [hb,zK]) <;> (try simp only [zL,zI] at hb) <;> (try (exfalso;omega))))))
 all_goals try (exfalso;omega)
 refine AWP.loopW (α := Nat) (fun k => k ≤ cs.length ∧ ∀ j,j < k → okC cs j = true) (fun k => ⟨[(24,iV k),(23,iV cs.length),(22,cds cs),(1,.opt 0 0)],[.box [cds cs,svs vs]]⟩) (fun k => cs.length - k) 0 ⟨Nat.zero_le _,fun j hj => by omega⟩ ?wk0 fun k hk => ?_
 case wk0 => exact ⟨[0],rfl,rfl,rfl,rfl,iV_eq (by rw [hmc]),rfl,rfl,trivial⟩
 by_cases hkl : k < cs.length
 ·have hmem := List.getElem_mem hkl
  have eg : cs.getD k cd0 = cs[k] := by rw [List.getD_eq_getElem?_getD,List.getElem?_eq_getElem hkl];rfl
  have hn := h.cn _ hmem
  have hf := A_findC (cs := cs) (vs := vs) (nm := cs[k].1) hcl (fun c hc => (h.cn c hc).b) hn.b
  have hnn : 0 ≤ fcI cs cs[k].1 := idxA_nn hmem (decide_eq_true rfl)
  rw [find_nn hnn] at hf
  obtain ⟨e,hc,he⟩ := A_lcheckG (M := cs[k].2.1) (D := cs[k].2.2.1) (par := cs[k].2.2.2.1) (dom := cs[k].2.2.2.2) hn.b hn.l (h.cp _ hmem)
  have hok : okC cs k = (decide (fcI cs cs[k].1 = (k : Int)) && chkD cs[k]) := by unfold okC;rw [eg]
  have he2 : e = 0 ↔ chkD cs[k] = true := he
  replace hok := Lib.hid hok
  have hbk := hbC k hkl
  have hnx : okC cs k = true → ∀ j,j < k + 1 → okC cs j = true := fun h1 j hj => by
   by_cases e : j = k
   ·subst e;exact h1
   ·exact hk.2 j (by omega)
  clear hk hbC hbV hgV he
  generalize fcI cs cs[k].1 = fi at *
  generalize chkD cs[k] = ck at *
  (repeat' (first
   |(apply yFb;exact rfl;exact rfl)
   |(apply W.qd;(first
   |(exact zW (hf))|(exact zW (hc))|(exact zM)|(exact zN)|(exact jAq)|(exact jAh)|(exact jAo)|(exact jAk)|(exact q_neq rfl rfl)|(exact jAl)|(exact yAb rfl rfl)|(exact jAj)|(exact jA)|(apply (yEb (u := .d _));exact rfl;exact rfl)
   |(apply (yDb (u := .d _));exact rfl;exact rfl)))|(apply W.ed;(exact jAm))|(apply W.ln;(exact jAe))|(refine W.gOff _ _ rfl rfl (by intro h;cases h) ?_)|(apply yA)|(apply yB)|(refine jAc ?_)|(apply yE)|(apply yG)|(apply yH)|(apply yJ)|(apply yP)|(apply yL)|(apply yN)|(refine jAv ?_)|(refine W.gF _ _ rfl rfl (fun hb => ?_) (fun hb => ?_) <;> ((try simp only [hb,zK]) <;> (try simp only [zL,zI] at hb) <;> (try (exfalso;omega))))
   |(refine W.cond _ rfl (fun hb => ?_) (fun hb => ?_) <;> ((try simp only [hb,zK]) <;> (try simp only [zL,zI] at hb) <;> (try (exfalso;omega))))))
  all_goals first
   |(refine Ends.b rfl (hbk ?_).symm;rw [hok.out,Bool.and_eq_false_iff,decide_eq_false_iff_not];first | (left;omega) | (right;rw [Bool.eq_false_iff];intro h9;have := he2.2 h9;omega))|(refine ⟨k + 1,⟨by omega,hnx ?_⟩,by omega,[0],rfl,rfl,rfl,iV_eq (by omega),rfl,rfl,rfl,trivial⟩;rw [hok.out,Bool.and_eq_true,decide_eq_true_eq];exact ⟨by omega,he2.1 (by omega)⟩)
 ·have hC : ∀ i, i < cs.length → okC cs i = true := fun i hi => hk.2 i (by omega)
  have hF : ∀ c ∈ cs,FInD c := fun c hc => by
   obtain ⟨j,hj,rfl⟩ := List.getElem_of_mem hc
   have h1 := hC j hj
   unfold okC at h1
   rw [Bool.and_eq_true,List.getD_eq_getElem?_getD,List.getElem?_eq_getElem hj] at h1
   exact fin_chk h1.2 (h.cn _ hc)
  have hgV := hgV hC
  clear hk hbC hC
  (repeat' (first
   |(apply W.qd;(first
   |(exact zM)|(exact jAq)|(exact jAh)|(exact jAk)
   |(exact jAu)))|(apply yA)|(apply yB)|(apply (W.regionS 11);exact rfl;kernel_rfl)|(apply yE)|(apply yG)|(apply yI)|(apply yK)|(apply yM)
   |(refine W.cond _ rfl (fun hb => ?_) (fun hb => ?_) <;> ((try simp only [hb,zK]) <;> (try simp only [zL,zI] at hb) <;> (try (exfalso;omega))))))
  all_goals try (exfalso;omega)
  refine AWP.loopW (α := Nat) (fun k => k ≤ vs.length ∧ ∀ j,j < k → okV cs vs j = true) (fun k => ⟨[(48,iV k),(47,iV vs.length),(46,svs vs),(1,.opt 0 0)],[.box [cds cs,svs vs]]⟩) (fun k => vs.length - k) 0 ⟨Nat.zero_le _,fun j hj => by omega⟩ ?wk1 fun k hk => ?_
  case wk1 => exact ⟨[0],rfl,rfl,rfl,rfl,iV_eq (by rw [hmv]),rfl,rfl,trivial⟩
  by_cases hkv : k < vs.length
  ·have hmem := List.getElem_mem hkv
   have eg : vs.getD k sv0 = vs[k] := by rw [List.getD_eq_getElem?_getD,List.getElem?_eq_getElem hkv];rfl
   have hn := h.vn _ hmem
   have hf := A_findV (cs := cs) (vs := vs) (nm := vs[k].1) hvl (fun c hc => (h.vn c hc).b) hn.b
   have hnn : 0 ≤ fvI vs vs[k].1 := idxA_nn hmem (decide_eq_true rfl)
   rw [find_nn hnn] at hf
   have hp := A_plausible (l := vs[k].2.2.2.1) (w := vs[k].2.2.2.2) hn
   have hk1 := A_keeps (vs := vs) (k := vs[k].2.1) (n := vs[k].2.2.2.1) hF
   have hk2 := A_keeps (vs := vs) (k := vs[k].2.2.1) (n := vs[k].2.2.2.1) hF
   have ha := A_alone (cs := cs) (vs := vs) hvl hkv
   have hok : okV cs vs k = (decide (fvI vs vs[k].1 = (k : Int)) && (plausB vs[k].1 vs[k].2.2.2.1 vs[k].2.2.2.2 && (keepsB cs vs[k].2.1 vs[k].2.2.2.1 && (decide (vs[k].2.2.1 ≠ vs[k].2.1) && ((decide (vs[k].2.2.1 = -1) || keepsB cs vs[k].2.2.1 vs[k].2.2.2.1) && aloneB vs k))))) := by unfold okV;rw [eg]
   replace hok := Lib.hid hok
   have hbk := hbV k hkv
   have hnx : okV cs vs k = true → ∀ j,j < k + 1 → okV cs vs j = true := fun h1 j hj => by
    by_cases e : j = k
    ·subst e;exact h1
    ·exact hk.2 j (by omega)
   clear hk hbV hgV
   generalize fvI vs vs[k].1 = fi at *
   generalize plausB vs[k].1 vs[k].2.2.2.1 vs[k].2.2.2.2 = b1 at *
   generalize keepsB cs vs[k].2.1 vs[k].2.2.2.1 = b2 at *
   generalize keepsB cs vs[k].2.2.1 vs[k].2.2.2.1 = b3 at *
   generalize aloneB vs k = b4 at *
   (repeat' (first
    |(apply yFb;exact rfl;exact rfl)
    |(apply W.qd;(first
    |(exact zW (hf))|(exact zW (hp))|(exact zW (hk1))|(exact zW (hk2))|(exact zW (ha))|(exact zM)|(exact zN)|(exact jAq)|(exact jAh)|(exact jAo)|(exact jAk)|(exact q_eql rfl rfl)|(exact q_neq rfl rfl)|(exact q_not rfl)|(exact jAl)|(exact yAb rfl rfl)|(exact jAj)|(exact jA)|(apply (yEb (u := .d _));exact rfl;exact rfl)
    |(apply (yDb (u := .d _));exact rfl;exact rfl)))|(apply W.ed;(exact jAm))|(apply W.ln;(exact jAe))|(refine W.gOff _ _ rfl rfl (by intro h;cases h) ?_)|(apply yA)|(apply yB)|(refine jAc ?_)|(apply yE)|(apply yG)|(apply yH)|(apply yJ)|(apply yP)|(apply yL)|(apply yN)|(refine jAv ?_)|(refine W.gT _ _ rfl rfl (fun hb => ?_) (fun hb => ?_) <;> ((try simp only [hb,zK]) <;> (try simp only [zL,zI] at hb) <;> (try (exfalso;omega))))|(refine W.gF _ _ rfl rfl (fun hb => ?_) (fun hb => ?_) <;> ((try simp only [hb,zK]) <;> (try simp only [zL,zI] at hb) <;> (try (exfalso;omega))))
    |(refine W.cond _ rfl (fun hb => ?_) (fun hb => ?_) <;> ((try simp only [hb,zK]) <;> (try simp only [zL,zI] at hb) <;> (try (exfalso;omega))))))
   all_goals first
    |(refine Ends.b rfl (hbk ?_).symm;rw [hok.out];simp [*] <;> omega)|(refine ⟨k + 1,⟨by omega,hnx ?_⟩,by omega,[0],rfl,rfl,rfl,iV_eq (by omega),rfl,rfl,rfl,trivial⟩;rw [hok.out];simp [*] <;> omega)
  ·have e : V = true := hgV fun i hi => hk.2 i (by omega)
   subst e
   clear hk hbV hgV
   (repeat' (first
    |(apply W.qd;(first
    |(exact zN)
    |(exact jAk)))|(apply yA)|(apply yB)|(refine jAc ?_)|(apply yE)|(apply yI)|(apply yJ)|(apply yK)|(apply yM)
    |(refine W.cond _ rfl (fun hb => ?_) (fun hb => ?_) <;> ((try simp only [hb,zK]) <;> (try simp only [zL,zI] at hb) <;> (try (exfalso;omega))))))
   all_goals exact Ends.b rfl rfl
end
section
structure LibOk (cs : List Cd) (vs : List Sv) : Prop where
 cn : ∀ c ∈ cs,NameIn c.1
 ck : ∀ c ∈ cs,chkD c = true
 vn : ∀ v ∈ vs,NameIn v.1
 cl : cs.length ≤ 1000
 vl : vs.length ≤ 1000
abbrev Lb := List Cd × List Sv
def lb0 : Lb := ([],[])
def addCN (cs : List Cd) (vs : List Sv) (c : Cd) : Lb × Int × Int :=
 if chkD c = false then (lb0,0,1) else if 0 ≤ fcI cs c.1 then (lb0,0,20) else if 8 ≤ cs.length then (lb0,0,2) else ((cs ++ [c],vs),(cs.length : Int),0)
def addVN (cs : List Cd) (vs : List Sv) (nm : List Nat) (k l w : Int) : Lb × Int × Int :=
 if plausB nm l w = false then (lb0,0,1) else if 0 ≤ fvI vs nm then (lb0,0,20) else if 8 ≤ vs.length then (lb0,0,2) else if hasB cs.length k = false then (lb0,0,12) else if 0 ≤ userI vs k then (lb0,0,19) else if keepsB cs k l = false then (lb0,0,17) else ((cs,vs ++ [(nm,k,-1,l,w)]),(vs.length : Int),0)
theorem chk_rows {c : Cd} (h : chkD c = true) : c.2.2.2.1.length ≤ 31 ∧ ∀ r ∈ c.2.2.2.1,r.length ≤ 31 := by
 have hv := chk_valid h
 unfold validC at hv
 simp only [Bool.and_eq_true,decide_eq_true_eq,List.all_eq_true] at hv
 obtain ⟨⟨⟨⟨h1,h2⟩,h3⟩,h4⟩,h5⟩ := hv
 have h6 : c.2.2.1 ≤ 31 := by
  unfold chkD chkC at h
  simp only [Bool.and_eq_true,decide_eq_true_eq] at h
  have := h.1.1.2
  omega
 refine ⟨by omega,fun r hr => ?_⟩
 have := h5 r hr
 unfold rowOk at this
 simp only [Bool.and_eq_true,decide_eq_true_eq] at this
 omega
theorem LibOk.fin {cs : List Cd} {vs : List Sv} (h : LibOk cs vs) : ∀ c ∈ cs,FInD c := fun c hc => fin_chk (h.ck c hc) (h.cn c hc)
attribute [local irreducible] Quiet Eff OpOk AWPG ACont ABlock ACalls AGoto
end
section
theorem hasB_nat {n : Nat} {k : Int} (h : hasB n k = true) : ∃ j : Nat,k = j ∧ j < n := by
 unfold hasB at h
 rw [Bool.and_eq_true,decide_eq_true_eq,decide_eq_true_eq] at h
 exact ⟨k.toNat,by omega,by omega⟩
attribute [local irreducible] Quiet Eff OpOk AWPG ACont ABlock ACalls AGoto
end
section
section
variable {α : Type} {q : α → Bool} {l : List α}
end
theorem getDc {cs : List Cd} {i : Nat} (h : i < cs.length) : cs.getD i cd0 = cs[i] := by rw [List.getD_eq_getElem?_getD,List.getElem?_eq_getElem h];rfl
theorem getDv {vs : List Sv} {i : Nat} (h : i < vs.length) : vs.getD i sv0 = vs[i] := by rw [List.getD_eq_getElem?_getD,List.getElem?_eq_getElem h];rfl
structure VOk (cs : List Cd) (vs : List Sv) (i : Nat) (v : Sv) : Prop where
 nm : fvI vs v.1 = (i : Int)
 pl : plausB v.1 v.2.2.2.1 v.2.2.2.2 = true
 kp : keepsB cs v.2.1 v.2.2.2.1 = true
 ne : v.2.2.1 ≠ v.2.1
 kn : v.2.2.1 = -1 ∨ keepsB cs v.2.2.1 v.2.2.2.1 = true
 us : userI vs v.2.1 = (i : Int)
 un : v.2.2.1 = -1 ∨ userI vs v.2.2.1 = (i : Int)
theorem okV_iff {cs : List Cd} {vs : List Sv} {i : Nat} (h : i < vs.length) : okV cs vs i = true ↔ VOk cs vs i vs[i] := by
 unfold okV aloneB
 rw [getDv h]
 simp only [Bool.and_eq_true,Bool.or_eq_true,decide_eq_true_eq]
 exact ⟨fun ⟨h1,h2,h3,h4,h5,h6,h7⟩ => ⟨h1,h2,h3,h4,h5,h6,h7⟩,fun ⟨h1,h2,h3,h4,h5,h6,h7⟩ => ⟨h1,h2,h3,h4,h5,h6,h7⟩⟩
theorem okC_iff {cs : List Cd} {i : Nat} (h : i < cs.length) : okC cs i = true ↔ fcI cs cs[i].1 = (i : Int) ∧ chkD cs[i] = true := by
 unfold okC
 rw [getDc h,Bool.and_eq_true,decide_eq_true_eq]
structure Vld (cs : List Cd) (vs : List Sv) : Prop where
 cl : cs.length ≤ 8
 vl : vs.length ≤ 8
 c : ∀ (i : Nat) (h : i < cs.length),fcI cs cs[i].1 = (i : Int) ∧ chkD cs[i] = true
 v : ∀ (i : Nat) (h : i < vs.length),VOk cs vs i vs[i]
theorem valid_iff {cs : List Cd} {vs : List Sv} : validB cs vs = true ↔ Vld cs vs := by
 unfold validB
 simp only [Bool.and_eq_true,decide_eq_true_eq,all_range]
 exact ⟨fun ⟨⟨h1,h2⟩,h3,h4⟩ => ⟨h1,h2,fun i h => (okC_iff h).1 (h3 i h),fun i h => (okV_iff h).1 (h4 i h)⟩,fun ⟨h1,h2,h3,h4⟩ => ⟨⟨h1,h2⟩,fun i h => (okC_iff h).2 (h3 i h),fun i h => (okV_iff h).2 (h4 i h)⟩⟩
theorem keeps_has {cs : List Cd} {k n : Int} (h : keepsB cs k n = true) : 0 ≤ k ∧ k < cs.length := by
 unfold keepsB at h
 rw [Bool.and_eq_true] at h
 obtain ⟨j,rfl,hj⟩ := hasB_nat h.1
 omega
end
section
theorem LibOk.nil : LibOk [] [] := ⟨by simp,by simp,by simp,by decide,by decide⟩
theorem LibOk.addC {cs : List Cd} {vs : List Sv} (h : LibOk cs vs) (c : Cd) (h1 : NameIn c.1) (h2 : chkD c = true) (h3 : cs.length < 900) : LibOk (cs ++ [c]) vs where
 cn x hx := by
  rcases List.mem_append.1 hx with h4 | h4
  ·exact h.cn x h4
  ·rw [List.mem_singleton.1 h4];exact h1
 ck x hx := by
  rcases List.mem_append.1 hx with h4 | h4
  ·exact h.ck x h4
  ·rw [List.mem_singleton.1 h4];exact h2
 vn := h.vn
 cl := by simp;omega
 vl := h.vl
theorem LibOk.lin {cs : List Cd} {vs : List Sv} (h : LibOk cs vs) : LibIn cs vs where
 cn := h.cn
 cp c hc := by have := (chk_rows (h.ck c hc)).1;omega
 vn := h.vn
 cl := by have := h.cl;omega
 vl := by have := h.vl;omega
def rs30 : Cd := ([114,115],8,2,[[1,1],[1,2]],1)
def pa30 : Cd := ([112,97,114],8,2,[[1,1]],1)
def pb30 : Cd := ([112,97,114],8,2,[[1,2]],1)
def pc30 : Cd := ([112,97,114,50],8,2,[[1,2]],1)
def gold : Sv := ([103,111,108,100],0,-1,2,40)
theorem n_rs : NameIn rs30.1 := ⟨by unfold isB rs30;decide,by decide⟩
theorem n_pa : NameIn pa30.1 := ⟨by unfold isB pa30;decide,by decide⟩
theorem L1 : LibOk [rs30] [] := LibOk.nil.addC rs30 n_rs (by kernel_rfl) (by decide)
theorem L2 : LibOk [rs30,pa30] [] := L1.addC pa30 n_pa (by kernel_rfl) (by decide)
theorem r1 : addCN [] [] rs30 = (([rs30],[]),0,0) := by kernel_rfl
theorem r2 : addCN [rs30] [] pa30 = (([rs30,pa30],[]),1,0) := by kernel_rfl
theorem r3 : addCN [rs30,pa30] [] pb30 = (lb0,0,20) := by kernel_rfl
theorem r4 : addCN [rs30,pa30] [] pc30 = (([rs30,pa30,pc30],[]),2,0) := by kernel_rfl
theorem r5 : addVN [rs30,pa30,pc30] [] gold.1 0 2 40 = (([rs30,pa30,pc30],[gold]),0,0) := by kernel_rfl
attribute [local irreducible] Quiet Eff OpOk AWPG ACont ABlock ACalls AGoto
end
section
theorem Vld.ok {cs : List Cd} {vs : List Sv} (h : Vld cs vs) (hi : LibIn cs vs) : LibOk cs vs where
 cn := hi.cn
 ck c hc := by
  obtain ⟨i,hi,rfl⟩ := List.getElem_of_mem hc
  exact (h.c i hi).2
 vn := hi.vn
 cl := by have := h.cl;omega
 vl := by have := h.vl;omega
theorem Vld.nil : Vld [] [] := ⟨by decide,by decide,fun i h => absurd h (by simp),fun i h => absurd h (by simp)⟩
structure Gd30 (cs : List Cd) (vs : List Sv) : Prop where
 v : Vld cs vs
 n : LibIn cs vs
theorem Gd30.nil : Gd30 [] [] := ⟨Vld.nil,LibOk.nil.lin⟩
attribute [local irreducible] Quiet Eff OpOk AWPG ACont ABlock ACalls AGoto
end
section
def Ints (w : World) (v : Value) (l : List Int) : Prop :=
 ∃ (A : Option Addr) (c : Nat),v = .slice A l.length c ∧ l.length ≤ c ∧ c ≤ maxLen ∧ (0 < l.length → ∃ b o,A = some ⟨b,o,none⟩ ∧ b < w.heap.size ∧ ∀ j,j < l.length → w.cell? ⟨b,o + j,none⟩ = some (.int .i64 (l.getD j 0)))
theorem Ints.keep {w w' : World} {v : Value} {l : List Int} (h : Ints w v l) (hb : Below w.heap.size w w') : Ints w' v l := by
 obtain ⟨A,c,rfl,h1,h2,h3⟩ := h
 refine ⟨A,c,rfl,h1,h2,fun hp => ?_⟩
 obtain ⟨b,o,rfl,hlt,hc⟩ := h3 hp
 refine ⟨b,o,rfl,Nat.lt_of_lt_of_le hlt hb.size,fun j hj => ?_⟩
 rw [hb.cell (p := ⟨b,o + j,none⟩) hlt];exact hc j hj
theorem Ints.of_own {w : World} {base e n : Nat} {v : Value} {l : List Int} (h : w.ownsRow base e 1 v n (l.map (Value.int .i64))) : Ints w v l := by
 have hn : l.length = n := by have := h.1;simpa using this
 rcases h.2 with ⟨rfl,hx⟩ | ⟨g,cap,cur,rfl,hb,hh,hnc,hcm,hcs,htake⟩
 ·subst hx
  have : l = [] := List.eq_nil_of_length_eq_zero hn
  subst this
  exact ⟨none,0,rfl,by simp,by simp [maxLen],fun hp => by simp at hp⟩
 ·subst hn
  refine ⟨_,cap,rfl,hnc,hcm,fun hp => ⟨g,0,rfl,?_,fun j hj => ?_⟩⟩
  ·rcases Nat.lt_or_ge g w.heap.size with hlt | hge
   ·exact hlt
   ·rw [Array.getElem?_eq_none hge] at hh;cases hh
  ·rw [cell_of_row w g (0 + j) cur e (0, 0) hh, Nat.zero_add]
   have h1 : cur.toList[j]? = (l.map (Value.int .i64))[j]? := by
    rw [← htake,List.getElem?_take,if_pos (by simpa using hj)]
   have h2 : cur[j]? = cur.toList[j]? := by simp
   rw [h2,h1]
   simp [List.getElem?_map,List.getElem?_eq_getElem hj]
theorem ret_i {k : IntKind} {a b : Int} (h : a = b) : Ending.returned (.int k a) = .returned (.int k b) := by rw [h]
theorem Below.then {B : Nat} {a w w' : World} (h : Below B a w) (hb : Below w.heap.size w w') (hB : B ≤ w.heap.size) : Below B a w' := h.trans (hb.mono hB)
theorem Below.lt {B : Nat} {w w' : World} (h : Below B w w') {k : Nat} (hk : k < w.heap.size) : k < w'.heap.size := Nat.lt_of_lt_of_le hk h.size
theorem Ints.drew {w : World} {v : Value} {l : List Int} (h : Ints w v l) : Ints w.drew v l := h
theorem Ints.alloc {w : World} {v : Value} {l : List Int} (h : Ints w v l) (o : Obj) : Ints (w.alloc o) v l := h.keep ((Below.refl _ _).alloc (Nat.le_refl _) o)
theorem Ints.nil (w : World) : Ints w (.slice none 0 0) [] := ⟨none,0,rfl,by simp,by simp [maxLen],fun h => by simp at h⟩
theorem Below.after {w X w1 : World} (h : Below w.heap.size w X) (hb : Below X.heap.size X w1) : Below w.heap.size w w1 := h.trans (hb.mono h.size)
theorem Ints.lit (w : World) (e : TypeId) (l : List Int) (n : Nat) (hn : l.length = n) (hm : n ≤ 1000000000) :
 Ints (w.alloc (.cells (l.map (Value.int .i64)).toArray e)) (.slice (some ⟨w.heap.size,0,none⟩) n n) l := by
 have h := World.ownsRow_lit (base := 0) (size := 1) (e := e) w (l.map (Value.int .i64)).toArray n (Nat.zero_le _) (by unfold maxLen;omega) (by simp [hn])
 exact Ints.of_own (by simpa using h)
theorem Ints.ext {w w' : World} {v : Value} {l : List Int} (h : Ints w v l) (hb : Below w.heap.size w w') : Ints w' v l := h.keep hb
def Box6 (w : World) (g : Nat) (d r n s l i : Int) : Prop :=
 g < w.heap.size ∧ w.cell? ⟨g,0,none⟩ = some (.int .i64 d) ∧ w.cell? ⟨g,1,none⟩ = some (.int .i64 r) ∧ w.cell? ⟨g,2,none⟩ = some (.int .i64 n) ∧ w.cell? ⟨g,3,none⟩ = some (.int .i64 s) ∧ w.cell? ⟨g,4,none⟩ = some (.int .i64 l) ∧ w.cell? ⟨g,5,none⟩ = some (.int .i64 i)
theorem Box6.keep {w w' : World} {g : Nat} {d r n s l i : Int} (h : Box6 w g d r n s l i) (hb : Below w.heap.size w w') : Box6 w' g d r n s l i := by
 obtain ⟨h0,h1,h2,h3,h4,h5,h6⟩ := h
 have hc := fun o => hb.cell (p := ⟨g,o,none⟩) h0
 exact ⟨Nat.lt_of_lt_of_le h0 hb.size,(hc 0).trans h1,(hc 1).trans h2,(hc 2).trans h3,(hc 3).trans h4,(hc 4).trans h5,(hc 5).trans h6⟩
theorem Box6.new (w : World) (t : TypeId) (d r n s l i : Int) : Box6 (w.alloc (.cells #[.int .i64 d,.int .i64 r,.int .i64 n,.int .i64 s,.int .i64 l,.int .i64 i] t)) w.heap.size d r n s l i := by
 refine ⟨by simp,?_,?_,?_,?_,?_,?_⟩ <;> simp
def Row (w : World) (b o : Nat) (l : List Int) : Prop := b < w.heap.size ∧ ∀ j,j < l.length → w.cell? ⟨b,o + j,none⟩ = some (.int .i64 (l.getD j 0))
theorem Row.keep {w w' : World} {b o : Nat} {l : List Int} (h : Row w b o l) (hb : Below w.heap.size w w') : Row w' b o l :=
 ⟨Nat.lt_of_lt_of_le h.1 hb.size,fun j hj => (hb.cell (p := ⟨b,o + j,none⟩) h.1).trans (h.2 j hj)⟩
theorem Ints.row {w : World} {v : Value} {l : List Int} (h : Ints w v l) (hp : 0 < l.length) : ∃ b o c,v = .slice (some ⟨b,o,none⟩) l.length c ∧ l.length ≤ c ∧ c ≤ 9223372036854775807 ∧ Row w b o l := by
 obtain ⟨A,c,rfl,h1,h2,h3⟩ := h
 obtain ⟨b,o,rfl,hlt,hc⟩ := h3 hp
 exact ⟨b,o,c,rfl,h1,by unfold maxLen at h2;omega,hlt,hc⟩
theorem Row.ints {w : World} {b o c : Nat} {l : List Int} (h : Row w b o l) (h1 : l.length ≤ c) (h2 : c ≤ 9223372036854775807) : Ints w (.slice (some ⟨b,o,none⟩) l.length c) l :=
 ⟨_,c,rfl,h1,by unfold maxLen;omega,fun _ => ⟨b,o,rfl,h.1,h.2⟩⟩
/-! ### A region that draws its order,whose operations read old cells and whose callees make memory but hand back numbers: one walk of the lexical order. -/
structure Ext (W : World) where
 w : World
 h : Below W.heap.size W w
instance (W : World) : Nonempty (Ext W) := ⟨⟨W,Below.refl _ _⟩⟩
theorem Box6.ext {W : World} {g : Nat} {d r n s l i : Int} (h : Box6 W g d r n s l i) :
 (∀ y : Ext W,y.w.cell? ⟨g,0,none⟩ = some (.int .i64 d)) ∧ (∀ y : Ext W,y.w.cell? ⟨g,1,none⟩ = some (.int .i64 r)) ∧ (∀ y : Ext W,y.w.cell? ⟨g,2,none⟩ = some (.int .i64 n)) ∧
 (∀ y : Ext W,y.w.cell? ⟨g,3,none⟩ = some (.int .i64 s)) ∧ (∀ y : Ext W,y.w.cell? ⟨g,4,none⟩ = some (.int .i64 l)) ∧ (∀ y : Ext W,y.w.cell? ⟨g,5,none⟩ = some (.int .i64 i)) := by
 refine ⟨fun y => ?_,fun y => ?_,fun y => ?_,fun y => ?_,fun y => ?_,fun y => ?_⟩ <;> (obtain ⟨_,h1,h2,h3,h4,h5,h6⟩ := h.keep y.h;assumption)
/-! ### A block that is known whole -/
def BlkB (w : World) (g : Nat) (t : TypeId) (cs : Array Value) : Prop := w.heap[g]? = some (.cells cs t (0,0))
section
variable {w w' : World} {g : Nat} {t : TypeId} {cs : Array Value}
theorem BlkB.lt (h : BlkB w g t cs) : g < w.heap.size := by
 rcases Nat.lt_or_ge g w.heap.size with hlt | hge
 ·exact hlt
 ·unfold BlkB at h;rw [Array.getElem?_eq_none hge] at h;cases h
theorem BlkB.cell (h : BlkB w g t cs) (i : Nat) : w.cell? ⟨g,i,none⟩ = cs[i]? := cell_of_row w g i cs t (0,0) h
theorem BlkB.frozen (h : BlkB w g t cs) (i : Nat) : w.frozen? ⟨g,i,none⟩ = false := by
 unfold BlkB at h
 simp [World.frozen?,h]
theorem BlkB.new (w : World) (t : TypeId) (cs : Array Value) : BlkB (w.alloc (.cells cs t)) w.heap.size t cs := heap_alloc_new w _
theorem BlkB.alloc (h : BlkB w g t cs) (o : Obj) : BlkB (w.alloc o) g t cs := (Below.heap_alloc w o g h.lt).trans h
theorem BlkB.below {B : Nat} (h : BlkB w g t cs) (hb : Below B w w') (hg : g < B) : BlkB w' g t cs := (hb.block g hg).trans h
theorem BlkB.keep (h : BlkB w g t cs) (hb : Below w.heap.size w w') : BlkB w' g t cs := h.below hb h.lt
end
end
section
/-! ### The multipliers -/
def prog (r k : Nat) : List Nat := (List.range k).map fun i => 1 + i * r
end
section
def RetOwn (w : World) (l : List Int) (e : Ending) (w' : World) : Prop :=
 ∃ v,e = .returned v ∧ w'.ownsRow w.heap.size 3 1 v l.length (l.map (Value.int .i64)) ∧ Below w.heap.size w w'
end
section
def OkC (d r n s l i : Int) : Prop := (1 ≤ d ∧ d ≤ 64) ∧ (1 ≤ r ∧ r ≤ 8) ∧ (1 ≤ n ∧ n ≤ 4096) ∧ (0 ≤ s ∧ s ≤ d - 1) ∧ (1 ≤ l ∧ l ≤ 65536) ∧ (1 ≤ i ∧ i ≤ 65536) ∧ d % r = 0
instance (d r n s l i : Int) : Decidable (OkC d r n s l i) := by unfold OkC;infer_instance
def chk13 (d r n s l i : Int) : Int := if OkC d r n s l i then 0 else 1
theorem chk13_yes {d r n s l i : Int} (h : OkC d r n s l i) : chk13 d r n s l i = 0 := if_pos h
theorem chk13_no {d r n s l i : Int} (h : ¬ OkC d r n s l i) : chk13 d r n s l i = 1 := if_neg h
theorem within_any (a b c : Int) (w : World) :
 Calls Tryz.prog 222 #[.int .i64 a,.int .i64 b,.int .i64 c] w fun e w' => e = .returned (.bool (decide (b ≤ a) && decide (a ≤ c))) ∧ w = w' := by
 by_cases h : b ≤ a
 ·by_cases h2 : a ≤ c
  ·go_enter Tryz.func222, Tryz.ntmps222
   go_wp2
   go_ret
   first | (simp [h,h2];done) | (simp [h,h2];omega)
  ·have h2' : c < a := by omega
   go_enter Tryz.func222,Tryz.ntmps222
   go_wp2
   go_ret
   first | (simp [h,h2];done) | (simp [h,h2];omega)
 ·have h' : a < b := by omega
  go_enter Tryz.func222,Tryz.ntmps222
  go_wp2
  go_ret
  first | (simp [h];done) | (simp;intros;omega)
set_option maxHeartbeats 1600000 in
theorem check_any (d r n s l i : Int) (w : World) :
 Calls Tryz.prog 166 #[.agg #[.int .i64 d,.int .i64 r,.int .i64 n,.int .i64 s,.int .i64 l,.int .i64 i]] w fun e w' => e = .returned (.int .i64 (chk13 d r n s l i)) ∧ Below w.heap.size w w' := by
 go_enter Tryz.func166,Tryz.ntmps166
 go_wp2_with (go_at_call 222;refine (within_any _ _ _ _).mono ?_;rintro e w' ⟨rfl,rfl⟩)
 all_goals (go_ret;refine ⟨ret_i ?_,by go_grown⟩)
 all_goals first
  |(rw [chk13_no];unfold OkC;intro h;obtain ⟨h1,h2,h3,h4,h5,h6,h7⟩ := h;first | (exact absurd h1 ‹_›) | (exact absurd h2 ‹_›) | (exact absurd h3 ‹_›) | (exact absurd h4 ‹_›) | (exact absurd h5 ‹_›) | (exact absurd h6 ‹_›) | (have hx : (d % r != 0) = true := (by assumption);simp [h7] at hx);done)
  |(rw [chk13_yes];have hx : (d % r != 0) = false := (by assumption);exact ⟨‹_›,‹_›,‹_›,‹_›,‹_›,‹_›,by simpa using hx⟩)
  |skip
theorem RetOwn.nil {w w' : World} (hb : Below w.heap.size w w') : RetOwn w [] (.returned (.slice none 0 0)) w' := ⟨_,rfl,World.ownsRow_nil _ _ _ _,hb⟩
theorem RetOwn.later {w w1 : World} {l : List Int} {e : Ending} {w' : World} (h : RetOwn w1 l e w') (hb : Below w.heap.size w w1) : RetOwn w l e w' := by
 obtain ⟨v,rfl,ho,hb'⟩ := h
 exact ⟨v,rfl,ho.mono hb.size,hb.trans (hb'.mono hb.size)⟩
end
section
theorem in13_any (a b c : Int) (w : World) :
 Calls Tryz.prog 178 #[.int .i64 a,.int .i64 b,.int .i64 c] w fun e w' => e = .returned (.bool (decide (b ≤ a) && decide (a ≤ c))) ∧ w = w' := by
 by_cases h : b ≤ a
 ·by_cases h2 : a ≤ c
  ·go_enter Tryz.func178, Tryz.ntmps178
   go_wp2
   go_ret
   first | (simp [h,h2];done) | (simp [h,h2];omega)
  ·have h2' : c < a := by omega
   go_enter Tryz.func178,Tryz.ntmps178
   go_wp2
   go_ret
   first | (simp [h,h2];done) | (simp [h,h2];omega)
 ·have h' : a < b := by omega
  go_enter Tryz.func178,Tryz.ntmps178
  go_wp2
  go_ret
  first | (simp [h];done) | (simp;intros;omega)
set_option maxHeartbeats 1600000 in
theorem rcheck_any (d r n s l i : Int) (w : World) :
 Calls Tryz.prog 113 #[.agg #[.int .i64 d,.int .i64 r,.int .i64 n,.int .i64 s,.int .i64 l,.int .i64 i]] w fun e w' => e = .returned (.int .i64 (chk13 d r n s l i)) ∧ Below w.heap.size w w' := by
 go_enter Tryz.func113,Tryz.ntmps113
 go_wp2_with (go_at_call 178;refine (in13_any _ _ _ _).mono ?_;rintro e w' ⟨rfl,rfl⟩)
 all_goals (go_ret;refine ⟨ret_i ?_,by go_grown⟩)
 all_goals first
  |(rw [chk13_no];unfold OkC;intro h;obtain ⟨h1,h2,h3,h4,h5,h6,h7⟩ := h;first | (exact absurd h1 ‹_›) | (exact absurd h2 ‹_›) | (exact absurd h3 ‹_›) | (exact absurd h4 ‹_›) | (exact absurd h5 ‹_›) | (exact absurd h7 ‹_›) | (have hx : (!decide (1 ≤ i)) = true ∨ (!decide (i ≤ 65536)) = true := (by assumption);simp at hx;omega) | (have hx : (!decide (0 ≤ s)) = true ∨ (!decide (s ≤ d - 1)) = true := (by assumption);simp at hx;omega);done)
  |(rw [chk13_yes];have hx : (!decide (1 ≤ i)) = false ∧ (!decide (i ≤ 65536)) = false := (by assumption);have hy : (!decide (0 ≤ s)) = false ∧ (!decide (s ≤ d - 1)) = false := (by assumption);exact ⟨‹_›,‹_›,‹_›,by simpa using hy,‹_›,by simpa using hx,‹_›⟩)
end
section
abbrev cfgA (d r n s l i : Int) : AV := .agg [iV d,iV r,iV n,iV s,iV l,iV i]
theorem A_dchk (d r n s l i : Int) : ACalls Tryz.prog 166 [cfgA d r n s l i] [] (iV (chk13 d r n s l i)) [] := acalls_of_exact rfl fun w => check_any d r n s l i w
theorem A_rdchk (d r n s l i : Int) : ACalls Tryz.prog 113 [cfgA d r n s l i] [] (iV (chk13 d r n s l i)) [] := acalls_of_exact rfl fun w => rcheck_any d r n s l i w
end
section
attribute [local irreducible] Quiet Eff OpOk AWPG ACont ABlock ACalls
def OkL (d r n s l i w : Int) : Prop := OkC d r n s l i ∧ 1 ≤ w ∧ w ≤ 32
instance (d r n s l i w : Int) : Decidable (OkL d r n s l i w) := by unfold OkL;infer_instance
def vldL (d r n s l i w : Int) : Bool := decide (OkL d r n s l i w)
def grpI (d r n s l i w : Int) : Int := if OkL d r n s l i w then (d - s) / w else 0
def crdI (d r n s l i w : Int) : Int := if OkL d r n s l i w then (w + r - 1) / r else 0
theorem A_lvalid (d r n s l i wd : Int) : ACalls Tryz.prog 161 [cfgA d r n s l i,iV wd] [] (bV (vldL d r n s l i wd)) [] := by
 refine acalls_of_body Tryz.func161 rfl (zU rfl) ?_
 (repeat' (first
  |(apply yFb;exact rfl;exact rfl)
  |(apply W.qd;(first
  |(exact zW (A_dchk _ _ _ _ _ _))|(exact zM)|(exact zN)|(exact jAo)|(exact q_leq rfl rfl)|(exact q_geq rfl rfl)|(exact q_eql rfl rfl)|(apply (yEb (u := .d _));exact rfl;exact rfl)
  |(apply (yDb (u := .d _));exact rfl;exact rfl)))|(apply W.ed;(exact jAa))|(refine W.gOff _ _ rfl rfl (by intro h;cases h) ?_)|(apply yA)|(apply yB)|(refine jAc ?_)|(apply yE)|(apply yJ)
  |(refine W.gT _ _ rfl rfl (fun hb => ?_) (fun hb => ?_) <;> ((try simp only [hb,zK]) <;> (try simp only [zL,zI] at hb) <;> (try (exfalso;omega))))))
 all_goals refine Ends.b rfl ?_
 all_goals (unfold chk13 at *;unfold vldL OkL;simp_all)
 omega
theorem OkL.bd {d r n s l i w : Int} (h : OkL d r n s l i w) : (1 ≤ d ∧ d ≤ 64) ∧ (1 ≤ r ∧ r ≤ 8) ∧ (1 ≤ n ∧ n ≤ 4096) ∧ (0 ≤ s ∧ s ≤ d - 1) ∧ 1 ≤ w ∧ w ≤ 32 := by
 obtain ⟨⟨h1,h2,h3,h4,_⟩,h5⟩ := h;exact ⟨h1,h2,h3,h4,h5⟩
theorem A_lgroups (d r n s l i wd : Int) : ACalls Tryz.prog 105 [cfgA d r n s l i,iV wd] [] (iV (grpI d r n s l i wd)) [] := by
 refine acalls_of_body Tryz.func105 rfl (zU rfl) ?_
 by_cases hok : OkL d r n s l i wd
 ·have hv : vldL d r n s l i wd = true := decide_eq_true hok
  have := A_lvalid d r n s l i wd
  rw [hv] at this
  obtain ⟨h1,h2,h3,h4,h5⟩ := hok.bd
  (repeat' (first
   |(apply W.qd;(first
   |(exact zW (this))|(exact zM)|(exact zN)|(exact jAq)|(exact jAh)|(exact jAo)|(exact q_not rfl)|(exact q_sub rfl rfl (by omega))
   |(apply q_quo;exact rfl;exact rfl;omega;omega;omega)))|(apply W.ed;(exact jAa))|(apply yA)|(apply yB)|(refine jAc ?_)|(apply yE)|(apply yH)|(apply yJ)
   |(refine jAx ?_)))
  all_goals exact Ends.i rfl (if_pos hok).symm
 ·have hv : vldL d r n s l i wd = false := decide_eq_false hok
  have := A_lvalid d r n s l i wd
  rw [hv] at this
  (repeat' (first
   |(apply W.qd;(first
   |(exact zW (this))|(exact zM)|(exact zN)|(exact jAo)
   |(exact q_not rfl)))|(apply W.ed;(exact jAa))|(apply yA)|(apply yB)|(refine jAc ?_)|(apply yE)|(apply yJ)|(apply yP)
   |(refine jAv ?_)))
  all_goals exact Ends.i rfl (if_neg hok).symm
end
section
section
variable {P : Program} {m : Nat} {env : List (Nat × AV)} {own : List Ent} {dst : Option Tmp} {ty : TypeId} {pos : String} {af : Array Edge} {gd : Option (Nat × Bool)}
theorem e_stS {t : TypeId} {b : Bool} {x y : Operand} {i o : Nat} {l : List AV} {v : AV} {own' : List Ent} (hx : lookO env x = .opt i o) (hl : own[i]? = some (.box l)) (hy : lookO env y = v) (ht : tyInfo P t = some (b, 1)) (ho : own.set i (.box (l.set o v)) = own') (hc : cellsA v = some [v]) (hok : okPart v = true) (h1 : oneA v = true) (hlt : o < l.length) :
 Eff P m ⟨dst,.store t x y,ty,pos,af,gd⟩ env own [i] (.d (.v undef)) own' := by
 have := e_st_box (P := P) (m := m) (dst := dst) (ty := ty) (pos := pos) (af := af) (gd := gd) (cs := [v]) (b := b) ht hx hl (by rw [hy];exact hc) (by rw [hy];exact hok) (by simp [h1]) rfl (by omega)
 have e1 : l.take o ++ [v] ++ l.drop (o + [v].length) = l.set o v := by
  rw [List.set_eq_take_append_cons_drop,if_pos hlt];simp
 rw [e1,ho] at this
 exact this
end
end
section
section
variable {P : Program} {m : Nat} {env : List (Nat × AV)} {own : List Ent} {dst : Option Tmp} {ty : TypeId} {pos : String} {af : Array Edge} {gd : Option (Nat × Bool)}
theorem q_lkup2 {t : TypeId} {x y : Operand} {i : Nat} {l : List (Int × Value)} {a : Int} {z : Value} (hx : lookO env x = .mp i) (hi : own[i]? = some (.mp (mpI l))) (hy : lookO env y = iV a) (ht : mapI P t = some z) :
 Quiet P m ⟨dst,.lookup t x y true,ty,pos,af,gd⟩ env own [i] (.tup [.d (.v (getV l a z)),bV (hasV l a)]) :=
 Quiet.val fun F own' κ ac w hs ho hsame _ => by
  have h1 := hs x (by simp [Op.operands]);rw [hx,AV.sat] at h1
  have h2 := hs y (by simp [Op.operands]);rw [hy] at h2
  have h2 := sat_v.1 h2
  have hl' : own'[i]? = some (.mp (mpI l)) := by rw [hsame i (by simp)];exact hi
  obtain ⟨g,ks,h3,h4,h5⟩ := h1
  obtain ⟨es,clock,h6,h7⟩ := mp_block ho hl' h4
  obtain ⟨k,e,inf,g1,g2,g3,g4⟩ := mapI_spec ht
  have hf := run_findKey_mp (P := P) g2 h7 a w
  have hck := MapKept.run_checkKey (P := P) (w := w) (k := .int .i64 a) g2 rfl es.isEmpty 9999
  refine ⟨.tuple #[getV l a z,.bool (hasV l a)],exec_v ?_,?_⟩
  ·rw [h5, h2]
   unfold getV hasV
   cases hq : getIx l a 0 with
   | none =>
     rw [hq] at hf
     simp [Instr.lookup,run_underlying g1,MapKept.run_getObj_map h6,hck,hf,zeroValue,typeInfo,g3,g4,Result.andThen]
   | some p =>
     rw [hq] at hf
     simp [Instr.lookup,run_underlying g1,MapKept.run_getObj_map h6,hck,hf,Result.andThen]
  ·rw [AV.sat]
   exact ⟨_,rfl,sat_v.2 rfl,sat_v.2 rfl,trivial⟩
theorem q_lkup2V {t : TypeId} {x y : Operand} {i : Nat} {l : List (Int × Value)} {a : Int} {z v : Value} {b : Bool} (hx : lookO env x = .mp i) (hi : own[i]? = some (.mp (mpI l))) (hy : lookO env y = iV a) (ht : mapI P t = some z) (hg : getV l a z = v) (hb : hasV l a = b) :
 Quiet P m ⟨dst,.lookup t x y true,ty,pos,af,gd⟩ env own [i] (.tup [.d (.v v),bV b]) := by
 subst hg hb;exact q_lkup2 hx hi hy ht
theorem q_ix_ar {t e : TypeId} {n k j : Nat} {x y : Operand} {i o : Nat} {b : Bool} {ik : IntKind} {v : Int} (hx : lookO env x = .opt i o) (hy : lookO env y = .d (.v (.int ik v))) (ht : arInfo P t = some (n, e)) (he : tyInfo P e = some (b, k)) (hv : v = (j : Int)) (hj : j < n) :
 Quiet P m ⟨dst,.indexAddr t x y,ty,pos,af,gd⟩ env own [] (.opt i (o + j * k)) :=
 Quiet.val fun F own' κ a w hs _ _ _ => by
  have h1 := hs x (by simp [Op.operands]);rw [hx,AV.sat] at h1
  have h2 := hs y (by simp [Op.operands]);rw [hy,sat_v] at h2
  obtain ⟨g,l,g1,g2,g3⟩ := h1
  obtain ⟨_,inf,h7,h8⟩ := tyInfo_spec he
  subst hv
  refine ⟨.pointer (some ⟨g,o + j * k,none⟩),exec_v ?_,?_⟩
  ·rw [g3, h2]
   simp [Instr.indexAt,asIntOf,run_underlying (arInfo_spec ht),Instr.sureAddr,sizeOf,typeInfo,h7,h8,hj,add_none]
  ·rw [AV.sat]
   exact ⟨g,l,g1,g2,rfl⟩
theorem q_ix_ag {t e : TypeId} {n j : Nat} {x y : Operand} {l : List AV} {r : AV} {ik : IntKind} {i : Int} (hx : lookO env x = .agg l) (hy : lookO env y = .d (.v (.int ik i))) (ht : arInfo P t = some (n, e)) (he : tyInfo P e = some (false, 1)) (hi : i = (j : Int)) (hr : l[j]? = some r) (hj : j < n) :
 Quiet P m ⟨dst,.index t x y,ty,pos,af,gd⟩ env own [] r :=
 Quiet.val fun F own' κ a w hs _ _ _ => by
  have h1 := hs x (by simp [Op.operands]);rw [hx,AV.sat] at h1
  have h2 := hs y (by simp [Op.operands]);rw [hy,sat_v] at h2
  obtain ⟨vs,h3,h4⟩ := h1
  obtain ⟨h6,i',h7,h8⟩ := tyInfo_spec he
  subst hi
  obtain ⟨u,hu,hus⟩ := satL_get h4 j r hr
  have hu' : vs[j]? = some u := by simpa using hu
  refine ⟨u,exec_v ?_,hus⟩
  rw [h3,h2]
  simp [Instr.index,asIntOf,run_underlying (arInfo_spec ht),hj,part,h6 w,sizeOf,typeInfo,h7,h8,hu']
end
end
section
abbrev Us := Int × Int × Int
abbrev SRw := Int × Int × List Us
def usD (u : Us) : List Dat := [.v (.int .i64 u.1),.v (.int .i64 u.2.1),.v (.int .i64 u.2.2)]
def rwD (r : SRw) : List Dat := [.v (.int .i64 r.1),.v (.int .i64 r.2.1),.sl 3 (r.2.2.map usD)]
abbrev rws (l : List SRw) : AV := .d (.sl 3 (l.map rwD))
abbrev rwA (r : SRw) : AV := .agg ((rwD r).map .d)
def rw0 : SRw := (0,0,[])
theorem getDr {rows : List SRw} {i : Nat} (h : i < rows.length) : rows.getD i rw0 = rows[i] := by rw [List.getD_eq_getElem?_getD,List.getElem?_eq_getElem h];rfl
end
section
attribute [local irreducible] Quiet Eff OpOk AWPG ACont ABlock ACalls AGoto
theorem A_of0 {rows : List SRw} {c : Int} : ACalls Tryz.prog 129 [rws rows,iV c] [] (.fn 195 [.opt 0 0,.opt 1 0]) [.box [rws rows],.box [iV c]] := by
 refine acalls_of_bodyO Tryz.func129 rfl (zU rfl) ?_
 (repeat' (first
  |(apply W.qd;(first
  |(exact zN)
  |(apply q_makeFunc)))|(apply W.ed;(exact jAa))|(apply yA)|(apply yB)|(refine jAc ?_)|(apply yE)
  |(apply yJ)))
 exact ⟨.inl rfl,[0,1],[.fn 195 [.opt 0 0,.opt 1 0]],rfl,rfl,⟨rfl,trivial⟩,AVle.of_eq rfl,rfl⟩
end
section
def grps (us : List Us) : List Int := us.map (·.1)
def rgtR (g : Int) (w : SRw) : Bool := if w.1 = -1 then decide (w.2.1 = 0) && decide (w.2.2.length = 0) else decide (0 ≤ w.1 ∧ w.1 < 8 ∧ 1 ≤ w.2.1 ∧ w.2.1 ≤ 32 ∧ w.2.2.length ≠ 0) && incB g (-1) (grps w.2.2)
def conR (rows : List SRw) (a b : Nat) : Bool := !(decide ((rows.getD b rw0).1 = (rows.getD a rw0).1) && !decide ((rows.getD b rw0).2.1 = (rows.getD a rw0).2.1))
def okR (d r n s l i : Int) (rows : List SRw) (a : Nat) : Bool := rgtR (grpI d r n s l i (rows.getD a rw0).2.1) (rows.getD a rw0) && (List.range a).all (conR rows a)
def validR (d r n s l i : Int) (rows : List SRw) : Bool := decide (chk13 d r n s l i = 0 ∧ (rows.length : Int) = n) && (List.range rows.length).all (okR d r n s l i rows)
attribute [local irreducible] Quiet Eff OpOk AWPG ACont ABlock ACalls AGoto
end
section
attribute [local irreducible] Quiet Eff OpOk AWPG ACont ABlock ACalls
theorem A_lcrowd (d r n s l i wd : Int) : ACalls Tryz.prog 103 [cfgA d r n s l i,iV wd] [] (iV (crdI d r n s l i wd)) [] := by
 refine acalls_of_body Tryz.func103 rfl (zU rfl) ?_
 by_cases hok : OkL d r n s l i wd
 ·have hv : vldL d r n s l i wd = true := decide_eq_true hok
  have := A_lvalid d r n s l i wd
  rw [hv] at this
  obtain ⟨h1,h2,h3,h4,h5⟩ := hok.bd
  (repeat' (first
   |(apply W.qd;(first
   |(exact zW (this))|(exact zM)|(exact zN)|(exact jAq)|(exact jAh)|(exact jAo)|(exact q_not rfl)|(exact jAl)|(exact q_sub rfl rfl (by omega))
   |(apply q_quo;exact rfl;exact rfl;omega;omega;omega)))|(apply W.ed;(exact jAa))|(apply yA)|(apply yB)|(refine jAc ?_)|(apply yE)|(apply yH)|(apply yJ)
   |(refine jAx ?_)))
  all_goals exact Ends.i rfl (if_pos hok).symm
 ·have hv : vldL d r n s l i wd = false := decide_eq_false hok
  have := A_lvalid d r n s l i wd
  rw [hv] at this
  (repeat' (first
   |(apply W.qd;(first
   |(exact zW (this))|(exact zM)|(exact zN)|(exact jAo)
   |(exact q_not rfl)))|(apply W.ed;(exact jAa))|(apply yA)|(apply yB)|(refine jAc ?_)|(apply yE)|(apply yJ)|(apply yP)
   |(refine jAv ?_)))
  all_goals exact Ends.i rfl (if_neg hok).symm
end
section
abbrev Tn := List Nat × Int × Int × Int × Int × Int
abbrev Ue := Int × Int
def tnD (t : Tn) : List Dat := [.v (.string (bytesOf t.1)),.v (.int .i64 t.2.1),.v (.int .i64 t.2.2.1),.v (.int .i64 t.2.2.2.1),.v (.int .i64 t.2.2.2.2.1),.v (.int .i64 t.2.2.2.2.2)]
def ueD (u : Ue) : List Dat := [.v (.int .i64 u.1),.v (.int .i64 u.2)]
abbrev tns (l : List Tn) : AV := .d (.sl 6 (l.map tnD))
abbrev ues (l : List Ue) : AV := .d (.sl 2 (l.map ueD))
def tn0 : Tn := ([],0,0,0,0,0)
def ue0 : Ue := (0,0)
def inT (x : Int) : Bool := decide (0 ≤ x ∧ x ≤ 2147483647)
def tnOk (nv : Nat) (t : Tn) (u : Ue) : Bool := decide (0 ≤ t.2.2.2.2.2 ∧ t.2.2.2.2.2 < (nv : Int)) && ((inT t.2.1 && inT t.2.2.1) && (inT u.1 && inT u.2))
def tenB (nv : Nat) (ts : List Tn) (us : List Ue) : Bool := decide (ts.length ≤ 16 ∧ ts.length ≤ us.length) && (List.range ts.length).all fun i => tnOk nv (ts.getD i tn0) (us.getD i ue0)
def mxI (a b : Int) : Int := if b > a then b else a
def blkOf (t : Tn) (u : Ue) : Int := mxI t.2.1 u.1 + mxI t.2.2.1 u.2
def blkT (ts : List Tn) (us : List Ue) (k : Int) : Nat → Int
 | 0 => 0
 | n + 1 => blkT ts us k n + if (ts.getD n tn0).2.2.2.2.2 = k then blkOf (ts.getD n tn0) (us.getD n ue0) else 0
def blkN (ts : List Tn) (us : List Ue) (k : Int) : Int := blkT ts us k (min ts.length us.length)
def upI (a b : Int) : Int := (a + b - 1) / b
def limN (D n : Int) : Int := if n < 1 ∨ 1099511627776 < n ∨ D < 1 then 0 else 2 + upI n D * 2
abbrev refI : Int := 18
def codN (d r n s l i : Int) (c : Cd) (x : Int) : Int × Int :=
 if ¬ OkC d r n s l i ∨ chkD c = false ∨ x < 0 ∨ 1099511627776 < x then (0,1)
 else if x = 0 then (0,0)
 else if grpI d r n s l i (c.2.2.1 + (c.2.2.2.1.length : Int)) = 0 ∨ c.2.2.2.2 < crdI d r n s l i (c.2.2.1 + (c.2.2.2.1.length : Int)) then (0,refI)
 else (upI (limN c.2.2.1 x) (grpI d r n s l i (c.2.2.1 + (c.2.2.2.1.length : Int))),0)
def codesV (v : Sv) : List Int := if v.2.1 = -1 then [] else if v.2.2.1 = -1 then [v.2.1] else [v.2.1,v.2.2.1]
def jobsN (vs : List Sv) (b : Nat → Int) : Nat → List (Int × Int)
 | 0 => []
 | k + 1 => jobsN vs b k ++ (codesV (vs.getD k sv0)).map fun c => (c,b k)
section
variable (F : Cd → Int → Int × Int) (cs : List Cd)
def stepJ (a : List Int × Int) (j : Int × Int) : List Int × Int := if a.2 ≠ 0 then a else (a.1.set j.1.toNat (F (cs.getD j.1.toNat cd0) j.2).1,(F (cs.getD j.1.toNat cd0) j.2).2)
def runJ (l : List (Int × Int)) : List Int × Int := l.foldl (stepJ F cs) (List.replicate 8 0,0)
def sumH (need : List Int) (held : Nat → Int) : Nat → Int
 | 0 => 0
 | c + 1 => sumH need held c + mxI (need.getD c 0) (held c)
def totN (vs : List Sv) (held : Nat → Int) (b : Nat → Int) : Int × Int :=
 if (runJ F cs (jobsN vs b vs.length)).2 ≠ 0 then (0,(runJ F cs (jobsN vs b vs.length)).2) else (sumH (runJ F cs (jobsN vs b vs.length)).1 held 8,0)
end
def heldT (rows : List SRw) (c : Int) : Nat → Nat
 | 0 => 0
 | i + 1 => heldT rows c i + if (rows.getD i rw0).1 = c then 1 else 0
def heldN (rows : List SRw) (c : Int) : Nat := heldT rows c rows.length
theorem heldT_le (rows : List SRw) (c : Int) : ∀ i, heldT rows c i ≤ i
 | 0 => Nat.le_refl _
 | i + 1 => by
   have := heldT_le rows c i
   unfold heldT
   split <;> omega
theorem runJ_app {F : Cd → Int → Int × Int} {cs : List Cd} (l : List (Int × Int)) (j : Int × Int) : runJ F cs (l ++ [j]) = stepJ F cs (runJ F cs l) j := by
 unfold runJ;rw [List.foldl_append];rfl
theorem runJ_len {F : Cd → Int → Int × Int} {cs : List Cd} : ∀ (l : List (Int × Int)) (a : List Int × Int), (l.foldl (stepJ F cs) a).1.length = a.1.length
 | [],_ => rfl
 | j :: l,a => by
   rw [List.foldl_cons,runJ_len l]
   unfold stepJ
   split <;> simp
theorem runJ_stop {F : Cd → Int → Int × Int} {cs : List Cd} : ∀ (l : List (Int × Int)) (a : List Int × Int), a.2 ≠ 0 → l.foldl (stepJ F cs) a = a
 | [],_,_ => rfl
 | j :: l,a,h => by
   rw [List.foldl_cons]
   have e : stepJ F cs a j = a := by unfold stepJ;rw [if_pos h]
   rw [e,runJ_stop l a h]
theorem runJ_err {F : Cd → Int → Int × Int} {cs : List Cd} {l t : List (Int × Int)} (h : (runJ F cs l).2 ≠ 0) : runJ F cs (l ++ t) = runJ F cs l := by
 unfold runJ;rw [List.foldl_append];exact runJ_stop t _ h
def MonoF (F : Cd → Int → Int × Int) : Prop := ∀ c x y,0 ≤ x → x ≤ y → (F c y).2 = 0 → (F c x).2 = 0 ∧ (F c x).1 ≤ (F c y).1
def LeL (a b : List Int) : Prop := a.length = b.length ∧ ∀ c,a.getD c 0 ≤ b.getD c 0
theorem LeL.refl (a : List Int) : LeL a a := ⟨rfl,fun _ => Int.le_refl _⟩
theorem getD_setI (l : List Int) (u j : Nat) (x : Int) : (l.set u x).getD j 0 = if j = u ∧ u < l.length then x else l.getD j 0 := by
 rw [List.getD_eq_getElem?_getD,List.getD_eq_getElem?_getD,List.getElem?_set]
 by_cases h : u = j
 ·subst h
  by_cases h2 : u < l.length
  ·simp [h2]
  ·rw [if_pos rfl,if_neg h2,if_neg (by simp [h2]),List.getElem?_eq_none (by omega)]
 ·rw [if_neg h,if_neg (by omega)]
theorem LeL.set {a b : List Int} (h : LeL a b) (u : Nat) {x y : Int} (hxy : x ≤ y) : LeL (a.set u x) (b.set u y) := by
 refine ⟨by rw [List.length_set,List.length_set];exact h.1,fun c => ?_⟩
 rw [getD_setI,getD_setI,h.1]
 split
 ·exact hxy
 ·exact h.2 c
def LeJ : List (Int × Int) → List (Int × Int) → Prop
 | [],[] => True
 | a :: l,b :: t => (a.1 = b.1 ∧ 0 ≤ a.2 ∧ a.2 ≤ b.2) ∧ LeJ l t
 | _,_ => False
theorem LeJ.app : ∀ {l t l2 t2 : List (Int × Int)}, LeJ l t → LeJ l2 t2 → LeJ (l ++ l2) (t ++ t2)
 | [],[],_,_,_,h2 => h2
 | a :: l,b :: t,_,_,h,h2 => ⟨h.1,LeJ.app h.2 h2⟩
 | [],_ :: _,_,_,h,_ => h.elim
 | _ :: _,[],_,_,h,_ => h.elim
theorem LeJ.map {c : List Int} {x y : Int} (h0 : 0 ≤ x) (h : x ≤ y) : LeJ (c.map fun c => (c,x)) (c.map fun c => (c,y)) := by
 induction c with
 | nil => trivial
 | cons a c ih => exact ⟨⟨rfl,h0,h⟩,ih⟩
theorem jobs_le {vs : List Sv} {b b' : Nat → Int} (h0 : ∀ k, 0 ≤ b k) (h : ∀ k, b k ≤ b' k) : ∀ n, LeJ (jobsN vs b n) (jobsN vs b' n)
 | 0 => trivial
 | n + 1 => LeJ.app (jobs_le h0 h n) (LeJ.map (h0 n) (h n))
theorem run_mono {F : Cd → Int → Int × Int} {cs : List Cd} (hF : MonoF F) : ∀ (l t : List (Int × Int)) (a b : List Int × Int), LeJ l t → LeL a.1 b.1 → a.2 = 0 → (t.foldl (stepJ F cs) b).2 = 0 → (l.foldl (stepJ F cs) a).2 = 0 ∧ LeL (l.foldl (stepJ F cs) a).1 (t.foldl (stepJ F cs) b).1
 | [],[],a,b,_,h,ha,_ => ⟨ha,h⟩
 | x :: l,y :: t,a,b,hj,h,ha,hb => by
   rw [List.foldl_cons] at hb
   have hb0 : b.2 = 0 := Classical.byContradiction fun hn => by
    have e : stepJ F cs b y = b := by unfold stepJ;rw [if_pos hn]
    rw [e,runJ_stop t b hn] at hb
    exact hn hb
   have eb : stepJ F cs b y = (b.1.set y.1.toNat (F (cs.getD y.1.toNat cd0) y.2).1,(F (cs.getD y.1.toNat cd0) y.2).2) := by unfold stepJ;rw [if_neg (by simp [hb0])]
   have ea : stepJ F cs a x = (a.1.set x.1.toNat (F (cs.getD x.1.toNat cd0) x.2).1,(F (cs.getD x.1.toNat cd0) x.2).2) := by unfold stepJ;rw [if_neg (by simp [ha])]
   have hy : (F (cs.getD y.1.toNat cd0) y.2).2 = 0 := Classical.byContradiction fun hn => by
    rw [eb,runJ_stop t _ hn] at hb
    exact hn hb
   obtain ⟨⟨h1,h2,h3⟩,h4⟩ := hj
   obtain ⟨h5,h6⟩ := hF _ _ _ h2 h3 hy
   rw [List.foldl_cons,List.foldl_cons,ea,eb]
   rw [eb] at hb
   rw [h1]
   exact run_mono hF l t _ _ h4 (h.set _ h6) h5 hb
 | [],_ :: _,_,_,h,_,_,_ => h.elim
 | _ :: _,[],_,_,h,_,_,_ => h.elim
theorem sumH_mono {a b : List Int} {h h' : Nat → Int} (hl : LeL a b) (hh : ∀ c, h c ≤ h' c) : ∀ n, sumH a h n ≤ sumH b h' n
 | 0 => Int.le_refl _
 | n + 1 => by
   have h1 := sumH_mono hl hh n
   have h2 := hl.2 n
   have h3 := hh n
   unfold sumH mxI
   split <;> split <;> omega
theorem tot_mono {F : Cd → Int → Int × Int} {cs : List Cd} {vs : List Sv} {h h' b b' : Nat → Int} (hF : MonoF F) (h0 : ∀ k,0 ≤ b k) (hb : ∀ k,b k ≤ b' k) (hh : ∀ c,h c ≤ h' c) (he : (totN F cs vs h' b').2 = 0) : (totN F cs vs h b).2 = 0 ∧ (totN F cs vs h b).1 ≤ (totN F cs vs h' b').1 := by
 have he2 : (runJ F cs (jobsN vs b' vs.length)).2 = 0 := Classical.byContradiction fun hn => by
  unfold totN at he
  rw [if_pos hn] at he
  exact hn he
 obtain ⟨h1,h2⟩ := run_mono (cs := cs) hF _ _ (List.replicate 8 0,0) (List.replicate 8 0,0) (jobs_le (vs := vs) h0 hb vs.length) (LeL.refl _) rfl he2
 have h1 : (runJ F cs (jobsN vs b vs.length)).2 = 0 := h1
 have h2 : LeL (runJ F cs (jobsN vs b vs.length)).1 (runJ F cs (jobsN vs b' vs.length)).1 := h2
 unfold totN
 rw [if_neg (by simp [h1]),if_neg (by simp [he2])]
 exact ⟨rfl,sumH_mono h2 hh 8⟩
theorem upI_mono {a b c : Int} (hc : 0 < c) (h : a ≤ b) : upI a c ≤ upI b c := Int.ediv_le_ediv hc (by omega)
theorem upI_nn {a c : Int} (hc : 0 < c) (h : 0 ≤ a) : 0 ≤ upI a c := Int.ediv_nonneg (by omega) (by omega)
theorem limN_nn (D n : Int) : 0 ≤ limN D n := by
 unfold limN
 split
 ·exact Int.le_refl _
 ·rename_i h
  have := upI_nn (a := n) (c := D) (by omega) (by omega)
  omega
theorem limN_mono {D x y : Int} (h0 : 0 ≤ x) (h : x ≤ y) (hy : y ≤ 1099511627776) : limN D x ≤ limN D y := by
 by_cases hx : x < 1 ∨ 1099511627776 < x ∨ D < 1
 ·have e : limN D x = 0 := if_pos hx
  rw [e];exact limN_nn D y
 ·have hm := upI_mono (c := D) (by omega) h
  unfold limN
  rw [if_neg hx,if_neg (by omega)];omega
theorem grpI_nn {d r n s l i w : Int} : 0 ≤ grpI d r n s l i w := by
 unfold grpI
 split
 ·rename_i h
  have := h.bd
  exact Int.ediv_nonneg (by omega) (by omega)
 ·exact Int.le_refl _
theorem codN_mono (d r n s l i : Int) : MonoF (codN d r n s l i) := fun c x y h0 h he => by
 unfold codN at he
 by_cases h1 : ¬ OkC d r n s l i ∨ chkD c = false ∨ y < 0 ∨ 1099511627776 < y
 ·rw [if_pos h1] at he;exact absurd he (by decide)
 rw [if_neg h1] at he
 have h1x : ¬ (¬ OkC d r n s l i ∨ chkD c = false ∨ x < 0 ∨ 1099511627776 < x) := fun hn => h1 (by
  rcases hn with hn | hn | hn | hn
  ·exact .inl hn
  ·exact .inr (.inl hn)
  ·omega
  ·exact .inr (.inr (.inr (by omega))))
 have hy : y ≤ 1099511627776 := Classical.byContradiction fun hn => h1 (.inr (.inr (.inr (by omega))))
 have hg := grpI_nn (d := d) (r := r) (n := n) (s := s) (l := l) (i := i) (w := c.2.2.1 + (c.2.2.2.1.length : Int))
 unfold codN
 rw [if_neg h1,if_neg h1x]
 by_cases hx0 : x = 0
 ·rw [if_pos hx0]
  refine ⟨rfl,?_⟩
  split
  ·exact Int.le_refl _
  ·split
   ·exact Int.le_refl _
   ·rename_i h3
    exact upI_nn (by omega) (limN_nn _ _)
 ·rw [if_neg hx0]
  rw [if_neg (show ¬ y = 0 by omega)] at he ⊢
  by_cases h2 : grpI d r n s l i (c.2.2.1 + (c.2.2.2.1.length : Int)) = 0 ∨ c.2.2.2.2 < crdI d r n s l i (c.2.2.1 + (c.2.2.2.1.length : Int))
  ·rw [if_pos h2] at he;exact absurd he (by decide)
  ·rw [if_neg h2, if_neg h2]
   exact ⟨rfl,upI_mono (by omega) (limN_mono h0 h hy)⟩
end
section
def moreB (b : Nat → Int) (k : Nat) (m : Int) : Nat → Int := fun j => b j + if j = k then m else 0
section
variable (F : Cd → Int → Int × Int) (cs : List Cd) (vs : List Sv) (held : Nat → Int) (n : Int)
def fitT (b : Nat → Int) : Bool := decide ((totN F cs vs held b).2 = 0 ∧ (totN F cs vs held b).1 < n)
def roomT (b : Nat → Int) (k : Nat) : Nat := ((List.range 1048576).find? fun m : Nat => !fitT F cs vs held n (moreB b k ((m : Int) + 1))).getD 1048576
end
theorem moreB_zero (b : Nat → Int) (k : Nat) : moreB b k 0 = b := by
 funext j;unfold moreB;split <;> omega
theorem fit_mono {F : Cd → Int → Int × Int} {cs : List Cd} {vs : List Sv} {h h' b b' : Nat → Int} {n : Int} (hF : MonoF F) (h0 : ∀ k,0 ≤ b k) (hb : ∀ k,b k ≤ b' k) (hh : ∀ c,h c ≤ h' c) (he : fitT F cs vs h' n b' = true) : fitT F cs vs h n b = true := by
 unfold fitT at he ⊢
 simp only [decide_eq_true_eq] at he ⊢
 have := tot_mono hF h0 hb hh he.1
 exact ⟨this.1,by omega⟩
theorem fit_more {F : Cd → Int → Int × Int} {cs : List Cd} {vs : List Sv} {h b : Nat → Int} {n x y : Int} {k : Nat} (hF : MonoF F) (h0 : ∀ k,0 ≤ b k) (hx : 0 ≤ x) (hxy : x ≤ y) (he : fitT F cs vs h n (moreB b k y) = true) : fitT F cs vs h n (moreB b k x) = true :=
 fit_mono hF (fun j => by have := h0 j;unfold moreB;split <;> omega) (fun j => by unfold moreB;split <;> omega) (fun _ => Int.le_refl _) he
theorem find_first {p : Nat → Bool} {n : Nat} : (((List.range n).find? p).getD n ≤ n) ∧ (∀ m,m < ((List.range n).find? p).getD n → p m = false) ∧ (((List.range n).find? p).getD n < n → p (((List.range n).find? p).getD n) = true) := by
 cases h : (List.range n).find? p with
 | none =>
   refine ⟨Nat.le_refl _,fun m hm => ?_,fun hn => absurd hn (Nat.lt_irrefl n)⟩
   have := List.find?_eq_none.1 h m (List.mem_range.2 hm)
   simpa using this
 | some x =>
   have h1 := List.find?_some h
   have h2 := List.mem_range.1 (List.mem_of_find?_eq_some h)
   refine ⟨by simp;omega,fun m hm => ?_,fun _ => h1⟩
   obtain ⟨_,pa,bs,h3,h4⟩ := List.find?_eq_some_iff_append.1 h
   have h5 : pa.length = x := by
    have e1 := congrArg (fun l => l[pa.length]?) h3
    simp only [List.getElem?_append_right (Nat.le_refl _),Nat.sub_self,List.getElem?_cons_zero] at e1
    rw [List.getElem?_eq_some_iff] at e1
    obtain ⟨_,e2⟩ := e1
    rw [List.getElem_range] at e2
    exact e2
   have e3 : pa[m]? = some m := by
    have hm : m < pa.length := by rw [h5];exact hm
    have e1 := congrArg (fun l => l[m]?) h3
    simp only [List.getElem?_append_left hm] at e1
    rw [← e1,List.getElem?_range (by omega)]
   have := h4 m (List.mem_of_getElem? e3)
   simpa using this
theorem room_spec {F : Cd → Int → Int × Int} {cs : List Cd} {vs : List Sv} {h b : Nat → Int} {n : Int} {k : Nat} (h1 : fitT F cs vs h n b = true) : roomT F cs vs h n b k ≤ 1048576 ∧ fitT F cs vs h n (moreB b k (roomT F cs vs h n b k : Nat)) = true ∧ (roomT F cs vs h n b k < 1048576 → fitT F cs vs h n (moreB b k ((roomT F cs vs h n b k : Nat) + 1)) = false) := by
 unfold roomT
 obtain ⟨g1,g2,g3⟩ := find_first (p := fun m : Nat => !fitT F cs vs h n (moreB b k ((m : Int) + 1))) (n := 1048576)
 generalize ((List.range 1048576).find? fun m : Nat => !fitT F cs vs h n (moreB b k ((m : Int) + 1))).getD 1048576 = R at *
 refine ⟨g1,?_,fun hR => by simpa using g3 hR⟩
 match R with
 | 0 => rw [show ((0 : Nat) : Int) = 0 from rfl,moreB_zero];exact h1
 | R + 1 =>
   have := g2 R (by omega)
   simpa using this
theorem room_unique {F : Cd → Int → Int × Int} {cs : List Cd} {vs : List Sv} {h b : Nat → Int} {n : Int} {k m : Nat} (hF : MonoF F) (h0 : ∀ k,0 ≤ b k) (hm : m ≤ 1048576) (h1 : fitT F cs vs h n (moreB b k m) = true) (h2 : m < 1048576 → fitT F cs vs h n (moreB b k ((m : Int) + 1)) = false) : roomT F cs vs h n b k = m := by
 have hb : fitT F cs vs h n b = true := by
  have := fit_more (x := 0) hF h0 (Int.le_refl _) (by omega) h1
  rwa [moreB_zero] at this
 obtain ⟨g1,g2,g3⟩ := room_spec (k := k) hb
 generalize roomT F cs vs h n b k = R at *
 rcases Nat.lt_trichotomy R m with hlt | he | hgt
 ·have := fit_more (x := (R : Int) + 1) hF h0 (by omega) (by omega) h1
  rw [g3 (by omega)] at this;cases this
 ·exact he
 ·have := fit_more (x := (m : Int) + 1) hF h0 (by omega) (by omega) g2
  rw [h2 (by omega)] at this;cases this
theorem blkT_nn {ts : List Tn} {us : List Ue} {k : Int} {nv : Nat} (h : tenB nv ts us = true) : ∀ n, n ≤ ts.length → 0 ≤ blkT ts us k n ∧ blkT ts us k n ≤ (n : Int) * 4294967294
 | 0,_ => by unfold blkT;omega
 | n + 1,hn => by
   have h1 := blkT_nn (k := k) h n (by omega)
   have h2 : tnOk nv (ts.getD n tn0) (us.getD n ue0) = true := by
    unfold tenB at h
    simp only [Bool.and_eq_true,List.all_eq_true] at h
    exact h.2 n (List.mem_range.2 (by omega))
   unfold tnOk inT at h2
   simp only [Bool.and_eq_true,decide_eq_true_eq] at h2
   unfold blkT blkOf mxI
   split <;> (try split) <;> (try split) <;> omega
theorem ten_len {nv : Nat} {ts : List Tn} {us : List Ue} (h : tenB nv ts us = true) : ts.length ≤ 16 ∧ ts.length ≤ us.length := by
 unfold tenB at h
 simp only [Bool.and_eq_true,decide_eq_true_eq] at h
 exact h.1
theorem blkN_bd {ts : List Tn} {us : List Ue} {k : Int} {nv : Nat} (h : tenB nv ts us = true) : 0 ≤ blkN ts us k ∧ blkN ts us k ≤ 68719476704 := by
 have h2 := ten_len h
 have h1 := blkT_nn (k := k) h (min ts.length us.length) (by omega)
 unfold blkN
 omega
def blkL (nv : Nat) (ts : List Tn) (us : List Ue) : List Int := (List.range nv).map fun k : Nat => blkN ts us (k : Int)
def blkF (ts : List Tn) (us : List Ue) (k : Nat) : Int := blkN ts us k
theorem blkL_get {nv k : Nat} {ts : List Tn} {us : List Ue} (h : k < nv) : (blkL nv ts us).getD k 0 = blkF ts us k := by
 unfold blkL blkF
 rw [List.getD_eq_getElem?_getD,List.getElem?_map,List.getElem?_range h];rfl
theorem jobs_congr {vs : List Sv} {b b' : Nat → Int} : ∀ n, (∀ k, k < n → b k = b' k) → jobsN vs b n = jobsN vs b' n
 | 0,_ => rfl
 | n + 1,h => by
   unfold jobsN
   rw [jobs_congr n fun k hk => h k (by omega),h n (by omega)]
theorem tot_congr {F : Cd → Int → Int × Int} {cs : List Cd} {vs : List Sv} {held b b' : Nat → Int} (h : ∀ k,k < vs.length → b k = b' k) : totN F cs vs held b = totN F cs vs held b' := by
 unfold totN
 rw [jobs_congr vs.length h]
theorem blkL_more {nv k : Nat} {ts : List Tn} {us : List Ue} (h : k < nv) (m : Int) : ∀ j,j < nv → ((blkL nv ts us).set k (blkN ts us k + m)).getD j 0 = moreB (blkF ts us) k m j := fun j hj => by
 have hl : (blkL nv ts us).length = nv := by unfold blkL;simp
 rw [getD_setI,hl]
 unfold moreB
 by_cases e : j = k
 ·subst e;rw [if_pos ⟨rfl,h⟩,if_pos rfl];rfl
 ·rw [if_neg (fun h => e h.1),if_neg e,blkL_get hj];omega
end
section
def wdM (rows : List SRw) : Nat → List (Int × Value)
 | 0 => []
 | i + 1 => setI (wdM rows i) (rows.getD i rw0).1 (.int .i64 (rows.getD i rw0).2.1)
theorem hasV_setI (l : List (Int × Value)) (a : Int) (u : Value) (c : Int) : hasV (setI l a u) c = (decide (c = a) || hasV l c) := by
 have key : ∀ (l : List (Int × Value)) (c : Int),hasV l c = true ↔ ∃ v,(c,v) ∈ l := fun l c => by
  unfold hasV
  induction l with
  | nil => simp [getIx]
  | cons p l ih =>
    obtain ⟨b,w⟩ := p
    rw [getIx]
    by_cases e : c = b
    ·subst e;simp
    ·rw [if_neg e, getIx_off]
     cases hq : getIx l c 0 with
     | none =>
       rw [hq] at ih
       simp only [Option.map_none,Option.isSome_none,Bool.false_eq_true,false_iff] at ih ⊢
       rintro ⟨v,hv⟩
       rcases List.mem_cons.1 hv with h | h
       ·injection h with h1 h2;exact e h1
       ·exact ih ⟨v,h⟩
     | some q =>
       rw [hq] at ih
       obtain ⟨v,hv⟩ := ih.1 rfl
       simp only [Option.map_some,Option.isSome_some,true_iff]
       exact ⟨v,List.mem_cons_of_mem _ hv⟩
 rw [Bool.eq_iff_iff,Bool.or_eq_true,decide_eq_true_eq,key,key]
 unfold setI
 cases hq : getIx l a 0 with
 | none =>
   dsimp only
   constructor
   ·rintro ⟨v, hv⟩
    rcases List.mem_append.1 hv with h | h
    ·exact .inr ⟨v,h⟩
    ·simp at h;exact .inl h.1
   ·rintro (h | ⟨v, h⟩)
    ·exact ⟨u,by simp [h]⟩
    ·exact ⟨v,List.mem_append_left _ h⟩
 | some p =>
   obtain ⟨i,w⟩ := p
   dsimp only
   have hl := getIx_spec hq
   obtain ⟨hi,hl2⟩ := List.getElem?_eq_some_iff.1 hl
   constructor
   ·rintro ⟨v, hv⟩
    rcases List.mem_or_eq_of_mem_set hv with h | h
    ·exact .inr ⟨v,h⟩
    ·injection h with h1 _;exact .inl h1
   ·rintro (h | ⟨v, h⟩)
    ·subst h;exact ⟨u,List.mem_set hi _⟩
    ·by_cases e : c = a
     ·subst e;exact ⟨u,List.mem_set hi _⟩
     ·obtain ⟨j, hj, hjv⟩ := List.getElem_of_mem h
      refine ⟨v,?_⟩
      have hne : i ≠ j := fun e2 => by
       subst e2
       rw [hl2] at hjv
       injection hjv with h1 _;exact e h1.symm
      rw [← hjv,← List.getElem_set_ne hne (a := (a,u)) (by rw [List.length_set];exact hj)]
      exact List.getElem_mem _
theorem wdM_spec {rows : List SRw} : ∀ i, i ≤ rows.length → (∀ a, a < i → (List.range a).all (conR rows a) = true) → ∀ c, (hasV (wdM rows i) c = true ↔ ∃ b, b < i ∧ (rows.getD b rw0).1 = c) ∧ ∀ b, b < i → (rows.getD b rw0).1 = c → getV (wdM rows i) c (.int .i64 0) = .int .i64 (rows.getD b rw0).2.1
 | 0,_,_,c => ⟨⟨fun h => by simp [wdM,hasV,getIx] at h,fun ⟨b,hb,_⟩ => by omega⟩,fun b hb => by omega⟩
 | i + 1,hi,hok,c => by
   obtain ⟨h1,h2⟩ := wdM_spec i (by omega) (fun a ha => hok a (by omega)) c
   unfold wdM
   rw [hasV_setI,getV_setI,Bool.or_eq_true,decide_eq_true_eq,h1]
   refine ⟨⟨?_,?_⟩,fun b hb hbc => ?_⟩
   ·rintro (h | ⟨b, hb, hc⟩)
    ·exact ⟨i,by omega,h.symm⟩
    ·exact ⟨b,by omega,hc⟩
   ·rintro ⟨b, hb, hc⟩
    by_cases e : b = i
    ·subst e;exact .inl hc.symm
    ·exact .inr ⟨b,by omega,hc⟩
   ·split
    ·rename_i e
     by_cases e2 : b = i
     ·subst e2;rfl
     ·have h3 := hok i (by omega)
      rw [List.all_eq_true] at h3
      have h4 := h3 b (List.mem_range.2 (by omega))
      unfold conR at h4
      rw [decide_eq_true (by rw [hbc,e]),Bool.true_and,Bool.not_not,decide_eq_true_eq] at h4
      rw [h4]
    ·rename_i e
     by_cases e2 : b = i
     ·subst e2;exact absurd hbc.symm e
     ·exact h2 b (by omega) hbc
theorem wdM_test {rows : List SRw} {i : Nat} (hi : i < rows.length) (hok : ∀ a, a < i → (List.range a).all (conR rows a) = true) :
 ∃ x : Int,getV (wdM rows i) rows[i].1 (.int .i64 0) = .int .i64 x ∧ (hasV (wdM rows i) rows[i].1 && !decide (x = rows[i].2.1)) = !((List.range i).all (conR rows i)) := by
 have h0 := wdM_spec i (by omega) hok rows[i].1
 cases hh : hasV (wdM rows i) rows[i].1 with
 | false =>
   have hg : getV (wdM rows i) rows[i].1 (.int .i64 0) = .int .i64 0 := by
    unfold getV hasV at *
    cases hq : getIx (wdM rows i) rows[i].1 0 with
    | none => rfl
    | some p => rw [hq] at hh;simp at hh
   refine ⟨0,hg,?_⟩
   have h1 : (List.range i).all (conR rows i) = true := by
    rw [List.all_eq_true]
    intro b hb
    unfold conR
    rw [getDr hi,decide_eq_false (fun e => by
     have := h0.1.2 ⟨b,List.mem_range.1 hb,e⟩
     rw [hh] at this;cases this)]
    rfl
   rw [h1];rfl
 | true =>
   obtain ⟨b,hb,hc⟩ := h0.1.1 hh
   refine ⟨_,h0.2 b hb hc,?_⟩
   rw [Bool.true_and]
   congr 1
   rw [Bool.eq_iff_iff,decide_eq_true_eq,List.all_eq_true]
   constructor
   ·intro h q hq
    unfold conR
    rw [getDr hi]
    by_cases e : (rows.getD q rw0).1 = rows[i].1
    ·have h3 := h0.2 q (List.mem_range.1 hq) e
     rw [h0.2 b hb hc] at h3
     injection h3 with _ h4
     rw [decide_eq_true e,decide_eq_true (by rw [← h4,h])];rfl
    ·rw [decide_eq_false e];rfl
   ·intro h
    have h3 := h b (List.mem_range.2 hb)
    unfold conR at h3
    rw [getDr hi,decide_eq_true hc,Bool.true_and,Bool.not_not,decide_eq_true_eq] at h3
    exact h3
attribute [local irreducible] Quiet Eff OpOk AWPG ACont ABlock ACalls AGoto
theorem A_ofIter1 {rows : List SRw} {c : Int} {L : Ent} {e0 : Nat → Ent} (hl : rows.length ≤ 1000000)
 (hcl : ∀ (i : Nat) (Y : List Ent),selOwn (e0 i :: .box [rws rows] :: .box [iV c] :: L :: Y) [0,1,2,3] = [e0 i,.box [rws rows],.box [iV c],L])
 (hs : ∀ i (hi : i < rows.length),rows[i].1 ≠ c → e0 (i + 1) = e0 i)
 (hY : ∀ i (hi : i < rows.length),rows[i].1 = c → YAt Tryz.prog 3 [e0 i,.box [rws rows],.box [iV c],L,.box ((rwD rows[i]).map .d)] [iV i,rwA rows[i]] true [e0 (i + 1),.box [rws rows],.box [iV c],L,.box ((rwD rows[i]).map .d)]) :
 ACalls Tryz.prog 195 [.yl 3,.opt 1 0,.opt 2 0] [e0 0,.box [rws rows],.box [iV c],L] (.tup []) [e0 rows.length,.box [rws rows],.box [iV c],L] := by
 refine acalls_of_bodyS Tryz.func195 rfl (zU rfl) ?_
 have hm : (rows.map rwD).length = rows.length := List.length_map _
 (repeat' (first
  |(apply W.qd;(first
  |(exact zM)|(exact jAh)
  |(exact jAu)))|(apply yA)|(apply yB)|(apply (W.regionS 1);exact rfl;kernel_rfl)|(apply yE)
  |(apply yG)))
 refine AWP.loopW (α := Nat) (fun i => i ≤ rows.length) (fun i => ⟨[(8,iV i),(7,iV rows.length),(6,rws rows),(0,.yl 3),(1,.opt 1 0),(2,.opt 2 0)],[e0 i,.box [rws rows],.box [iV c],L]⟩) (fun i => rows.length - i) 0 (Nat.zero_le _) ?wkA fun i hi => ?_
 case wkA =>
  refine ⟨[0,1,2,3],rfl,rfl,?_,rfl,iV_eq (by rw [hm]),rfl,rfl,rfl,rfl,trivial⟩
  exact (hcl 0 []).symm
 by_cases hil : i < rows.length
 ·by_cases hc : rows[i].1 = c
  ·have hy := hY i hil hc
   (repeat' (first
    |(apply yFb;exact rfl;exact rfl)
    |(apply W.qd;(first
    |(exact zM)|(exact zN)|(exact jAq)|(exact jAh)|(exact jAo)|(exact jAk)|(exact q_eql rfl rfl)|(exact q_not rfl)|(exact jAl)|(exact jAj)|(exact jA)
    |(apply (yEb (u := .d _));exact rfl;exact rfl)))
    |(apply W.ed;(first
    |((exact e_yield hy rfl rfl))
    |(exact jAm)))|(apply W.ln;(exact jAe))|(apply yA)|(apply yB)|(refine jAc ?_)|(apply yE)|(apply yG)|(apply yH)|(apply yL)|(refine jAx ?_)|(refine W.gT _ _ rfl rfl (fun hb => ?_) (fun hb => ?_) <;> ((try simp only [hb,zK]) <;> (try simp only [zL,zI] at hb) <;> (try (exfalso;omega))))
    |(refine W.cond _ rfl (fun hb => ?_) (fun hb => ?_) <;> ((try simp only [hb,zK]) <;> (try simp only [zL,zI] at hb) <;> (try (exfalso;omega))))))
   all_goals first
    |(exfalso;omega)|(refine ⟨i + 1,by omega,by omega,[0,1,2,3],rfl,rfl,?_,iV_eq (by omega),rfl,rfl,rfl,rfl,rfl,trivial⟩;exact (hcl (i + 1) [_]).symm)
  ·have hs1 := hs i hil hc
   (repeat' (first
    |(apply W.qd;(first
    |(exact zM)|(exact zN)|(exact jAq)|(exact jAh)|(exact jAk)|(exact q_eql rfl rfl)|(exact jAl)|(exact jAj)|(exact jA)
    |(apply (yDb (u := .d _));exact rfl;exact rfl)))|(apply W.ed;(exact jAm))|(apply W.ln;(exact jAe))|(refine W.gOff _ _ rfl rfl (by intro h;cases h) ?_)|(apply yA)|(apply yB)|(refine jAc ?_)|(apply yE)|(apply yG)|(apply yH)|(apply yL)|(refine jAx ?_)|(refine W.gT _ _ rfl rfl (fun hb => ?_) (fun hb => ?_) <;> ((try simp only [hb,zK]) <;> (try simp only [zL,zI] at hb) <;> (try (exfalso;omega))))
    |(refine W.cond _ rfl (fun hb => ?_) (fun hb => ?_) <;> ((try simp only [hb,zK]) <;> (try simp only [zL,zI] at hb) <;> (try (exfalso;omega))))))
   all_goals first
    |(exfalso;omega)|(refine ⟨i + 1,by omega,by omega,[0,1,2,3],rfl,rfl,?_,iV_eq (by omega),rfl,rfl,rfl,rfl,rfl,trivial⟩;dsimp only;rw [hs1];exact (hcl i [_]).symm)
 ·obtain rfl : i = rows.length := by omega
  (repeat' (first
   |(apply W.qd;(exact jAk))|(apply yA)|(apply yB)|(refine jAc ?_)|(apply yE)|(apply yI)|(apply yK)|(apply yM)
   |(refine W.cond _ rfl (fun hb => ?_) (fun hb => ?_) <;> ((try simp only [hb,zK]) <;> (try simp only [zL,zI] at hb) <;> (try (exfalso;omega))))))
  exact ⟨.inr rfl,[],trivial,AVle.of_eq rfl,rfl⟩
theorem A_held {rows : List SRw} {c : Int} (hl : rows.length ≤ 1000000) : ACalls Tryz.prog 111 [rws rows,iV c] [] (iV (heldN rows c : Nat)) [] := by
 refine acalls_of_body Tryz.func111 rfl (zU rfl) ?_
 have hof := A_of0 (rows := rows) (c := c)
 have hle := heldT_le rows c
 (repeat' (first
  |(apply W.qd;(first
  |(exact zM)
  |(exact zN)))
  |(apply W.ed;(first
  |(apply (e_callJ (js := []) (hof));(iterate 5 exact rfl);kernel_rfl;kernel_rfl)
  |(exact jAm)))|(apply W.ln;(exact jAe))|(apply yA)|(apply yB)|(refine jAc ?_)|(apply yE)
  |(apply yG)))
 refine AWP.wk ⟨[(8,.fn 195 [.opt 1 0,.opt 2 0]),(5,.opt 0 0)],[.box [iV (heldT rows c 0 : Nat)],.box [rws rows],.box [iV c]]⟩ ⟨[0,1,2],rfl,rfl,rfl,by (repeat (first | exact trivial | refine ⟨rfl,?_⟩))⟩ ?_
 refine AWP.range (s2 := ⟨[(5,.opt 0 0)],[.box [iV (heldT rows c rows.length : Nat)]]⟩) rfl (by kernel_rfl) (A_ofIter1 (e0 := fun i => .box [iV (heldT rows c i : Nat)]) hl (fun p Y => rfl) (fun i hi hc => ?_) (fun i hi hc => ?_)) rfl (by decide) ⟨[0],rfl,rfl,rfl,by (repeat (first | exact trivial | refine ⟨rfl,?_⟩))⟩ ?_
 ·try dsimp only
  rw [show heldT rows c (i + 1) = heldT rows c i by rw [heldT,getDr hi,if_neg hc,Nat.add_zero]]
 ·try dsimp only
  have hs : ((heldT rows c (i + 1) : Nat) : Int) = (heldT rows c i : Int) + 1 := by rw [heldT,getDr hi,if_pos hc];rfl
  have hle2 := hle i
  rw [hs]
  generalize heldT rows c i = h at *
  refine YAt.ok (own1 := [.box [iV ((h : Int) + 1)],.box [rws rows],.box [iV c],.lp .busy none #[9,10] _ _ _,.box ((rwD rows[i]).map .d)]) (s2 := ⟨[(5,.opt 0 0)],_⟩) rfl rfl rfl rfl (fun g => ?_) rfl (fun g => ?_) rfl rfl
  ·refine AWP.toW ?_
   (repeat' (first
    |(apply yH)))
   exact ⟨rfl,⟨[0,1,2,3,4],rfl,rfl,rfl,by (repeat (first | exact trivial | refine ⟨rfl,?_⟩))⟩⟩
  ·refine AWP.toO ?_
   (repeat' (first
    |(apply W.qd;(first
    |(exact jAh)
    |(exact jAl)))|(apply W.ln;(exact jAe))|(refine jAc ?_)|(apply yE)|(apply yG)
    |(apply yL)))
   exact ⟨rfl,⟨[0,1,2,3,4],rfl,rfl,rfl,by (repeat (first | exact trivial | refine ⟨rfl,?_⟩))⟩⟩
 dsimp only
 (repeat' (first
  |(apply W.qd;(first
  |(exact zN)
  |(exact jAh)))|(apply yA)|(apply yB)|(refine jAc ?_)|(apply yE)|(apply yJ)
  |(apply yL)))
 exact Ends.i rfl rfl
theorem A_validRow {d r n s l i : Int} {w : SRw} (hw : w.2.2.length ≤ 9223372036854775807) : ACalls Tryz.prog 167 [cfgA d r n s l i,rwA w] [] (bV (rgtR (grpI d r n s l i w.2.1) w)) [] := by
 obtain ⟨c,wd,us⟩ := w
 dsimp only at hw ⊢
 have hg := A_lgroups d r n s l i wd
 generalize grpI d r n s l i wd = g at *
 have hmu : (us.map usD).length = us.length := List.length_map _
 refine acalls_of_body Tryz.func167 rfl (zU rfl) ?_
 unfold rgtR
 dsimp only
 by_cases h1 : c = -1
 ·rw [if_pos h1]
  (repeat' (first
   |(apply yFb;exact rfl;exact rfl)
   |(apply W.qd;(first
   |(exact zM)|(exact zN)|(exact jAq)|(exact jAh)|(exact q_eql rfl rfl)|(exact jAu)|(apply (yEb (u := .d _));exact rfl;exact rfl)
   |(apply (yDb (u := .d _));exact rfl;exact rfl)))|(apply W.ed;(exact jAa))|(refine W.gOff _ _ rfl rfl (by intro h;cases h) ?_)|(apply yA)|(apply yB)|(refine jAc ?_)|(apply yE)|(apply yJ)|(apply yP)|(refine W.gT _ _ rfl rfl (fun hb => ?_) (fun hb => ?_) <;> ((try simp only [hb,zK]) <;> (try simp only [zL,zI] at hb) <;> (try (exfalso;omega))))
   |(refine W.cond _ rfl (fun hb => ?_) (fun hb => ?_) <;> ((try simp only [hb,zK]) <;> (try simp only [zL,zI] at hb) <;> (try (exfalso;omega))))))
  all_goals first | (exfalso;omega) | (refine Ends.b rfl ?_;rw [Bool.eq_iff_iff];simp <;> omega)
 rw [if_neg h1]
 by_cases h2 : 0 ≤ c ∧ c < 8 ∧ 1 ≤ wd ∧ wd ≤ 32 ∧ us.length ≠ 0
 case neg =>
  rw [decide_eq_false h2,Bool.false_and]
  (repeat' (first
   |(apply yFb;exact rfl;exact rfl)
   |(apply W.qd;(first
   |(exact zM)|(exact zN)|(exact jAq)|(exact jAh)|(exact jAk)|(exact q_gtr rfl rfl)|(exact q_geq rfl rfl)|(exact q_eql rfl rfl)|(exact jAu)|(apply (yEb (u := .d _));exact rfl;exact rfl)
   |(apply (yDb (u := .d _));exact rfl;exact rfl)))|(apply W.ed;(exact jAa))|(refine W.gOff _ _ rfl rfl (by intro h;cases h) ?_)|(apply yA)|(apply yB)|(apply (W.regionS 5);exact rfl;kernel_rfl)|(apply yE)|(apply yH)|(apply yJ)|(apply yP)|(refine jAv ?_)|(refine W.gF _ _ rfl rfl (fun hb => ?_) (fun hb => ?_) <;> ((try simp only [hb,zK]) <;> (try simp only [zL,zI] at hb) <;> (try (exfalso;omega))))
   |(refine W.cond _ rfl (fun hb => ?_) (fun hb => ?_) <;> ((try simp only [hb,zK]) <;> (try simp only [zL,zI] at hb) <;> (try (exfalso;omega))))))
  all_goals first | (exfalso;omega) | exact Ends.b rfl rfl
 rw [decide_eq_true h2,Bool.true_and]
 (repeat' (first
  |(apply yFb;exact rfl;exact rfl)
  |(apply W.qd;(first
  |(exact zW (hg))|(exact zM)|(exact zN)|(exact jAq)|(exact jAh)|(exact jAo)|(exact jAk)|(exact q_gtr rfl rfl)|(exact q_geq rfl rfl)|(exact q_eql rfl rfl)|(exact jAu)
  |(apply (yDb (u := .d _));exact rfl;exact rfl)))|(apply W.ed;(exact jAa))|(apply yA)|(apply yB)|(apply (W.regionS 7);exact rfl;kernel_rfl)|(apply yE)|(apply yG)|(apply yH)|(refine W.gF _ _ rfl rfl (fun hb => ?_) (fun hb => ?_) <;> ((try simp only [hb,zK]) <;> (try simp only [zL,zI] at hb) <;> (try (exfalso;omega))))
  |(refine W.cond _ rfl (fun hb => ?_) (fun hb => ?_) <;> ((try simp only [hb,zK]) <;> (try simp only [zL,zI] at hb) <;> (try (exfalso;omega))))))
 all_goals try (exfalso;omega)
 have hml : (grps us).length = us.length := List.length_map _
 have hge : ∀ k (h : k < us.length),(grps us)[k]'(by rw [hml];exact h) = us[k].1 := fun k h => List.getElem_map _
 have hcnd := incB_drop g (grps us) (-1)
 have hcnd : incB g (-1) (grps us) = true ↔ ∀ k,(h : k < us.length) → lastI (grps us) k < us[k].1 ∧ us[k].1 < g := by
  rw [hcnd]
  constructor
  ·intro h3 k h4
   have := h3 k (by rw [hml];exact h4)
   rw [hge k h4] at this;exact this
  ·intro h3 k h4
   rw [hge k (by rw [← hml];exact h4)];exact h3 k (by rw [← hml];exact h4)
 have hl0 : lastI (grps us) 0 = -1 := rfl
 have hls : ∀ k (h : k < us.length),lastI (grps us) (k + 1) = us[k].1 := fun k h => by
  unfold lastI
  rw [if_neg (by omega),Nat.add_sub_cancel,List.getD_eq_getElem?_getD,List.getElem?_eq_getElem (by rw [hml];exact h),Option.getD_some,hge k h]
 generalize lastI (grps us) = la at *
 generalize incB g (-1) (grps us) = R at *
 clear hml hge h1
 refine AWP.loopW (α := Nat) (fun k => k ≤ us.length ∧ ∀ j,(h : j < us.length) → j < k → la j < us[j].1 ∧ us[j].1 < g) (fun k => ⟨[(52,iV k),(51,iV us.length),(50,.d (.sl 3 (us.map usD))),(5,iV (la k)),(6,iV g)],[]⟩) (fun k => us.length - k) 0 ⟨Nat.zero_le _,fun j h hj => by omega⟩ ?wkA fun k hk => ?_
 case wkA =>
  dsimp only
  rw [hl0]
  exact ⟨[],rfl,rfl,rfl,rfl,iV_eq (by rw [hmu]),rfl,rfl,rfl,trivial⟩
 by_cases hkl : k < us.length
 ·have hnx : (la k < us[k].1 ∧ us[k].1 < g) → ∀ j,(h : j < us.length) → j < k + 1 → la j < us[j].1 ∧ us[j].1 < g := fun hg j h hj => by
   by_cases e : j = k
   ·subst e;exact hg
   ·exact hk.2 j h (by omega)
  have hbd : ¬ (la k < us[k].1 ∧ us[k].1 < g) → R = false := fun hg => by
   cases hq : R with
   | false => rfl
   | true => exact absurd (hcnd.1 hq k hkl) hg
  have hlk := hls k hkl
  clear hcnd hls hl0 hk
  (repeat' (first
   |(apply yFb;exact rfl;exact rfl)
   |(apply W.qd;(first
   |(exact zM)|(exact zN)|(exact jAq)|(exact jAh)|(exact jAk)|(exact q_leq rfl rfl)|(exact q_geq rfl rfl)|(exact jAl)|(exact jAj)|(exact jA)|(apply (yEb (u := .d _));exact rfl;exact rfl)
   |(apply (yDb (u := .d _));exact rfl;exact rfl)))|(apply W.ed;(exact jAm))|(apply W.ln;(exact jAe))|(refine W.gOff _ _ rfl rfl (by intro h;cases h) ?_)|(apply yA)|(apply yB)|(refine jAc ?_)|(apply yE)|(apply yG)|(apply yH)|(apply yJ)|(apply yP)|(apply yL)|(apply yN)|(refine jAv ?_)|(refine W.gF _ _ rfl rfl (fun hb => ?_) (fun hb => ?_) <;> ((try simp only [hb,zK]) <;> (try simp only [zL,zI] at hb) <;> (try (exfalso;omega))))
   |(refine W.cond _ rfl (fun hb => ?_) (fun hb => ?_) <;> ((try simp only [hb,zK]) <;> (try simp only [zL,zI] at hb) <;> (try (exfalso;omega))))))
  all_goals first
   |exact Ends.b rfl (hbd (by omega)).symm|(refine ⟨k + 1,⟨by omega,hnx (by omega)⟩,by omega,?_⟩;(try dsimp only);rw [hlk];exact ⟨[],rfl,rfl,rfl,iV_eq (by omega),rfl,rfl,rfl,rfl,trivial⟩)
   |(exfalso;omega)
 ·have ht : R = true := hcnd.2 fun j h => hk.2 j h (by omega)
  rw [ht]
  clear hcnd hls hl0 hk
  (repeat' (first
   |(apply W.qd;(first
   |(exact zN)
   |(exact jAk)))|(apply yA)|(apply yB)|(refine jAc ?_)|(apply yE)|(apply yI)|(apply yJ)|(apply yK)|(apply yM)
   |(refine W.cond _ rfl (fun hb => ?_) (fun hb => ?_) <;> ((try simp only [hb,zK]) <;> (try simp only [zL,zI] at hb) <;> (try (exfalso;omega))))))
  all_goals exact Ends.b rfl rfl
theorem A_valid24 {d r n s l i : Int} {rows : List SRw} (hl : rows.length ≤ 1000000) (hu : ∀ a (h : a < rows.length),rows[a].2.2.length ≤ 9223372036854775807) : ACalls Tryz.prog 107 [cfgA d r n s l i,rws rows] [] (bV (validR d r n s l i rows)) [] := by
 have hck := A_dchk d r n s l i
 have hm : (rows.map rwD).length = rows.length := List.length_map _
 refine acalls_of_body Tryz.func107 rfl (zU rfl) ?_
 unfold validR
 by_cases h1 : chk13 d r n s l i = 0 ∧ (rows.length : Int) = n
 case neg =>
  rw [decide_eq_false h1,Bool.false_and]
  generalize chk13 d r n s l i = e at *
  (repeat' (first
   |(apply yFb;exact rfl;exact rfl)
   |(apply W.qd;(first
   |(exact zW (hck))|(exact zM)|(exact zN)|(exact jAq)|(exact jAh)|(exact jAo)|(exact q_neq rfl rfl)|(exact jAu)|(apply (yEb (u := .d _));exact rfl;exact rfl)
   |(apply (yDb (u := .d _));exact rfl;exact rfl)))|(apply W.ed;(exact jAa))|(refine W.gOff _ _ rfl rfl (by intro h;cases h) ?_)|(apply yA)|(apply yB)|(apply (W.regionS 3);exact rfl;kernel_rfl)|(apply yE)|(apply yJ)|(apply yP)|(refine jAv ?_)|(refine W.gF _ _ rfl rfl (fun hb => ?_) (fun hb => ?_) <;> ((try simp only [hb,zK]) <;> (try simp only [zL,zI] at hb) <;> (try (exfalso;omega))))
   |(refine W.cond _ rfl (fun hb => ?_) (fun hb => ?_) <;> ((try simp only [hb,zK]) <;> (try simp only [zL,zI] at hb) <;> (try (exfalso;omega))))))
  all_goals first | (exfalso;omega) | exact Ends.b rfl rfl
 rw [decide_eq_true h1,Bool.true_and]
 rw [h1.1] at hck
 have hn := h1.2
 clear h1
 have hR := fun a (h : a < rows.length) => A_validRow (d := d) (r := r) (n := n) (s := s) (l := l) (i := i) (w := rows[a]) (hu a h)
 have hok : ∀ a (h : a < rows.length),okR d r n s l i rows a = (rgtR (grpI d r n s l i rows[a].2.1) rows[a] && (List.range a).all (conR rows a)) := fun a h => by
  unfold okR;rw [getDr h]
 (repeat' (first
  |(apply yFb;exact rfl;exact rfl)
  |(apply W.qd;(first
  |(exact zW (hck))|(exact zM)|(exact zN)|(exact jAq)|(exact jAh)|(exact jAo)|(exact q_neq rfl rfl)|(exact jAu)
  |(apply (yDb (u := .d _));exact rfl;exact rfl)))
  |(apply W.ed;(first
  |(apply e_mkmap;exact rfl;exact rfl)
  |(exact jAa)))|(apply yA)|(apply yB)|(apply (W.regionS 5);exact rfl;kernel_rfl)|(apply yE)|(apply yG)|(apply yH)
  |(refine W.cond _ rfl (fun hb => ?_) (fun hb => ?_) <;> ((try simp only [hb,zK]) <;> (try simp only [zL,zI] at hb) <;> (try (exfalso;omega))))))
 all_goals try (exfalso;omega)
 refine AWP.loopW (α := Nat) (fun a => a ≤ rows.length ∧ ∀ j,j < a → okR d r n s l i rows j = true) (fun a => ⟨[(23,iV a),(22,iV rows.length),(21,rws rows),(5,.mp 1),(2,.opt 0 0)],[.box [iV d,iV r,iV n,iV s,iV l,iV i],.mp (mpI (wdM rows a))]⟩) (fun a => rows.length - a) 0 ⟨Nat.zero_le _,fun j hj => by omega⟩ ?wkV fun a ha => ?_
 case wkV => exact ⟨[0,1],rfl,rfl,rfl,rfl,iV_eq (by rw [hm]),rfl,rfl,rfl,trivial⟩
 by_cases hal : a < rows.length
 ·have hbad : okR d r n s l i rows a = false → (List.range rows.length).all (okR d r n s l i rows) = false := fun h => by
   rw [List.all_eq_false]
   exact ⟨a,List.mem_range.2 hal,by rw [h];decide⟩
  have hnx : okR d r n s l i rows a = true → ∀ j,j < a + 1 → okR d r n s l i rows j = true := fun h j hj => by
   by_cases e : j = a
   ·subst e;exact h
   ·exact ha.2 j (by omega)
  have hra := hR a hal
  have hqa := hok a hal
  obtain ⟨x,hx,ht⟩ := wdM_test hal (fun b hb => by
   have := ha.2 b hb
   rw [hok b (by omega),Bool.and_eq_true] at this
   exact this.2)
  have hws : wdM rows (a + 1) = setI (wdM rows a) rows[a].1 (.int .i64 rows[a].2.1) := by rw [wdM,getDr hal]
  generalize okR d r n s l i rows = Q at *
  generalize (List.range rows.length).all Q = R at *
  generalize rgtR (grpI d r n s l i rows[a].2.1) rows[a] = ra at *
  generalize (List.range a).all (conR rows a) = ca at *
  generalize wdM rows a = M at *
  obtain ⟨hv,hhv⟩ : ∃ hv,hasV M rows[a].1 = hv := ⟨_,rfl⟩
  rw [hhv] at ht
  clear ha hok hR hu
  cases ra with
  | false =>
    rw [hbad (by rw [hqa];rfl)]
    (repeat' (first
     |(apply W.qd;(first
     |(exact zW (hra))
     |((apply q_lkup2V;(iterate 4 exact rfl);exact hx;exact hhv))|(exact zM)|(exact zN)|(exact jAq)|(exact jAh)|(exact jAo)|(exact jAk)|(exact q_not rfl)|(exact yAb rfl rfl)|(exact jAj)|(exact jA)
     |(apply (yEb (u := .d _));exact rfl;exact rfl)))|(apply W.ed;(exact jAm))|(apply W.ln;(exact jAe))|(refine W.gOff _ _ rfl rfl (by intro h;cases h) ?_)|(apply yA)|(apply yB)|(refine jAc ?_)|(apply yE)|(apply yG)|(apply yH)|(apply yJ)|(apply yP)|(apply yN)|(refine jAv ?_)
     |(refine W.cond _ rfl (fun hb => ?_) (fun hb => ?_) <;> ((try simp only [hb,zK]) <;> (try simp only [zL,zI] at hb) <;> (try (exfalso;omega))))))
    all_goals first | (exfalso;omega) | exact Ends.b rfl rfl
  | true =>
    rw [Bool.true_and] at hqa
    cases hv with
    | false =>
      obtain rfl : ca = true := by cases ca <;> simp_all
      have hn2 := hnx hqa
      clear hnx hbad ht hqa
      (repeat' (first
       |(apply yFb;exact rfl;exact rfl)
       |(apply W.qd;(first
       |(exact zW (hra))
       |((apply q_lkup2V;(iterate 4 exact rfl);exact hx;exact hhv))|(exact zM)|(exact zN)|(exact jAq)|(exact jAh)|(exact jAo)|(exact jAk)|(exact q_not rfl)|(exact jAl)|(exact yAb rfl rfl)|(exact jAj)|(exact jA)
       |(apply (yDb (u := .d _));exact rfl;exact rfl)))|(apply W.ed;(exact jAm))|(apply W.ln;(exact jAe))|(apply W.en;(apply e_mapset;(iterate 6 exact rfl)))|(refine W.gOff _ _ rfl rfl (by intro h;cases h) ?_)|(apply yA)|(apply yB)|(refine jAc ?_)|(apply yE)|(apply yG)|(apply yH)|(apply yL)|(refine jAx ?_)
       |(refine W.cond _ rfl (fun hb => ?_) (fun hb => ?_) <;> ((try simp only [hb,zK]) <;> (try simp only [zL,zI] at hb) <;> (try (exfalso;omega))))))
      all_goals first
       |(exfalso;omega)|(refine ⟨a + 1,⟨by omega,hn2⟩,by omega,?_⟩;(try dsimp only);rw [hws];exact ⟨[0,1],rfl,rfl,rfl,iV_eq (by omega),rfl,rfl,rfl,rfl,trivial⟩)
    | true =>
      by_cases e : x = rows[a].2.1
      ·obtain rfl : ca = true := by cases ca <;> simp_all
       have hn2 := hnx hqa
       clear hnx hbad ht hqa
       (repeat' (first
        |(apply yFb;exact rfl;exact rfl)
        |(apply W.qd;(first
        |(exact zW (hra))
        |((apply q_lkup2V;(iterate 4 exact rfl);exact hx;exact hhv))|(exact zM)|(exact zN)|(exact jAq)|(exact jAh)|(exact jAo)|(exact jAk)|(exact q_neq rfl rfl)|(exact q_not rfl)|(exact jAl)|(exact yAb rfl rfl)|(exact jAj)|(exact jA)|(apply (yEb (u := .d _));exact rfl;exact rfl)
        |(apply (yDb (u := .d _));exact rfl;exact rfl)))|(apply W.ed;(exact jAm))|(apply W.ln;(exact jAe))|(apply W.en;(apply e_mapset;(iterate 6 exact rfl)))|(apply yA)|(apply yB)|(refine jAc ?_)|(apply yE)|(apply yG)|(apply yH)|(apply yL)
        |(refine W.cond _ rfl (fun hb => ?_) (fun hb => ?_) <;> ((try simp only [hb,zK]) <;> (try simp only [zL,zI] at hb) <;> (try (exfalso;omega))))))
       all_goals first
        |(exfalso;omega)|(refine ⟨a + 1,⟨by omega,hn2⟩,by omega,?_⟩;(try dsimp only);rw [hws];exact ⟨[0,1],rfl,rfl,rfl,iV_eq (by omega),rfl,rfl,rfl,rfl,trivial⟩)
      ·obtain rfl : ca = false := by cases ca <;> simp_all
       rw [hbad hqa]
       clear hnx hbad ht hqa
       (repeat' (first
        |(apply yFb;exact rfl;exact rfl)
        |(apply W.qd;(first
        |(exact zW (hra))
        |((apply q_lkup2V;(iterate 4 exact rfl);exact hx;exact hhv))|(exact zM)|(exact zN)|(exact jAq)|(exact jAh)|(exact jAo)|(exact jAk)|(exact q_neq rfl rfl)|(exact q_not rfl)|(exact yAb rfl rfl)|(exact jAj)|(exact jA)|(apply (yEb (u := .d _));exact rfl;exact rfl)
        |(apply (yDb (u := .d _));exact rfl;exact rfl)))|(apply W.ed;(exact jAm))|(apply W.ln;(exact jAe))|(apply yA)|(apply yB)|(refine jAc ?_)|(apply yE)|(apply yG)|(apply yH)|(apply yJ)|(apply yP)|(apply yN)
        |(refine W.cond _ rfl (fun hb => ?_) (fun hb => ?_) <;> ((try simp only [hb,zK]) <;> (try simp only [zL,zI] at hb) <;> (try (exfalso;omega))))))
       all_goals first | (exfalso;omega) | exact Ends.b rfl rfl
 ·have hall : (List.range rows.length).all (okR d r n s l i rows) = true := by
   rw [List.all_eq_true]
   intro j hj
   exact ha.2 j (by have := List.mem_range.1 hj;omega)
  rw [hall]
  clear ha hok hR hu
  (repeat' (first
   |(apply W.qd;(first
   |(exact zN)
   |(exact jAk)))|(apply yA)|(apply yB)|(refine jAc ?_)|(apply yE)|(apply yI)|(apply yJ)|(apply yK)|(apply yM)
   |(refine W.cond _ rfl (fun hb => ?_) (fun hb => ?_) <;> ((try simp only [hb,zK]) <;> (try simp only [zL,zI] at hb) <;> (try (exfalso;omega))))))
  all_goals exact Ends.b rfl rfl
end
section
theorem up_eq {a b : Int} (ha : 0 ≤ a) (hb : 0 < b) : a / b + (if 1 < a % b then 1 else a % b) = upI a b := by
 unfold upI
 have h1 := Int.emod_add_mul_ediv a b
 have h2 := Int.emod_nonneg a (show b ≠ 0 by omega)
 have h3 := Int.emod_lt_of_pos a hb
 have e : a + b - 1 = (a % b + b - 1) + b * (a / b) := by omega
 rw [e,Int.add_mul_ediv_left _ _ (by omega)]
 by_cases h : a % b = 0
 ·have e3 : (0 + b - 1) / b = 0 := Int.ediv_eq_zero_of_lt (by omega) (by omega)
  rw [h,if_neg (by decide),e3];omega
 ·have e2 : a % b + b - 1 = (a % b - 1) + b * 1 := by omega
  have e3 : (a % b - 1) / b = 0 := Int.ediv_eq_zero_of_lt (by omega) (by omega)
  rw [e2,Int.add_mul_ediv_left _ _ (by omega),e3]
  split <;> omega
theorem upI_le {a b : Int} (ha : 0 ≤ a) (hb : 0 < b) : upI a b ≤ a := by
 unfold upI
 by_cases h : a = 0
 ·subst h
  have e3 : (0 + b - 1) / b = 0 := Int.ediv_eq_zero_of_lt (by omega) (by omega)
  rw [e3];omega
 ·have h1 : a + b - 1 < (a + 1) * b := by
   rw [Int.add_mul,Int.one_mul]
   have h2 : a * 1 ≤ a * b := Int.mul_le_mul_of_nonneg_left (by omega) ha
   omega
  have := Int.ediv_lt_of_lt_mul hb h1
  omega
theorem limN_le {D n : Int} (h : 0 ≤ n) (hn : n ≤ 1099511627776) : limN D n ≤ 2199023255554 := by
 unfold limN
 split
 ·omega
 ·rename_i h1
  have := upI_le (a := n) (b := D) (by omega) (by omega)
  omega
theorem crd_one (d r n s l i : Int) : crdI d r n s l i 1 = if OkC d r n s l i then 1 else 0 := by
 unfold crdI
 by_cases h : OkC d r n s l i
 ·have h2 : OkL d r n s l i 1 := ⟨h, by omega, by omega⟩
  have h3 := h2.bd
  rw [if_pos h,if_pos h2,show (1 : Int) + r - 1 = r by omega,Int.ediv_self (by omega)]
 ·rw [if_neg h,if_neg fun h2 => h h2.1]
attribute [local irreducible] Quiet Eff OpOk AWPG ACont ABlock ACalls AGoto
theorem A_up {a b : Int} (ha : 0 ≤ a) (hb : 0 < b) (h : a < 4611686018427387904) : ACalls Tryz.prog 106 [iV a,iV b] [] (iV (upI a b)) [] := by
 refine acalls_of_body Tryz.func106 rfl (zU rfl) ?_
 have h1 := Int.ediv_le_self b ha
 have h2 := Int.ediv_nonneg ha (show 0 ≤ b by omega)
 have h3 := Int.emod_nonneg a (show b ≠ 0 by omega)
 have he := up_eq ha hb
 generalize upI a b = u at *
 (repeat' (first
  |(apply W.qd;(first
  |((apply q_quo;exact rfl;exact rfl;omega;omega;omega))
  |((apply q_rem;exact rfl;exact rfl;omega;omega))|(exact zM)|(exact zN)|(exact jAl)
  |(exact q_min rfl rfl)))|(apply yA)|(apply yB)|(refine jAc ?_)|(refine jAs ?_)|(apply yE)|(refine jBa ?_)
  |(apply yJ)))
 all_goals exact Ends.i rfl he
theorem A_limit {c : Cd} {x : Int} : ACalls Tryz.prog 56 [cdA1 c,iV x] [] (iV (limN c.2.2.1 x)) [] := by
 obtain ⟨nm,M,D,par,dom⟩ := c
 dsimp only
 refine acalls_of_body Tryz.func56 rfl (zU rfl) ?_
 by_cases hx : x < 1 ∨ 1099511627776 < x ∨ D < 1
 ·have e : limN D x = 0 := if_pos hx
  rw [e]
  (repeat' (first
   |(apply yFb;exact rfl;exact rfl)
   |(apply W.qd;(first
   |(exact zM)|(exact zN)|(exact jAq)|(exact jAh)|(exact jAk)|(exact q_gtr rfl rfl)|(apply (yEb (u := .d _));exact rfl;exact rfl)
   |(apply (yDb (u := .d _));exact rfl;exact rfl)))|(apply W.ed;(exact jAa))|(refine W.gOff _ _ rfl rfl (by intro h;cases h) ?_)|(apply yA)|(apply yB)|(apply (W.regionS 3);exact rfl;kernel_rfl)|(apply yE)|(apply yJ)|(apply yP)|(refine jAv ?_)|(refine W.gF _ _ rfl rfl (fun hb => ?_) (fun hb => ?_) <;> ((try simp only [hb,zK]) <;> (try simp only [zL,zI] at hb) <;> (try (exfalso;omega))))
   |(refine W.cond _ rfl (fun hb => ?_) (fun hb => ?_) <;> ((try simp only [hb,zK]) <;> (try simp only [zL,zI] at hb) <;> (try (exfalso;omega))))))
  all_goals first | (exfalso;omega) | exact Ends.i rfl rfl
 ·have e : limN D x = 2 + upI x D * 2 := if_neg hx
  rw [e]
  have hu := A_up (a := x) (b := D) (by omega) (by omega) (by omega)
  have h1 := upI_le (a := x) (b := D) (by omega) (by omega)
  have h2 := upI_nn (a := x) (c := D) (by omega) (by omega)
  generalize upI x D = u at *
  (repeat' (first
   |(apply yFb;exact rfl;exact rfl)
   |(apply W.qd;(first
   |(exact zW (hu))|(exact zM)|(exact zN)|(exact jAq)|(exact jAh)|(exact jAk)|(exact q_gtr rfl rfl)|(exact jAl)|(apply q_mul;exact rfl;exact rfl;(first | omega | assumption))
   |(apply (yDb (u := .d _));exact rfl;exact rfl)))|(apply W.ed;(exact jAa))|(apply yA)|(apply yB)|(refine jAc ?_)|(apply yE)|(apply yH)|(apply yJ)|(refine W.gF _ _ rfl rfl (fun hb => ?_) (fun hb => ?_) <;> ((try simp only [hb,zK]) <;> (try simp only [zL,zI] at hb) <;> (try (exfalso;omega))))
   |(refine W.cond _ rfl (fun hb => ?_) (fun hb => ?_) <;> ((try simp only [hb,zK]) <;> (try simp only [zL,zI] at hb) <;> (try (exfalso;omega))))))
  all_goals first | (exfalso;omega) | exact Ends.i rfl rfl
theorem A_acode {d r n s l i : Int} {c : Cd} {x : Int} (hn : NameIn c.1) (hp : c.2.2.2.1.length ≤ 9223372036854775807) : ACalls Tryz.prog 54 [cfgA d r n s l i,cdA1 c,iV x] [] (.tup [iV (codN d r n s l i c x).1,iV (codN d r n s l i c x).2]) [] := by
 have hcr := A_lcrowd d r n s l i 1
 rw [crd_one] at hcr
 obtain ⟨e,hce0,he0⟩ := A_lcheckG (nm := c.1) (M := c.2.1) (D := c.2.2.1) (par := c.2.2.2.1) (dom := c.2.2.2.2) hn.b hn.l hp
 have he : e = 0 ↔ chkD c = true := he0
 have hce : ACalls Tryz.prog 104 [cdA1 c] [] (iV e) [] := hce0
 clear hce0 he0
 have hli := A_limit (c := c) (x := x)
 have hgr := A_lgroups d r n s l i (c.2.2.1 + (c.2.2.2.1.length : Int))
 have hcw := A_lcrowd d r n s l i (c.2.2.1 + (c.2.2.2.1.length : Int))
 have hgn := grpI_nn (d := d) (r := r) (n := n) (s := s) (l := l) (i := i) (w := c.2.2.1 + (c.2.2.2.1.length : Int))
 have hmp : (c.2.2.2.1.map rD).length = c.2.2.2.1.length := List.length_map _
 have hck : chkD c = true → (1 ≤ c.2.2.1 ∧ c.2.2.1 ≤ 31) ∧ c.2.2.2.1.length ≤ 31 := fun h => ⟨by
  unfold chkD chkC at h
  simp only [Bool.and_eq_true,decide_eq_true_eq] at h
  exact ⟨h.1.1.2.1.1.1.2,h.1.1.2.1.1.2⟩,(chk_rows h).1⟩
 have hcod : codN d r n s l i c x = if ¬ OkC d r n s l i ∨ chkD c = false ∨ x < 0 ∨ 1099511627776 < x then (0,1) else if x = 0 then (0,0) else if grpI d r n s l i (c.2.2.1 + (c.2.2.2.1.length : Int)) = 0 ∨ c.2.2.2.2 < crdI d r n s l i (c.2.2.1 + (c.2.2.2.1.length : Int)) then (0,refI) else (upI (limN c.2.2.1 x) (grpI d r n s l i (c.2.2.1 + (c.2.2.2.1.length : Int))),0) := rfl
 have hlm := limN_le (D := c.2.2.1) (n := x)
 have hln := limN_nn c.2.2.1 x
 generalize codN d r n s l i c x = R at *
 generalize chkD c = ck at *
 generalize hw : c.2.2.1 + (c.2.2.2.1.length : Int) = w at *
 obtain ⟨nm,M,D,par,dom⟩ := c
 dsimp only at *
 generalize grpI d r n s l i w = g at *
 generalize crdI d r n s l i w = cw at *
 generalize limN D x = lm at *
 have hli : ACalls Tryz.prog 56 [cdF nm M D par dom,iV x] [] (iV lm) [] := hli
 show ACalls Tryz.prog 54 [cfgA d r n s l i,cdF nm M D par dom,iV x] [] (.tup [iV R.1,iV R.2]) []
 refine acalls_of_body Tryz.func54 rfl (zU rfl) ?_
 by_cases h1 : OkC d r n s l i
 case neg =>
  rw [if_pos (.inl h1)] at hcod
  rw [if_neg h1] at hcr
  rw [hcod]
  (repeat' (first
   |(apply W.qd;(first
   |(exact zW (hcr))|(exact zM)|(exact zN)|(exact jAo)|(exact q_eql rfl rfl)
   |(apply (yEb (u := .d _));exact rfl;exact rfl)))|(apply W.ed;(exact jAa))|(refine W.gOff _ _ rfl rfl (by intro h;cases h) ?_)|(apply yA)|(apply yB)|(refine jAc ?_)|(apply yE)|(apply yJ)|(apply yP)
   |(refine jAv ?_)))
  all_goals first | (exfalso;omega) | exact Ends.two rfl rfl rfl
 rw [if_pos h1] at hcr
 cases hk : ck with
 | false =>
   have he0 : e ≠ 0 := fun h => by have := he.1 h;rw [hk] at this;cases this
   rw [if_pos (.inr (.inl hk))] at hcod
   rw [hcod]
   clear he hck
   (repeat' (first
    |(apply yFb;exact rfl;exact rfl)
    |(apply W.qd;(first
    |(exact zW (hcr))|(exact zW (hce))|(exact zM)|(exact zN)|(exact jAo)|(exact q_eql rfl rfl)|(exact q_neq rfl rfl)|(apply (yEb (u := .d _));exact rfl;exact rfl)
    |(apply (yDb (u := .d _));exact rfl;exact rfl)))|(apply W.ed;(exact jAa))|(refine W.gOff _ _ rfl rfl (by intro h;cases h) ?_)|(apply yA)|(apply yB)|(refine jAc ?_)|(apply yE)|(apply yJ)|(apply yP)|(refine jAv ?_)
    |(refine W.gF _ _ rfl rfl (fun hb => ?_) (fun hb => ?_) <;> ((try simp only [hb,zK]) <;> (try simp only [zL,zI] at hb) <;> (try (exfalso;omega))))))
   all_goals first | (exfalso;omega) | exact Ends.two rfl rfl rfl
 | true =>
   obtain rfl : e = 0 := he.2 hk
   obtain ⟨⟨h2,h3⟩,h4⟩ := hck hk
   clear he hck
   by_cases h5 : x < 0 ∨ 1099511627776 < x
   ·rw [if_pos (.inr (.inr h5))] at hcod
    rw [hcod]
    (repeat' (first
     |(apply yFb;exact rfl;exact rfl)
     |(apply W.qd;(first
     |(exact zW (hcr))|(exact zW (hce))|(exact zM)|(exact zN)|(exact jAo)|(exact jAk)|(exact q_gtr rfl rfl)|(exact q_eql rfl rfl)|(exact q_neq rfl rfl)|(apply (yEb (u := .d _));exact rfl;exact rfl)
     |(apply (yDb (u := .d _));exact rfl;exact rfl)))|(apply W.ed;(exact jAa))|(refine W.gOff _ _ rfl rfl (by intro h;cases h) ?_)|(apply yA)|(apply yB)|(refine jAc ?_)|(apply yE)|(apply yJ)|(apply yP)|(refine jAv ?_)|(refine W.gF _ _ rfl rfl (fun hb => ?_) (fun hb => ?_) <;> ((try simp only [hb,zK]) <;> (try simp only [zL,zI] at hb) <;> (try (exfalso;omega))))
     |(refine W.cond _ rfl (fun hb => ?_) (fun hb => ?_) <;> ((try simp only [hb,zK]) <;> (try simp only [zL,zI] at hb) <;> (try (exfalso;omega))))))
    all_goals first | (exfalso;omega) | exact Ends.two rfl rfl rfl
   rw [if_neg (fun h => by
    rcases h with h | h | h
    ·exact h h1
    ·rw [hk] at h;cases h
    ·exact h5 h)] at hcod
   by_cases h6 : x = 0
   ·rw [if_pos h6] at hcod
    rw [hcod]
    (repeat' (first
     |(apply yFb;exact rfl;exact rfl)
     |(apply W.qd;(first
     |(exact zW (hcr))|(exact zW (hce))|(exact zM)|(exact zN)|(exact jAo)|(exact jAk)|(exact q_gtr rfl rfl)|(exact q_eql rfl rfl)|(exact q_neq rfl rfl)
     |(apply (yDb (u := .d _));exact rfl;exact rfl)))|(apply W.ed;(exact jAa))|(apply yA)|(apply yB)|(refine jAc ?_)|(apply yE)|(apply yH)|(apply yJ)|(apply yP)|(refine W.gF _ _ rfl rfl (fun hb => ?_) (fun hb => ?_) <;> ((try simp only [hb,zK]) <;> (try simp only [zL,zI] at hb) <;> (try (exfalso;omega))))
     |(refine W.cond _ rfl (fun hb => ?_) (fun hb => ?_) <;> ((try simp only [hb,zK]) <;> (try simp only [zL,zI] at hb) <;> (try (exfalso;omega))))))
    all_goals first | (exfalso;omega) | exact Ends.two rfl rfl rfl
   rw [if_neg h6] at hcod
   have hw2 : D + ((par.map rD).length : Int) = w := by rw [hmp];exact hw
   rw [← hw2] at hgr hcw
   by_cases h7 : g = 0 ∨ dom < cw
   ·rw [if_pos h7] at hcod
    rw [hcod]
    (repeat' (first
     |(apply yFb;exact rfl;exact rfl)
     |(apply W.qd;(first
     |(exact zW (hcr))|(exact zW (hce))|(exact zW (hgr))|(exact zW (hcw))|(exact zM)|(exact zN)|(exact jAq)|(exact jAh)|(exact jAo)|(exact jAk)|(exact q_gtr rfl rfl)|(exact q_eql rfl rfl)|(exact q_neq rfl rfl)|(exact jAl)|(exact jAu)|(apply (yEb (u := .d _));exact rfl;exact rfl)
     |(apply (yDb (u := .d _));exact rfl;exact rfl)))|(apply W.ed;(exact jAa))|(refine W.gOff _ _ rfl rfl (by intro h;cases h) ?_)|(apply yA)|(apply yB)|(refine jAc ?_)|(refine jAs ?_)|(apply yE)|(refine jBa ?_)|(apply yH)|(apply yJ)|(apply yP)|(refine jAv ?_)|(refine W.gF _ _ rfl rfl (fun hb => ?_) (fun hb => ?_) <;> ((try simp only [hb,zK]) <;> (try simp only [zL,zI] at hb) <;> (try (exfalso;omega))))
     |(refine W.cond _ rfl (fun hb => ?_) (fun hb => ?_) <;> ((try simp only [hb,zK]) <;> (try simp only [zL,zI] at hb) <;> (try (exfalso;omega))))))
    all_goals first | (exfalso;omega) | exact Ends.two rfl rfl rfl
   rw [if_neg h7] at hcod
   rw [hcod]
   have hlm := hlm (by omega) (by omega)
   have hu := A_up (a := lm) (b := g) (by omega) (by omega) (by omega)
   (repeat' (first
    |(apply yFb;exact rfl;exact rfl)
    |(apply W.qd;(first
    |(exact zW (hcr))|(exact zW (hce))|(exact zW (hgr))|(exact zW (hcw))|(exact zW (hli))|(exact zW (hu))|(exact zM)|(exact zN)|(exact jAq)|(exact jAh)|(exact jAo)|(exact jAk)|(exact q_gtr rfl rfl)|(exact q_eql rfl rfl)|(exact q_neq rfl rfl)|(exact jAl)|(exact jAu)
    |(apply (yDb (u := .d _));exact rfl;exact rfl)))|(apply W.ed;(exact jAa))|(apply yA)|(apply yB)|(refine jAc ?_)|(refine jAs ?_)|(apply yE)|(refine jBa ?_)|(apply yH)|(apply yJ)|(refine W.gF _ _ rfl rfl (fun hb => ?_) (fun hb => ?_) <;> ((try simp only [hb,zK]) <;> (try simp only [zL,zI] at hb) <;> (try (exfalso;omega))))
    |(refine W.cond _ rfl (fun hb => ?_) (fun hb => ?_) <;> ((try simp only [hb,zK]) <;> (try simp only [zL,zI] at hb) <;> (try (exfalso;omega))))))
   all_goals first | (exfalso;omega) | exact Ends.two rfl rfl rfl
end
end Go.Proofs.YtplpgijpmgbaiaaGreatDoor
