import Derived.Test.YtplpgijpmgbaiaaGreatDoorMAdmitSuffices4
import Derived.Laws.CopyRow
import Derived.Laws.IdiomCopy
import Derived.Shelf.Strings.Repeat
import Derived.Shelf.Bits.Mul64
import Derived.Test.YtplpgijpmgbaiaaGreatDoorProg
import Derived.WalkKit
import Derived.WalkLawsBesides
import Derived.WalkSpells
import Derived.Handy
import Derived.PlainAid
import Derived.Outline
import Derived.Laws.OwnMore
import Derived.Laws.CopyOwn
import Derived.Deep.AppendLies
import Derived.Deep.Draws
import Derived.Deep.QuietTactic
import Derived.Deep.LoopGhost
import Derived.Deep.DeepFit
import Derived.Deep.DeepCutAuto
import Derived.Deep.RegionLaw
import Derived.Deep.RegionHeld3
import Derived.BigQuiet
import Derived.StillTailTactics
import Derived.Lib.Hide
import Derived.Carry
import Derived.Deep.Onto
import Derived.Test.YtplpgijpmgbaiaaGreatDoorChecked
import Derived.Lib.SliceRun
/- Joined texts: Ds4 Ds5 Ds6 Kern43 Shf Ds7 Ds8 Rf7 Rf9 Kern46 Kern47 Cl1 Cl2 Cl4 Cl5 Cl6 Cl7 Cl8 Rf30 DgB DgP DgD DgD3 DgR DgL1. -/
set_option linter.unusedVariables false
set_option linter.unusedSimpArgs false
namespace Go.Proofs.YtplpgijpmgbaiaaGreatDoor
open Go.RowKit
set_option maxHeartbeats 4000000
set_option maxRecDepth 100000
section
theorem wrap_sum {a : Int} {n : Nat} (ha : 1 ≤ a ∧ a ≤ 31) (hn : n ≤ 9223372036854775807) : (a + (n : Int) < 9223372036854775808 ∧ IntKind.i64.wrap (a + (n : Int)) = a + (n : Int)) ∨ (9223372036854775808 ≤ a + (n : Int) ∧ IntKind.i64.wrap (a + (n : Int)) < 0):=by
 by_cases h : a + (n : Int) < 9223372036854775808
 ·exact .inl ⟨h,wrap_in ⟨by omega,h⟩⟩
 ·refine .inr ⟨by omega, ?_⟩
  rw [IntKind.wrap_i64];omega
section
variable {P : Program} {m : Nat} {env : List (Nat × AV)} {own : List Ent} {dst : Option Tmp} {ty : TypeId} {pos : String} {af : Array Edge} {gd : Option (Nat × Bool)}
theorem q_addV (wd : Int) {t t' : TypeId} {x y : Operand} {a b : Int} (hx : lookO env x = iV a) (hy : lookO env y = iV b) (h : IntKind.i64.wrap (a + b) = wd) :
 Quiet P m ⟨dst,.binOp .add t x y t',ty,pos,af,gd⟩ env own [] (iV wd):=by
 subst h;exact q_addw hx hy
end
theorem shr8 {x : Int} (h : 0 ≤ x) : (0 < ((x.toNat >>> 8 : Nat) : Int)) ↔ 256 ≤ x:=by
 rw [Nat.shiftRight_eq_div_pow];omega
theorem shr16 {x : Int} (h : 0 ≤ x) : (0 < ((x.toNat >>> 16 : Nat) : Int)) ↔ 65536 ≤ x:=by
 rw [Nat.shiftRight_eq_div_pow];omega
attribute [local irreducible] Quiet Eff OpOk AWPG ACont ABlock ACalls AGoto
theorem A_lcheckG {nm : List Nat} {M D dom : Int} {par : List (List Int)} (hn : isB nm) (hnl : nm.length < 9223372036854775808) (hP : par.length ≤ 9223372036854775807) :
 ∃ e : Int,ACalls Tryz.prog 104 [cdF nm M D par dom] [] (iV e) [] ∧ (e = 0 ↔ chkC nm M D par dom = true):=by
 have hW:=A_isWord hn hnl
 have hI:=A_isField M
 have hmp : (par.map rD).length = par.length:=List.length_map _
 obtain ⟨wd,hWe⟩ : ∃ wd,IntKind.i64.wrap (D + ((par.map rD).length : Int)) = wd:=⟨_,rfl⟩
 by_cases c1 : wordB nm = true
 case neg =>
  have c1:=Bool.eq_false_iff.2 c1
  refine ⟨4,?_,by unfold chkC;rw [c1];simp⟩
  rw [c1] at hW
  refine acalls_of_body Tryz.func104 rfl (zU rfl) ?_
  (repeat' (first
   |(apply W.qd;(first
   |((apply (q_addV wd);exact rfl;exact rfl;assumption))|(exact zW (hW))|(exact zN)|(exact jAm)|(exact jAg)|(exact jBe)
   |(exact jAt)))|(apply W.ed;(exact jAa))|(apply yA)|(apply yB)|(refine jAb ?_)|(apply yE)|(apply yG)|(apply yJ)|(apply yP)|(apply yN)
   |(refine jAv ?_)))
  exact Ends.i rfl rfl
 rw [c1] at hW
 by_cases c2 : nm.length ≤ 12
 case neg =>
  refine ⟨2,?_,by unfold chkC;rw [decide_eq_false c2];simp⟩
  refine acalls_of_body Tryz.func104 rfl (zU rfl) ?_
  (repeat' (first
   |(apply W.qd;(first
   |((apply (q_addV wd);exact rfl;exact rfl;assumption))|(exact zW (hW))|(exact zN)|(exact jAm)|(exact jAg)|(exact jBf)|(exact jBe)|(exact jAt)
   |(exact q_len_bs rfl rfl)))|(apply W.ed;(exact jAa))|(apply yA)|(apply yB)|(refine jAb ?_)|(apply yE)|(apply yG)|(apply yJ)|(apply yP)|(apply yN)|(refine jAy ?_)
   |(refine W.cond _ rfl (fun hb=>?_) (fun hb=>?_)<;>((try simp only [hb,zK])<;>(try simp only [zL,zI] at hb)<;>(try (exfalso;omega))))))
  exact Ends.i rfl rfl
 by_cases c3 : (M = 8 ∨ M = 16) ∧ 1 ≤ D ∧ D ≤ 31 ∧ par.length ≠ 0
 case neg =>
  refine ⟨1,?_,?_⟩
  ·refine acalls_of_body Tryz.func104 rfl (zU rfl) ?_
   (repeat' (first
    |(apply yFb;exact rfl;exact rfl)
    |(apply W.qd;(first
    |((apply (q_addV wd);exact rfl;exact rfl;assumption))|(exact zW (hW))|(exact zW (hI))|(exact zM)|(exact zN)|(exact jAm)|(exact jAg)|(exact jAj)|(exact jBf)|(exact jAu)|(exact jBe)|(exact jAt)|(exact q_len_bs rfl rfl)|(apply (yEb (u:=.d _));exact rfl;exact rfl)
    |(apply (yDb (u:=.d _));exact rfl;exact rfl)))|(apply W.ed;(exact jAa))|(refine W.gOff _ _ rfl rfl (by intro h;cases h) ?_)|(apply yA)|(apply yB)|(refine jAb ?_)|(apply yE)|(apply yG)|(apply yJ)|(apply yP)|(apply yN)|(refine jAv ?_)|(refine jAy ?_)|(refine W.gF _ _ rfl rfl (fun hb=>?_) (fun hb=>?_)<;>((try simp only [hb,zK])<;>(try simp only [zL,zI] at hb)<;>(try (exfalso;omega))))
    |(refine W.cond _ rfl (fun hb=>?_) (fun hb=>?_)<;>((try simp only [hb,zK])<;>(try simp only [zL,zI] at hb)<;>(try (exfalso;omega))))))
   all_goals first | exact Ends.i rfl rfl | (exfalso;apply c3;refine ⟨by assumption,by omega,by omega,by omega⟩)
  ·refine ⟨fun h => by omega, fun h => ?_⟩
   unfold chkC at h
   simp only [Bool.and_eq_true,decide_eq_true_eq] at h
   exact absurd ⟨h.1.1.2.1.1.1.1,h.1.1.2.1.1.1.2,h.1.1.2.1.1.2,h.1.1.2.1.2⟩ c3
 obtain ⟨c3,c4,c5,c6⟩:=c3
 rw [decide_eq_true c3] at hI
 have hWv:=wrap_sum (a:=D) (n:=par.length) (by omega) hP
 rw [← hmp,hWe,hmp] at hWv
 by_cases c7 : wd ≤ 32
 case neg =>
  refine ⟨2,?_,by unfold chkC;rw [decide_eq_false (show ¬ D + (par.length : Int) ≤ 32 by omega)];simp⟩
  refine acalls_of_body Tryz.func104 rfl (zU rfl) ?_
  (repeat' (first
   |(apply yFb;exact rfl;exact rfl)
   |(apply W.qd;(first
   |((apply (q_addV wd);exact rfl;exact rfl;assumption))|(exact zW (hW))|(exact zW (hI))|(exact zM)|(exact zN)|(exact jAm)|(exact jAg)|(exact jAj)|(exact jBf)|(exact jAu)|(exact jBe)|(exact jAt)|(exact q_len_bs rfl rfl)
   |(apply (yDb (u:=.d _));exact rfl;exact rfl)))|(apply W.ed;(exact jAa))|(apply yA)|(apply yB)|(refine jAb ?_)|(apply yE)|(apply yG)|(apply yJ)|(apply yP)|(apply yN)|(refine jAy ?_)|(refine W.gF _ _ rfl rfl (fun hb=>?_) (fun hb=>?_)<;>((try simp only [hb,zK])<;>(try simp only [zL,zI] at hb)<;>(try (exfalso;omega))))
   |(refine W.cond _ rfl (fun hb=>?_) (fun hb=>?_)<;>((try simp only [hb,zK])<;>(try simp only [zL,zI] at hb)<;>(try (exfalso;omega))))))
  exact Ends.i rfl rfl
 have hall : ∀ e : Int,(par.all (rowOk M D) = false → e = 1) → (par.all (rowOk M D) = true → e = if 1 ≤ dom ∧ dom ≤ wd then 0 else 1) → ACalls Tryz.prog 104 [cdF nm M D par dom] [] (iV e) []:=fun e he0 he1=>by
  refine acalls_of_body Tryz.func104 rfl (zU rfl) ?_
  (repeat' (first
   |(apply yFb;exact rfl;exact rfl)
   |(apply W.qd;(first
   |((apply (q_addV wd);exact rfl;exact rfl;assumption))|(exact zW (hW))|(exact zW (hI))|(exact zM)|(exact zN)|(exact jAm)|(exact jAg)|(exact jAj)|(exact jBf)|(exact jAu)|(exact jBe)|(exact jAt)|(exact q_len_bs rfl rfl)
   |(apply (yDb (u:=.d _));exact rfl;exact rfl)))|(apply W.ed;(exact jAa))|(apply yA)|(apply yB)|(apply (W.regionS 11);exact rfl;kernel_rfl)|(apply yE)|(apply yG)|(apply yH)|(apply yL)|(refine jAy ?_)|(refine W.gF _ _ rfl rfl (fun hb=>?_) (fun hb=>?_)<;>((try simp only [hb,zK])<;>(try simp only [zL,zI] at hb)<;>(try (exfalso;omega))))
   |(refine W.cond _ rfl (fun hb=>?_) (fun hb=>?_)<;>((try simp only [hb,zK])<;>(try simp only [zL,zI] at hb)<;>(try (exfalso;omega))))))
  refine AWP.loopW (α:=Nat) (fun k=>k ≤ par.length ∧ ∀ j,j < k → rowOk M D (par.getD j []) = true) (fun k=>⟨[(49,iV k),(48,iV par.length),(47,rowsA par),(3,iV wd),(1,.opt 0 0)],[.box [bS nm,iV M,iV D,rowsA par,iV dom]]⟩) (fun k=>par.length - k) 0 ⟨Nat.zero_le _,fun j hj=>by omega⟩ ?wk0 fun k hk=>?_
  case wk0=>exact ⟨[0],rfl,rfl,rfl,rfl,iV_eq (by omega),rfl,rfl,rfl,trivial⟩
  by_cases hkl : k < par.length
  ·have eg : par.getD k [] = par[k] := by rw [List.getD_eq_getElem?_getD, List.getElem?_eq_getElem hkl]; rfl
   have hnext : rowOk M D par[k] = true → ∀ j,j < k + 1 → rowOk M D (par.getD j []) = true:=fun h j hj=>by
    by_cases e : j = k
    ·subst e;rw [eg];exact h
    ·exact hk.2 j (by omega)
   have hbad : rowOk M D par[k] = false → e = 1:=fun h=>he0 (by rw [List.all_eq_false];exact ⟨par[k],List.getElem_mem hkl,by rw [h];decide⟩)
   generalize hr : par[k] = r at hnext hbad
   have hmr : (r.map iD).length = r.length:=List.length_map _
   by_cases hrl : (r.length : Int) = D
   ·have h0 : 0 < r.length := by omega
    have hmn:=A_minI h0 (by omega)
    have hmx:=A_maxI h0 (by omega)
    have hro:=rowOk_min (M:=M) c3 hrl h0
    generalize minK r (r.length - 1) = mn at *
    generalize maxK r (r.length - 1) = mx at *
    rw [← hr] at hmn hmx hrl
    clear he0 he1 hk
    rcases c3 with rfl | rfl
    ·rw [if_pos rfl] at hro
     have hsh:=fun h=>shr8 (x:=mx) h
     replace hro:=Lib.hid hro
     (repeat' (first
      |(apply yFb;exact rfl;exact rfl)
      |(apply W.qd;(first
      |(exact zW (hmn))|(exact zW (hmx))|(exact zM)|(exact zN)|(exact jAm)|(exact jAg)|(exact jAj)|(exact jBf)|(exact jBb)|(exact jAi)|(exact jAt)|(exact jAc)|(exact jA)|(apply (yEb (u:=.d _));exact rfl;exact rfl)|(apply (yDb (u:=.d _));exact rfl;exact rfl)
      |(exact jAs)))|(refine W.gOff _ _ rfl rfl (by intro h;cases h) ?_)|(apply yA)|(apply yB)|(refine jAb ?_)|(refine jAr ?_)|(apply yE)|(refine jAx ?_)|(apply yG)|(apply yH)|(apply yJ)|(apply yP)|(apply yL)|(apply yN)|(refine jAv ?_)|(refine W.gF _ _ rfl rfl (fun hb=>?_) (fun hb=>?_)<;>((try simp only [hb,zK])<;>(try simp only [zL,zI] at hb)<;>(try (exfalso;omega))))
      |(refine W.cond _ rfl (fun hb=>?_) (fun hb=>?_)<;>((try simp only [hb,zK])<;>(try simp only [zL,zI] at hb)<;>(try (exfalso;omega))))))
     all_goals first
      |(refine Ends.i rfl (hbad ?_).symm;rw [hro.out,Bool.and_eq_false_iff,Bool.and_eq_false_iff,decide_eq_false_iff_not,decide_eq_false_iff_not,decide_eq_false_iff_not];omega)|(refine ⟨k + 1,⟨by omega,hnext ?_⟩,by omega,[0],rfl,rfl,rfl,iV_eq (by omega),rfl,rfl,rfl,rfl,trivial⟩;rw [hro.out,Bool.and_eq_true,Bool.and_eq_true,decide_eq_true_eq,decide_eq_true_eq,decide_eq_true_eq];omega)
    ·rw [if_neg (by decide)] at hro
     have hsh:=fun h=>shr16 (x:=mx) h
     replace hro:=Lib.hid hro
     (repeat' (first
      |(apply yFb;exact rfl;exact rfl)
      |(apply W.qd;(first
      |(exact zW (hmn))|(exact zW (hmx))|(exact zM)|(exact zN)|(exact jAm)|(exact jAg)|(exact jAj)|(exact jBf)|(exact jBb)|(exact jAi)|(exact jAt)|(exact jAc)|(exact jA)|(apply (yEb (u:=.d _));exact rfl;exact rfl)|(apply (yDb (u:=.d _));exact rfl;exact rfl)
      |(exact jAs)))|(refine W.gOff _ _ rfl rfl (by intro h;cases h) ?_)|(apply yA)|(apply yB)|(refine jAb ?_)|(refine jAr ?_)|(apply yE)|(refine jAx ?_)|(apply yG)|(apply yH)|(apply yJ)|(apply yP)|(apply yL)|(apply yN)|(refine jAv ?_)|(refine W.gF _ _ rfl rfl (fun hb=>?_) (fun hb=>?_)<;>((try simp only [hb,zK])<;>(try simp only [zL,zI] at hb)<;>(try (exfalso;omega))))
      |(refine W.cond _ rfl (fun hb=>?_) (fun hb=>?_)<;>((try simp only [hb,zK])<;>(try simp only [zL,zI] at hb)<;>(try (exfalso;omega))))))
     all_goals first
      |(refine Ends.i rfl (hbad ?_).symm;rw [hro.out,Bool.and_eq_false_iff,Bool.and_eq_false_iff,decide_eq_false_iff_not,decide_eq_false_iff_not,decide_eq_false_iff_not];omega)|(refine ⟨k + 1,⟨by omega,hnext ?_⟩,by omega,[0],rfl,rfl,rfl,iV_eq (by omega),rfl,rfl,rfl,rfl,trivial⟩;rw [hro.out,Bool.and_eq_true,Bool.and_eq_true,decide_eq_true_eq,decide_eq_true_eq,decide_eq_true_eq];omega)
   ·have hb0 : e = 1 := hbad (by unfold rowOk; rw [decide_eq_false hrl]; rfl)
    rw [← hr] at hrl
    clear he0 he1 hk
    (repeat' (first
     |(apply W.qd;(first
     |(exact zM)|(exact zN)|(exact jAm)|(exact jAg)|(exact jAj)|(exact jBb)|(exact jAt)|(exact jAc)|(exact jA)
     |(apply (yEb (u:=.d _));exact rfl;exact rfl)))|(refine W.gOff _ _ rfl rfl (by intro h;cases h) ?_)|(apply yA)|(apply yB)|(refine jAb ?_)|(refine jAr ?_)|(apply yE)|(refine jAx ?_)|(apply yG)|(apply yH)|(apply yJ)|(apply yP)|(apply yN)|(refine jAv ?_)|(refine W.gF _ _ rfl rfl (fun hb=>?_) (fun hb=>?_)<;>((try simp only [hb,zK])<;>(try simp only [zL,zI] at hb)<;>(try (exfalso;omega))))
     |(refine W.cond _ rfl (fun hb=>?_) (fun hb=>?_)<;>((try simp only [hb,zK])<;>(try simp only [zL,zI] at hb)<;>(try (exfalso;omega))))))
    all_goals first | exact Ends.i rfl hb0.symm | (exfalso;omega)
  ·have ha : par.all (rowOk M D) = true:=by
    rw [List.all_eq_true]
    intro r hr
    obtain ⟨j,hj,rfl⟩:=List.getElem_of_mem hr
    have:=hk.2 j (by omega)
    rwa [List.getD_eq_getElem?_getD,List.getElem?_eq_getElem hj] at this
   have he:=he1 ha
   clear he0 he1 hk
   (repeat' (first
    |(apply yFb;exact rfl;exact rfl)
    |(apply W.qd;(first
    |(exact zM)|(exact zN)|(exact jAm)|(exact jAg)|(exact jAj)|(exact jBf)|(apply (yEb (u:=.d _));exact rfl;exact rfl)
    |(apply (yDb (u:=.d _));exact rfl;exact rfl)))|(refine W.gOff _ _ rfl rfl (by intro h;cases h) ?_)|(apply yA)|(apply yB)|(refine jAb ?_)|(apply yE)|(apply yH)|(apply yI)|(apply yJ)|(apply yK)|(apply yP)|(apply yM)|(refine jAv ?_)|(refine W.gF _ _ rfl rfl (fun hb=>?_) (fun hb=>?_)<;>((try simp only [hb,zK])<;>(try simp only [zL,zI] at hb)<;>(try (exfalso;omega))))
    |(refine W.cond _ rfl (fun hb=>?_) (fun hb=>?_)<;>((try simp only [hb,zK])<;>(try simp only [zL,zI] at hb)<;>(try (exfalso;omega))))))
   all_goals (refine Ends.i rfl ?_;rw [he];first | (rw [if_pos (by omega)];done) | (rw [if_neg (by omega)];done))
 by_cases c8 : D + (par.length : Int) ≤ 32
 case neg =>
  refine ⟨1,hall 1 (fun _=>rfl) (fun _=>by rw [if_neg (by omega)]),by unfold chkC;rw [decide_eq_false c8];simp⟩
 have hWq : wd = D + (par.length : Int):=by omega
 rw [hWq] at hall
 have hc : chkC nm M D par dom = (par.all (rowOk M D) && (decide (1 ≤ dom) && decide (dom ≤ D + (par.length : Int)))):=by
  unfold chkC
  rw [c1,decide_eq_true c2,decide_eq_true c3,decide_eq_true c4,decide_eq_true c5,decide_eq_true c6,decide_eq_true c8]
  rfl
 refine ⟨if par.all (rowOk M D) = true then (if 1 ≤ dom ∧ dom ≤ D + (par.length : Int) then 0 else 1) else 1,hall _ (fun h=>by rw [h];rfl) (fun h=>by rw [if_pos h]),?_⟩
 rw [hc]
 cases par.all (rowOk M D) with
 | false=>simp
 | true =>
   rw [if_pos rfl,Bool.true_and,Bool.and_eq_true,decide_eq_true_eq,decide_eq_true_eq]
   split<;>simp_all
theorem A_lcheck {nm : List Nat} {M D dom : Int} {par : List (List Int)} (hn : isB nm) (hnl : nm.length < 9223372036854775808) (hD : 0 ≤ D ∧ D ≤ 1000000) (hP : par.length ≤ 1000000) :
 ∃ e : Int,ACalls Tryz.prog 104 [cdF nm M D par dom] [] (iV e) [] ∧ (e = 0 ↔ chkC nm M D par dom = true):=A_lcheckG hn hnl (by omega)
end
section
def upK (hv : List Bool) (k : Nat) : List Nat:=(List.range k).filter fun i=>hv.getD i false
theorem upK_succ (hv : List Bool) (k : Nat) : upK hv (k + 1) = if hv.getD k false = true then upK hv k ++ [k] else upK hv k:=by
 unfold upK
 rw [List.range_succ,List.filter_append]
 cases h : hv.getD k false with
 | true=>rw [if_pos rfl];simp only [List.filter_cons,h,if_true,List.filter_nil]
 | false=>rw [if_neg (by decide)];simp only [List.filter_cons,h,Bool.false_eq_true,if_false,List.filter_nil,List.append_nil]
theorem upK_len (hv : List Bool) (k : Nat) : (upK hv k).length ≤ k:=Nat.le_trans (List.length_filter_le _ _) (by simp)
def badF (g : List Nat → Bool) (S : List (List Nat)) : Option (List Nat):=S.find? fun s=>!g s
theorem badF_app (g : List Nat → Bool) (A B : List (List Nat)) : badF g (A ++ B) = (badF g A).or (badF g B):=List.find?_append
def subT (l : List Nat) (i k : Nat) (set : List Nat) : List (List Nat):=(subsN (l.drop i) (k - set.length)).map (set ++ ·)
theorem subT_step {l : List Nat} {i k : Nat} {set : List Nat} (hi : i < l.length) (hs : set.length < k) : subT l i k set = subT l (i + 1) k (set ++ [l[i]]) ++ subT l (i + 1) k set:=by
 unfold subT
 rw [List.drop_eq_getElem_cons hi,show k - set.length = (k - set.length - 1) + 1 by omega,subsN,List.map_append,List.map_map]
 rw [show k - (set ++ [l[i]]).length = k - set.length - 1 by simp;omega]
 congr 1
 congr 1
 funext s
 simp
theorem subT_full {l : List Nat} {i k : Nat} {set : List Nat} (h : set.length = k) : subT l i k set = [set]:=by
 unfold subT
 rw [show k - set.length = 0 by omega]
 have : subsN (l.drop i) 0 = [[]]:=by unfold subsN;rfl
 rw [this];simp
theorem subT_end {l : List Nat} {k : Nat} {set : List Nat} (h : set.length < k) : subT l l.length k set = []:=by
 unfold subT
 rw [show k - set.length = (k - set.length - 1) + 1 by omega,List.drop_length,subsN];rfl
attribute [local irreducible] Quiet Eff OpOk AWPG ACont ABlock ACalls AGoto
theorem A_present {hv : List Bool} (hl : hv.length ≤ 1000000) : ACalls Tryz.prog 301 [bools hv] [] (nats (upN hv)) []:=by
 refine acalls_of_body Tryz.func301 rfl (zU rfl) ?_
 have hmh : (hv.map tD).length = hv.length:=List.length_map _
 (repeat' (first
  |(apply W.qd;(exact zN))|(apply yA)|(apply yB)|(apply (W.regionS 1);exact rfl;kernel_rfl)
  |(apply yE)))
 refine AWP.nilRow 2 1 3 rfl (by omega) ?_
 (repeat' (first
  |(apply W.qd;(first
  |(exact zM)
  |(exact jAt)))|(apply yB)|(refine jAb ?_)|(apply yE)
  |(apply yG)))
 refine AWP.loopW (α:=Nat) (fun k=>k ≤ hv.length) (fun k=>⟨[(7,iV k),(6,iV hv.length),(5,bools hv),(2,.osl 0 (upK hv k).length 0 (upK hv k).length)],[.row (upK hv k).length 1 3 ((upK hv k).map kD)]⟩) (fun k=>hv.length - k) 0 (Nat.zero_le _) ?wk0 fun k hk=>?_
 case wk0=>exact ⟨[0],rfl,rfl,rfl,rfl,iV_eq (by rw [hmh]),rfl,rfl,trivial⟩
 have hln:=upK_len hv k
 by_cases hkl : k < hv.length
 ·have eg : hv.getD k false = hv[k] := by rw [List.getD_eq_getElem?_getD, List.getElem?_eq_getElem hkl]; rfl
  have hs:=Lib.hid (upK_succ hv k)
  rw [eg] at hs
  generalize upK hv k = A at *
  (repeat' (first
   |(apply W.qd;(first
   |(exact zM)|(exact zN)|(exact jAj)|(exact jAi)|(exact jAc)|(exact jAl)
   |(exact jA)))|(apply W.ld;(apply l_app1;(iterate 8 exact rfl);(first | omega | (focus (simp;omega)) | (focus (simp;done)))))|(apply yA)|(apply yB)|(refine jAb ?_)|(apply yE)|(apply yG)|(apply yH)|(apply yL)
   |(refine W.cond _ rfl (fun hb=>?_) (fun hb=>?_)<;>((try simp only [hb,zK])<;>(try simp only [zL,zI] at hb)<;>(try (exfalso;omega))))))
  ·replace hs := Lib.hid (hs.out.trans (if_pos hb))
   refine ⟨k + 1,by omega,by omega,?_⟩
   rw [hs.out,show (A ++ [k]).length = A.length + 1 by simp]
   exact ⟨[0],rfl,rfl,rfl,iV_eq (by omega),rfl,rfl,congrArg (AV.osl 0 (A.length + 1) 0) (by simp),trivial⟩
  ·replace hs := Lib.hid (hs.out.trans (if_neg (by rw [hb]; decide)))
   refine ⟨k + 1,by omega,by omega,?_⟩
   rw [hs.out]
   exact ⟨[0],rfl,rfl,rfl,iV_eq (by omega),rfl,rfl,rfl,trivial⟩
 ·have e : k = hv.length := by omega
  subst e
  rw [show upN hv = upK hv hv.length from rfl]
  generalize upK hv hv.length = A at *
  (repeat' (first
   |(apply W.qd;(first
   |(exact zM)|(exact zN)
   |(exact jAj)))|(apply yA)|(apply yB)|(refine jAb ?_)|(apply yE)|(apply yI)|(apply yJ)|(apply yK)|(apply yM)
   |(refine W.cond _ rfl (fun hb=>?_) (fun hb=>?_)<;>((try simp only [hb,zK])<;>(try simp only [zL,zI] at hb)<;>(try (exfalso;omega))))))
  exact Ends.osl rfl rfl (by simp) rfl
theorem A_cloneN {l : List Nat} (h0 : 0 < l.length) (hl : l.length ≤ 1000000) : ACalls Tryz.prog 281 [nats l] [] (nats l) []:=by
 refine acalls_of_body Tryz.func281 rfl (zU rfl) ?_
 have hm : (l.map kD).length = l.length:=List.length_map _
 (repeat' (first
  |(apply W.ed;(apply e_lit0F;(iterate 5 exact rfl)))
  |(apply W.qd;(first
  |(exact zM)|(exact zN)
  |(apply q_eqnilm;(iterate 3 exact rfl);(first | assumption | omega))))|(apply W.ed;(apply e_appF;(iterate 8 exact rfl);(first | rfl | simp);(first | exact Nat.zero_lt_one | (focus (simp;done)) | omega);(first | (focus (simp;done)) | (focus (simp;omega)) | omega)))|(apply yA)|(apply yB)|(refine jAb ?_)|(apply yE)|(apply yH)|(apply yJ)
  |(refine jAy ?_)))
 exact Ends.osl rfl rfl (by simp) rfl
abbrev subO (E0 E1 E2 E3 E4 : Ent) (l : List Nat) (k : Nat) (L : Ent) : List Ent:=[E0,E1,E2,E3,E4,.box [nats l],.box [iV k],L,.box [.yl 7],.box [.fn 310 [.opt 6 0,.opt 8 0,.opt 5 0,.opt 9 0]]]
def outB (o : Option (List Nat)) : Bool:=o.isNone
section
variable {l : List Nat} {k : Nat} {g : List Nat → Bool} {E0 E1 E2 E3 E4 L : Ent} {F2 F7 : Ent} {F3 : List Nat → Ent}
abbrev subE (o : Option (List Nat)) (F : List Nat → Ent) (E : Ent) : Ent:=match o with | none=>E | some s=>F s
abbrev subX (E0 E1 E2 E3 E4 : Ent) (l : List Nat) (k : Nat) (L : Ent) (F2 F7 : Ent) (F3 : List Nat → Ent) (o : Option (List Nat)) : List Ent:=subO E0 E1 (subE o (fun _=>F2) E2) (subE o F3 E3) E4 l k (subE o (fun _=>F7) L)
theorem A_fromStep {i : Nat} {set : List Nat} (hl : l.length ≤ 1000) (hk1 : 1 ≤ k) (hk : k ≤ 1000)
 (hY : ∀ s : List Nat,s.Sublist l → s.length = k → YAt Tryz.prog 7 (subO E0 E1 E2 E3 E4 l k L) [nats s] (g s) (if g s = true then subO E0 E1 E2 E3 E4 l k L else subO E0 E1 F2 (F3 s) E4 l k F7))
 (hi : i ≤ l.length) (hs : set.length ≤ k) (hsub : set.Sublist (l.take i))
 (ih : ∀ (j : Nat) (set' : List Nat), i < j → j ≤ l.length → set'.length ≤ k → set'.Sublist (l.take j) →
  ACalls Tryz.prog 310 [iV j,nats set',.opt 6 0,.opt 8 0,.opt 5 0,.opt 9 0] (subO E0 E1 E2 E3 E4 l k L) (bV (outB (badF g (subT l j k set')))) (subX E0 E1 E2 E3 E4 l k L F2 F7 F3 (badF g (subT l j k set')))) :
 ACalls Tryz.prog 310 [iV i,nats set,.opt 6 0,.opt 8 0,.opt 5 0,.opt 9 0] (subO E0 E1 E2 E3 E4 l k L) (bV (outB (badF g (subT l i k set)))) (subX E0 E1 E2 E3 E4 l k L F2 F7 F3 (badF g (subT l i k set))):=by
 have hms : (set.map kD).length = set.length:=List.length_map _
 have hml : (l.map kD).length = l.length:=List.length_map _
 by_cases hfull : set.length = k
 ·have hy := hY set (hsub.trans (List.take_sublist _ _)) hfull
  have hcl:=A_cloneN (l:=set) (by omega) (by omega)
  rw [subT_full hfull]
  have hb0 : badF g [set] = if g set = true then none else some set:=by
   unfold badF
   cases hg : g set<;>simp [hg]
  rw [hb0]
  cases hg : g set with
  | true =>
    rw [hg,if_pos rfl] at hy
    rw [if_pos rfl]
    refine acalls_of_bodyS Tryz.func310 rfl (zU rfl) ?_
    (repeat' (first
     |(apply W.qd;(first
     |(exact zW (hcl))|(exact zM)|(exact zN)|(exact jAg)|(exact jAu)
     |(exact jAt)))|(apply W.ed;((exact e_yield hy rfl rfl)))|(apply yA)|(apply yB)|(refine jAb ?_)|(refine jAr ?_)|(apply yE)|(refine jAx ?_)|(apply yJ)|(apply yP)
     |(refine W.cond _ rfl (fun hb=>?_) (fun hb=>?_)<;>((try simp only [hb,zK])<;>(try simp only [zL,zI] at hb)<;>(try (exfalso;omega))))))
    exact EndsS.b rfl rfl
  | false =>
    rw [hg,if_neg (by decide)] at hy
    rw [if_neg (by decide)]
    refine acalls_of_bodyS Tryz.func310 rfl (zU rfl) ?_
    (repeat' (first
     |(apply W.qd;(first
     |(exact zW (hcl))|(exact zM)|(exact zN)|(exact jAg)|(exact jAu)
     |(exact jAt)))|(apply W.ed;((exact e_yield hy rfl rfl)))|(apply yA)|(apply yB)|(refine jAb ?_)|(refine jAr ?_)|(apply yE)|(refine jAx ?_)|(apply yJ)|(apply yP)
     |(refine W.cond _ rfl (fun hb=>?_) (fun hb=>?_)<;>((try simp only [hb,zK])<;>(try simp only [zL,zI] at hb)<;>(try (exfalso;omega))))))
    exact EndsS.b rfl rfl
 ·generalize hR : badF g (subT l i k set) = R
  refine acalls_of_bodyS Tryz.func310 rfl (zU rfl) ?_
  (repeat' (first
   |(apply W.qd;(first
   |(exact zM)|(exact zN)|(exact jAg)|(exact jAu)
   |(exact jAt)))|(apply yA)|(apply yB)|(refine jAb ?_)|(apply yE)|(apply yG)|(apply yH)
   |(refine W.cond _ rfl (fun hb=>?_) (fun hb=>?_)<;>((try simp only [hb,zK])<;>(try simp only [zL,zI] at hb)<;>(try (exfalso;omega))))))
  refine AWP.loopE (α:=Nat) (fun j=>i ≤ j ∧ j ≤ l.length ∧ badF g (subT l j k set) = R) (fun j=>⟨[(0,iV j),(1,nats set),(2,.opt 6 0),(3,.opt 8 0),(4,.opt 5 0),(5,.opt 9 0)],subO E0 E1 E2 E3 E4 l k L⟩) (fun j=>l.length - j) i ⟨Nat.le_refl _,hi,hR⟩ ⟨rfl,by (repeat (first | exact trivial | refine ⟨rfl,?_⟩))⟩ fun j hj=>?_
  obtain ⟨hj1,hj2,hj3⟩:=hj
  by_cases hjl : j < l.length
  ·have hst := subT_step (k := k) (set := set) hjl (by omega)
   have hih:=ih (j + 1) (set ++ [l[j]]) (by omega) (by omega) (by simp;omega) (by
    rw [List.take_succ_eq_append_getElem hjl]
    refine List.Sublist.append (hsub.trans ?_) (List.Sublist.refl _)
    have : l.take i = (l.take j).take i:=by rw [List.take_take,Nat.min_eq_left hj1]
    rw [this];exact List.take_sublist _ _)
   rw [hst,badF_app] at hj3
   rw [show nats (set ++ [l[j]]) = .d (.sl 1 (set.map kD ++ [kD l[j]])) by show AV.d (.sl 1 ((set ++ [l[j]]).map kD)) = _;rw [List.map_append];rfl] at hih
   have ej : iV ((j + 1 : Nat) : Int) = iV ((j : Int) + 1):=iV_eq (by omega)
   rw [ej] at hih
   cases hB : badF g (subT l (j + 1) k (set ++ [l[j]])) with
   | none =>
     rw [hB] at hih hj3
     clear ih hY
     (repeat' (first
      |(apply W.qd;(first
      |(exact zM)|(exact zN)|(exact jAg)|(exact jAj)|(exact jBe)|(exact jAi)|(exact jAt)|(exact jAc)|(exact jAl)|(exact jA)|(apply q_slc3;(iterate 3 exact rfl);(first | exact ⟨_,_,rfl,rfl⟩ | exact ⟨_,_,rfl,natI_spec rfl⟩ | exact ⟨_,_,rfl,(Int.toNat_of_nonneg (by omega)).symm⟩ | exact rfl);(first | exact ⟨_,_,rfl,rfl⟩ | exact ⟨_,_,rfl,natI_spec rfl⟩ | exact ⟨_,_,rfl,(Int.toNat_of_nonneg (by omega)).symm⟩ | exact rfl);exact rfl;exact rfl)
      |(apply q_appcl;(iterate 6 exact rfl);(first | exact Nat.zero_lt_one | (focus (simp;done)) | omega);(first | (focus (simp;done)) | (focus (simp;omega)) | omega))))|(apply W.ed;((exact e_callA hih rfl rfl rfl)))|(apply yA)|(apply yB)|(refine jAb ?_)|(refine jAr ?_)|(apply yE)|(refine jAx ?_)|(apply yG)|(apply yH)|(apply yL)|(refine jAy ?_)
      |(refine W.cond _ rfl (fun hb=>?_) (fun hb=>?_)<;>((try simp only [hb,zK])<;>(try simp only [zL,zI] at hb)<;>(try (exfalso;omega))))))
     exact ⟨j + 1,⟨by omega,by omega,hj3⟩,by omega,rfl,iV_eq (by omega),rfl,rfl,rfl,rfl,rfl,trivial⟩
   | some s =>
     rw [hB] at hih hj3
     obtain rfl : some s = R:=hj3
     clear ih hY
     (repeat' (first
      |(apply W.qd;(first
      |(exact zM)|(exact zN)|(exact jAg)|(exact jAj)|(exact jBe)|(exact jAi)|(exact jAt)|(exact jAc)|(exact jAl)|(exact jA)|(apply q_slc3;(iterate 3 exact rfl);(first | exact ⟨_,_,rfl,rfl⟩ | exact ⟨_,_,rfl,natI_spec rfl⟩ | exact ⟨_,_,rfl,(Int.toNat_of_nonneg (by omega)).symm⟩ | exact rfl);(first | exact ⟨_,_,rfl,rfl⟩ | exact ⟨_,_,rfl,natI_spec rfl⟩ | exact ⟨_,_,rfl,(Int.toNat_of_nonneg (by omega)).symm⟩ | exact rfl);exact rfl;exact rfl)
      |(apply q_appcl;(iterate 6 exact rfl);(first | exact Nat.zero_lt_one | (focus (simp;done)) | omega);(first | (focus (simp;done)) | (focus (simp;omega)) | omega))))|(apply W.ed;((exact e_callA hih rfl rfl rfl)))|(apply yA)|(apply yB)|(refine jAb ?_)|(refine jAr ?_)|(apply yE)|(refine jAx ?_)|(apply yG)|(apply yH)|(apply yJ)|(apply yP)|(apply yN)|(refine jAv ?_)
      |(refine W.cond _ rfl (fun hb=>?_) (fun hb=>?_)<;>((try simp only [hb,zK])<;>(try simp only [zL,zI] at hb)<;>(try (exfalso;omega))))))
     exact EndsS.b rfl rfl
  ·have ejl : j = l.length := by omega
   subst ejl
   rw [subT_end (by omega)] at hj3
   obtain rfl : none = R:=hj3
   clear ih hY
   (repeat' (first
    |(apply W.qd;(first
    |(exact zM)|(exact zN)|(exact jAg)|(exact jAj)
    |(exact jAt)))|(apply yA)|(apply yB)|(refine jAb ?_)|(apply yE)|(apply yI)|(apply yJ)|(apply yK)|(apply yM)
    |(refine W.cond _ rfl (fun hb=>?_) (fun hb=>?_)<;>((try simp only [hb,zK])<;>(try simp only [zL,zI] at hb)<;>(try (exfalso;omega))))))
   exact EndsS.b rfl rfl
theorem A_from (hl : l.length ≤ 1000) (hk1 : 1 ≤ k) (hk : k ≤ 1000)
 (hY : ∀ s : List Nat,s.Sublist l → s.length = k → YAt Tryz.prog 7 (subO E0 E1 E2 E3 E4 l k L) [nats s] (g s) (if g s = true then subO E0 E1 E2 E3 E4 l k L else subO E0 E1 F2 (F3 s) E4 l k F7)) :
 ∀ (n i : Nat) (set : List Nat),l.length - i ≤ n → i ≤ l.length → set.length ≤ k → set.Sublist (l.take i) →
 ACalls Tryz.prog 310 [iV i,nats set,.opt 6 0,.opt 8 0,.opt 5 0,.opt 9 0] (subO E0 E1 E2 E3 E4 l k L) (bV (outB (badF g (subT l i k set)))) (subX E0 E1 E2 E3 E4 l k L F2 F7 F3 (badF g (subT l i k set)))
 | 0,i,set,hn,hi,hs,hsub=>A_fromStep hl hk1 hk hY hi hs hsub fun j set' h1 h2=>by omega
 | n + 1,i,set,hn,hi,hs,hsub=>A_fromStep hl hk1 hk hY hi hs hsub fun j set' h1 h2 h3 h4=>A_from hl hk1 hk hY n j set' (by omega) h2 h3 h4
theorem A_subIter {R : Option (List Nat)} (hl : l.length ≤ 1000) (hk1 : 1 ≤ k) (hk : k ≤ 1000) (hB : badF g (subsN l k) = R)
 (hY : ∀ s : List Nat,s.Sublist l → s.length = k → YAt Tryz.prog 7 (subO E0 E1 E2 E3 E4 l k L) [nats s] (g s) (if g s = true then subO E0 E1 E2 E3 E4 l k L else subO E0 E1 F2 (F3 s) E4 l k F7)) :
 ACalls Tryz.prog 309 [.yl 7,.opt 6 0,.opt 5 0] [E0,E1,E2,E3,E4,.box [nats l],.box [iV k],L] (.tup []) (subX E0 E1 E2 E3 E4 l k L F2 F7 F3 R):=by
 have h0:=A_from hl hk1 hk hY l.length 0 [] (by omega) (by omega) (by simp) (List.nil_sublist _)
 have e : subT l 0 k [] = subsN l k:=by unfold subT;simp
 rw [e,hB] at h0
 have h0:=h0.le (args':=[iV 0,.d (.v (.slice none 0 0)),.opt 6 0,.opt 8 0,.opt 5 0,.opt 9 0]) fun F κ w vs hs=>by
  refine AVleL.sat (xs:=[iV 0,.d (.v (.slice none 0 0)),.opt 6 0,.opt 8 0,.opt 5 0,.opt 9 0]) ?_ F _ κ w vs hs
  exact ⟨AVle.refl _,AVle.nil 1,AVle.refl _,AVle.refl _,AVle.refl _,AVle.refl _,trivial⟩
 refine acalls_of_bodyS Tryz.func309 rfl (zU rfl) ?_
 (repeat' (first
  |(apply W.qd;(first
  |(exact jAg)
  |(apply q_makeFunc)))
  |(apply W.ed;(first
  |((exact e_callA h0 rfl rfl rfl))|(exact jAa)
  |(exact jAp)))|(apply W.ln;(exact jAh))|(apply yA)|(apply yB)|(refine jAb ?_)
  |(apply yE)))
 exact ⟨.inr rfl,[],trivial,AVle.of_eq rfl,rfl⟩
end
end
section
theorem AWP.toX {Γ : Ctx} {P : Program} {n m : Nat} {c : Code} {s : St} {own' : List Ent} {e0 : Exit} (h : AWPG Γ P n m c (fun e s=>e = e0 ∧ Wk m s ⟨[],own'⟩) s) : AWPG Γ P n m c (fun e s=>e = e0 ∧ s.own = own') s:=fun F W κ0 a κ w hH hm hs =>
 wpIn_mono (h F W κ0 a κ w hH hm hs) fun e a' w' ⟨s',κ',⟨he,hw⟩,hs'⟩=>by
  obtain ⟨κ2,h2⟩:=hs'.wk hm hw
  exact ⟨_,κ2,⟨he,rfl⟩,h2⟩
theorem AVle.anyV {v : Value} (h : v.oneCell' = true) : AVle (.d (.v v)) (.d .any):=fun F own κ w u hs=>by
 rw [sat_v] at hs
 subst hs
 rw [AV.sat,Dat.sat];exact h
theorem AVle.anyS (sz : Nat) (l : List (List Dat)) : AVle (.d (.sl sz l)) (.d .any):=fun F own κ w u hs=>by
 rw [AV.sat,Dat.sat] at hs
 obtain ⟨A,c,rfl,_⟩:=hs
 rw [AV.sat,Dat.sat];rfl
theorem minusN_snoc (hv : List Bool) (L : List Nat) (u : Nat) : minusN hv (L ++ [u]) = (minusN hv L).set u false:=by
 unfold minusN
 rw [List.foldl_append];rfl
theorem badN_iff {dec : List Bool → Bool} {hv : List Bool} {f : Nat} : badN dec hv f = (badF (fun s=>dec (minusN hv s)) (subsN (upN hv) (f + 1))).isSome:=by
 unfold badN badF
 rw [Bool.eq_iff_iff,List.any_eq_true,List.find?_isSome]
theorem gen_entE {motive : Ent → Prop} (E : Ent) (h : ∀ L,L = E → motive L) : motive E:=h E rfl
attribute [local irreducible] Quiet Eff OpOk AWPG ACont ABlock ACalls AGoto
theorem A_subsets0 {l : List Nat} {f : Nat} : ACalls Tryz.prog 302 [nats l,iV ((f : Int) + 1)] [] (.fn 309 [.opt 1 0,.opt 0 0]) [.box [nats l],.box [iV ((f + 1 : Nat) : Int)]]:=by
 rw [show iV ((f : Int) + 1) = iV ((f + 1 : Nat) : Int) from iV_eq (by omega)]
 refine acalls_of_bodyO Tryz.func302 rfl (zU rfl) ?_
 (repeat' (first
  |(apply W.qd;(first
  |(exact zN)
  |(apply q_makeFunc)))|(apply W.ed;(exact jAa))|(apply yA)|(apply yB)|(refine jAb ?_)|(apply yE)
  |(apply yJ)))
 exact ⟨.inl rfl,[0,1],[.fn 309 [.opt 1 0,.opt 0 0]],rfl,rfl,⟨rfl,trivial⟩,AVle.of_eq rfl,rfl⟩
abbrev srcB0 (M D : Nat) (ps : List (List Nat)) : Ent:=.box [.d .any,iV M,iV D,rowsN ps,.d .any]
abbrev srcEnv (hv : List Bool) (f : Nat) : List (Nat × AV):=[(24,.fn 309 [.opt 6 0,.opt 5 0]),(2,.opt 0 0),(3,.opt 1 0),(4,.opt 2 0),(5,.opt 3 0),(6,nats (upN hv)),(7,.opt 4 0),(18,iV f)]
theorem A_search {M D : Nat} {ps : List (List Nat)} {hv : List Bool} (h : CodeOk M D ps) (hl : hv.length = D + ps.length) : ACalls Tryz.prog 288 [cdN M D ps,bools hv] [] (.tup [iV (leftN (decN M D ps) hv),.d .any]) []:=by
 have h1:=h.d
 have h2:=h.w
 have hdec:=A_decodable h hl
 have hpre:=A_present (hv:=hv) (by omega)
 have hd0 : decN M D ps hv = decide ((basisN M D ps hv).length = D):=by unfold decN;rw [decide_eq_true hl,Bool.true_and]
 rw [← hd0] at hdec
 have hcl:=A_cloneB (l:=hv) (by omega) (by omega)
 have hdecs : ∀ s : List Nat,ACalls Tryz.prog 300 [cdN M D ps,bools (minusN hv s)] [] (bV (decN M D ps (minusN hv s))) []:=fun s=>by
  have hls : (minusN hv s).length = D + ps.length:=by rw [minusN_length];exact hl
  have:=A_decodable h hls
  have hd1 : decN M D ps (minusN hv s) = decide ((basisN M D ps (minusN hv s)).length = D):=by unfold decN;rw [decide_eq_true hls,Bool.true_and]
  rwa [← hd1] at this
 have hup : ∀ u ∈ upN hv,u < hv.length:=fun u hu=>by
  have:=(List.mem_filter.1 hu).1
  exact List.mem_range.1 this
 have hupl : (upN hv).length ≤ 1000:=by have:=upK_len hv hv.length;have e : (upN hv).length = (upK hv hv.length).length:=rfl;omega
 unfold leftN
 generalize decN M D ps = dec at *
 refine acalls_of_body Tryz.func288 rfl (zU rfl) ?_
 cases hd : dec hv with
 | false =>
   rw [if_neg (by decide)]
   rw [hd] at hdec
   (repeat' (first
    |(apply W.qd;(first
    |(exact zW (hdec))|(exact jAg)|(exact jAn)
    |(exact jBe)))
    |(apply W.ed;(first
    |(exact jAa)
    |(exact jAp)))|(apply W.ln;(exact jAh))|(apply yA)|(apply yB)|(refine jAb ?_)|(apply yE)|(apply yJ)|(apply yP)
    |(refine jAv ?_)))
   exact ⟨.inl rfl,[],[iV (-1),.d (.v (.slice none 0 0))],rfl,⟨⟨2,[iV (-1)],false,rfl,rfl,rfl,rfl⟩,⟨3,[.d (.v (.slice none 0 0))],false,rfl,rfl,rfl,rfl⟩,trivial⟩,AVle.tup2 (AVle.refl _) (AVle.anyV rfl),rfl⟩
 | true =>
   rw [if_pos rfl]
   rw [hd] at hdec
   generalize hR : ((List.range 4).find? (badN dec hv)).getD 4 = R
   (repeat' (first
    |(apply W.qd;(first
    |(exact zW (hdec))|(exact zW (hpre))|(exact zM)|(exact zN)|(exact jAg)|(exact jAn)
    |(exact jBe)))
    |(apply W.ed;(first
    |(exact jAa)
    |(exact jAp)))|(apply yA)|(apply yB)|(refine jAb ?_)|(apply yE)|(apply yG)|(apply yH)
    |(refine jAy ?_)))
   refine AWP.loopW (α:=Nat) (fun f=>f ≤ 4 ∧ ∀ g,g < f → badN dec hv g = false) (fun f=>⟨[(18,iV f),(6,nats (upN hv)),(2,.opt 0 0),(3,.opt 1 0),(4,.opt 2 0),(5,.opt 3 0)],[.box [.d .any,iV M,iV D,rowsN ps,.d .any],.box [bools hv],.box [iV 0],.box [.d (.v (.slice none 0 0))]]⟩) (fun f=>4 - f) 0 ⟨by omega,fun g hg=>by omega⟩ ⟨[0,1,2,3],rfl,rfl,rfl,by (repeat (first | exact trivial | refine ⟨rfl,?_⟩))⟩ fun f hf=>?_
   by_cases hf4 : f < 4
   ·have hs0 := A_subsets0 (l := upN hv) (f := f)
    (repeat' (first
     |(apply W.qd;(first
     |(exact zM)|(exact jAg)|(exact jAj)
     |(exact jAi)))
     |(apply W.ed;(first
     |(apply (e_callJ (js:=[]) (hs0));(iterate 5 exact rfl);kernel_rfl;kernel_rfl)
     |(exact jAp)))|(apply W.ln;(exact jAh))|(apply yA)|(apply yB)|(refine jAb ?_)|(apply yE)|(apply yG)|(apply yH)
     |(refine W.cond _ rfl (fun hb=>?_) (fun hb=>?_)<;>((try simp only [hb,zK])<;>(try simp only [zL,zI] at hb)<;>(try (exfalso;omega))))))
    refine AWP.wk ⟨srcEnv hv f,[.box [.d .any,iV M,iV D,rowsN ps,.d .any],.box [bools hv],.box [iV 0],.box [.d (.v (.slice none 0 0))],.box [iV f],.box [nats (upN hv)],.box [iV ((f + 1 : Nat) : Int)]]⟩ ⟨[0,1,2,3,4,5,6],rfl,rfl,rfl,by (repeat (first | exact trivial | refine ⟨rfl,?_⟩))⟩ ?_
    have hbI:=badN_iff (dec:=dec) (hv:=hv) (f:=f)
    cases hB : badF (fun s=>dec (minusN hv s)) (subsN (upN hv) (f + 1)) with
    | none =>
      rw [hB] at hbI
      refine AWP.range (s2:=⟨[(18,iV f),(6,nats (upN hv)),(2,.opt 0 0),(3,.opt 1 0),(4,.opt 2 0),(5,.opt 3 0)],[srcB0 M D ps,.box [bools hv],.box [iV 0],.box [.d (.v (.slice none 0 0))]]⟩) rfl (by kernel_rfl) (A_subIter (F2:=.box []) (F7:=.box []) (F3:=fun _=>.box []) hupl (by omega) (by omega) hB fun s hs1 hs2=>?_) rfl (by decide) ⟨[0,1,2,3],rfl,rfl,rfl,by (repeat (first | exact trivial | refine ⟨rfl,?_⟩))⟩ ?_
      ·have hg : dec (minusN hv s) = true:=by
        unfold badF at hB
        rw [List.find?_eq_none] at hB
        have:=hB s (mem_subsN.2 ⟨hs1,hs2⟩)
        simpa using this
       rw [hg,if_pos rfl]
       refine YAt.ok (own1:=subO (srcB0 M D ps) (.box [bools hv]) (.box [iV 0]) (.box [.d (.v (.slice none 0 0))]) (.box [iV f]) (upN hv) (f + 1) (.lp .busy none #[25] _ _ _)) (s2:=⟨(8,nats s) :: srcEnv hv f,_⟩) rfl rfl rfl rfl (fun g=>?_) rfl (fun g=>?_) rfl rfl
       ·refine AWP.toW ?_
        (repeat' (first
         |(apply W.qd;(exact zN))|(refine jAb ?_)
         |(apply yE)))
        exact ⟨rfl,⟨[0,1,2,3,4,5,6,7,8,9],rfl,rfl,rfl,by (repeat (first | exact trivial | refine ⟨rfl,?_⟩))⟩⟩
       ·refine AWP.toO ?_
        refine gen_entE (motive:=fun L=>AWPG (Ctx.round g) Tryz.prog Tryz.f288.ntmps 10 _ (fun e s9=>e = .normal ∧ Wk 10 s9 ⟨[],subO (srcB0 M D ps) (.box [bools hv]) (.box [iV 0]) (.box [.d (.v (.slice none 0 0))]) (.box [iV f]) (upN hv) (f + 1) L⟩) ⟨(8,nats s) :: srcEnv hv f,subO (srcB0 M D ps) (.box [bools hv]) (.box [iV 0]) (.box [.d (.v (.slice none 0 0))]) (.box [iV f]) (upN hv) (f + 1) L⟩) _ fun L hL=>?_
        obtain ⟨cA,cB,hL⟩ : ∃ cA cB,L = .lp .busy none #[25] cA cB (tmpsOf (srcEnv hv f) Tryz.f288.ntmps):=⟨_,_,hL⟩
        subst hL
        have hms : (s.map kD).length = s.length:=List.length_map _
        (repeat' (first
         |(apply W.qd;(first
         |(exact zM)|(exact zN)|(exact jAg)
         |(exact jAt)))|(apply W.ed;(apply (e_callJ (js:=[]) (hcl));(iterate 5 exact rfl);kernel_rfl;kernel_rfl))|(apply yA)|(apply yB)|(refine jAb ?_)|(apply yE)
         |(apply yG)))
        refine AWP.loopW (α:=Nat) (fun j=>j ≤ s.length) (fun j=>⟨[(30,iV j),(29,iV s.length),(28,nats s),(9,.osl 10 1 0 hv.length),(8,nats s),(2,.opt 0 0),(4,.opt 2 0),(5,.opt 3 0),(7,.opt 4 0)],subO (srcB0 M D ps) (.box [bools hv]) (.box [iV 0]) (.box [.d (.v (.slice none 0 0))]) (.box [iV f]) (upN hv) (f + 1) (.lp .busy none #[25] cA cB (tmpsOf (srcEnv hv f) Tryz.f288.ntmps)) ++ [.row 1 1 4 ((minusN hv (s.take j)).map tD)]⟩) (fun j=>s.length - j) 0 (Nat.zero_le _) ?wkr1 fun j hj=>?_
        case wkr1=>exact ⟨[0,1,2,3,4,5,6,7,8,9,10],rfl,rfl,rfl,rfl,iV_eq (by rw [hms]),rfl,rfl,rfl,rfl,rfl,rfl,rfl,trivial⟩
        by_cases hjl : j < s.length
        ·have hu := hup s[j] (hs1.subset (List.getElem_mem hjl))
         have hmn:=minusN_length (s.take j) hv
         have hsn:=minusN_snoc hv (s.take j) s[j]
         rw [← List.take_succ_eq_append_getElem hjl] at hsn
         replace hsn:=Lib.hid hsn
         generalize minusN hv (s.take j) = A at *
         (repeat' (first
          |(apply W.qd;(first
          |(exact zM)|(exact zN)|(exact jAj)|(exact jAi)|(exact jAc)|(exact jA)
          |(exact jAf)))|(apply W.ln;(apply l_st_rpt;(iterate 7 exact rfl);exact fun _=>rfl;(first | omega | (focus (simp only [List.length_map];omega)) | (focus (simp;omega)))))|(apply yA)|(apply yB)|(refine jAb ?_)|(apply yE)|(apply yG)|(apply yH)|(apply yL)
          |(refine W.cond _ rfl (fun hb=>?_) (fun hb=>?_)<;>((try simp only [hb,zK])<;>(try simp only [zL,zI] at hb)<;>(try (exfalso;omega))))))
         refine ⟨j + 1,by omega,by omega,?_⟩
         rw [hsn.out]
         exact ⟨[0,1,2,3,4,5,6,7,8,9,10],rfl,rfl,rfl,iV_eq (by omega),rfl,rfl,rfl,rfl,rfl,rfl,rfl,rfl,trivial⟩
        have ejl : j = s.length:=by omega
        subst ejl
        rw [List.take_length]
        have hmn:=minusN_length s hv
        (repeat' (first
         |(apply W.qd;(exact jAj))|(apply yA)|(apply yB)|(apply (W.regionS 15);exact rfl;kernel_rfl)|(apply yE)|(apply yI)|(apply yK)|(apply yM)
         |(refine W.cond _ rfl (fun hb=>?_) (fun hb=>?_)<;>((try simp only [hb,zK])<;>(try simp only [zL,zI] at hb)<;>(try (exfalso;omega))))))
        refine AWP.wk ⟨[(9,bools (minusN hv s)),(8,nats s),(2,.opt 0 0),(4,.opt 2 0),(5,.opt 3 0),(7,.opt 4 0)],subO (srcB0 M D ps) (.box [bools hv]) (.box [iV 0]) (.box [.d (.v (.slice none 0 0))]) (.box [iV f]) (upN hv) (f + 1) (.lp .busy none #[25] cA cB (tmpsOf (srcEnv hv f) Tryz.f288.ntmps))⟩ ?wkf1 ?_
        case wkf1=>exact ⟨[0,1,2,3,4,5,6,7,8,9],rfl,rfl,rfl,(frz_rowJ (i:=10) (ver:=1) (n:=hv.length) (l:=(minusN hv s).map tD) rfl rfl (by rw [List.length_map,hmn])).symm,rfl,rfl,rfl,rfl,rfl,trivial⟩
        have hds:=hdecs s
        rw [show dec (minusN hv s) = true from hg] at hds
        (repeat' (first
         |(apply W.qd;(first
         |(exact zW (hds))|(exact zM)|(exact jAn)
         |(exact jBe)))|(apply yB)|(refine jAb ?_)|(apply yE)|(apply yH)|(apply yL)
         |(refine jAy ?_)))
        exact ⟨rfl,⟨[0,1,2,3,4,5,6,7,8,9],rfl,rfl,rfl,by (repeat (first | exact trivial | refine ⟨rfl,?_⟩))⟩⟩
      dsimp only
      (repeat' (first
       |(apply W.qd;(first
       |(exact zM)
       |(exact jAi)))|(apply yB)|(refine jAb ?_)|(apply yE)
       |(apply yL)))
      refine ⟨f + 1,⟨by omega,fun g hg=>?_⟩,by omega,[0,1,2,3],rfl,rfl,rfl,iV_eq (by omega),rfl,rfl,rfl,rfl,rfl,trivial⟩
      by_cases e : g = f
      ·subst e;exact hbI
      ·exact hf.2 g (by omega)
    | some s0 =>
      rw [hB] at hbI
      have hfr : f = R:=by
       have hq : (List.range 4).find? (badN dec hv) = some f:=List.find?_range_eq_some.2 ⟨hbI,List.mem_range.2 hf4,fun g hg=>by rw [hf.2 g hg];rfl⟩
       rw [hq] at hR;exact hR
      subst hfr
      refine AWP.range (s2:=⟨[(4,.opt 2 0),(5,.opt 3 0)],[srcB0 M D ps,.box [bools hv],.box [iV f],.box [nats s0]]⟩) rfl (by kernel_rfl) (A_subIter (F2:=.box [iV f]) (F7:=.lp .done (some .ret) _ _ _ (tmpsOf (srcEnv hv f) Tryz.f288.ntmps)) (F3:=fun s=>.box [nats s]) hupl (by omega) (by omega) hB fun s hs1 hs2=>?_) rfl (by decide) ⟨[0,1,2,3],rfl,rfl,rfl,by (repeat (first | exact trivial | refine ⟨rfl,?_⟩))⟩ ?_
      ·cases hg : dec (minusN hv s) with
       | true =>
         rw [if_pos rfl]
         refine YAt.ok (own1:=subO (srcB0 M D ps) (.box [bools hv]) (.box [iV 0]) (.box [.d (.v (.slice none 0 0))]) (.box [iV f]) (upN hv) (f + 1) (.lp .busy none #[25] _ _ _)) (s2:=⟨(8,nats s) :: srcEnv hv f,_⟩) rfl rfl rfl rfl (fun g=>?_) rfl (fun g=>?_) rfl rfl
         ·refine AWP.toW ?_
          (repeat' (first
           |(apply W.qd;(exact zN))|(refine jAb ?_)
           |(apply yE)))
          exact ⟨rfl,⟨[0,1,2,3,4,5,6,7,8,9],rfl,rfl,rfl,by (repeat (first | exact trivial | refine ⟨rfl,?_⟩))⟩⟩
         ·refine AWP.toO ?_
          refine gen_entE (motive:=fun L=>AWPG (Ctx.round g) Tryz.prog Tryz.f288.ntmps 10 _ (fun e s9=>e = .normal ∧ Wk 10 s9 ⟨[],subO (srcB0 M D ps) (.box [bools hv]) (.box [iV 0]) (.box [.d (.v (.slice none 0 0))]) (.box [iV f]) (upN hv) (f + 1) L⟩) ⟨(8,nats s) :: srcEnv hv f,subO (srcB0 M D ps) (.box [bools hv]) (.box [iV 0]) (.box [.d (.v (.slice none 0 0))]) (.box [iV f]) (upN hv) (f + 1) L⟩) _ fun L hL=>?_
          obtain ⟨cA,cB,hL⟩ : ∃ cA cB,L = .lp .busy none #[25] cA cB (tmpsOf (srcEnv hv f) Tryz.f288.ntmps):=⟨_,_,hL⟩
          subst hL
          have hms : (s.map kD).length = s.length:=List.length_map _
          (repeat' (first
           |(apply W.qd;(first
           |(exact zM)|(exact zN)|(exact jAg)
           |(exact jAt)))|(apply W.ed;(apply (e_callJ (js:=[]) (hcl));(iterate 5 exact rfl);kernel_rfl;kernel_rfl))|(apply yA)|(apply yB)|(refine jAb ?_)|(apply yE)
           |(apply yG)))
          refine AWP.loopW (α:=Nat) (fun j=>j ≤ s.length) (fun j=>⟨[(30,iV j),(29,iV s.length),(28,nats s),(9,.osl 10 1 0 hv.length),(8,nats s),(2,.opt 0 0),(4,.opt 2 0),(5,.opt 3 0),(7,.opt 4 0)],subO (srcB0 M D ps) (.box [bools hv]) (.box [iV 0]) (.box [.d (.v (.slice none 0 0))]) (.box [iV f]) (upN hv) (f + 1) (.lp .busy none #[25] cA cB (tmpsOf (srcEnv hv f) Tryz.f288.ntmps)) ++ [.row 1 1 4 ((minusN hv (s.take j)).map tD)]⟩) (fun j=>s.length - j) 0 (Nat.zero_le _) ?wkr2 fun j hj=>?_
          case wkr2=>exact ⟨[0,1,2,3,4,5,6,7,8,9,10],rfl,rfl,rfl,rfl,iV_eq (by rw [hms]),rfl,rfl,rfl,rfl,rfl,rfl,rfl,trivial⟩
          by_cases hjl : j < s.length
          ·have hu := hup s[j] (hs1.subset (List.getElem_mem hjl))
           have hmn:=minusN_length (s.take j) hv
           have hsn:=minusN_snoc hv (s.take j) s[j]
           rw [← List.take_succ_eq_append_getElem hjl] at hsn
           replace hsn:=Lib.hid hsn
           generalize minusN hv (s.take j) = A at *
           (repeat' (first
            |(apply W.qd;(first
            |(exact zM)|(exact zN)|(exact jAj)|(exact jAi)|(exact jAc)|(exact jA)
            |(exact jAf)))|(apply W.ln;(apply l_st_rpt;(iterate 7 exact rfl);exact fun _=>rfl;(first | omega | (focus (simp only [List.length_map];omega)) | (focus (simp;omega)))))|(apply yA)|(apply yB)|(refine jAb ?_)|(apply yE)|(apply yG)|(apply yH)|(apply yL)
            |(refine W.cond _ rfl (fun hb=>?_) (fun hb=>?_)<;>((try simp only [hb,zK])<;>(try simp only [zL,zI] at hb)<;>(try (exfalso;omega))))))
           refine ⟨j + 1,by omega,by omega,?_⟩
           rw [hsn.out]
           exact ⟨[0,1,2,3,4,5,6,7,8,9,10],rfl,rfl,rfl,iV_eq (by omega),rfl,rfl,rfl,rfl,rfl,rfl,rfl,rfl,trivial⟩
          have ejl : j = s.length:=by omega
          subst ejl
          rw [List.take_length]
          have hmn:=minusN_length s hv
          (repeat' (first
           |(apply W.qd;(exact jAj))|(apply yA)|(apply yB)|(apply (W.regionS 15);exact rfl;kernel_rfl)|(apply yE)|(apply yI)|(apply yK)|(apply yM)
           |(refine W.cond _ rfl (fun hb=>?_) (fun hb=>?_)<;>((try simp only [hb,zK])<;>(try simp only [zL,zI] at hb)<;>(try (exfalso;omega))))))
          refine AWP.wk ⟨[(9,bools (minusN hv s)),(8,nats s),(2,.opt 0 0),(4,.opt 2 0),(5,.opt 3 0),(7,.opt 4 0)],subO (srcB0 M D ps) (.box [bools hv]) (.box [iV 0]) (.box [.d (.v (.slice none 0 0))]) (.box [iV f]) (upN hv) (f + 1) (.lp .busy none #[25] cA cB (tmpsOf (srcEnv hv f) Tryz.f288.ntmps))⟩ ?wkf2 ?_
          case wkf2=>exact ⟨[0,1,2,3,4,5,6,7,8,9],rfl,rfl,rfl,(frz_rowJ (i:=10) (ver:=1) (n:=hv.length) (l:=(minusN hv s).map tD) rfl rfl (by rw [List.length_map,hmn])).symm,rfl,rfl,rfl,rfl,rfl,trivial⟩
          have hds:=hdecs s
          rw [hg] at hds
          (repeat' (first
           |(apply W.qd;(first
           |(exact zW (hds))|(exact zM)|(exact jAn)
           |(exact jBe)))|(apply yB)|(refine jAb ?_)|(apply yE)|(apply yH)|(apply yL)
           |(refine jAy ?_)))
          exact ⟨rfl,⟨[0,1,2,3,4,5,6,7,8,9],rfl,rfl,rfl,by (repeat (first | exact trivial | refine ⟨rfl,?_⟩))⟩⟩
       | false =>
         rw [if_neg (by decide)]
         refine YAt.ret (own1:=subO (srcB0 M D ps) (.box [bools hv]) (.box [iV f]) (.box [nats s]) (.box [iV f]) (upN hv) (f + 1) (.lp .busy none #[25] _ _ _)) (s2:=⟨(8,nats s) :: srcEnv hv f,_⟩) rfl rfl rfl rfl (fun g=>?_) rfl (fun g=>?_) rfl rfl
         ·refine AWP.toW ?_
          (repeat' (first
           |(apply W.qd;(exact zN))|(refine jAb ?_)
           |(apply yE)))
          exact ⟨rfl,⟨[0,1,2,3,4,5,6,7,8,9],rfl,rfl,rfl,by (repeat (first | exact trivial | refine ⟨rfl,?_⟩))⟩⟩
         ·refine AWP.toX ?_
          refine gen_entE (motive:=fun L=>AWPG (Ctx.round g) Tryz.prog Tryz.f288.ntmps 10 _ (fun e s9=>e = .ret ∧ Wk 10 s9 ⟨[],subO (srcB0 M D ps) (.box [bools hv]) (.box [iV f]) (.box [nats s]) (.box [iV f]) (upN hv) (f + 1) L⟩) ⟨(8,nats s) :: srcEnv hv f,subO (srcB0 M D ps) (.box [bools hv]) (.box [iV 0]) (.box [.d (.v (.slice none 0 0))]) (.box [iV f]) (upN hv) (f + 1) L⟩) _ fun L hL=>?_
          obtain ⟨cA,cB,hL⟩ : ∃ cA cB,L = .lp .busy none #[25] cA cB (tmpsOf (srcEnv hv f) Tryz.f288.ntmps):=⟨_,_,hL⟩
          subst hL
          have hms : (s.map kD).length = s.length:=List.length_map _
          (repeat' (first
           |(apply W.qd;(first
           |(exact zM)|(exact zN)|(exact jAg)
           |(exact jAt)))|(apply W.ed;(apply (e_callJ (js:=[]) (hcl));(iterate 5 exact rfl);kernel_rfl;kernel_rfl))|(apply yA)|(apply yB)|(refine jAb ?_)|(apply yE)
           |(apply yG)))
          refine AWP.loopW (α:=Nat) (fun j=>j ≤ s.length) (fun j=>⟨[(30,iV j),(29,iV s.length),(28,nats s),(9,.osl 10 1 0 hv.length),(8,nats s),(2,.opt 0 0),(4,.opt 2 0),(5,.opt 3 0),(7,.opt 4 0)],subO (srcB0 M D ps) (.box [bools hv]) (.box [iV 0]) (.box [.d (.v (.slice none 0 0))]) (.box [iV f]) (upN hv) (f + 1) (.lp .busy none #[25] cA cB (tmpsOf (srcEnv hv f) Tryz.f288.ntmps)) ++ [.row 1 1 4 ((minusN hv (s.take j)).map tD)]⟩) (fun j=>s.length - j) 0 (Nat.zero_le _) ?wkr3 fun j hj=>?_
          case wkr3=>exact ⟨[0,1,2,3,4,5,6,7,8,9,10],rfl,rfl,rfl,rfl,iV_eq (by rw [hms]),rfl,rfl,rfl,rfl,rfl,rfl,rfl,trivial⟩
          by_cases hjl : j < s.length
          ·have hu := hup s[j] (hs1.subset (List.getElem_mem hjl))
           have hmn:=minusN_length (s.take j) hv
           have hsn:=minusN_snoc hv (s.take j) s[j]
           rw [← List.take_succ_eq_append_getElem hjl] at hsn
           replace hsn:=Lib.hid hsn
           generalize minusN hv (s.take j) = A at *
           (repeat' (first
            |(apply W.qd;(first
            |(exact zM)|(exact zN)|(exact jAj)|(exact jAi)|(exact jAc)|(exact jA)
            |(exact jAf)))|(apply W.ln;(apply l_st_rpt;(iterate 7 exact rfl);exact fun _=>rfl;(first | omega | (focus (simp only [List.length_map];omega)) | (focus (simp;omega)))))|(apply yA)|(apply yB)|(refine jAb ?_)|(apply yE)|(apply yG)|(apply yH)|(apply yL)
            |(refine W.cond _ rfl (fun hb=>?_) (fun hb=>?_)<;>((try simp only [hb,zK])<;>(try simp only [zL,zI] at hb)<;>(try (exfalso;omega))))))
           refine ⟨j + 1,by omega,by omega,?_⟩
           rw [hsn.out]
           exact ⟨[0,1,2,3,4,5,6,7,8,9,10],rfl,rfl,rfl,iV_eq (by omega),rfl,rfl,rfl,rfl,rfl,rfl,rfl,rfl,trivial⟩
          have ejl : j = s.length:=by omega
          subst ejl
          rw [List.take_length]
          have hmn:=minusN_length s hv
          (repeat' (first
           |(apply W.qd;(exact jAj))|(apply yA)|(apply yB)|(apply (W.regionS 15);exact rfl;kernel_rfl)|(apply yE)|(apply yI)|(apply yK)|(apply yM)
           |(refine W.cond _ rfl (fun hb=>?_) (fun hb=>?_)<;>((try simp only [hb,zK])<;>(try simp only [zL,zI] at hb)<;>(try (exfalso;omega))))))
          refine AWP.wk ⟨[(9,bools (minusN hv s)),(8,nats s),(2,.opt 0 0),(4,.opt 2 0),(5,.opt 3 0),(7,.opt 4 0)],subO (srcB0 M D ps) (.box [bools hv]) (.box [iV 0]) (.box [.d (.v (.slice none 0 0))]) (.box [iV f]) (upN hv) (f + 1) (.lp .busy none #[25] cA cB (tmpsOf (srcEnv hv f) Tryz.f288.ntmps))⟩ ?wkf3 ?_
          case wkf3=>exact ⟨[0,1,2,3,4,5,6,7,8,9],rfl,rfl,rfl,(frz_rowJ (i:=10) (ver:=1) (n:=hv.length) (l:=(minusN hv s).map tD) rfl rfl (by rw [List.length_map,hmn])).symm,rfl,rfl,rfl,rfl,rfl,trivial⟩
          have hds:=hdecs s
          rw [hg] at hds
          (repeat' (first
           |(apply W.qd;(first
           |(exact zW (hds))|(exact zM)|(exact jAg)|(exact jAn)
           |(exact jBe)))|(apply W.ln;(exact jAh))|(apply yA)|(apply yB)|(refine jAb ?_)|(apply yE)|(apply yJ)|(apply yN)
           |(refine jAv ?_)))
          exact ⟨rfl,⟨[0,1,2,3,4,5,6,7,8,9],rfl,rfl,rfl,by (repeat (first | exact trivial | refine ⟨rfl,?_⟩))⟩⟩
      dsimp only
      (repeat' (first
       |(apply yJ)|(apply yP)
       |(apply yN)))
      exact ⟨.inl rfl,[],[iV f,nats s0],rfl,⟨⟨2,[iV f],false,rfl,rfl,rfl,rfl⟩,⟨3,[nats s0],false,rfl,rfl,rfl,rfl⟩,trivial⟩,AVle.tup2 (AVle.refl _) (AVle.anyS _ _),rfl⟩
   ·have e4 : f = 4 := by omega
    subst e4
    have hn : (List.range 4).find? (badN dec hv) = none:=by
     rw [List.find?_eq_none]
     intro g hg
     rw [hf.2 g (List.mem_range.1 hg)];decide
    rw [hn] at hR
    obtain rfl : 4 = R:=hR
    (repeat' (first
     |(apply W.qd;(exact jAj))|(apply W.ln;(exact jAh))|(apply yA)|(apply yB)|(refine jAb ?_)|(apply yE)|(apply yI)|(apply yJ)|(apply yK)|(apply yM)
     |(refine jAy ?_)))
    exact ⟨.inl rfl,[],[iV 4,.d (.v (.slice none 0 0))],rfl,⟨⟨2,[iV 4],false,rfl,rfl,rfl,rfl⟩,⟨3,[.d (.v (.slice none 0 0))],false,rfl,rfl,rfl,rfl⟩,trivial⟩,AVle.tup2 (AVle.refl _) (AVle.anyV rfl),rfl⟩
end
section
theorem seg_get (l us : List Value) (o x : Nat) (h : o + us.length ≤ l.length) : (l.take o ++ us ++ l.drop (o + us.length))[x]? = if o ≤ x ∧ x < o + us.length then us[x - o]? else l[x]?:=by
 have ht : (l.take o).length = o:=by rw [List.length_take];omega
 by_cases h1 : x < o
 ·rw [if_neg (by omega),List.append_assoc,List.getElem?_append_left (by omega),List.getElem?_take,if_pos h1]
 ·by_cases h2 : x < o + us.length
  ·rw [if_pos ⟨by omega,h2⟩,List.append_assoc,List.getElem?_append_right (by omega),ht,List.getElem?_append_left (by omega)]
  ·rw [if_neg (by omega), List.getElem?_append_right (by rw [List.length_append, ht]; omega), List.length_append, ht, List.getElem?_drop]
   congr 1
   omega
theorem setK_same {κ : List (Option Nat)} {i : Nat} {og : Option Nat} (h : κ[i]? = some og) : κ.set i og = κ:=List.ext_getElem? fun j=>by
 by_cases hj : j = i
 ·subst hj;rw [List.getElem?_set_self (List.getElem?_eq_some_iff.1 h).1,h]
 ·rw [List.getElem?_set_ne (Ne.symm hj)]
theorem row_put {F : Nat → Prop} {κ : List (Option Nat)} {w : World} {m : Nat} {own : List Ent} {i ver sz g : Nat} {e : TypeId} {l l' : List (List Dat)} {cur cur' : Array Value} (ho : OwnSat F own κ w) (hi : own[i]? = some (.row ver sz e l)) (h3 : κ[i]? = some (some g)) (h5 : w.heap[g]? = some (.cells cur e (0, 0))) (h0 : 0 < sz) (hs : cur'.size = cur.size) (hl : l'.length = l.length) (h6 : l.length * sz ≤ cur.size)
 (hr : ∀ j e',l'[j]? = some e' → e'.length = sz ∧ ∀ q y,e'[q]? = some y → ∃ u,cur'[j * sz + q]? = some u ∧ u.oneCell' = true ∧ Dat.sat (badK F κ) w y u) :
 OwnSat F (own.set i (.row ver sz e l')) κ (w.setRow g cur') ∧ Tr F m own κ w (own.set i (.row ver sz e l')) κ (w.setRow g cur'):=by
 have hrow:=setRow_heap w g cur cur' e (0,0) h5
 have key:=step_upd (m:=m) (x':=.row ver sz e l') (og:=some g) (og':=some g) (w':=w.setRow g cur') ho hi h3 rfl rfl rfl (by simp [World.setRow]) (fun b hb hne=>by
  simp only [World.setRow,Array.getElem?_modify]
  rw [if_neg (fun e=>hne (by rw [e]))]) (.inl rfl) (.inr rfl) (.inr ⟨rfl,rfl,rfl,hl.symm,rfl,fun g' hg' cur2 t' fz' hcur'=>by
   obtain rfl : g = g':=by simpa using hg'
   rw [h5] at hcur'
   obtain ⟨rfl,rfl,rfl⟩ : cur = cur2 ∧ e = t' ∧ (0,0) = fz':=by simpa using hcur'
   exact ⟨_,_,_,hrow,hs.symm⟩⟩) (fun hst=>⟨h0,.inr ⟨g,rfl,_,hrow,by rw [hl,hs];exact h6,by
    rw [Dat.rowsSat_iff]
    intro j' e' hj'
    obtain ⟨h8,h9⟩:=hr j' e' hj'
    refine ⟨h8,?_⟩
    rw [Dat.rowSat_iff]
    intro q y hq
    obtain ⟨u,q1,q2,q3⟩:=h9 q y hq
    refine ⟨u,?_,q2,Dat.sat_wide hst.wide y q3⟩
    rw [cell_of_row _ g _ _ e (0,0) hrow,Nat.zero_add]
    exact q1⟩⟩)
 rw [setK_same h3] at key
 exact key
theorem row_cells {F : Nat → Prop} {κ : List (Option Nat)} {w : World} {own : List Ent} {i ver sz g : Nat} {e : TypeId} {l : List (List Dat)} (ho : OwnSat F own κ w) (hi : own[i]? = some (.row ver sz e l)) (h3 : κ[i]? = some (some g)) :
 0 < sz ∧ ∃ cur,w.heap[g]? = some (.cells cur e (0,0)) ∧ l.length * sz ≤ cur.size ∧ ∀ j e',l[j]? = some e' → e'.length = sz ∧ ∀ q y,e'[q]? = some y → ∃ u,cur[j * sz + q]? = some u ∧ u.oneCell' = true ∧ Dat.sat (badK F κ) w y u:=by
 obtain ⟨h0,hent⟩:=ho.ent i _ hi
 rw [getD_some h3] at hent
 rcases hent with ⟨hxx,_⟩ | ⟨g',hg',cur,h5,h6,h7⟩
 ·cases hxx
 ·obtain rfl : g = g' := by simpa using hg'
  refine ⟨h0,cur,h5,h6,fun j e' hj=>?_⟩
  rw [Dat.rowsSat_iff] at h7
  obtain ⟨h8,h9⟩:=h7 j e' hj
  refine ⟨h8,fun q y hq=>?_⟩
  rw [Dat.rowSat_iff] at h9
  obtain ⟨u,q1,q2,q3⟩:=h9 q y hq
  rw [cell_of_row w g _ cur e (0,0) h5,Nat.zero_add] at q1
  exact ⟨u,q1,q2,q3⟩
theorem row1_vals {B : Nat → Prop} {w : World} {b o : Nat} {s : List (List Dat)} (h : Dat.rowsSat B w b 1 o s) : ∃ us : List Value,us.length = s.length ∧ (∀ (j : Nat) (u : Value),us[j]? = some u → w.cell? ⟨b,o + j,none⟩ = some u) ∧ ∀ (j : Nat) (e' : List Dat),s[j]? = some e' → e'.length = 1 ∧ ∀ y,e'[0]? = some y → ∃ u,us[j]? = some u ∧ u.oneCell' = true ∧ Dat.sat B w y u:=by
 rw [Dat.rowsSat_iff] at h
 have each : ∀ (j : Nat) (e' : List Dat),s[j]? = some e' → e'.length = 1 ∧ ∀ y,e'[0]? = some y → ∃ u,w.cell? ⟨b,o + j,none⟩ = some u ∧ u.oneCell' = true ∧ Dat.sat B w y u:=fun j e' hj=>by
  obtain ⟨h8,h9⟩:=h j e' hj
  refine ⟨h8,fun y hy=>?_⟩
  rw [Dat.rowSat_iff] at h9
  have:=h9 0 y hy
  rwa [Nat.mul_one,Nat.add_zero] at this
 refine ⟨(List.range s.length).map fun i=>((w.cell? ⟨b,o + i,none⟩).getD undef),by simp,fun j u hu=>?_,fun j e' hj=>?_⟩
 ·have hlt : j < s.length := by have := (List.getElem?_eq_some_iff.1 hu).1; simpa using this
  obtain ⟨h8,h9⟩:=each j _ (List.getElem?_eq_getElem hlt)
  obtain ⟨u',q1,_,_⟩:=h9 _ (List.getElem?_eq_getElem (by omega))
  rw [List.getElem?_map,List.getElem?_range hlt] at hu
  simp only [Option.map_some,q1,Option.getD_some,Option.some.injEq] at hu
  subst hu;exact q1
 ·have hlt : j < s.length := (List.getElem?_eq_some_iff.1 hj).1
  obtain ⟨h8,h9⟩:=each j e' hj
  refine ⟨h8,fun y hy=>?_⟩
  obtain ⟨u,q1,q2,q3⟩:=h9 y hy
  exact ⟨u,by rw [List.getElem?_map,List.getElem?_range hlt];simp [q1],q2,q3⟩
theorem vals1_one {B : Nat → Prop} {w : World} {s : List (List Dat)} {us : List Value} (hl : us.length = s.length) (h : ∀ (j : Nat) (e' : List Dat),s[j]? = some e' → e'.length = 1 ∧ ∀ y,e'[0]? = some y → ∃ u,us[j]? = some u ∧ u.oneCell' = true ∧ Dat.sat B w y u) : ∀ u ∈ us,u.oneCell' = true:=fun u hu=>by
 obtain ⟨j,hj⟩:=List.mem_iff_getElem?.1 hu
 have hlt : j < s.length:=by rw [← hl];exact (List.getElem?_eq_some_iff.1 hj).1
 obtain ⟨h8,h9⟩:=h j _ (List.getElem?_eq_getElem hlt)
 obtain ⟨u',q1,q2,_⟩:=h9 _ (List.getElem?_eq_getElem (by omega))
 rw [hj] at q1
 obtain rfl : u = u':=by simpa using q1
 exact q2
theorem idx_ne {j j' q o sz : Nat} (hq : q < sz) (ho : o < sz) (h : j' ≠ j) : ¬ (j * sz ≤ j' * sz + q ∧ j' * sz + q < j * sz + sz):=fun ⟨a,b⟩=>by
 rcases Nat.lt_or_gt_of_ne h with h1 | h1
 ·have := Nat.mul_le_mul_right sz (show j' + 1 ≤ j from h1)
  rw [Nat.succ_mul] at this;omega
 ·have := Nat.mul_le_mul_right sz (show j + 1 ≤ j' from h1)
  rw [Nat.succ_mul] at this;omega
section
variable {P : Program} {m : Nat} {env : List (Nat × AV)} {own : List Ent} {dst : Option Tmp} {ty : TypeId} {pos : String} {af : Array Edge} {gd : Option (Nat × Bool)}
theorem e_st_rpts {t : TypeId} {k : Nat} {b : Bool} {x y : Operand} {i ver j sz : Nat} {e : TypeId} {l : List (List Dat)} {ds : List Dat} {own' : List Ent} (hx : lookO env x = .rpt i ver j 0) (hi : own[i]? = some (.row ver sz e l)) (ht : tyInfo P t = some (b, k)) (hk : k = sz) (hy : cellsD (lookO env y) = some ds) (hds : ds.length = sz) (h1 : ds.all (fun d => oneA (.d d)) = true) (ho' : setF own i (.row ver sz e (l.set j ds)) = some own') :
 Eff P m ⟨dst,.store t x y,ty,pos,af,gd⟩ env own [i] (.d (.v undef)) own':=by
 rw [setF_spec ho']
 exact Eff.mk (set_same _ i) fun F κ a w hs ho hm=>by
  subst hk
  have hx1:=hs x (by simp [Op.operands]);rw [hx,AV.sat] at hx1
  have hy1:=hs y (by simp [Op.operands])
  obtain ⟨hcA,hok⟩:=cellsD_A hy
  have hcs:=cellsA_sat hcA hy1 hok
  have hcl:=satL_length hcs
  obtain ⟨hj,g,h3,h4⟩:=hx1.2 k e l hi
  obtain ⟨h0,cur,h5,h6,h7⟩:=row_cells ho hi h3
  have hvn : (a.eval y).cells.size = k:=by
   rw [List.length_map,hds] at hcl
   rw [← Array.length_toList];exact hcl.symm
  have hvl : (a.eval y).cells.toList.length = k:=by rw [Array.length_toList];exact hvn
  have hus : ∀ q d,ds[q]? = some d → ∃ u,(a.eval y).cells.toList[q]? = some u ∧ u.oneCell' = true ∧ Dat.sat (badK F κ) w d u:=fun q d hq=>by
   obtain ⟨u,q1,q2⟩:=satL_get hcs q (.d d) (by rw [List.getElem?_map,hq];rfl)
   have q3:=List.all_eq_true.1 h1 d (List.mem_of_getElem? hq)
   refine ⟨u,q1,one_of_cellsA q3 q2,?_⟩
   rw [AV.sat] at q2;exact q2
  have hone : ∀ u ∈ (a.eval y).cells.toList,u.oneCell' = true:=fun u hu=>by
   obtain ⟨q,hq⟩:=List.mem_iff_getElem?.1 hu
   have hlt : q < ds.length:=by have:=(List.getElem?_eq_some_iff.1 hq).1;omega
   obtain ⟨u',q1,q2,_⟩:=hus q _ (List.getElem?_eq_getElem hlt)
   rw [hq] at q1
   obtain rfl : u = u':=by simpa using q1
   exact q2
  have hjk : j * k + k ≤ l.length * k:=by
   have:=Nat.mul_le_mul_right k (show j + 1 ≤ l.length from hj)
   rw [Nat.succ_mul] at this;omega
  have hrun : (execOp a.eval ⟨dst,.store t x y,ty,pos,af,gd⟩).run P w = .ok .skip (w.setRow g (cur.toList.take (j * k) ++ (a.eval y).cells.toList ++ cur.toList.drop (j * k + (a.eval y).cells.toList.length)).toArray):=by
   have:=run_storeAt (P:=P) ht h5 (.inl rfl) (v:=a.eval y) (o:=j * k) hvn (by omega) hone
   rw [Nat.add_zero] at h4
   exact exec_u (by rw [h4];exact this)
  rw [hrun]
  have hcs2 : cur.toList.length = cur.size:=Array.length_toList
  obtain ⟨r1,r2⟩:=row_put (m:=m) (cur':=(cur.toList.take (j * k) ++ (a.eval y).cells.toList ++ cur.toList.drop (j * k + (a.eval y).cells.toList.length)).toArray) (l':=l.set j ds) ho hi h3 h5 h0 (by simp;omega) (by simp) h6 (fun j' e' hj'=>by
   have hget : ∀ x,(cur.toList.take (j * k) ++ (a.eval y).cells.toList ++ cur.toList.drop (j * k + (a.eval y).cells.toList.length)).toArray[x]? = if j * k ≤ x ∧ x < j * k + k then (a.eval y).cells.toList[x - j * k]? else cur[x]?:=fun x=>by
    have ec : cur.toList[x]? = cur[x]?:=Array.getElem?_toList
    rw [List.getElem?_toArray,seg_get _ _ _ _ (by omega),hvl,ec]
   by_cases hjj : j' = j
   ·subst hjj
    rw [List.getElem?_set_self hj] at hj'
    obtain rfl : ds = e':=by simpa using hj'
    refine ⟨hds,fun q y' hq=>?_⟩
    have hql : q < k:=by have:=(List.getElem?_eq_some_iff.1 hq).1;omega
    obtain ⟨u,q1,q2,q3⟩:=hus q y' hq
    refine ⟨u,?_,q2,q3⟩
    rw [hget,if_pos ⟨by omega,by omega⟩,show j' * k + q - j' * k = q by omega]
    exact q1
   ·rw [List.getElem?_set_ne (Ne.symm hjj)] at hj'
    obtain ⟨h8,h9⟩:=h7 j' e' hj'
    refine ⟨h8,fun q y' hq=>?_⟩
    have hql : q < k:=by have:=(List.getElem?_eq_some_iff.1 hq).1;omega
    obtain ⟨u,q1,q2,q3⟩:=h9 q y' hq
    exact ⟨u,by rw [hget,if_neg (idx_ne hql h0 hjj)];exact q1,q2,q3⟩)
  exact ⟨κ,by rw [AV.sat,Dat.sat],r1,r2⟩
theorem e_st_rptM {α : Type} {f : α → List Dat} {l : List α} {t : TypeId} {k : Nat} {b : Bool} {x y : Operand} {i ver j sz : Nat} {e : TypeId} {ds : List Dat} {own' : List Ent} (v : α) (hx : lookO env x = .rpt i ver j 0) (hi : own[i]? = some (.row ver sz e (l.map f))) (ht : tyInfo P t = some (b, k)) (hk : k = sz) (hy : cellsD (lookO env y) = some ds) (hv : f v = ds) (hds : (f v).length = sz) (h1 : (f v).all (fun d => oneA (.d d)) = true) (ho' : setF own i (.row ver sz e ((l.set j v).map f)) = some own') :
 Eff P m ⟨dst,.store t x y,ty,pos,af,gd⟩ env own [i] (.d (.v undef)) own':=by
 subst hv
 refine e_st_rpts hx hi ht hk hy hds h1 ?_
 rw [List.map_set] at ho'
 exact ho'
theorem sat_slice_own {F : Nat → Prop} {κ : List (Option Nat)} {w : World} {p ver q n sz : Nat} {e : TypeId} {l : List (List Dat)} {u : Value} (hp : own[p]? = some (.row ver sz e l)) (h : AV.sat F own κ w (.osl p ver q n) u) (hn : 0 < n) : q + n ≤ l.length ∧ ∃ g c,κ[p]? = some (some g) ∧ u = .slice (some ⟨g,q * sz,none⟩) n c:=by
 rw [AV.sat] at h
 obtain ⟨h1,A,c,h2,h3,h4,h5⟩:=h.2 sz e l hp
 rcases h5 (.inl hn) with ⟨g,g1,rfl,_⟩ | ⟨_,_,hc⟩
 ·exact ⟨h1,g,c,g1,h2⟩
 ·omega
theorem copy_fin {F : Nat → Prop} {κ : List (Option Nat)} {w : World} {p ver q n k g : Nat} {e : TypeId} {l s : List (List Dat)} {cs : List Value} {cur : Array Value} (ho : OwnSat F own κ w) (hp : own[p]? = some (.row ver 1 e l)) (hg : κ[p]? = some (some g)) (h5 : w.heap[g]? = some (.cells cur e (0, 0))) (hqn : q + n ≤ l.length) (hk : k ≤ n) (hks : k ≤ s.length) (hcs : cs.length = k)
 (hv : ∀ j e',s[j]? = some e' → j < k → e'.length = 1 ∧ ∀ y,e'[0]? = some y → ∃ u,cs[j]? = some u ∧ u.oneCell' = true ∧ Dat.sat (badK F κ) w y u) :
 OwnSat F (own.set p (.row ver 1 e (l.take q ++ s.take k ++ l.drop (q + k)))) κ (w.setRow g (cur.toList.take q ++ cs ++ cur.toList.drop (q + cs.length)).toArray) ∧ Tr F m own κ w (own.set p (.row ver 1 e (l.take q ++ s.take k ++ l.drop (q + k)))) κ (w.setRow g (cur.toList.take q ++ cs ++ cur.toList.drop (q + cs.length)).toArray):=by
 obtain ⟨h0,cur2,h5',h6,h7⟩:=row_cells ho hp hg
 obtain rfl : cur = cur2:=by rw [h5] at h5';simpa using h5'
 have hcl : cur.toList.length = cur.size:=Array.length_toList
 rw [Nat.mul_one] at h6
 have hlt : (l.take q).length = q:=by rw [List.length_take];omega
 have hls : (s.take k).length = k:=by rw [List.length_take];omega
 refine row_put (l':=l.take q ++ s.take k ++ l.drop (q + k)) ho hp hg h5 h0 (by simp;omega) (by simp;omega) (by rw [Nat.mul_one];exact h6) fun j e' hj=>?_
 have hget : ∀ x,(cur.toList.take q ++ cs ++ cur.toList.drop (q + cs.length)).toArray[x]? = if q ≤ x ∧ x < q + k then cs[x - q]? else cur[x]?:=fun x=>by
  have ec : cur.toList[x]? = cur[x]?:=Array.getElem?_toList
  rw [List.getElem?_toArray,seg_get _ _ _ _ (by omega),hcs,ec]
 have old : ∀ j' e2,l[j']? = some e2 → ¬ (q ≤ j' ∧ j' < q + k) → e2.length = 1 ∧ ∀ q' y,e2[q']? = some y → ∃ u,(cur.toList.take q ++ cs ++ cur.toList.drop (q + cs.length)).toArray[j' * 1 + q']? = some u ∧ u.oneCell' = true ∧ Dat.sat (badK F κ) w y u:=fun j' e2 h hn=>by
  obtain ⟨h8,h9⟩:=h7 j' e2 h
  refine ⟨h8,fun q' y hq=>?_⟩
  have hq0 : q' = 0:=by have:=(List.getElem?_eq_some_iff.1 hq).1;omega
  subst hq0
  obtain ⟨u,q1,q2,q3⟩:=h9 0 y hq
  refine ⟨u,?_,q2,q3⟩
  rw [hget,if_neg (by omega)];exact q1
 by_cases h1 : j < q
 ·rw [List.append_assoc, List.getElem?_append_left (by omega), List.getElem?_take, if_pos h1] at hj
  exact old j e' hj (by omega)
 ·by_cases h2 : j < q + k
  ·rw [List.append_assoc, List.getElem?_append_right (by omega), hlt, List.getElem?_append_left (by omega), List.getElem?_take, if_pos (by omega)] at hj
   obtain ⟨h8,h9⟩:=hv _ _ hj (by omega)
   refine ⟨h8,fun q' y hq=>?_⟩
   have hq0 : q' = 0:=by have:=(List.getElem?_eq_some_iff.1 hq).1;omega
   subst hq0
   obtain ⟨u,q1,q2,q3⟩:=h9 y hq
   refine ⟨u,?_,q2,q3⟩
   rw [hget,Nat.mul_one,Nat.add_zero,if_pos ⟨by omega,h2⟩];exact q1
  ·rw [List.getElem?_append_right (by rw [List.length_append]; omega), List.length_append, hlt, hls, List.getElem?_drop, show q + k + (j - (q + k)) = j by omega] at hj
   exact old j e' hj (by omega)
theorem info_one {t e : TypeId} {by' : Nat} {z : Value} (ht : slInfo P t = some (e,1,by',z)) : P.underlying t = some (.slice e) ∧ (P.info? e).map (·.size) = some 1:=by
 obtain ⟨h1,i,h2,h3,_⟩:=slInfo_spec ht
 exact ⟨h1,by rw [h2];simp [h3]⟩
theorem e_copyD {t t2 e e' : TypeId} {by' : Nat} {z : Value} {x y : Operand} {p ver q n : Nat} {l s : List (List Dat)} {own' : List Ent} (k : Nat) (hx : lookO env x = .osl p ver q n) (hp : own[p]? = some (.row ver 1 e l)) (hy : lookO env y = .d (.sl 1 s)) (ht : slInfo P t = some (e', 1, by', z)) (hk : k = min s.length n) (h0 : 0 < k) (ho' : setF own p (.row ver 1 e (l.take q ++ s.take k ++ l.drop (q + k))) = some own') :
 Eff P m ⟨dst,.call ⟨.builtin .copy,#[x,y],#[t,t2]⟩,ty,pos,af,gd⟩ env own [p] (iV k) own':=by
 rw [setF_spec ho']
 exact Eff.mk (set_same _ p) fun F κ a w hs ho hm=>by
  have hx1:=hs x (by simp [Op.operands,Call.operands]);rw [hx] at hx1
  have hy1:=hs y (by simp [Op.operands,Call.operands]);rw [hy,AV.sat,Dat.sat] at hy1
  obtain ⟨h1,g,c,hg,hxv⟩:=sat_slice_own hp hx1 (by omega)
  obtain ⟨A,c2,hyv,_,_,h4⟩:=hy1
  obtain ⟨b,o,rfl,hb1,hb2,hb3⟩:=h4 (by omega)
  obtain ⟨h00,cur,h5,h6,h7⟩:=row_cells ho hp hg
  obtain ⟨us,hul,hv2,hv1⟩:=row1_vals hb3
  obtain ⟨hu,hsz⟩:=info_one ht
  rw [Nat.mul_one] at hxv
  have hct : (us.take k).length = k:=by rw [List.length_take];omega
  have hrun:=run_copy_row (P:=P) w t t2 ty e' g q n c ⟨b,o,none⟩ s.length c2 cur e (us.take k) hu hsz h5 (by rw [hct,hk]) (fun j v hj=>by
   rw [List.getElem?_take] at hj
   split at hj
   ·rw [add_none];exact hv2 j v hj
   ·cases hj) (by rw [hct];omega) (fun v hv=>vals1_one hul hv1 v (List.mem_of_mem_take hv))
  have hex : (execOp a.eval ⟨dst,.call ⟨.builtin .copy,#[x,y],#[t,t2]⟩,ty,pos,af,gd⟩).run P w = .ok (.value (goInt k)) (w.setRow g (cur.toList.take q ++ us.take k ++ cur.toList.drop (q + (us.take k).length)).toArray):=by
   rw [exec_builtin]
   simp only [builtin,List.map_toArray,List.map_cons,List.map_nil]
   rw [hxv,hyv]
   have:=exec_v hrun
   rw [hct] at this ⊢
   exact this
  rw [hex]
  obtain ⟨r1,r2⟩:=copy_fin (m:=m) (n:=n) (s:=s) ho hp hg h5 h1 (by omega) (by omega) hct (fun j e2 hj hjk=>by
   obtain ⟨h8,h9⟩:=hv1 j e2 hj
   refine ⟨h8,fun y2 hy2=>?_⟩
   obtain ⟨u,q1,q2,q3⟩:=h9 y2 hy2
   exact ⟨u,by rw [List.getElem?_take,if_pos hjk];exact q1,q2,q3⟩)
  exact ⟨κ,by rw [AV.sat,Dat.sat];rfl,r1,r2⟩
theorem e_copyO {t t2 e e' : TypeId} {by' : Nat} {z : Value} {x y : Operand} {p ver q n q2 n2 : Nat} {l : List (List Dat)} {own' : List Ent} (k : Nat) (hx : lookO env x = .osl p ver q n) (hp : own[p]? = some (.row ver 1 e l)) (hy : lookO env y = .osl p ver q2 n2) (ht : slInfo P t = some (e', 1, by', z)) (hk : k = min n2 n) (h0 : 0 < k) (ho' : setF own p (.row ver 1 e (l.take q ++ (l.drop q2).take k ++ l.drop (q + k))) = some own') :
 Eff P m ⟨dst,.call ⟨.builtin .copy,#[x,y],#[t,t2]⟩,ty,pos,af,gd⟩ env own [p] (iV k) own':=by
 rw [setF_spec ho']
 exact Eff.mk (set_same _ p) fun F κ a w hs ho hm=>by
  have hx1:=hs x (by simp [Op.operands,Call.operands]);rw [hx] at hx1
  have hy1:=hs y (by simp [Op.operands,Call.operands]);rw [hy] at hy1
  obtain ⟨h1,g,c,hg,hxv⟩:=sat_slice_own hp hx1 (by omega)
  obtain ⟨h2,g2,c2,hg2,hyv⟩:=sat_slice_own hp hy1 (by omega)
  obtain rfl : g = g2:=by rw [hg] at hg2;simpa using hg2
  obtain ⟨h00,cur,h5,h6,h7⟩:=row_cells ho hp hg
  rw [Nat.mul_one] at h6
  obtain ⟨hu,hsz⟩:=info_one ht
  rw [Nat.mul_one] at hxv hyv
  have hcl : cur.toList.length = cur.size:=Array.length_toList
  have hct : ((cur.toList.drop q2).take k).length = k:=by rw [List.length_take,List.length_drop];omega
  have hgc : ∀ j u,((cur.toList.drop q2).take k)[j]? = some u → cur[q2 + j]? = some u:=fun j u hj=>by
   rw [List.getElem?_take] at hj
   split at hj
   ·rw [List.getElem?_drop] at hj
    have ec : cur.toList[q2 + j]? = cur[q2 + j]?:=Array.getElem?_toList
    rw [← ec];exact hj
   ·cases hj
  have hv : ∀ (j : Nat) (e2 : List Dat),(l.drop q2)[j]? = some e2 → j < k → e2.length = 1 ∧ ∀ y2,e2[0]? = some y2 → ∃ u,((cur.toList.drop q2).take k)[j]? = some u ∧ u.oneCell' = true ∧ Dat.sat (badK F κ) w y2 u:=fun j e2 hj hjk=>by
   rw [List.getElem?_drop] at hj
   obtain ⟨h8,h9⟩:=h7 _ e2 hj
   refine ⟨h8,fun y2 hy2=>?_⟩
   obtain ⟨u,q1,q3,q4⟩:=h9 0 y2 hy2
   rw [Nat.mul_one,Nat.add_zero] at q1
   have ec : cur.toList[q2 + j]? = cur[q2 + j]?:=Array.getElem?_toList
   exact ⟨u,by rw [List.getElem?_take,if_pos hjk,List.getElem?_drop,ec];exact q1,q3,q4⟩
  have hone : ∀ v ∈ (cur.toList.drop q2).take k,v.oneCell' = true:=fun v hvm=>by
   obtain ⟨j,hj⟩:=List.mem_iff_getElem?.1 hvm
   have hjk : j < k:=by have:=(List.getElem?_eq_some_iff.1 hj).1;omega
   obtain ⟨h8,h9⟩:=hv j _ (List.getElem?_eq_getElem (show j < (l.drop q2).length by rw [List.length_drop];omega)) hjk
   obtain ⟨u,q1,q3,_⟩:=h9 _ (List.getElem?_eq_getElem (by omega))
   rw [hj] at q1
   obtain rfl : v = u:=by simpa using q1
   exact q3
  have hrun:=run_copy_row (P:=P) w t t2 ty e' g q n c ⟨g,q2,none⟩ n2 c2 cur e ((cur.toList.drop q2).take k) hu hsz h5 (by rw [hct,hk]) (fun j v hj=>by
   rw [add_none,cell_of_row w g _ cur e (0,0) h5]
   exact hgc j v hj) (by rw [hct];omega) hone
  have hex : (execOp a.eval ⟨dst,.call ⟨.builtin .copy,#[x,y],#[t,t2]⟩,ty,pos,af,gd⟩).run P w = .ok (.value (goInt k)) (w.setRow g (cur.toList.take q ++ (cur.toList.drop q2).take k ++ cur.toList.drop (q + ((cur.toList.drop q2).take k).length)).toArray):=by
   rw [exec_builtin]
   simp only [builtin,List.map_toArray,List.map_cons,List.map_nil]
   rw [hxv,hyv]
   have:=exec_v hrun
   rw [hct] at this ⊢
   exact this
  rw [hex]
  obtain ⟨r1,r2⟩:=copy_fin (m:=m) (n:=n) (s:=l.drop q2) ho hp hg h5 h1 (by omega) (by rw [List.length_drop];omega) hct hv
  exact ⟨κ,by rw [AV.sat,Dat.sat];rfl,r1,r2⟩
theorem e_copyDm {t t2 e e' : TypeId} {by' : Nat} {z : Value} {x y : Operand} {p ver q n : Nat} {l s l' : List (List Dat)} {own' : List Ent} (k : Nat) (hx : lookO env x = .osl p ver q n) (hp : own[p]? = some (.row ver 1 e l)) (hy : lookO env y = .d (.sl 1 s)) (ht : slInfo P t = some (e', 1, by', z)) (hk : k = min s.length n) (h0 : 0 < k) (hl : l.take q ++ s.take k ++ l.drop (q + k) = l') (ho' : setF own p (.row ver 1 e l') = some own') :
 Eff P m ⟨dst,.call ⟨.builtin .copy,#[x,y],#[t,t2]⟩,ty,pos,af,gd⟩ env own [p] (iV k) own':=by
 subst hl
 exact e_copyD k hx hp hy ht hk h0 ho'
theorem e_copyOm {t t2 e e' : TypeId} {by' : Nat} {z : Value} {x y : Operand} {p ver q n q2 n2 : Nat} {l l' : List (List Dat)} {own' : List Ent} (k : Nat) (hx : lookO env x = .osl p ver q n) (hp : own[p]? = some (.row ver 1 e l)) (hy : lookO env y = .osl p ver q2 n2) (ht : slInfo P t = some (e', 1, by', z)) (hk : k = min n2 n) (h0 : 0 < k) (hl : l.take q ++ (l.drop q2).take k ++ l.drop (q + k) = l') (ho' : setF own p (.row ver 1 e l') = some own') :
 Eff P m ⟨dst,.call ⟨.builtin .copy,#[x,y],#[t,t2]⟩,ty,pos,af,gd⟩ env own [p] (iV k) own':=by
 subst hl
 exact e_copyO k hx hp hy ht hk h0 ho'
end
end
section
open Go.Shelf Go.RowKit
def layRepeat_ren : Go.Shelf.Ren:=⟨fun | 105=>79 | 212=>134 | 99=>135 | 165=>136 | 166=>137 | 170=>138 | 169=>139 | 263=>196 | 264=>197 | 206=>198 | 240=>199 | 241=>200 | 276=>246 | 277=>247 | n=>n,fun | 9=>9 | 3=>3 | 4=>4 | 20=>20 | 0=>0 | 46=>200 | 109=>225 | 5=>5 | 72=>230 | 76=>234 | 51=>192 | 146=>275 | 53=>277 | 148=>278 | 70=>228 | 37=>44 | 75=>233 | 127=>280 | 164=>304 | 80=>237 | n=>n,fun | n=>n⟩
theorem layRepeat : Go.Proofs.Lays.n105 Tryz.prog layRepeat_ren := {
 mixed:=by kernel_rfl
 f99:=Tryz.func135.trans (congrArg some (by kernel_rfl))
 f105:=Tryz.func79.trans (congrArg some (by kernel_rfl))
 f165:=Tryz.func136.trans (congrArg some (by kernel_rfl))
 f166:=Tryz.func137.trans (congrArg some (by kernel_rfl))
 f169:=Tryz.func139.trans (congrArg some (by kernel_rfl))
 f170:=Tryz.func138.trans (congrArg some (by kernel_rfl))
 f206:=Tryz.func198.trans (congrArg some (by kernel_rfl))
 f212:=Tryz.func134.trans (congrArg some (by kernel_rfl))
 f240:=Tryz.func199.trans (congrArg some (by kernel_rfl))
 f241:=Tryz.func200.trans (congrArg some (by kernel_rfl))
 f263:=Tryz.func196.trans (congrArg some (by kernel_rfl))
 f264:=Tryz.func197.trans (congrArg some (by kernel_rfl))
 f276:=Tryz.func246.trans (congrArg some (by kernel_rfl))
 f277:=Tryz.func247.trans (congrArg some (by kernel_rfl))
 t0:=Tryz.underlying0
 a0:=Tryz.isAgg0
 z0:=Tryz.sizeOf0
 v0:=Tryz.zeroValue0
 t3:=Tryz.underlying3
 a3:=Tryz.isAgg3
 z3:=Tryz.sizeOf3
 v3:=Tryz.zeroValue3
 t4:=Tryz.underlying4
 a4:=Tryz.isAgg4
 z4:=Tryz.sizeOf4
 v4:=Tryz.zeroValue4
 t5:=Tryz.underlying5
 a5:=Tryz.isAgg5
 z5:=Tryz.sizeOf5
 v5:=Tryz.zeroValue5
 t9:=Tryz.underlying9
 a9:=Tryz.isAgg9
 z9:=Tryz.sizeOf9
 v9:=Tryz.zeroValue9
 t20:=Tryz.underlying20
 a20:=Tryz.isAgg20
 z20:=Tryz.sizeOf20
 v20:=Tryz.zeroValue20
 t37:=Tryz.underlying44
 a37:=Tryz.isAgg44
 z37:=Tryz.sizeOf44
 v37:=Tryz.zeroValue44
 t46:=Tryz.underlying200
 a46:=Tryz.isAgg200
 z46:=Tryz.sizeOf200
 v46:=Tryz.zeroValue200
 t51:=Tryz.underlying192
 a51:=Tryz.isAgg192
 z51:=Tryz.sizeOf192
 v51:=Tryz.zeroValue192
 t53:=Tryz.underlying277
 a53:=Tryz.isAgg277
 z53:=Tryz.sizeOf277
 v53:=Tryz.zeroValue277
 t70:=Tryz.underlying228
 a70:=Tryz.isAgg228
 z70:=Tryz.sizeOf228
 v70:=Tryz.zeroValue228
 t72:=Tryz.underlying230
 a72:=Tryz.isAgg230
 z72:=Tryz.sizeOf230
 v72:=Tryz.zeroValue230
 t75:=Tryz.underlying233
 a75:=Tryz.isAgg233
 z75:=Tryz.sizeOf233
 v75:=Tryz.zeroValue233
 t76:=Tryz.underlying234
 a76:=Tryz.isAgg234
 z76:=Tryz.sizeOf234
 v76:=Tryz.zeroValue234
 t109:=Tryz.underlying225
 a109:=Tryz.isAgg225
 z109:=Tryz.sizeOf225
 v109:=Tryz.zeroValue225
 t127:=Tryz.underlying280
 a127:=Tryz.isAgg280
 z127:=Tryz.sizeOf280
 v127:=Tryz.zeroValue280
 t146:=Tryz.underlying275
 a146:=Tryz.isAgg275
 z146:=Tryz.sizeOf275
 v146:=Tryz.zeroValue275
 t148:=Tryz.underlying278
 a148:=Tryz.isAgg278
 z148:=Tryz.sizeOf278
 v148:=Tryz.zeroValue278
 t164:=Tryz.underlying304
 a164:=Tryz.isAgg304
 z164:=Tryz.sizeOf304
 v164:=Tryz.zeroValue304 }
abbrev mul_ren : Ren:=layRepeat_ren
theorem mulLay : Go.Proofs.Lays.n212 Tryz.prog mul_ren:={ layRepeat with }
end
section
theorem ACalls.ler {P : Program} {f : FuncId} {args : List AV} {r r' : AV} {own own' : List Ent} (h : ACalls P f args own r own') (hle : AVle r r') : ACalls P f args own r' own':=fun F κ w vs ho hsat=>(h F κ w vs ho hsat).mono fun e w' ⟨v,κ',h1,h2,h3,h4⟩=>⟨v,κ',h1,hle _ _ _ _ _ h2,h3,h4⟩
theorem AVle.tupV (a b : Value) : AVle (.d (.v (.tuple #[a,b]))) (.tup [.d (.v a),.d (.v b)]):=fun F own κ w u hs=>by
 rw [sat_v] at hs
 subst hs
 rw [AV.sat]
 exact ⟨_,rfl,by simp [AV.satL,sat_v]⟩
theorem A_bmul {x y : Nat} (h : x * y < 18446744073709551616) (hx : x < 18446744073709551616) (hy : y < 18446744073709551616) : ACalls Tryz.prog 134 [.d (.v (.int .u64 x)),.d (.v (.int .u64 y))] [] (.tup [.d (.v (.int .u64 (0 : Nat))),.d (.v (.int .u64 (x * y : Nat)))]) []:=by
 refine ACalls.ler (r:=.d (.v (.tuple #[.int .u64 (0 : Nat),.int .u64 (x * y : Nat)]))) ?_ (AVle.tupV _ _)
 refine acalls_of_exact rfl fun w=>?_
 have:=Go.Proofs.Any.bits_Mul mulLay x y hx hy w
 rw [Nat.div_eq_of_lt h,Nat.mod_eq_of_lt h] at this
 exact this.mono fun e w' ⟨h1,h2⟩=>⟨h1,h2 ▸ Below.refl _ _⟩
section
variable {P : Program} {m : Nat} {env : List (Nat × AV)} {own : List Ent} {dst : Option Tmp} {ty : TypeId} {pos : String} {af : Array Edge} {gd : Option (Nat × Bool)}
theorem q_convU {src dst' : TypeId} {x : Operand} {k : IntKind} {n : Int} {v : Nat} (hx : lookO env x = .d (.v (.int k n))) (hs : (P.underlying src).isSome = true) (hd : isInt P dst' .u64 = true) (hn : n = (v : Int)) (h : v < 18446744073709551616) :
 Quiet P m ⟨dst,.convert src dst' x,ty,pos,af,gd⟩ env own [] (.d (.v (.int .u64 (v : Int)))):=by
 have:=q_conv (P:=P) (m:=m) (env:=env) (own:=own) (dst:=dst) (ty:=ty) (pos:=pos) (af:=af) (gd:=gd) (src:=src) .u64 hs hd hx
 rwa [hn,capK_wrap (k:=.u64) h] at this
end
def repT (w n : Nat) : List Bool:=List.replicate n true ++ List.replicate (w - n) false
theorem rep_first {w : Nat} (h : 1 ≤ w) : ((List.replicate w false).map tD).take 0 ++ ([true].map tD).take 1 ++ ((List.replicate w false).map tD).drop (0 + 1) = (repT w 1).map tD:=by
 unfold repT
 simp
theorem rep_step {w n : Nat} (h : 1 ≤ n) (hl : n < w) : ((repT w n).map tD).take n ++ (((repT w n).map tD).drop 0).take (min n (w - n)) ++ ((repT w n).map tD).drop (n + min n (w - n)) = (repT w (n + min n (w - n))).map tD:=by
 generalize hk : min n (w - n) = k
 have a1 : (repT w n).take n = List.replicate n true:=List.take_left' (by simp)
 have a2 : ((repT w n).drop 0).take k = List.replicate k true:=by
  unfold repT
  rw [List.drop_zero,List.take_append_of_le_length (by simp;omega),List.take_replicate,Nat.min_eq_left (by omega)]
 have a3 : (repT w n).drop (n + k) = List.replicate (w - (n + k)) false:=by
  unfold repT
  rw [List.drop_append]
  simp
  omega
 rw [← List.map_take,← List.map_drop,← List.map_drop,← List.map_take,a1,a2,a3,← List.map_append,← List.map_append,List.replicate_append_replicate]
 rfl
attribute [local irreducible] Quiet Eff OpOk AWPG ACont ABlock ACalls AGoto
theorem A_repeatT {w : Nat} (h1 : 1 ≤ w) (hw : w ≤ 1000000) : ACalls Tryz.prog 266 [bools [true],iV w] [] (bools (List.replicate w true)) []:=by
 refine acalls_of_body Tryz.func266 rfl (zU rfl) ?_
 have hm:=A_bmul (x:=1) (y:=w) (by omega) (by omega) (by omega)
 rw [Nat.one_mul] at hm
 have hx : (([true] : List Bool).map tD).length = 1:=rfl
 have hT : ∀ n,(repT w n).length = n + (w - n):=fun n=>by unfold repT;simp
 (repeat' (first
  |(apply yFb;exact rfl;exact rfl)
  |(apply W.qd;(first
  |(exact zW (hm))
  |((apply q_convU;(iterate 3 exact rfl);with_reducible exact rfl;omega))|(exact zM)|(exact zN)|(exact jAj)|(exact jBf)|(exact yAb rfl rfl)|(exact jAt)|(apply (yDb (u:=.d _));exact rfl;exact rfl)
  |(apply q_convI;(iterate 3 exact rfl);omega)))|(apply W.ed;((apply (e_makeG (f:=tD) false);(iterate 10 exact rfl);omega)))|(apply yA)|(apply yB)|(apply (W.regionS 7);exact rfl;kernel_rfl)|(apply yE)|(apply yH)|(refine jAy ?_)
  |(refine W.cond _ rfl (fun hb=>?_) (fun hb=>?_)<;>((try simp only [hb,zK])<;>(try simp only [zL,zI] at hb)<;>(try (exfalso;omega))))))
 (repeat' (first
  |(apply W.qd;(first
  |(exact zM)
  |(exact zN)))|(apply W.ed;((exact e_copyDm 1 rfl rfl rfl rfl (show 1 = min ([true].map tD).length w by simp;omega) (by omega) (rep_first h1) rfl)))|(apply yA)|(apply yB)|(refine jAb ?_)|(apply yE)
  |(apply yG)))
 refine AWP.loopW (α:=Nat) (fun n=>1 ≤ n ∧ n ≤ w) (fun n=>⟨[(8,iV n),(7,.osl 0 0 0 w)],[.row 0 1 4 ((repT w n).map tD)]⟩) (fun n=>w - n) 1 ⟨Nat.le_refl _,h1⟩ ⟨[0],rfl,rfl,rfl,by (repeat (first | exact trivial | refine ⟨rfl,?_⟩))⟩ fun n hn=>?_
 obtain ⟨hn1,hn2⟩:=hn
 by_cases hlt : n < w
 ·have hst := rep_step hn1 hlt
  have hTn:=hT n
  generalize hk : min n (w - n) = k at *
  (repeat' (first
   |(apply W.qd;(first
   |(exact zM)|(exact zN)|(exact jAj)|(exact jAi)|(exact q_len_osl rfl rfl rfl)
   |(apply q_slc_osl;(iterate 3 exact rfl);(first | exact ⟨_,_,rfl,rfl⟩ | exact ⟨_,_,rfl,natI_spec rfl⟩ | exact ⟨_,_,rfl,(Int.toNat_of_nonneg (by omega)).symm⟩ | exact rfl);(first | exact ⟨_,_,rfl,rfl⟩ | exact ⟨_,_,rfl,natI_spec rfl⟩ | exact ⟨_,_,rfl,(Int.toNat_of_nonneg (by omega)).symm⟩ | exact rfl);omega;omega)))|(apply W.ed;((exact e_copyOm k rfl rfl rfl rfl (show k = min (n - 0) (w - n) by omega) (by omega) (by simp only [Nat.zero_add];exact hst) rfl)))|(apply yA)|(apply yB)|(refine jAb ?_)|(refine jAr ?_)|(apply yE)|(refine jAx ?_)|(apply yG)|(apply yH)|(apply yL)
   |(refine W.cond _ rfl (fun hb=>?_) (fun hb=>?_)<;>((try simp only [hb,zK])<;>(try simp only [zL,zI] at hb)<;>(try (exfalso;omega))))))
  refine ⟨n + k,⟨by omega,by omega⟩,by omega,[0],rfl,rfl,rfl,iV_eq (by omega),rfl,trivial⟩
 ·have e : n = w := by omega
  subst e
  have e2 : repT n n = List.replicate n true:=by unfold repT;simp
  rw [e2]
  (repeat' (first
   |(apply W.qd;(first
   |(exact zM)|(exact zN)|(exact jAj)
   |(exact q_len_osl rfl rfl rfl)))|(apply yA)|(apply yB)|(refine jAb ?_)|(apply yE)|(apply yI)|(apply yJ)|(apply yK)|(apply yM)
   |(refine W.cond _ rfl (fun hb=>?_) (fun hb=>?_)<;>((try simp only [hb,zK])<;>(try simp only [zL,zI] at hb)<;>(try (exfalso;omega))))))
  exact Ends.osl rfl rfl (by simp) rfl
end
section
def decZ (M D : Int) (par : List (List Int)) : List Bool → Bool:=decN M.toNat D.toNat (par.map fun r=>r.map Int.toNat)
def leftC (nm : List Nat) (M D : Int) (par : List (List Int)) (dom : Int) (hv : List Bool) : Int:=if chkC nm M D par dom = true ∧ (hv.length : Int) = D + (par.length : Int) then leftN (decZ M D par) hv else -1
def lossC (nm : List Nat) (M D : Int) (par : List (List Int)) (dom : Int) : Int:=leftC nm M D par dom (List.replicate (D + (par.length : Int)).toNat true)
structure FIn (nm : List Nat) (D : Int) (par : List (List Int)) : Prop where
 n : isB nm
 l : nm.length < 9223372036854775808
 d : 0 ≤ D ∧ D ≤ 1000000
 p : par.length ≤ 1000000
theorem toZ_back (ps : List (List Nat)) : ((toZ ps).map fun r=>r.map Int.toNat) = ps:=by
 unfold toZ
 rw [List.map_map]
 have : ((fun r : List Int=>r.map Int.toNat) ∘ fun r : List Nat=>r.map fun n : Nat=>(n : Int)) = id:=by
  funext r
  simp [Function.comp_def]
 rw [this];simp
theorem decZ_nat (M D : Nat) (ps : List (List Nat)) : decZ M D (toZ ps) = decN M D ps:=by
 unfold decZ
 rw [toZ_back];rfl
theorem chk_code {nm : List Nat} {M D dom : Int} {par : List (List Int)} (h : chkC nm M D par dom = true) : ∃ (m d : Nat) (ps : List (List Nat)),M = m ∧ D = d ∧ par = toZ ps ∧ CodeOk m d ps:=ok_valid (chk_valid h)
attribute [local irreducible] Quiet Eff OpOk AWPG ACont ABlock ACalls AGoto
theorem A_dvalid {nm : List Nat} {M D dom : Int} {par : List (List Int)} {n : Nat} (h : FIn nm D par) : ACalls Tryz.prog 287 [cdF nm M D par dom,iV n] [] (bV (decide (chkC nm M D par dom = true ∧ (n : Int) = D + (par.length : Int)))) []:=by
 obtain ⟨e,hc,he⟩:=A_lcheck (M:=M) (dom:=dom) h.n h.l h.d h.p
 refine acalls_of_body Tryz.func287 rfl (zU rfl) ?_
 by_cases hk : chkC nm M D par dom = true
 ·obtain rfl : e = 0 := he.2 hk
  have hV:=chk_valid hk
  obtain ⟨m,d,ps,rfl,rfl,rfl,hok⟩:=chk_code hk
  have hw:=(A_ewidth (M:=m) (D:=d) (code_in hok)).cdF (nm:=nm) (dom:=dom)
  rw [if_pos hV] at hw
  (repeat' (first
   |(apply yFb;exact rfl;exact rfl)
   |(apply W.qd;(first
   |(exact zW (hc))|(exact zW (hw))|(exact zM)|(exact zN)|(exact jAn)|(exact jAu)
   |(apply (yEb (u:=.d _));exact rfl;exact rfl)))|(apply W.ed;(exact jAa))|(apply yA)|(apply yB)|(refine jAb ?_)|(apply yE)
   |(apply yJ)))
  refine Ends.b rfl ?_
  rw [decide_eq_decide]
  exact ⟨fun h=>⟨hk,h⟩,fun h=>h.2⟩
 ·have hne : e ≠ 0 := fun h0 => hk (he.1 h0)
  (repeat' (first
   |(apply W.qd;(first
   |(exact zW (hc))|(exact zM)|(exact zN)|(exact jAn)|(exact jAu)
   |(apply (yDb (u:=.d _));exact rfl;exact rfl)))|(apply W.ed;(exact jAa))|(refine W.gOff _ _ rfl rfl (by intro h;cases h) ?_)|(apply yA)|(apply yB)|(refine jAb ?_)|(apply yE)|(apply yJ)
   |(refine W.gT _ _ rfl rfl (fun hb=>?_) (fun hb=>?_)<;>((try simp only [hb,zK])<;>(try simp only [zL,zI] at hb)<;>(try (exfalso;omega))))))
  exact Ends.b rfl (decide_eq_false fun h=>hk h.1).symm
theorem A_left {nm : List Nat} {M D dom : Int} {par : List (List Int)} {hv : List Bool} (h : FIn nm D par) (hl : hv.length < 9223372036854775808) : ACalls Tryz.prog 265 [cdF nm M D par dom,bools hv] [] (iV (leftC nm M D par dom hv)) []:=by
 have hv0:=A_dvalid (M:=M) (dom:=dom) (n:=hv.length) h
 refine acalls_of_body Tryz.func265 rfl (zU rfl) ?_
 have hmh : (hv.map tD).length = hv.length:=List.length_map _
 rw [← hmh] at hv0
 unfold leftC
 by_cases hk : chkC nm M D par dom = true ∧ (hv.length : Int) = D + (par.length : Int)
 ·rw [if_pos hk]
  rw [hmh,decide_eq_true hk,← hmh] at hv0
  obtain ⟨m,d,ps,rfl,rfl,rfl,hok⟩:=chk_code hk.1
  have hpl : (toZ ps).length = ps.length:=List.length_map _
  have hs:=A_search hok (hv:=hv) (by omega)
  rw [cdN_A] at hs
  have hs:=hs.cdF (nm:=nm) (dom:=dom)
  rw [decZ_nat]
  (repeat' (first
   |(apply W.qd;(first
   |(exact zW (hv0))|(exact zW (hs))|(exact zM)|(exact zN)|(exact jAn)|(exact jBe)|(exact yAb rfl rfl)
   |(exact jAt)))|(apply W.ed;(exact jAa))|(apply yA)|(apply yB)|(refine jAb ?_)|(apply yE)|(apply yH)|(apply yJ)
   |(refine jAy ?_)))
  exact Ends.i rfl rfl
 ·rw [if_neg hk]
  rw [hmh,decide_eq_false hk,← hmh] at hv0
  (repeat' (first
   |(apply W.qd;(first
   |(exact zW (hv0))|(exact zM)|(exact zN)|(exact jAn)|(exact jBe)
   |(exact jAt)))|(apply W.ed;(exact jAa))|(apply yA)|(apply yB)|(refine jAb ?_)|(apply yE)|(apply yJ)|(apply yP)
   |(refine jAv ?_)))
  exact Ends.i rfl rfl
theorem A_losses {nm : List Nat} {M D dom : Int} {par : List (List Int)} (h : FIn nm D par) : ACalls Tryz.prog 229 [cdF nm M D par dom] [] (iV (lossC nm M D par dom)) []:=by
 obtain ⟨e,hc,he⟩:=A_lcheck (M:=M) (dom:=dom) h.n h.l h.d h.p
 refine acalls_of_body Tryz.func229 rfl (zU rfl) ?_
 by_cases hk : chkC nm M D par dom = true
 ·obtain rfl : e = 0 := he.2 hk
  have hV:=chk_valid hk
  have hl:=A_left (M:=M) (dom:=dom) (hv:=List.replicate (D + (par.length : Int)).toNat true) h (by have:=h.d;have:=h.p;simp;omega)
  rw [show leftC nm M D par dom (List.replicate (D + (par.length : Int)).toNat true) = lossC nm M D par dom from rfl] at hl
  obtain ⟨m,d,ps,rfl,rfl,rfl,hok⟩:=chk_code hk
  have hw:=(A_ewidth (M:=m) (D:=d) (code_in hok)).cdF (nm:=nm) (dom:=dom)
  rw [if_pos hV] at hw
  have hd1:=hok.d
  have hw1:=hok.w
  have hpl : (toZ ps).length = ps.length:=List.length_map _
  have eW : ((d : Int) + ((toZ ps).length : Int)) = ((d + ps.length : Nat) : Int):=by omega
  rw [eW] at hw hl
  have hr:=A_repeatT (w:=d + ps.length) (by omega) (by omega)
  rw [Int.toNat_natCast] at hl
  (repeat' (first
   |(apply W.qd;(first
   |(exact zW (hc))|(exact zW (hw))|(exact zW (hr))|(exact zW (hl))|(exact zN)|(exact jAn)|(exact jBb)
   |(exact jAl)))|(apply W.ed;(exact jAa))|(apply yA)|(apply yB)|(refine jAb ?_)|(refine jAr ?_)|(apply yE)|(refine jAx ?_)|(apply yH)|(apply yJ)
   |(refine jAy ?_)))
  exact Ends.i rfl rfl
 ·have hne : e ≠ 0 := fun h0 => hk (he.1 h0)
  have e1 : lossC nm M D par dom = -1:=if_neg fun h=>hk h.1
  rw [e1]
  (repeat' (first
   |(apply W.qd;(first
   |(exact zW (hc))|(exact zN)|(exact jAn)
   |(exact jBb)))|(apply W.ed;(exact jAa))|(apply yA)|(apply yB)|(refine jAb ?_)|(apply yE)|(apply yJ)|(apply yP)
   |(refine W.cond _ rfl (fun hb=>?_) (fun hb=>?_)<;>((try simp only [hb,zK])<;>(try simp only [zL,zI] at hb)<;>(try (exfalso;omega))))))
  exact Ends.i rfl rfl
end
section
def sumI (r : List Int) (j : Nat) : Int:=(r.take j).sum
theorem sumI_succ {r : List Int} {j : Nat} (h : j < r.length) : sumI r (j + 1) = sumI r j + r[j]:=by
 unfold sumI
 rw [List.take_succ_eq_append_getElem h,List.sum_append];simp
theorem sumI_bound {r : List Int} : ∀ j, (∀ i, i < j → 0 ≤ r.getD i 0 ∧ r.getD i 0 ≤ 65535) → j ≤ r.length → (0 ≤ sumI r j ∧ sumI r j ≤ 65535 * j) ∧ (sumI r j = 0 ↔ ∀ i, i < j → r.getD i 0 = 0)
 | 0,_,_=>⟨⟨Int.le_refl _,Int.le_refl _⟩,fun _ i hi=>by omega,fun _=>rfl⟩
 | j + 1,h,hl=>by
   obtain ⟨⟨h1,h2⟩,h3⟩:=sumI_bound j (fun i hi=>h i (by omega)) (by omega)
   have h4:=h j (by omega)
   have e : r.getD j 0 = r[j]:=by rw [List.getD_eq_getElem?_getD,List.getElem?_eq_getElem (by omega)];rfl
   rw [e] at h4
   rw [sumI_succ (by omega)]
   refine ⟨⟨by omega,by omega⟩,fun h5 i hi=>?_,fun h5=>?_⟩
   ·by_cases e2 : i = j
    ·subst e2;rw [e];omega
    ·exact h3.1 (by omega) i (by omega)
   ·have h6 := h5 j (by omega)
    rw [e] at h6
    have:=h3.2 fun i hi=>h5 i (by omega)
    omega
def topF (M : Int) : Int:=if M = 8 then 255 else 65535
theorem rowOk_sum {M D : Int} {r : List Int} (hM : M = 8 ∨ M = 16) (hl : (r.length : Int) = D) (hr : ∀ i,i < r.length → 0 ≤ r.getD i 0 ∧ r.getD i 0 ≤ topF M) : rowOk M D r = decide (sumI r r.length ≠ 0):=by
 have ht : topF M ≤ 65535:=by unfold topF;split<;>omega
 have h2:=(sumI_bound r.length (fun i hi=>⟨(hr i hi).1,by have:=(hr i hi).2;omega⟩) (Nat.le_refl _)).2
 unfold rowOk
 rw [decide_eq_true hl,Bool.true_and,Bool.eq_iff_iff]
 simp only [Bool.and_eq_true,decide_eq_true_eq,List.all_eq_true,Bool.not_eq_true',List.all_eq_false,allF,inF,List.all_cons,List.all_nil,Bool.and_true]
 constructor
 ·rintro ⟨_, x, hx, h3⟩ h4
  obtain ⟨q,hq,rfl⟩:=memI_getD hx
  exact h3 (h2.1 h4 q hq)
 ·intro h3
  refine ⟨fun x hx=>?_,?_⟩
  ·obtain ⟨q, hq, rfl⟩ := memI_getD hx
   have:=hr q hq
   unfold topF at this
   refine ⟨hM,this.1,?_⟩
   rcases hM with rfl | rfl
   ·have h5:=this.2;rw [if_pos rfl] at h5 ⊢;omega
   ·have h5:=this.2;rw [if_neg (by decide)] at h5 ⊢;omega
  ·refine Classical.byContradiction fun hc=>h3 (h2.2 fun i hi=>Classical.byContradiction fun h5=>hc ⟨r.getD i 0,getDI_mem hi,h5⟩)
theorem rowOk_badc {M D : Int} {r : List Int} {i : Nat} (hM : M = 8 ∨ M = 16) (hi : i < r.length) (h : ¬ (0 ≤ r.getD i 0 ∧ r.getD i 0 ≤ topF M)) : rowOk M D r = false:=by
 rw [Bool.eq_false_iff]
 intro h2
 unfold rowOk at h2
 simp only [Bool.and_eq_true,decide_eq_true_eq,List.all_eq_true,allF,inF,List.all_cons,List.all_nil,Bool.and_true] at h2
 have h3:=(h2.1.2 _ (getDI_mem hi)).2
 apply h
 unfold topF
 rcases hM with rfl | rfl
 ·rw [if_pos rfl] at h3 ⊢;omega
 ·rw [if_neg (by decide)] at h3 ⊢;omega
attribute [local irreducible] Quiet Eff OpOk AWPG ACont ABlock ACalls AGoto
theorem A_letter7 (c : Nat) : ACalls Tryz.prog 234 [.d (.v (.int .u8 c))] [] (bV (letB c)) []:=by
 refine acalls_of_body Tryz.func234 rfl (zU rfl) ?_
 unfold letB
 (repeat' (first
  |(apply yFb;exact rfl;exact rfl)
  |(apply W.qd;(first
  |(exact zM)|(exact zN)|(exact q_leq rfl rfl)|(exact q_geq rfl rfl)|(apply (yEb (u:=.d _));exact rfl;exact rfl)
  |(apply (yDb (u:=.d _));exact rfl;exact rfl)))|(refine W.gOff _ _ rfl rfl (by intro h;cases h) ?_)|(apply yA)|(apply yB)|(refine jAb ?_)|(apply yE)|(apply yJ)
  |(refine W.gT _ _ rfl rfl (fun hb=>?_) (fun hb=>?_)<;>((try simp only [hb,zK])<;>(try simp only [zL,zI] at hb)<;>(try (exfalso;omega))))))
 all_goals refine Ends.b rfl ?_
 all_goals first | (rw [Bool.eq_iff_iff];simp;omega) | (simp;omega)
theorem A_digit7 (c : Nat) : ACalls Tryz.prog 235 [.d (.v (.int .u8 c))] [] (bV (digB c)) []:=by
 refine acalls_of_body Tryz.func235 rfl (zU rfl) ?_
 unfold digB
 (repeat' (first
  |(apply yFb;exact rfl;exact rfl)
  |(apply W.qd;(first
  |(exact zM)|(exact zN)|(exact q_leq rfl rfl)|(exact q_geq rfl rfl)|(apply (yEb (u:=.d _));exact rfl;exact rfl)
  |(apply (yDb (u:=.d _));exact rfl;exact rfl)))|(refine W.gOff _ _ rfl rfl (by intro h;cases h) ?_)|(apply yA)|(apply yB)|(refine jAb ?_)|(apply yE)|(apply yJ)
  |(refine W.gT _ _ rfl rfl (fun hb=>?_) (fun hb=>?_)<;>((try simp only [hb,zK])<;>(try simp only [zL,zI] at hb)<;>(try (exfalso;omega))))))
 all_goals refine Ends.b rfl ?_
 all_goals first | (rw [Bool.eq_iff_iff];simp;omega) | (simp;omega)
theorem A_top7 (M : Int) : ACalls Tryz.prog 180 [iV M] [] (iV (topF M)) []:=by
 refine acalls_of_body Tryz.func180 rfl (zU rfl) ?_
 unfold topF
 by_cases h : M = 8
 ·rw [if_pos h]
  (repeat' (first
   |(apply W.qd;(first
   |(exact zM)|(exact zN)
   |(exact jAu)))|(apply yA)|(apply yB)|(refine jAb ?_)|(apply yE)|(apply yJ)|(apply yP)
   |(refine W.cond _ rfl (fun hb=>?_) (fun hb=>?_)<;>((try simp only [hb,zK])<;>(try simp only [zL,zI] at hb)<;>(try (exfalso;omega))))))
  exact Ends.i rfl rfl
 ·rw [if_neg h]
  (repeat' (first
   |(apply W.qd;(first
   |(exact zM)|(exact zN)
   |(exact jAu)))|(apply yA)|(apply yB)|(refine jAb ?_)|(apply yE)|(apply yH)|(apply yJ)
   |(refine W.cond _ rfl (fun hb=>?_) (fun hb=>?_)<;>((try simp only [hb,zK])<;>(try simp only [zL,zI] at hb)<;>(try (exfalso;omega))))))
  exact Ends.i rfl rfl
theorem A_word7 {s : List Nat} (hs : isB s) (hl : s.length < 9223372036854775808) : ACalls Tryz.prog 179 [bS s] [] (bV (wordB s)) []:=by
 refine acalls_of_body Tryz.func179 rfl (zU rfl) ?_
 have hL:=A_letter7
 have hG:=A_digit7
 by_cases h0 : s = []
 ·subst h0
  (repeat' (first
   |(apply W.qd;(first
   |((apply (q_eqlS (l':=[]));exact rfl;exact rfl;assumption;exact isB_nil))|(exact zM)|(exact zN)
   |(apply (yEb (u:=.d _));exact rfl;exact rfl)))|(refine W.gOff _ _ rfl rfl (by intro h;cases h) ?_)|(apply yA)|(apply yB)|(refine jAb ?_)|(apply yE)|(apply yJ)|(apply yP)
   |(refine jAv ?_)))
  all_goals first | exact Ends.b rfl rfl | (exfalso;simp at hb)
 have hp : 0 < s.length:=List.length_pos_iff.2 h0
 have g0 : s.getD 0 0 = s[0]:=by rw [List.getD_eq_getElem?_getD,List.getElem?_eq_getElem hp];rfl
 have hLo:=hL s[0]
 cases hc : letB s[0] with
 | false =>
   rw [hc] at hLo
   have hw : wordB s = false:=by
    unfold wordB
    rw [Bool.and_eq_false_iff]
    right
    rw [List.all_eq_false]
    exact ⟨0,List.mem_range.2 hp,by unfold wordAt;rw [g0,hc];simp⟩
   rw [hw]
   (repeat' (first
    |(apply yFb;exact rfl;exact rfl)
    |(apply W.qd;(first
    |(exact zW (hLo))
    |((apply (q_eqlS (l':=[]));exact rfl;exact rfl;assumption;exact isB_nil))|(exact zM)|(exact zN)|(exact jBe)|(exact jAo)|(apply (yEb (u:=.d _));exact rfl;exact rfl)
    |(apply (yDb (u:=.d _));exact rfl;exact rfl)))|(refine W.gOff _ _ rfl rfl (by intro h;cases h) ?_)|(apply yA)|(apply yB)|(refine jAb ?_)|(apply yE)|(apply yJ)|(apply yP)|(refine jAv ?_)
    |(refine W.gF _ _ rfl rfl (fun hb=>?_) (fun hb=>?_)<;>((try simp only [hb,zK])<;>(try simp only [zL,zI] at hb)<;>(try (exfalso;omega))))))
   all_goals first | exact Ends.b rfl rfl | exact absurd hb h0
 | true =>
   rw [hc] at hLo
   (repeat' (first
    |(apply yFb;exact rfl;exact rfl)
    |(apply W.qd;(first
    |(exact zW (hLo))
    |((apply (q_eqlS (l':=[]));exact rfl;exact rfl;assumption;exact isB_nil))|(exact zM)|(exact zN)|(exact jBe)|(exact jAo)|(apply (yEb (u:=.d _));exact rfl;exact rfl)
    |(apply (yDb (u:=.d _));exact rfl;exact rfl)))|(refine W.gOff _ _ rfl rfl (by intro h;cases h) ?_)|(apply yA)|(apply yB)|(apply (W.regionS 4);exact rfl;kernel_rfl)|(apply yE)|(apply yG)|(apply yH)|(apply yJ)|(apply yP)|(refine jAv ?_)|(refine jAy ?_)
    |(refine W.gF _ _ rfl rfl (fun hb=>?_) (fun hb=>?_)<;>((try simp only [hb,zK])<;>(try simp only [zL,zI] at hb)<;>(try (exfalso;omega))))))
   all_goals try (exact absurd hb h0)
   refine AWP.loopW (α:=Nat) (fun k=>k ≤ s.length ∧ ∀ j,j < k → wordAt s j = true) (fun k=>⟨[(3,iV k),(0,bS s)],[]⟩) (fun k=>s.length - k) 0 ⟨Nat.zero_le _,fun j hj=>by omega⟩ ⟨[],rfl,rfl,rfl,by (repeat (first | exact trivial | refine ⟨rfl,?_⟩))⟩ fun k hk=>?_
   by_cases hkl : k < s.length
   ·have eg : s.getD k 0 = s[k] := by rw [List.getD_eq_getElem?_getD, List.getElem?_eq_getElem hkl]; rfl
    have hnext : wordAt s k = true → ∀ j,j < k + 1 → wordAt s j = true:=fun h j hj=>by
     by_cases e : j = k
     ·subst e;exact h
     ·exact hk.2 j (by omega)
    have hbad : wordAt s k = false → wordB s = false:=fun h=>by
     unfold wordB
     rw [Bool.and_eq_false_iff]
     right
     rw [List.all_eq_false]
     exact ⟨k,List.mem_range.2 hkl,by rw [h];decide⟩
    have hwa : wordAt s k = (letB s[k] || digB s[k]):=by
     unfold wordAt;rw [eg]
     by_cases e : k = 0
     ·subst e;rw [hc];rfl
     ·rw [decide_eq_true e,Bool.true_and]
    replace hwa:=Lib.hid hwa
    (repeat' (first
     |(apply yFb;exact rfl;exact rfl)
     |(apply W.qd;(first
     |(exact zW (hL s[k]))|(exact zW (hG s[k]))|(exact zM)|(exact zN)|(exact jAj)|(exact jBe)|(exact jAi)|(exact q_len_bs rfl rfl)|(exact jAo)|(apply (yEb (u:=.d _));exact rfl;exact rfl)
     |(apply (yDb (u:=.d _));exact rfl;exact rfl)))|(refine W.gOff _ _ rfl rfl (by intro h;cases h) ?_)|(apply yA)|(apply yB)|(refine jAb ?_)|(apply yE)|(apply yG)|(apply yH)|(apply yJ)|(apply yP)|(apply yL)|(apply yN)|(refine jAy ?_)|(refine W.gT _ _ rfl rfl (fun hb=>?_) (fun hb=>?_)<;>((try simp only [hb,zK])<;>(try simp only [zL,zI] at hb)<;>(try (exfalso;omega))))
     |(refine W.cond _ rfl (fun hb=>?_) (fun hb=>?_)<;>((try simp only [hb,zK])<;>(try simp only [zL,zI] at hb)<;>(try (exfalso;omega))))))
    all_goals first
     |(refine Ends.b rfl (hbad ?_).symm;rw [hwa.out,Bool.or_eq_false_iff];exact ⟨by assumption,by assumption⟩)|(refine ⟨k + 1,⟨by omega,hnext ?_⟩,by omega,[],rfl,rfl,rfl,iV_eq (by omega),rfl,trivial⟩;rw [hwa.out,Bool.or_eq_true];first | exact .inl (by assumption) | exact .inr (by assumption))
   ·have hall : (List.range s.length).all (wordAt s) = true:=by
     rw [List.all_eq_true]
     intro j hj
     exact hk.2 j (by have:=List.mem_range.1 hj;omega)
    have hw : wordB s = true:=by unfold wordB;rw [hall,decide_eq_true h0];rfl
    rw [hw]
    (repeat' (first
     |(apply W.qd;(first
     |(exact zM)|(exact zN)|(exact jAj)
     |(exact q_len_bs rfl rfl)))|(apply yA)|(apply yB)|(refine jAb ?_)|(apply yE)|(apply yI)|(apply yJ)|(apply yK)|(apply yM)
     |(refine W.cond _ rfl (fun hb=>?_) (fun hb=>?_)<;>((try simp only [hb,zK])<;>(try simp only [zL,zI] at hb)<;>(try (exfalso;omega))))))
    exact Ends.b rfl rfl
theorem A_check7G {nm : List Nat} {M D dom : Int} {par : List (List Int)} (hn : isB nm) (hnl : nm.length < 9223372036854775808) (hP : par.length ≤ 9223372036854775807) :
 ∃ e : Int,ACalls Tryz.prog 114 [cdF nm M D par dom] [] (iV e) [] ∧ (e = 0 ↔ chkC nm M D par dom = true):=by
 have hW:=A_word7 hn hnl
 have hmp : (par.map rD).length = par.length:=List.length_map _
 obtain ⟨wd,hWe⟩ : ∃ wd,IntKind.i64.wrap (D + ((par.map rD).length : Int)) = wd:=⟨_,rfl⟩
 by_cases c1 : wordB nm = true
 case neg =>
  have c1:=Bool.eq_false_iff.2 c1
  refine ⟨4,?_,by unfold chkC;rw [c1];simp⟩
  rw [c1] at hW
  refine acalls_of_body Tryz.func114 rfl (zU rfl) ?_
  (repeat' (first
   |(apply W.qd;(first
   |((apply (q_addV wd);exact rfl;exact rfl;assumption))|(exact zW (hW))|(exact zN)|(exact jAm)|(exact jAg)|(exact jBe)
   |(exact jAt)))|(apply W.ed;(exact jAa))|(apply yA)|(apply yB)|(refine jAb ?_)|(apply yE)|(apply yG)|(apply yJ)|(apply yP)|(apply yN)
   |(refine jAv ?_)))
  exact Ends.i rfl rfl
 rw [c1] at hW
 by_cases c2 : nm.length ≤ 12
 case neg =>
  refine ⟨2,?_,by unfold chkC;rw [decide_eq_false c2];simp⟩
  refine acalls_of_body Tryz.func114 rfl (zU rfl) ?_
  (repeat' (first
   |(apply W.qd;(first
   |((apply (q_addV wd);exact rfl;exact rfl;assumption))|(exact zW (hW))|(exact zN)|(exact jAm)|(exact jAg)|(exact jBf)|(exact jBe)|(exact jAt)
   |(exact q_len_bs rfl rfl)))|(apply W.ed;(exact jAa))|(apply yA)|(apply yB)|(refine jAb ?_)|(apply yE)|(apply yG)|(apply yJ)|(apply yP)|(apply yN)|(refine jAy ?_)
   |(refine W.cond _ rfl (fun hb=>?_) (fun hb=>?_)<;>((try simp only [hb,zK])<;>(try simp only [zL,zI] at hb)<;>(try (exfalso;omega))))))
  exact Ends.i rfl rfl
 by_cases c3 : (M = 8 ∨ M = 16) ∧ 1 ≤ D ∧ D ≤ 31 ∧ par.length ≠ 0
 case neg =>
  refine ⟨1,?_,?_⟩
  ·refine acalls_of_body Tryz.func114 rfl (zU rfl) ?_
   (repeat' (first
    |(apply yFb;exact rfl;exact rfl)
    |(apply W.qd;(first
    |((apply (q_addV wd);exact rfl;exact rfl;assumption))|(exact zW (hW))|(exact zM)|(exact zN)|(exact jAm)|(exact jAg)|(exact jAj)|(exact jBf)|(exact jAu)|(exact jBb)|(exact jBe)|(exact jAt)|(exact q_len_bs rfl rfl)|(apply (yEb (u:=.d _));exact rfl;exact rfl)
    |(apply (yDb (u:=.d _));exact rfl;exact rfl)))|(apply W.ed;(exact jAa))|(refine W.gOff _ _ rfl rfl (by intro h;cases h) ?_)|(apply yA)|(apply yB)|(refine jAb ?_)|(apply yE)|(apply yG)|(apply yJ)|(apply yP)|(apply yN)|(refine jAv ?_)|(refine jAy ?_)|(refine W.gT _ _ rfl rfl (fun hb=>?_) (fun hb=>?_)<;>((try simp only [hb,zK])<;>(try simp only [zL,zI] at hb)<;>(try (exfalso;omega))))|(refine W.gF _ _ rfl rfl (fun hb=>?_) (fun hb=>?_)<;>((try simp only [hb,zK])<;>(try simp only [zL,zI] at hb)<;>(try (exfalso;omega))))
    |(refine W.cond _ rfl (fun hb=>?_) (fun hb=>?_)<;>((try simp only [hb,zK])<;>(try simp only [zL,zI] at hb)<;>(try (exfalso;omega))))))
   all_goals first | exact Ends.i rfl rfl | (exfalso;apply c3;refine ⟨by omega,by omega,by omega,by omega⟩)
  ·refine ⟨fun h => by omega, fun h => ?_⟩
   unfold chkC at h
   simp only [Bool.and_eq_true,decide_eq_true_eq] at h
   exact absurd ⟨h.1.1.2.1.1.1.1,h.1.1.2.1.1.1.2,h.1.1.2.1.1.2,h.1.1.2.1.2⟩ c3
 obtain ⟨c3,c4,c5,c6⟩:=c3
 have hWv:=wrap_sum (a:=D) (n:=par.length) (by omega) hP
 rw [← hmp,hWe,hmp] at hWv
 by_cases c7 : wd ≤ 32
 case neg =>
  refine ⟨2,?_,by unfold chkC;rw [decide_eq_false (show ¬ D + (par.length : Int) ≤ 32 by omega)];simp⟩
  refine acalls_of_body Tryz.func114 rfl (zU rfl) ?_
  (repeat' (first
   |(apply yFb;exact rfl;exact rfl)
   |(apply W.qd;(first
   |((apply (q_addV wd);exact rfl;exact rfl;assumption))|(exact zW (hW))|(exact zM)|(exact zN)|(exact jAm)|(exact jAg)|(exact jAj)|(exact jBf)|(exact jAu)|(exact jBb)|(exact jBe)|(exact jAt)|(exact q_len_bs rfl rfl)|(apply (yEb (u:=.d _));exact rfl;exact rfl)
   |(apply (yDb (u:=.d _));exact rfl;exact rfl)))|(apply W.ed;(exact jAa))|(refine W.gOff _ _ rfl rfl (by intro h;cases h) ?_)|(apply yA)|(apply yB)|(refine jAb ?_)|(apply yE)|(apply yG)|(apply yJ)|(apply yP)|(apply yN)|(refine jAy ?_)|(refine W.gT _ _ rfl rfl (fun hb=>?_) (fun hb=>?_)<;>((try simp only [hb,zK])<;>(try simp only [zL,zI] at hb)<;>(try (exfalso;omega))))|(refine W.gF _ _ rfl rfl (fun hb=>?_) (fun hb=>?_)<;>((try simp only [hb,zK])<;>(try simp only [zL,zI] at hb)<;>(try (exfalso;omega))))
   |(refine W.cond _ rfl (fun hb=>?_) (fun hb=>?_)<;>((try simp only [hb,zK])<;>(try simp only [zL,zI] at hb)<;>(try (exfalso;omega))))))
  all_goals first | exact Ends.i rfl rfl | (exfalso;omega)
 have hT:=A_top7 M
 have ht0 : topF M ≤ 65535:=by unfold topF;split<;>omega
 have hall : ∀ e : Int,(par.all (rowOk M D) = false → e = 1) → (par.all (rowOk M D) = true → e = if 1 ≤ dom ∧ dom ≤ wd then 0 else 1) → ACalls Tryz.prog 114 [cdF nm M D par dom] [] (iV e) []:=fun e he0 he1=>by
  refine acalls_of_body Tryz.func114 rfl (zU rfl) ?_
  (repeat' (first
   |(apply yFb;exact rfl;exact rfl)
   |(apply W.qd;(first
   |((apply (q_addV wd);exact rfl;exact rfl;assumption))|(exact zW (hW))|(exact zM)|(exact zN)|(exact jAm)|(exact jAg)|(exact jAj)|(exact jBf)|(exact jAu)|(exact jBb)|(exact jBe)|(exact jAt)|(exact q_len_bs rfl rfl)|(apply (yEb (u:=.d _));exact rfl;exact rfl)
   |(apply (yDb (u:=.d _));exact rfl;exact rfl)))|(apply W.ed;(exact jAa))|(refine W.gOff _ _ rfl rfl (by intro h;cases h) ?_)|(apply yA)|(apply yB)|(apply (W.regionS 13);exact rfl;kernel_rfl)|(apply yE)|(apply yG)|(apply yH)|(apply yL)|(refine jAy ?_)|(refine W.gT _ _ rfl rfl (fun hb=>?_) (fun hb=>?_)<;>((try simp only [hb,zK])<;>(try simp only [zL,zI] at hb)<;>(try (exfalso;omega))))|(refine W.gF _ _ rfl rfl (fun hb=>?_) (fun hb=>?_)<;>((try simp only [hb,zK])<;>(try simp only [zL,zI] at hb)<;>(try (exfalso;omega))))
   |(refine W.cond _ rfl (fun hb=>?_) (fun hb=>?_)<;>((try simp only [hb,zK])<;>(try simp only [zL,zI] at hb)<;>(try (exfalso;omega))))))
  all_goals try (exfalso;omega)
  all_goals
   refine AWP.loopW (α:=Nat) (fun k=>k ≤ par.length ∧ ∀ j,j < k → rowOk M D (par.getD j []) = true) (fun k=>⟨[(4,iV k),(3,iV (wd)),(1,.opt 0 0)],[.box [bS nm,iV M,iV D,rowsA par,iV dom]]⟩) (fun k=>par.length - k) 0 ⟨Nat.zero_le _,fun j hj=>by omega⟩ (by exact ⟨[0],rfl,rfl,rfl,rfl,rfl,rfl,trivial⟩) fun k hk=>?_
   by_cases hkl : k < par.length
   ·have eg : par.getD k [] = par[k] := by rw [List.getD_eq_getElem?_getD, List.getElem?_eq_getElem hkl]; rfl
    have hnext : rowOk M D par[k] = true → ∀ j,j < k + 1 → rowOk M D (par.getD j []) = true:=fun h j hj=>by
     by_cases e : j = k
     ·subst e;rw [eg];exact h
     ·exact hk.2 j (by omega)
    have hbad : rowOk M D par[k] = false → e = 1:=fun h=>he0 (by rw [List.all_eq_false];exact ⟨par[k],List.getElem_mem hkl,by rw [h];decide⟩)
    have hmr : (par[k].map iD).length = par[k].length:=List.length_map _
    by_cases hrl : (par[k].length : Int) = D
    ·clear he0 he1 hk
     (repeat' (first
      |(apply W.qd;(first
      |(exact zM)|(exact zN)|(exact jAm)|(exact jAg)|(exact jAj)|(exact jBb)|(exact jAt)|(exact jAc)
      |(exact jA)))|(apply yA)|(apply yB)|(apply (W.regionS 19);exact rfl;kernel_rfl)|(apply (W.regionDS 19);exact rfl;exact rfl;kernel_rfl)|(apply yE)|(refine jAx ?_)|(apply yG)|(apply yH)
      |(refine W.cond _ rfl (fun hb=>?_) (fun hb=>?_)<;>((try simp only [hb,zK])<;>(try simp only [zL,zI] at hb)<;>(try (exfalso;omega))))))
     all_goals try (exfalso;omega)
     refine AWP.loopW (α:=Nat) (fun j=>j ≤ par[k].length ∧ ∀ i,i < j → 0 ≤ par[k].getD i 0 ∧ par[k].getD i 0 ≤ topF M) (fun j=>⟨[(6,iV j),(5,iV (sumI par[k] j)),(4,iV k),(3,iV (wd)),(1,.opt 0 0)],[.box [bS nm,iV M,iV D,rowsA par,iV dom]]⟩) (fun j=>par[k].length - j) 0 ⟨Nat.zero_le _,fun i hi=>by omega⟩ ⟨[0],rfl,rfl,rfl,by (repeat (first | exact trivial | refine ⟨rfl,?_⟩))⟩ fun j hj=>?_
     have hsb:=(sumI_bound j (fun i hi=>⟨(hj.2 i hi).1,by have:=(hj.2 i hi).2;omega⟩) hj.1).1
     by_cases hjl : j < par[k].length
     ·have ej : par[k].getD j 0 = par[k][j] := by rw [List.getD_eq_getElem?_getD, List.getElem?_eq_getElem hjl]; rfl
      have hss:=Lib.hid (sumI_succ hjl)
      have hbc : ¬ (0 ≤ par[k][j] ∧ par[k][j] ≤ topF M) → e = 1:=fun h=>hbad (rowOk_badc c3 hjl (by rw [ej];exact h))
      have hnj : 0 ≤ par[k][j] ∧ par[k][j] ≤ topF M → ∀ i,i < j + 1 → 0 ≤ par[k].getD i 0 ∧ par[k].getD i 0 ≤ topF M:=fun h i hi=>by
       by_cases e : i = j
       ·subst e;rw [ej];exact h
       ·exact hj.2 i (by omega)
      clear hj
      generalize sumI par[k] j = sm at *
      generalize topF M = tp at *
      (repeat' (first
       |(apply yFb;exact rfl;exact rfl)
       |(apply W.qd;(first
       |(exact zW (hT))|(exact zM)|(exact zN)|(exact jAm)|(exact jAg)|(exact jAj)|(exact jBf)|(exact jAi)|(exact jAc)|(exact jA)|(apply (yEb (u:=.d _));exact rfl;exact rfl)
       |(apply (yDb (u:=.d _));exact rfl;exact rfl)))|(refine W.gOff _ _ rfl rfl (by intro h;cases h) ?_)|(apply yA)|(apply yB)|(refine jAb ?_)|(apply yE)|(apply yG)|(apply yH)|(apply yJ)|(apply yP)|(apply yL)|(apply yN)|(refine jAv ?_)|(refine W.gF _ _ rfl rfl (fun hb=>?_) (fun hb=>?_)<;>((try simp only [hb,zK])<;>(try simp only [zL,zI] at hb)<;>(try (exfalso;omega))))
       |(refine W.cond _ rfl (fun hb=>?_) (fun hb=>?_)<;>((try simp only [hb,zK])<;>(try simp only [zL,zI] at hb)<;>(try (exfalso;omega))))))
      all_goals first
       |(refine Ends.i rfl (hbc ?_).symm;omega)|(refine ⟨j + 1,⟨by omega,hnj ⟨by omega,by omega⟩⟩,by omega,?_⟩;rw [hss.out];exact ⟨[0],rfl,rfl,rfl,iV_eq (by omega),iV_eq (by omega),rfl,rfl,rfl,trivial⟩)
     ·have e2 : j = par[k].length := by omega
      subst e2
      have hro:=rowOk_sum c3 hrl hj.2
      clear hj
      generalize sumI par[k] par[k].length = sm at *
      by_cases hz : sm = 0
      ·have h1 : e = 1 := hbad (by rw [hro]; exact decide_eq_false fun h => h hz)
       (repeat' (first
        |(apply W.qd;(first
        |(exact zM)|(exact zN)|(exact jAm)|(exact jAg)|(exact jAj)
        |(exact jAu)))|(apply yA)|(apply yB)|(refine jAb ?_)|(apply yE)|(apply yI)|(apply yJ)|(apply yK)|(apply yP)|(apply yM)|(apply yN)
        |(refine W.cond _ rfl (fun hb=>?_) (fun hb=>?_)<;>((try simp only [hb,zK])<;>(try simp only [zL,zI] at hb)<;>(try (exfalso;omega))))))
       all_goals first | exact Ends.i rfl h1.symm | (exfalso;omega)
      ·have h1 := hnext (by rw [hro]; exact decide_eq_true hz)
       (repeat' (first
        |(apply W.qd;(first
        |(exact zM)|(exact zN)|(exact jAm)|(exact jAg)|(exact jAj)|(exact jAu)
        |(exact jAi)))|(apply yA)|(apply yB)|(refine jAb ?_)|(apply yE)|(apply yH)|(apply yI)|(apply yK)|(apply yL)|(apply yM)
        |(refine W.cond _ rfl (fun hb=>?_) (fun hb=>?_)<;>((try simp only [hb,zK])<;>(try simp only [zL,zI] at hb)<;>(try (exfalso;omega))))))
       all_goals first | exact ⟨k + 1,⟨by omega,h1⟩,by omega,[0],rfl,rfl,rfl,iV_eq (by omega),rfl,rfl,trivial⟩ | (exfalso;omega)
    ·have hb0 : e = 1 := hbad (by unfold rowOk; rw [decide_eq_false hrl]; rfl)
     clear he0 he1 hk
     (repeat' (first
      |(apply W.qd;(first
      |(exact zM)|(exact zN)|(exact jAm)|(exact jAg)|(exact jAj)|(exact jBb)|(exact jAt)|(exact jAc)
      |(exact jA)))|(apply yA)|(apply yB)|(refine jAb ?_)|(refine jAr ?_)|(apply yE)|(refine jAx ?_)|(apply yG)|(apply yH)|(apply yJ)|(apply yP)|(apply yN)
      |(refine W.cond _ rfl (fun hb=>?_) (fun hb=>?_)<;>((try simp only [hb,zK])<;>(try simp only [zL,zI] at hb)<;>(try (exfalso;omega))))))
     all_goals first | exact Ends.i rfl hb0.symm | (exfalso;omega)
   ·have ha : par.all (rowOk M D) = true:=by
     rw [List.all_eq_true]
     intro r hr
     obtain ⟨j,hj,rfl⟩:=List.getElem_of_mem hr
     have:=hk.2 j (by omega)
     rwa [List.getD_eq_getElem?_getD,List.getElem?_eq_getElem hj] at this
    have he:=he1 ha
    clear he0 he1 hk
    (repeat' (first
     |(apply yFb;exact rfl;exact rfl)
     |(apply W.qd;(first
     |(exact zM)|(exact zN)|(exact jAm)|(exact jAg)|(exact jAj)|(exact jBf)|(exact jAt)|(apply (yEb (u:=.d _));exact rfl;exact rfl)
     |(apply (yDb (u:=.d _));exact rfl;exact rfl)))|(refine W.gOff _ _ rfl rfl (by intro h;cases h) ?_)|(apply yA)|(apply yB)|(refine jAb ?_)|(apply yE)|(apply yH)|(apply yI)|(apply yJ)|(apply yK)|(apply yP)|(apply yM)|(refine jAv ?_)|(refine W.gF _ _ rfl rfl (fun hb=>?_) (fun hb=>?_)<;>((try simp only [hb,zK])<;>(try simp only [zL,zI] at hb)<;>(try (exfalso;omega))))
     |(refine W.cond _ rfl (fun hb=>?_) (fun hb=>?_)<;>((try simp only [hb,zK])<;>(try simp only [zL,zI] at hb)<;>(try (exfalso;omega))))))
    all_goals (refine Ends.i rfl ?_;rw [he];first | (rw [if_pos (by omega)];done) | (rw [if_neg (by omega)];done))
 by_cases c8 : D + (par.length : Int) ≤ 32
 case neg =>
  refine ⟨1,hall 1 (fun _=>rfl) (fun _=>by rw [if_neg (by omega)]),by unfold chkC;rw [decide_eq_false c8];simp⟩
 have hWq : wd = D + (par.length : Int):=by omega
 rw [hWq] at hall
 have hc : chkC nm M D par dom = (par.all (rowOk M D) && (decide (1 ≤ dom) && decide (dom ≤ D + (par.length : Int)))):=by
  unfold chkC
  rw [c1,decide_eq_true c2,decide_eq_true c3,decide_eq_true c4,decide_eq_true c5,decide_eq_true c6,decide_eq_true c8]
  rfl
 refine ⟨if par.all (rowOk M D) = true then (if 1 ≤ dom ∧ dom ≤ D + (par.length : Int) then 0 else 1) else 1,hall _ (fun h=>by rw [h];rfl) (fun h=>by rw [if_pos h]),?_⟩
 rw [hc]
 cases par.all (rowOk M D) with
 | false=>simp
 | true =>
   rw [if_pos rfl,Bool.true_and,Bool.and_eq_true,decide_eq_true_eq,decide_eq_true_eq]
   split<;>simp_all
theorem A_check7 {nm : List Nat} {M D dom : Int} {par : List (List Int)} (hn : isB nm) (hnl : nm.length < 9223372036854775808) (hD : 0 ≤ D ∧ D ≤ 1000000) (hP : par.length ≤ 1000000) :
 ∃ e : Int,ACalls Tryz.prog 114 [cdF nm M D par dom] [] (iV e) [] ∧ (e = 0 ↔ chkC nm M D par dom = true):=A_check7G hn hnl (by omega)
end
section
def upF (hv : List Bool) (i : Nat) : List Nat:=((List.range hv.length).drop i).filter fun j=>hv.getD j false
theorem upF_zero (hv : List Bool) : upF hv 0 = upN hv:=rfl
theorem upF_step {hv : List Bool} {i : Nat} (h : i < hv.length) : upF hv i = if hv.getD i false = true then i :: upF hv (i + 1) else upF hv (i + 1):=by
 unfold upF
 rw [List.drop_eq_getElem_cons (by simpa using h),List.filter_cons]
 simp only [List.getElem_range]
theorem upF_end {hv : List Bool} {i : Nat} (h : hv.length ≤ i) : upF hv i = []:=by
 unfold upF
 rw [List.drop_of_length_le (by simpa using h)];rfl
def fatN (dec : List Bool → Bool) (hv : List Bool) (set : List Nat) (i n : Nat) : Bool:=(subsN (upF hv i) n).any fun s=>!dec (minusN hv (set ++ s))
theorem fatN_zero (dec : List Bool → Bool) (hv : List Bool) (set : List Nat) (i : Nat) : fatN dec hv set i 0 = !dec (minusN hv set):=by
 unfold fatN
 have : subsN (upF hv i) 0 = [[]]:=by unfold subsN;rfl
 rw [this];simp
theorem fatN_end {dec : List Bool → Bool} {hv : List Bool} {set : List Nat} {i n : Nat} (h : hv.length ≤ i) : fatN dec hv set i (n + 1) = false:=by
 unfold fatN
 rw [upF_end h,subsN];rfl
theorem fatN_step {dec : List Bool → Bool} {hv : List Bool} {set : List Nat} {i n : Nat} (h : i < hv.length) : fatN dec hv set i (n + 1) = if hv.getD i false = true then (fatN dec hv (set ++ [i]) (i + 1) n || fatN dec hv set (i + 1) (n + 1)) else fatN dec hv set (i + 1) (n + 1):=by
 unfold fatN
 rw [upF_step h]
 split
 ·rw [subsN, List.any_append, List.any_map]
  congr 1
  congr 1
  funext s
  simp
 ·rfl
theorem bad_fat (dec : List Bool → Bool) (hv : List Bool) (f : Nat) : badN dec hv f = fatN dec hv [] 0 (f + 1):=by
 unfold badN fatN
 rw [upF_zero]
 congr 1
def preK (hv : List Bool) (k : Nat) : Nat:=(hv.take k).count true
theorem preK_succ {hv : List Bool} {k : Nat} (h : k < hv.length) : preK hv (k + 1) = preK hv k + (if hv[k] = true then 1 else 0):=by
 unfold preK
 rw [List.take_succ_eq_append_getElem h,List.count_append,List.count_singleton]
 congr 1
 cases hv[k]<;>rfl
theorem preK_le (hv : List Bool) (k : Nat) : preK hv k ≤ k:=Nat.le_trans List.count_le_length (by simp;omega)
theorem preK_up (hv : List Bool) : ∀ k, k ≤ hv.length → preK hv k = (upK hv k).length
 | 0,_=>rfl
 | k + 1,h=>by
   have eg : hv.getD k false = hv[k]'(by omega):=by rw [List.getD_eq_getElem?_getD,List.getElem?_eq_getElem (by omega)];rfl
   rw [preK_succ (by omega),upK_succ,eg,preK_up hv k (by omega)]
   split
   ·simp
   ·rfl
theorem dec_some {M D : Nat} {ps : List (List Nat)} {hv : List Bool} (h : CodeOk M D ps) (hd : decN M D ps hv = true) : ∃ j,hv.getD j false = true:=by
 unfold decN at hd
 rw [Bool.and_eq_true,decide_eq_true_eq,decide_eq_true_eq] at hd
 have:=h.d
 exact ⟨_,bas_pres h hd.1 (q:=0) (by omega)⟩
theorem fat_all {M D : Nat} {ps : List (List Nat)} {hv : List Bool} (h : CodeOk M D ps) (hd : decN M D ps hv = true) : 0 < (upN hv).length ∧ badN (decN M D ps) hv ((upN hv).length - 1) = true:=by
 obtain ⟨j,hj⟩:=dec_some h hd
 have h1 : 0 < (upN hv).length:=List.length_pos_of_mem (mem_upN.2 hj)
 refine ⟨h1,?_⟩
 unfold badN
 rw [List.any_eq_true]
 refine ⟨upN hv,mem_subsN.2 ⟨List.Sublist.refl _,by omega⟩,?_⟩
 rw [Bool.not_eq_true',Bool.eq_false_iff]
 intro h2
 obtain ⟨i,hi⟩:=dec_some h h2
 rw [minusN_get] at hi
 split at hi
 ·cases hi
 ·rename_i h3;exact h3 (mem_upN.2 hi)
attribute [local irreducible] Quiet Eff OpOk AWPG ACont ABlock ACalls AGoto
theorem A_pres9 {hv : List Bool} (hl : hv.length ≤ 1000000) : ACalls Tryz.prog 96 [bools hv] [] (iV ((upN hv).length : Nat)) []:=by
 refine acalls_of_body Tryz.func96 rfl (zU rfl) ?_
 have hmh : (hv.map tD).length = hv.length:=List.length_map _
 (repeat' (first
  |(apply W.qd;(exact zN))|(apply yA)|(apply yB)|(refine jAb ?_)|(apply yE)
  |(apply yG)))
 refine AWP.loopW (α:=Nat) (fun k=>k ≤ hv.length) (fun k=>⟨[(4,iV k),(3,iV (preK hv k)),(0,bools hv)],[]⟩) (fun k=>hv.length - k) 0 (Nat.zero_le _) ⟨[],rfl,rfl,rfl,by (repeat (first | exact trivial | refine ⟨rfl,?_⟩))⟩ fun k hk=>?_
 have hle:=preK_le hv k
 by_cases hkl : k < hv.length
 ·have hs := Lib.hid (preK_succ hkl)
  generalize preK hv k = A at *
  (repeat' (first
   |(apply W.qd;(first
   |(exact zM)|(exact zN)|(exact jAj)|(exact jAi)|(exact jAt)|(exact jAc)
   |(exact jA)))|(apply yA)|(apply yB)|(refine jAb ?_)|(apply yE)|(apply yG)|(apply yH)|(apply yL)
   |(refine W.cond _ rfl (fun hb=>?_) (fun hb=>?_)<;>((try simp only [hb,zK])<;>(try simp only [zL,zI] at hb)<;>(try (exfalso;omega))))))
  all_goals refine ⟨k + 1,by omega,by omega,?_⟩
  all_goals rw [hs.out]
  all_goals first
   |(rw [if_pos (by first | assumption | simpa using hb)];exact ⟨[],rfl,rfl,rfl,iV_eq (by omega),iV_eq (by omega),rfl,trivial⟩)
   |(rw [if_neg (by first | assumption | (rw [hb];decide) | simpa using hb)];exact ⟨[],rfl,rfl,rfl,iV_eq (by omega),iV_eq (by omega),rfl,trivial⟩)
 ·have e : k = hv.length := by omega
  subst e
  rw [preK_up hv hv.length (Nat.le_refl _),show upK hv hv.length = upN hv from rfl]
  (repeat' (first
   |(apply W.qd;(first
   |(exact zM)|(exact zN)|(exact jAj)
   |(exact jAt)))|(apply yA)|(apply yB)|(refine jAb ?_)|(apply yE)|(apply yI)|(apply yJ)|(apply yK)|(apply yM)
   |(refine W.cond _ rfl (fun hb=>?_) (fun hb=>?_)<;>((try simp only [hb,zK])<;>(try simp only [zL,zI] at hb)<;>(try (exfalso;omega))))))
  exact Ends.i rfl rfl
theorem A_without9 {hv : List Bool} {L : List Nat} (h0 : 0 < hv.length) (hl : hv.length ≤ 1000000) (hu : ∀ u ∈ L,u < hv.length) (hL : L.length ≤ 1000000) : ACalls Tryz.prog 157 [bools hv,nats L] [] (bools (minusN hv L)) []:=by
 refine acalls_of_body Tryz.func157 rfl (zU rfl) ?_
 have hmh : (hv.map tD).length = hv.length:=List.length_map _
 have hmL : (L.map kD).length = L.length:=List.length_map _
 (repeat' (first
  |(apply W.qd;(exact zN))|(apply yA)|(apply yB)|(apply (W.regionS 2);exact rfl;kernel_rfl)
  |(apply yE)))
 refine AWP.nilRow 5 1 4 rfl (by omega) ?_
 (repeat' (first
  |(apply W.qd;(first
  |(exact zM)
  |(exact zN)))|(apply W.ed;(apply e_appF;(iterate 8 exact rfl);(first | rfl | simp);(first | exact Nat.zero_lt_one | (focus (simp;done)) | omega);(first | (focus (simp;done)) | (focus (simp;omega)) | omega)))|(apply yA)|(apply yB)|(apply (W.regionS 4);exact rfl;kernel_rfl)|(apply yE)
  |(apply yG)))
 refine AWP.loopW (α:=Nat) (fun k=>k ≤ L.length) (fun k=>⟨[(6,iV k),(5,.osl 0 1 0 hv.length),(1,nats L)],[.row 1 1 4 ((minusN hv (L.take k)).map tD)]⟩) (fun k=>L.length - k) 0 (Nat.zero_le _) ?wk0 fun k hk=>?_
 case wk0=>exact ⟨[0],rfl,rfl,rfl,rfl,congrArg (AV.osl 0 1 0) (by simp),rfl,trivial⟩
 have hmn:=minusN_length (L.take k) hv
 by_cases hkl : k < L.length
 ·have hu := hu L[k] (List.getElem_mem hkl)
  have hsn:=minusN_snoc hv (L.take k) L[k]
  rw [← List.take_succ_eq_append_getElem hkl] at hsn
  replace hsn:=Lib.hid hsn
  generalize minusN hv (L.take k) = A at *
  (repeat' (first
   |(apply W.qd;(first
   |(exact zM)|(exact zN)|(exact jAj)|(exact jAi)|(exact jAt)|(exact jAc)|(exact jA)
   |(exact jAf)))|(apply W.ln;(apply l_st_rpt;(iterate 7 exact rfl);exact fun _=>rfl;(first | omega | (focus (simp only [List.length_map];omega)) | (focus (simp;omega)))))|(apply yA)|(apply yB)|(refine jAb ?_)|(apply yE)|(apply yG)|(apply yH)|(apply yL)
   |(refine W.cond _ rfl (fun hb=>?_) (fun hb=>?_)<;>((try simp only [hb,zK])<;>(try simp only [zL,zI] at hb)<;>(try (exfalso;omega))))))
  refine ⟨k + 1,by omega,by omega,?_⟩
  rw [hsn.out]
  exact ⟨[0],rfl,rfl,rfl,iV_eq (by omega),rfl,rfl,trivial⟩
 ·have e : k = L.length := by omega
  subst e
  rw [List.take_length] at *
  (repeat' (first
   |(apply W.qd;(first
   |(exact zM)|(exact zN)|(exact jAj)
   |(exact jAt)))|(apply yA)|(apply yB)|(refine jAb ?_)|(apply yE)|(apply yI)|(apply yJ)|(apply yK)|(apply yM)
   |(refine W.cond _ rfl (fun hb=>?_) (fun hb=>?_)<;>((try simp only [hb,zK])<;>(try simp only [zL,zI] at hb)<;>(try (exfalso;omega))))))
  exact Ends.osl rfl rfl (by rw [List.length_map];omega) rfl
theorem A_fatal9 {M D : Nat} {ps : List (List Nat)} {hv : List Bool} (h : CodeOk M D ps) (hl : hv.length = D + ps.length) : ∀ (n i : Nat) (set : List Nat), n ≤ 1000 → i ≤ hv.length → set.length ≤ 1000 - n → (∀ u ∈ set, u < hv.length) →
 ACalls Tryz.prog 97 [cdN M D ps,bools hv,nats set,iV i,iV n] [] (.tup [.d .any,bV (fatN (decN M D ps) hv set i n)]) []
 | 0,i,set,hn,hi,hsl,hst=>by
   have h1:=h.d
   have h2:=h.w
   have hmh : (hv.map tD).length = hv.length:=List.length_map _
   have hw:=A_without9 (hv:=hv) (L:=set) (by omega) (by omega) hst (by omega)
   have hls : (minusN hv set).length = D + ps.length:=by rw [minusN_length];exact hl
   have hd:=A_r8decod h hls
   have hd1 : decN M D ps (minusN hv set) = decide ((basisN M D ps (minusN hv set)).length = D):=by unfold decN;rw [decide_eq_true hls,Bool.true_and]
   rw [← hd1] at hd
   rw [fatN_zero]
   refine acalls_of_body Tryz.func97 rfl (zU rfl) ?_
   cases hq : decN M D ps (minusN hv set) with
   | true =>
     rw [hq] at hd
     (repeat' (first
      |(apply W.qd;(first
      |(exact zW (hw))|(exact zW (hd))|(exact zM)|(exact zN)|(exact jAn)|(exact jAu)
      |(exact jBe)))|(apply W.ed;(exact jAa))|(apply yA)|(apply yB)|(refine jAb ?_)|(refine jAr ?_)|(apply yE)|(refine jAx ?_)|(apply yJ)|(apply yP)
      |(refine jAv ?_)))
     all_goals exact ⟨.inl rfl,[],[nats set,bV false],rfl,⟨rfl,rfl,trivial⟩,AVle.tup2 (AVle.anyS 1 _) (AVle.refl _),rfl⟩
   | false =>
     rw [hq] at hd
     (repeat' (first
      |(apply W.qd;(first
      |(exact zW (hw))|(exact zW (hd))|(exact zM)|(exact zN)|(exact jAn)|(exact jAu)
      |(exact jBe)))|(apply W.ed;(exact jAa))|(apply yA)|(apply yB)|(refine jAb ?_)|(refine jAr ?_)|(apply yE)|(refine jAx ?_)|(apply yJ)|(apply yP)
      |(refine jAv ?_)))
     all_goals exact ⟨.inl rfl,[],[nats set,bV true],rfl,⟨rfl,rfl,trivial⟩,AVle.tup2 (AVle.anyS 1 _) (AVle.refl _),rfl⟩
 | n + 1,i0,set,hn,hi0,hsl,hst=>by
   have h1:=h.d
   have h2:=h.w
   have hmh : (hv.map tD).length = hv.length:=List.length_map _
   have hms : (set.map kD).length = set.length:=List.length_map _
   have ih:=A_fatal9 h hl n
   generalize decN M D ps = dec at *
   generalize hR : fatN dec hv set i0 (n + 1) = R
   refine acalls_of_body Tryz.func97 rfl (zU rfl) ?_
   (repeat' (first
    |(apply W.qd;(first
    |(exact zM)|(exact zN)
    |(exact jAu)))|(apply W.ed;(exact jAa))|(apply yA)|(apply yB)|(apply (W.regionS 5);exact rfl;kernel_rfl)|(apply yE)|(apply yG)|(apply yH)
    |(refine jAy ?_)))
   all_goals try (exfalso;omega)
   refine AWP.loopW (α:=Nat) (fun i=>i ≤ hv.length ∧ R = fatN dec hv set i (n + 1)) (fun i=>⟨[(13,iV i),(1,bools hv),(2,nats set),(4,iV ((n + 1 : Nat) : Int)),(5,.opt 0 0)],[.box [.d .any,iV M,iV D,rowsN ps,.d .any]]⟩) (fun i=>hv.length - i) i0 ⟨hi0,hR.symm⟩ ⟨[0],rfl,rfl,rfl,by (repeat (first | exact trivial | refine ⟨rfl,?_⟩))⟩ fun i hi=>?_
   by_cases hil : i < hv.length
   ·have eg : hv.getD i false = hv[i] := by rw [List.getD_eq_getElem?_getD, List.getElem?_eq_getElem hil]; rfl
    have hst1:=fatN_step (dec:=dec) (set:=set) (n:=n) hil
    rw [eg] at hst1
    have hstm : ∀ u ∈ set ++ [i],u < hv.length:=fun u hu=>by
     rcases List.mem_append.1 hu with h3 | h3
     ·exact hst u h3
     ·rw [List.mem_singleton.1 h3];exact hil
    have ih1:=ih (i + 1) (set ++ [i]) (by omega) (by omega) (by simp;omega) hstm
    cases hq : hv[i] with
    | false =>
      rw [hq,if_neg (by decide)] at hst1
      have hR2:=hi.2.trans hst1
      clear hi hR
      (repeat' (first
       |(apply W.qd;(first
       |(exact zM)|(exact zN)|(exact jAj)|(exact jBe)|(exact jAi)|(exact jAt)|(exact jAc)
       |(exact jA)))|(apply yA)|(apply yB)|(refine jAb ?_)|(apply yE)|(apply yG)|(apply yH)|(apply yI)|(apply yK)|(apply yM)
       |(refine W.cond _ rfl (fun hb=>?_) (fun hb=>?_)<;>((try simp only [hb,zK])<;>(try simp only [zL,zI] at hb)<;>(try (exfalso;omega))))))
      (all_goals (try (exfalso;exact absurd ((‹hv[i] = true› : hv[i] = true).symm.trans (‹hv[i] = false› : hv[i] = false)) (by decide))))
      all_goals exact ⟨i + 1,⟨by omega,hR2⟩,by omega,[0],rfl,rfl,rfl,iV_eq (by omega),rfl,rfl,rfl,rfl,trivial⟩
    | true =>
      rw [hq,if_pos rfl] at hst1
      have hR2:=hi.2.trans hst1
      clear hi hR
      rcases Nat.eq_zero_or_pos set.length with hs0 | hs0
      ·obtain rfl := List.eq_nil_of_length_eq_zero hs0
       (repeat' (first
        |(apply W.qd;(first
        |(exact zM)|(exact zN)|(exact jAj)|(exact jBe)|(exact jAi)|(exact jAt)|(exact jAc)
        |(exact jA)))|(apply yA)|(apply yB)|(apply (W.regionS 9);exact rfl;kernel_rfl)|(apply yE)|(apply yG)|(apply yH)|(apply yI)|(apply yK)|(apply yM)
        |(refine W.cond _ rfl (fun hb=>?_) (fun hb=>?_)<;>((try simp only [hb,zK])<;>(try simp only [zL,zI] at hb)<;>(try (exfalso;omega))))))
       (all_goals (try (exfalso;exact absurd ((‹hv[i] = true› : hv[i] = true).symm.trans (‹hv[i] = false› : hv[i] = false)) (by decide))))
       refine AWP.nilRow 14 1 3 rfl (by omega) ?_
       (repeat' (first
        |(apply W.qd;(first
        |(exact zM)|(exact zN)|(exact jAl)
        |(apply q_app0;(iterate 4 exact rfl))))|(apply W.ed;(apply e_appF;(iterate 8 exact rfl);(first | rfl | simp);(first | exact Nat.zero_lt_one | (focus (simp;done)) | omega);(first | (focus (simp;done)) | (focus (simp;omega)) | omega)))|(apply yA)|(apply yB)|(apply (W.regionS 11);exact rfl;kernel_rfl)
        |(apply yE)))
       refine AWP.wk ⟨[(14,nats (([] : List Nat) ++ [i])),(13,iV i),(1,bools hv),(2,nats ([] : List Nat)),(4,iV ((n + 1 : Nat) : Int)),(5,.opt 0 0)],[.box [.d .any,iV M,iV D,rowsN ps,.d .any]]⟩ ?wk1 ?_
       case wk1=>exact ⟨[0],rfl,rfl,rfl,(frz_rowJ (i:=1) (ver:=1) (n:=0 + 1) (l:=(([] : List Nat) ++ [i]).map kD) rfl rfl (by simp)).symm,rfl,rfl,rfl,rfl,rfl,trivial⟩
       have hix : (i : Int) + 1 = ((i + 1 : Nat) : Int):=by omega
       have hnx : ((n + 1 : Nat) : Int) - 1 = ((n : Nat) : Int):=by omega
       cases hF : fatN dec hv (([] : List Nat) ++ [i]) (i + 1) n with
       | true =>
         rw [hF,Bool.true_or] at hR2
         rw [hF,← hix,← hnx] at ih1
         subst hR2
         (repeat' (first
          |(apply W.qd;(first
          |(exact zW (ih1))|(exact zM)|(exact zN)|(exact jAn)|(exact jAi)|(exact q_sub rfl rfl (by omega))
          |(exact yAb rfl rfl)))|(apply yA)|(apply yB)|(refine jAb ?_)|(apply yE)|(apply yJ)|(apply yP)|(apply yN)
          |(refine jAv ?_)))
         all_goals exact ⟨.inl rfl,[],[.d .any,bV true],rfl,⟨rfl,rfl,trivial⟩,AVle.refl _,rfl⟩
       | false =>
         rw [hF,Bool.false_or] at hR2
         rw [hF,← hix,← hnx] at ih1
         (repeat' (first
          |(apply W.qd;(first
          |(exact zW (ih1))|(exact zM)|(exact zN)|(exact jAn)|(exact jAi)|(exact q_sub rfl rfl (by omega))
          |(exact yAb rfl rfl)))|(apply yA)|(apply yB)|(refine jAb ?_)|(apply yE)|(apply yH)|(apply yL)
          |(refine jAy ?_)))
         all_goals exact ⟨i + 1,⟨by omega,hR2⟩,by omega,[0],rfl,rfl,rfl,iV_eq (by omega),rfl,rfl,rfl,rfl,trivial⟩
      ·(repeat' (first
       |(apply W.qd;(first
       |(exact zM)|(exact zN)|(exact jAj)|(exact jBe)|(exact jAi)|(exact jAt)|(exact jAc)
       |(exact jA)))|(apply yA)|(apply yB)|(apply (W.regionS 9);exact rfl;kernel_rfl)|(apply yE)|(apply yG)|(apply yH)|(apply yI)|(apply yK)|(apply yM)
       |(refine W.cond _ rfl (fun hb=>?_) (fun hb=>?_)<;>((try simp only [hb,zK])<;>(try simp only [zL,zI] at hb)<;>(try (exfalso;omega))))))
       (all_goals (try (exfalso;exact absurd ((‹hv[i] = true› : hv[i] = true).symm.trans (‹hv[i] = false› : hv[i] = false)) (by decide))))
       refine AWP.nilRow 14 1 3 rfl (by omega) ?_
       (repeat' (first
        |(apply W.qd;(first
        |(exact zM)|(exact zN)
        |(exact jAl)))|(apply W.ed;(apply e_appF;(iterate 8 exact rfl);(first | rfl | simp);(first | exact Nat.zero_lt_one | (focus (simp;done)) | omega);(first | (focus (simp;done)) | (focus (simp;omega)) | omega)))|(apply yA)|(apply yB)|(apply (W.regionS 11);exact rfl;kernel_rfl)
        |(apply yE)))
       refine AWP.wk ⟨[(14,nats (set ++ [i])),(13,iV i),(1,bools hv),(2,nats set),(4,iV ((n + 1 : Nat) : Int)),(5,.opt 0 0)],[.box [.d .any,iV M,iV D,rowsN ps,.d .any]]⟩ ?wk2 ?_
       case wk2=>exact ⟨[0],rfl,rfl,rfl,(show nats (set ++ [i]) = .d (.sl 1 (set.map kD ++ [kD i])) from congrArg (fun l=>AV.d (.sl 1 l)) (by simp)).trans (frz_rowJ (i:=1) (ver:=2) (n:=(set.map kD).length + 1) (l:=set.map kD ++ [kD i]) rfl rfl (by simp)).symm,rfl,rfl,rfl,rfl,rfl,trivial⟩
       have hix : (i : Int) + 1 = ((i + 1 : Nat) : Int):=by omega
       have hnx : ((n + 1 : Nat) : Int) - 1 = ((n : Nat) : Int):=by omega
       cases hF : fatN dec hv (set ++ [i]) (i + 1) n with
       | true =>
         rw [hF,Bool.true_or] at hR2
         rw [hF,← hix,← hnx] at ih1
         subst hR2
         (repeat' (first
          |(apply W.qd;(first
          |(exact zW (ih1))|(exact zM)|(exact zN)|(exact jAn)|(exact jAi)|(exact q_sub rfl rfl (by omega))
          |(exact yAb rfl rfl)))|(apply yA)|(apply yB)|(refine jAb ?_)|(apply yE)|(apply yJ)|(apply yP)|(apply yN)
          |(refine jAv ?_)))
         all_goals exact ⟨.inl rfl,[],[.d .any,bV true],rfl,⟨rfl,rfl,trivial⟩,AVle.refl _,rfl⟩
       | false =>
         rw [hF,Bool.false_or] at hR2
         rw [hF,← hix,← hnx] at ih1
         (repeat' (first
          |(apply W.qd;(first
          |(exact zW (ih1))|(exact zM)|(exact zN)|(exact jAn)|(exact jAi)|(exact q_sub rfl rfl (by omega))
          |(exact yAb rfl rfl)))|(apply yA)|(apply yB)|(refine jAb ?_)|(apply yE)|(apply yH)|(apply yL)
          |(refine jAy ?_)))
         all_goals exact ⟨i + 1,⟨by omega,hR2⟩,by omega,[0],rfl,rfl,rfl,iV_eq (by omega),rfl,rfl,rfl,rfl,trivial⟩
   ·have e : R = false := hi.2.trans (fatN_end (by omega))
    subst e
    clear hi hR
    (repeat' (first
     |(apply W.qd;(first
     |(exact zM)|(exact zN)|(exact jAj)
     |(exact jAt)))|(apply yA)|(apply yB)|(refine jAb ?_)|(apply yE)|(apply yI)|(apply yJ)|(apply yK)|(apply yM)
     |(refine W.cond _ rfl (fun hb=>?_) (fun hb=>?_)<;>((try simp only [hb,zK])<;>(try simp only [zL,zI] at hb)<;>(try (exfalso;omega))))))
    all_goals exact ⟨.inl rfl,[],[.d (.v (.slice none 0 0)),bV false],rfl,⟨rfl,rfl,trivial⟩,AVle.tup2 (AVle.anyV rfl) (AVle.refl _),rfl⟩
theorem A_valid9 {nm : List Nat} {M D dom : Int} {par : List (List Int)} {n : Nat} (h : FIn nm D par) : ACalls Tryz.prog 95 [cdF nm M D par dom,iV n] [] (bV (decide (chkC nm M D par dom = true ∧ (n : Int) = D + (par.length : Int)))) []:=by
 obtain ⟨e,hc,he⟩:=A_check7 (M:=M) (dom:=dom) h.n h.l h.d h.p
 have hd:=h.d
 have hp:=h.p
 have hmp : (par.map rD).length = par.length:=List.length_map _
 refine acalls_of_body Tryz.func95 rfl (zU rfl) ?_
 by_cases hk : chkC nm M D par dom = true
 ·obtain rfl : e = 0 := he.2 hk
  (repeat' (first
   |(apply yFb;exact rfl;exact rfl)
   |(apply W.qd;(first
   |(exact zW (hc))|(exact zM)|(exact zN)|(exact jAm)|(exact jAg)|(exact jAn)|(exact jAu)|(exact jAi)|(exact jAt)
   |(apply (yEb (u:=.d _));exact rfl;exact rfl)))|(apply W.ed;(exact jAa))|(apply yA)|(apply yB)|(refine jAb ?_)|(apply yE)
   |(apply yJ)))
  all_goals
   refine Ends.b rfl ?_
   first
    |(rw [decide_eq_decide];exact ⟨fun h=>⟨hk,by omega⟩,fun h=>by have:=h.2;omega⟩)
    |(exfalso;omega)
 ·have hne : e ≠ 0 := fun h0 => hk (he.1 h0)
  (repeat' (first
   |(apply W.qd;(first
   |(exact zW (hc))|(exact zM)|(exact zN)|(exact jAn)|(exact jAu)
   |(apply (yDb (u:=.d _));exact rfl;exact rfl)))|(apply W.ed;(exact jAa))|(refine W.gOff _ _ rfl rfl (by intro h;cases h) ?_)|(apply yA)|(apply yB)|(refine jAb ?_)|(apply yE)|(apply yJ)
   |(refine W.gT _ _ rfl rfl (fun hb=>?_) (fun hb=>?_)<;>((try simp only [hb,zK])<;>(try simp only [zL,zI] at hb)<;>(try (exfalso;omega))))))
  all_goals first | exact Ends.b rfl (decide_eq_false fun h=>hk h.1).symm | (exfalso;omega)
theorem A_left9 {nm : List Nat} {M D dom : Int} {par : List (List Int)} {hv : List Bool} (h : FIn nm D par) (hl : hv.length < 9223372036854775808) : ACalls Tryz.prog 49 [cdF nm M D par dom,bools hv] [] (iV (leftC nm M D par dom hv)) []:=by
 have hv0:=A_valid9 (M:=M) (dom:=dom) (n:=hv.length) h
 refine acalls_of_body Tryz.func49 rfl (zU rfl) ?_
 have hmh : (hv.map tD).length = hv.length:=List.length_map _
 rw [← hmh] at hv0
 unfold leftC
 by_cases hk : chkC nm M D par dom = true ∧ (hv.length : Int) = D + (par.length : Int)
 case neg =>
  rw [if_neg hk]
  rw [hmh,decide_eq_false hk,← hmh] at hv0
  (repeat' (first
   |(apply W.qd;(first
   |(exact zW (hv0))|(exact zM)|(exact zN)|(exact jAn)|(exact jBe)
   |(exact jAt)))|(apply W.ed;(exact jAa))|(apply yA)|(apply yB)|(refine jAb ?_)|(apply yE)|(apply yJ)|(apply yP)
   |(refine jAv ?_)))
  exact Ends.i rfl rfl
 rw [if_pos hk]
 rw [hmh,decide_eq_true hk,← hmh] at hv0
 obtain ⟨m,d,ps,rfl,rfl,rfl,hok⟩:=chk_code hk.1
 have hpl : (toZ ps).length = ps.length:=List.length_map _
 have hlw : hv.length = d + ps.length:=by omega
 have h1:=hok.d
 have h2:=hok.w
 have hd:=A_r8decod hok hlw
 have hd1 : decN m d ps hv = decide ((basisN m d ps hv).length = d):=by unfold decN;rw [decide_eq_true hlw,Bool.true_and]
 rw [← hd1,cdN_A] at hd
 have hd:=hd.cdF (nm:=nm) (dom:=dom)
 have hpr:=A_pres9 (hv:=hv) (by omega)
 have hfa:=fun f (hf : f < 4)=>(A_fatal9 hok hlw (f + 1) 0 [] (by omega) (by omega) (by simp) (by simp)).le (args':=[cdN m d ps,bools hv,.d (.v (.slice none 0 0)),iV 0,iV ((f + 1 : Nat) : Int)]) fun F κ w vs hs=>AVleL.sat (xs:=[cdN m d ps,bools hv,.d (.v (.slice none 0 0)),iV 0,iV ((f + 1 : Nat) : Int)]) (ys:=[cdN m d ps,bools hv,nats [],iV ((0 : Nat) : Int),iV ((f + 1 : Nat) : Int)]) ⟨AVle.refl _,AVle.refl _,AVle.nil 1,AVle.refl _,AVle.refl _,trivial⟩ F _ κ w vs hs
 have hall:=fat_all hok (hv:=hv)
 rw [decZ_nat]
 unfold leftN
 cases hq : decN m d ps hv with
 | false =>
   rw [if_neg (by decide)]
   rw [hq] at hd
   (repeat' (first
    |(apply W.qd;(first
    |(exact zW (hv0))|(exact zW (hd))|(exact zM)|(exact zN)|(exact jAn)|(exact jBe)
    |(exact jAt)))|(apply W.ed;(exact jAa))|(apply yA)|(apply yB)|(refine jAb ?_)|(apply yE)|(apply yH)|(apply yJ)|(apply yP)|(refine jAv ?_)
    |(refine jAy ?_)))
   exact Ends.i rfl rfl
 | true =>
   rw [if_pos rfl]
   rw [hq] at hd
   obtain ⟨ha1,ha2⟩:=hall hq
   have hupl : (upN hv).length ≤ 1000:=by have:=upK_len hv hv.length;have e : (upN hv).length = (upK hv hv.length).length:=rfl;omega
   generalize hR : ((List.range 4).find? (badN (decN m d ps) hv)).getD 4 = R
   generalize (upN hv).length = p at *
   have hex : ∀ f,f ≤ 4 → (∀ g,g < f → badN (decN m d ps) hv g = false) → f ≤ p → ¬ (f < 4 ∧ f < p) → f = R:=fun f h3 h4 h5 h6=>by
    by_cases e : f = 4
    ·subst e
     have : (List.range 4).find? (badN (decN m d ps) hv) = none:=by
      rw [List.find?_eq_none]
      intro g hg
      rw [h4 g (List.mem_range.1 hg)];decide
     rw [this] at hR;exact hR
    ·have e2 : f = p := by omega
     have:=h4 (p - 1) (by omega)
     rw [ha2] at this;cases this
   have hfd : ∀ f,f < 4 → (∀ g,g < f → badN (decN m d ps) hv g = false) → badN (decN m d ps) hv f = true → f = R:=fun f h3 h4 h5=>by
    have : (List.range 4).find? (badN (decN m d ps) hv) = some f:=List.find?_range_eq_some.2 ⟨h5,List.mem_range.2 h3,fun g hg=>by rw [h4 g hg];rfl⟩
    rw [this] at hR;exact hR
   clear hR
   (repeat' (first
    |(apply W.qd;(first
    |(exact zW (hv0))|(exact zW (hd))|(exact zM)|(exact zN)|(exact jAn)|(exact jBe)
    |(exact jAt)))|(apply W.ed;(exact jAa))|(apply yA)|(apply yB)|(apply (W.regionS 8);exact rfl;kernel_rfl)|(apply yE)|(apply yG)|(apply yH)
    |(refine jAy ?_)))
   refine AWP.loopW (α:=Nat) (fun f=>f ≤ 4 ∧ f ≤ p ∧ ∀ g,g < f → badN (decN m d ps) hv g = false) (fun f=>⟨[(7,iV f),(1,bools hv),(2,.opt 0 0)],[.box [bS nm,iV m,iV d,rowsA (toZ ps),iV dom]]⟩) (fun f=>4 - f) 0 ⟨by omega,by omega,fun g hg=>by omega⟩ ⟨[0],rfl,rfl,rfl,by (repeat (first | exact trivial | refine ⟨rfl,?_⟩))⟩ fun f hf=>?_
   obtain ⟨hf1,hf2,hf3⟩:=hf
   by_cases hc : f < 4 ∧ f < p
   ·obtain ⟨hc1, hc2⟩ := hc
    have hf4:=hfa f hc1
    rw [cdN_A] at hf4
    have hf4:=hf4.cdF (nm:=nm) (dom:=dom)
    rw [← bad_fat] at hf4
    have hfx : (f : Int) + 1 = ((f + 1 : Nat) : Int):=by omega
    rw [← hfx] at hf4
    cases hB : badN (decN m d ps) hv f with
    | true =>
      have e:=hfd f hc1 hf3 hB
      rw [hB] at hf4
      clear hf3 hex hfd hfa
      (repeat' (first
       |(apply yFb;exact rfl;exact rfl)
       |(apply W.qd;(first
       |(exact zW (hpr))|(exact zW (hf4))|(exact zM)|(exact zN)|(exact jAn)|(exact jAj)|(exact jAi)|(exact yAb rfl rfl)
       |(apply (yEb (u:=.d _));exact rfl;exact rfl)))|(apply yA)|(apply yB)|(refine jAb ?_)|(apply yE)|(apply yG)|(apply yH)|(apply yJ)|(apply yP)|(apply yN)|(refine jAv ?_)|(refine W.gT _ _ rfl rfl (fun hb=>?_) (fun hb=>?_)<;>((try simp only [hb,zK])<;>(try simp only [zL,zI] at hb)<;>(try (exfalso;omega))))
       |(refine W.cond _ rfl (fun hb=>?_) (fun hb=>?_)<;>((try simp only [hb,zK])<;>(try simp only [zL,zI] at hb)<;>(try (exfalso;omega))))))
      all_goals first | exact Ends.i rfl (by omega) | (exfalso;omega)
    | false =>
      have hnx : ∀ g,g < f + 1 → badN (decN m d ps) hv g = false:=fun g hg=>by
       by_cases e : g = f
       ·subst e;exact hB
       ·exact hf3 g (by omega)
      rw [hB] at hf4
      clear hf3 hex hfd hfa
      (repeat' (first
       |(apply yFb;exact rfl;exact rfl)
       |(apply W.qd;(first
       |(exact zW (hpr))|(exact zW (hf4))|(exact zM)|(exact zN)|(exact jAn)|(exact jAj)|(exact jAi)|(exact yAb rfl rfl)
       |(apply (yEb (u:=.d _));exact rfl;exact rfl)))|(apply yA)|(apply yB)|(refine jAb ?_)|(apply yE)|(apply yG)|(apply yH)|(apply yL)|(refine jAy ?_)|(refine W.gT _ _ rfl rfl (fun hb=>?_) (fun hb=>?_)<;>((try simp only [hb,zK])<;>(try simp only [zL,zI] at hb)<;>(try (exfalso;omega))))
       |(refine W.cond _ rfl (fun hb=>?_) (fun hb=>?_)<;>((try simp only [hb,zK])<;>(try simp only [zL,zI] at hb)<;>(try (exfalso;omega))))))
      all_goals first | exact ⟨f + 1,⟨by omega,by omega,hnx⟩,by omega,[0],rfl,rfl,rfl,iV_eq (by omega),rfl,rfl,trivial⟩ | (exfalso;omega)
   ·have e := hex f hf1 hf3 hf2 hc
    clear hf3 hex hfd hfa
    (repeat' (first
     |(apply yFb;exact rfl;exact rfl)
     |(apply W.qd;(first
     |(exact zW (hpr))|(exact zM)|(exact zN)|(exact jAj)|(apply (yEb (u:=.d _));exact rfl;exact rfl)
     |(apply (yDb (u:=.d _));exact rfl;exact rfl)))|(refine W.gOff _ _ rfl rfl (by intro h;cases h) ?_)|(apply yA)|(apply yB)|(refine jAb ?_)|(apply yE)|(apply yI)|(apply yJ)|(apply yK)|(apply yM)|(refine jAy ?_)|(refine W.gT _ _ rfl rfl (fun hb=>?_) (fun hb=>?_)<;>((try simp only [hb,zK])<;>(try simp only [zL,zI] at hb)<;>(try (exfalso;omega))))
     |(refine W.cond _ rfl (fun hb=>?_) (fun hb=>?_)<;>((try simp only [hb,zK])<;>(try simp only [zL,zI] at hb)<;>(try (exfalso;omega))))))
    all_goals first | exact Ends.i rfl (by omega) | (exfalso;omega)
end
section
section
variable {P : Program} {m : Nat} {env : List (Nat × AV)} {own : List Ent} {dst : Option Tmp} {ty : TypeId} {pos : String} {af : Array Edge} {gd : Option (Nat × Bool)}
theorem e_appE {t e : TypeId} {sz by' : Nat} {z : Value} {x y : Operand} {p ver n : Nat} {l l2 : List (List Dat)} {own' : List Ent} (hx : lookO env x = .osl p ver 0 n) (hp : own[p]? = some (.row ver sz e l)) (hy : lookO env y = .d (.sl sz l2)) (ho' : setF own p (.row (ver + 1) sz e (l ++ l2)) = some own') (ht : slInfo P t = some (e, sz, by', z)) (hz : z.cells.size = sz) (hby : Nat.ble by' 1024 = true) (hm : Nat.ble 0 p = true) (hn : n = l.length)
 (hb : l.length + l2.length ≤ 1000000000) :
 Eff P m ⟨dst,.call ⟨.builtin .append,#[x,y],#[t,t]⟩,ty,pos,af,gd⟩ env own [p] (.osl p (ver + 1) 0 (l.length + l2.length)) own':=by
 rcases Nat.eq_zero_or_pos l2.length with h0 | h0
 case inr=>exact e_appF hx hp hy ho' ht hz hby hm hn h0 hb
 obtain rfl:=List.eq_nil_of_length_eq_zero h0
 rw [setF_spec ho']
 refine Eff.mk (set_same _ p) fun F κ a w hs ho hmk=>?_
 subst hn
 have hx1:=hs x (by simp [Op.operands,Call.operands]);rw [hx] at hx1
 have hy1:=hs y (by simp [Op.operands,Call.operands]);rw [hy,AV.sat,Dat.sat] at hy1
 have hx2:=hx1
 rw [AV.sat] at hx2
 obtain ⟨h3,A,c,h4,h5,h6,h7⟩:=hx2.2 sz e l hp
 obtain ⟨B,c2,hyv,_,_,_⟩:=hy1
 obtain ⟨he,inf,hi1,hi2,_,_⟩:=slInfo_spec ht
 have hf : (Builtin.firstCells inf.size 0 (.slice B 0 c2)).run P w = .ok #[] w:=by
  cases B with
  | none=>exact run_firstCells_none w inf.size 0 0 c2
  | some b=>exact run_firstCells_some w inf.size 0 b 0 c2 [] (by simp) (fun j v hj=>by simp at hj)
 rw [run_builtin_append (dst:=dst) (pos:=pos) (af:=af) (gd:=gd) (v:=.slice A l.length c) (w':=w) (by
  rw [h4,hyv]
  cases A<;>simp [Builtin.append_,run_underlying he,sizeOf,typeInfo,hi1,Builtin.lenOf,h5,hf,storeCells])]
 obtain ⟨og,hog⟩:=ho.kap p _ hp
 have hκ:=setK_same hog
 have hent:=ho.ent p _ hp
 have hgd : κ.getD p none = og:=by simp [List.getD_eq_getElem?_getD,hog]
 rw [hgd] at hent
 have hpl : p < own.length:=(List.getElem?_eq_some_iff.1 hp).1
 obtain ⟨g1,g2⟩:=step_upd (m:=m) (x':=.row (ver + 1) sz e (l ++ [])) (og':=og) (w':=w) ho hp hog rfl rfl rfl (Nat.le_refl _) (fun _ _ _=>rfl) (.inl rfl) (.inr rfl) (.inl (Nat.lt_succ_self ver)) (fun hst=>by
  rw [hκ]
  unfold EntSat at hent ⊢
  rw [List.append_nil]
  exact hent)
 refine ⟨_,?_,g1,g2⟩
 rw [AV.sat]
 have hself : (own.set p (.row (ver + 1) sz e (l ++ [])))[p]? = some (.row (ver + 1) sz e (l ++ [])):=by rw [List.getElem?_set_self hpl]
 refine ⟨⟨_,hself,Nat.le_refl _,rfl⟩,fun sz2 e2 c2 hc=>?_⟩
 rw [hself] at hc
 obtain ⟨rfl,rfl,rfl⟩ : sz = sz2 ∧ e = e2 ∧ l ++ [] = c2:=by simpa using hc
 rw [hκ]
 exact ⟨by simp,A,c,by simp,by simpa using h5,h6,fun _=>h7 (.inr rfl)⟩
end
end
section
section
variable {P : Program} {Γ : Ctx} {n m : Nat} {c : Code} {Q : Exit → St → Prop} {env : List (Nat × AV)} {own : List Ent}
end
section
variable {P : Program} {m : Nat} {env : List (Nat × AV)} {own : List Ent} {dst : Option Tmp} {ty : TypeId} {pos : String} {af : Array Edge} {gd : Option (Nat × Bool)}
theorem q_fld_rptF {s f off o' : Nat} {t : TypeId} {x : Operand} {i ver j o sz : Nat} {e : TypeId} {l : List (List Dat)} (hx : lookO env x = .rpt i ver j o) (hi : own[i]? = some (.row ver sz e l)) (h : fldInfo P s f = some (off,t)) (hn : natF (o + off) = some o') : Quiet P m ⟨dst,.fieldAddr s x f,ty,pos,af,gd⟩ env own [i] (.rpt i ver j o'):=by
 rw [natF_spec hn];exact q_fld_rpt h hx hi
theorem q_nil_rpt {x : Operand} {i ver j o sz : Nat} {e : TypeId} {l : List (List Dat)} (hx : lookO env x = .rpt i ver j o) (hi : own[i]? = some (.row ver sz e l)) : Quiet P m ⟨dst,.nilCheck x,ty,pos,af,gd⟩ env own [i] (.rpt i ver j o) :=
 Quiet.val fun F own' κ a w hs _ hsame _=>by
  have h1:=hs x (by simp [Op.operands]);rw [hx] at h1
  have h2:=h1
  rw [AV.sat] at h1
  have hp' : own'[i]? = some (.row ver sz e l):=by rw [hsame i (by simp)];exact hi
  obtain ⟨_,g,h3,h4⟩:=h1.2 sz e l hp'
  refine ⟨a.eval x,?_,h2⟩
  simp only [execOp]
  rw [h4]
  rfl
end
end
section
abbrev Cd:=List Nat × Int × Int × List (List Int) × Int
abbrev Sv:=List Nat × Int × Int × Int × Int
def cdD (c : Cd) : List Dat:=[.v (.string (bytesOf c.1)),.v (.int .i64 c.2.1),.v (.int .i64 c.2.2.1),.sl 1 (c.2.2.2.1.map rD),.v (.int .i64 c.2.2.2.2)]
def svD (v : Sv) : List Dat:=[.v (.string (bytesOf v.1)),.v (.int .i64 v.2.1),.v (.int .i64 v.2.2.1),.v (.int .i64 v.2.2.2.1),.v (.int .i64 v.2.2.2.2)]
abbrev cdA1 (c : Cd) : AV:=.agg ((cdD c).map .d)
abbrev svA1 (v : Sv) : AV:=.agg ((svD v).map .d)
abbrev cds (l : List Cd) : AV:=.d (.sl 5 (l.map cdD))
abbrev svs (l : List Sv) : AV:=.d (.sl 5 (l.map svD))
abbrev lib (cs : List Cd) (vs : List Sv) : AV:=.agg [cds cs,svs vs]
def cd0 : Cd:=([],0,0,[],0)
def sv0 : Sv:=([],0,0,0,0)
def chkD (c : Cd) : Bool:=chkC c.1 c.2.1 c.2.2.1 c.2.2.2.1 c.2.2.2.2
def losD (c : Cd) : Int:=lossC c.1 c.2.1 c.2.2.1 c.2.2.2.1 c.2.2.2.2
def FInD (c : Cd) : Prop:=FIn c.1 c.2.2.1 c.2.2.2.1
structure NameIn (s : List Nat) : Prop where
 b : isB s
 l : s.length < 9223372036854775808
def nameB (s : List Nat) : Bool:=(decide (1 ≤ s.length) && decide (s.length ≤ 12)) && (List.range s.length).all (wordAt s)
def fxI (i : Int) : Int:=if i < 0 then 0 else i
def fxE (i : Int) : Int:=if i < 0 then 12 else 0
abbrev findA (i : Int) : AV:=.tup [iV (fxI i),iV (fxE i)]
def fcI (cs : List Cd) (nm : List Nat) : Int:=idxA (fun c=>decide (c.1 = nm)) cs
def fvI (vs : List Sv) (nm : List Nat) : Int:=idxA (fun v=>decide (v.1 = nm)) vs
def hasB (n : Nat) (k : Int) : Bool:=decide (0 ≤ k) && decide (k < (n : Int))
def keepsB (cs : List Cd) (k n : Int) : Bool:=hasB cs.length k && decide (n ≤ losD (cs.getD k.toNat cd0))
def plausB (nm : List Nat) (l w : Int) : Bool:=nameB nm && (decide (0 ≤ l) && (decide (l ≤ 4) && (decide (1 ≤ w) && decide (w ≤ 1048576))))
def usesB (k : Int) (v : Sv) : Bool:=decide (v.2.1 = k) || decide (v.2.2.1 = k)
def userI (vs : List Sv) (k : Int) : Int:=idxA (usesB k) vs
def aloneB (vs : List Sv) (i : Nat) : Bool:=decide (userI vs (vs.getD i sv0).2.1 = (i : Int)) && (decide ((vs.getD i sv0).2.2.1 = -1) || decide (userI vs (vs.getD i sv0).2.2.1 = (i : Int)))
attribute [local irreducible] Quiet Eff OpOk AWPG ACont ABlock ACalls AGoto
theorem A_small30 (c : Nat) : ACalls Tryz.prog 264 [.d (.v (.int .u8 c))] [] (bV (letB c)) []:=by
 refine acalls_of_body Tryz.func264 rfl (zU rfl) ?_
 unfold letB
 (repeat' (first
  |(apply yFb;exact rfl;exact rfl)
  |(apply W.qd;(first
  |(exact zM)|(exact zN)|(exact q_leq rfl rfl)|(exact q_geq rfl rfl)|(apply (yEb (u:=.d _));exact rfl;exact rfl)
  |(apply (yDb (u:=.d _));exact rfl;exact rfl)))|(refine W.gOff _ _ rfl rfl (by intro h;cases h) ?_)|(apply yA)|(apply yB)|(refine jAb ?_)|(apply yE)|(apply yJ)
  |(refine W.gT _ _ rfl rfl (fun hb=>?_) (fun hb=>?_)<;>((try simp only [hb,zK])<;>(try simp only [zL,zI] at hb)<;>(try (exfalso;omega))))))
 all_goals refine Ends.b rfl ?_
 all_goals first | (rw [Bool.eq_iff_iff];simp<;>omega) | (simp;omega)
theorem A_name30 {s : List Nat} (h : NameIn s) : ACalls Tryz.prog 227 [bS s] [] (bV (nameB s)) []:=by
 refine acalls_of_body Tryz.func227 rfl (zU rfl) ?_
 have hs:=h.b
 have hl:=h.l
 have hL:=A_small30
 (repeat' (first
  |(apply W.qd;(first
  |(exact zM)|(exact zN)
  |(exact q_len_bs rfl rfl)))|(apply yA)|(apply yB)|(apply (W.regionS 3);exact rfl;kernel_rfl)|(apply yE)
  |(apply yG)))
 refine AWP.loopW (α:=Nat) (fun k=>k ≤ s.length ∧ ∀ j,j < k → wordAt s j = true) (fun k=>⟨[(8,iV k),(7,iV s.length),(3,.fn 264 []),(0,bS s)],[]⟩) (fun k=>s.length - k) 0 ⟨Nat.zero_le _,fun j hj=>by omega⟩ ⟨[],rfl,rfl,rfl,by (repeat (first | exact trivial | refine ⟨rfl,?_⟩))⟩ fun k hk=>?_
 by_cases hkl : k < s.length
 ·have eg : s.getD k 0 = s[k] := by rw [List.getD_eq_getElem?_getD, List.getElem?_eq_getElem hkl]; rfl
  have hnext : wordAt s k = true → ∀ j,j < k + 1 → wordAt s j = true:=fun h j hj=>by
   by_cases e : j = k
   ·subst e;exact h
   ·exact hk.2 j (by omega)
  have hbad : wordAt s k = false → nameB s = false:=fun h=>by
   unfold nameB
   rw [Bool.and_eq_false_iff]
   right
   rw [List.all_eq_false]
   exact ⟨k,List.mem_range.2 hkl,by rw [h];decide⟩
  have hwa : wordAt s k = (letB s[k] || (decide (k ≠ 0) && (decide (48 ≤ s[k]) && decide (s[k] ≤ 57)))):=by unfold wordAt digB;rw [eg]
  replace hwa:=Lib.hid hwa
  clear hk
  (repeat' (first
   |(apply yFb;exact rfl;exact rfl)
   |(apply W.qd;(first
   |(exact zW (hL s[k]))|(exact zM)|(exact zN)|(exact jAj)|(exact jBf)|(exact jAu)|(exact jBe)|(exact jAi)|(exact jAo)|(apply (yEb (u:=.d _));exact rfl;exact rfl)
   |(apply (yDb (u:=.d _));exact rfl;exact rfl)))|(refine W.gOff _ _ rfl rfl (by intro h;cases h) ?_)|(apply yA)|(apply yB)|(refine jAb ?_)|(apply yE)|(apply yG)|(apply yH)|(apply yJ)|(apply yP)|(apply yL)|(apply yN)|(refine jAv ?_)|(refine jAy ?_)|(refine W.gT _ _ rfl rfl (fun hb=>?_) (fun hb=>?_)<;>((try simp only [hb,zK])<;>(try simp only [zL,zI] at hb)<;>(try (exfalso;omega))))|(refine W.gF _ _ rfl rfl (fun hb=>?_) (fun hb=>?_)<;>((try simp only [hb,zK])<;>(try simp only [zL,zI] at hb)<;>(try (exfalso;omega))))
   |(refine W.cond _ rfl (fun hb=>?_) (fun hb=>?_)<;>((try simp only [hb,zK])<;>(try simp only [zL,zI] at hb)<;>(try (exfalso;omega))))))
  all_goals first
   |(refine Ends.b rfl (hbad ?_).symm;rw [hwa.out,Bool.or_eq_false_iff];refine ⟨by assumption,?_⟩;simp;omega)|(refine ⟨k + 1,⟨by omega,hnext ?_⟩,by omega,[],rfl,rfl,rfl,iV_eq (by omega),rfl,rfl,rfl,trivial⟩;rw [hwa.out,Bool.or_eq_true];first | exact .inl (by assumption) | (refine .inr ?_;simp;omega))
 ·have hall : (List.range s.length).all (wordAt s) = true:=by
   rw [List.all_eq_true]
   intro j hj
   exact hk.2 j (by have:=List.mem_range.1 hj;omega)
  unfold nameB
  rw [hall,Bool.and_true]
  clear hk hall
  (repeat' (first
   |(apply yFb;exact rfl;exact rfl)
   |(apply W.qd;(first
   |(exact zM)|(exact zN)|(exact jAj)|(exact q_leq rfl rfl)|(exact q_geq rfl rfl)|(exact q_len_bs rfl rfl)|(apply (yEb (u:=.d _));exact rfl;exact rfl)
   |(apply (yDb (u:=.d _));exact rfl;exact rfl)))|(refine W.gOff _ _ rfl rfl (by intro h;cases h) ?_)|(apply yA)|(apply yB)|(refine jAb ?_)|(apply yE)|(apply yI)|(apply yJ)|(apply yK)|(apply yM)|(refine W.gT _ _ rfl rfl (fun hb=>?_) (fun hb=>?_)<;>((try simp only [hb,zK])<;>(try simp only [zL,zI] at hb)<;>(try (exfalso;omega))))
   |(refine W.cond _ rfl (fun hb=>?_) (fun hb=>?_)<;>((try simp only [hb,zK])<;>(try simp only [zL,zI] at hb)<;>(try (exfalso;omega))))))
  all_goals (refine Ends.b rfl ?_;rw [Bool.eq_iff_iff];simp<;>omega)
theorem A_plausible {nm : List Nat} {l w : Int} (h : NameIn nm) : ACalls Tryz.prog 170 [bS nm,iV l,iV w] [] (bV (plausB nm l w)) []:=by
 refine acalls_of_body Tryz.func170 rfl (zU rfl) ?_
 have hn:=A_name30 h
 unfold plausB
 cases hq : nameB nm with
 | false =>
   rw [hq] at hn
   (repeat' (first
    |(apply W.qd;(first
    |(exact zW (hn))|(exact zM)|(exact zN)
    |(apply (yDb (u:=.d _));exact rfl;exact rfl)))|(refine W.gOff _ _ rfl rfl (by intro h;cases h) ?_)|(apply yA)|(apply yB)|(refine jAb ?_)|(apply yE)
    |(apply yJ)))
   all_goals exact Ends.b rfl rfl
 | true =>
   rw [hq] at hn
   (repeat' (first
    |(apply yFb;exact rfl;exact rfl)
    |(apply W.qd;(first
    |(exact zW (hn))|(exact zM)|(exact zN)|(exact q_leq rfl rfl)|(exact q_geq rfl rfl)|(apply (yEb (u:=.d _));exact rfl;exact rfl)
    |(apply (yDb (u:=.d _));exact rfl;exact rfl)))|(refine W.gOff _ _ rfl rfl (by intro h;cases h) ?_)|(apply yA)|(apply yB)|(refine jAb ?_)|(apply yE)|(apply yJ)
    |(refine W.gT _ _ rfl rfl (fun hb=>?_) (fun hb=>?_)<;>((try simp only [hb,zK])<;>(try simp only [zL,zI] at hb)<;>(try (exfalso;omega))))))
   all_goals (refine Ends.b rfl ?_;rw [Bool.eq_iff_iff];simp<;>omega)
theorem A_nmC (c : Cd) : ACalls Tryz.prog 224 [cdA1 c] [] (bS c.1) []:=by
 refine acalls_of_body Tryz.func224 rfl (zU rfl) ?_
 (repeat' (first
  |(apply W.qd;(first
  |(exact zN)|(exact jAm)
  |(exact jAg)))|(apply W.ed;(exact jAa))|(apply yA)|(apply yB)|(refine jAb ?_)|(apply yE)
  |(apply yJ)))
 exact Ends.d rfl rfl
theorem A_ixC {O : List Ent} {g : FuncId} {caps : List AV} (q : Cd → Bool) (l : List Cd) (hl : l.length ≤ 9223372036854775807) (hgf : isFn Tryz.prog g = true) (hg : ∀ x ∈ l,ACalls Tryz.prog g (cdA1 x :: caps) O (bV (q x)) O) : ACalls Tryz.prog 260 [cds l,.fn g caps] O (iV (idxA q l)) O:=by
 refine acalls_of_bodyS Tryz.func260 rfl (zU rfl) ?_
 have hm : (l.map cdD).length = l.length:=List.length_map _
 (repeat (first
  |(apply W.qd;(first
  |(exact zM)|(exact zN)
  |(exact jAt)))|(apply yA)|(apply yB)|(refine jAb ?_)|(apply yE)
  |(apply yG)))
 refine AWP.loopE (α:=Nat) (fun k=>k ≤ l.length ∧ ∀ x ∈ l.take k,q x = false) (fun k=>⟨[(8,iV k),(7,iV l.length),(0,cds l),(1,.fn g caps)],O⟩) (fun k=>l.length - k) 0 ⟨by omega,by simp⟩ ⟨rfl,rfl,iV_eq (by rw [hm]),rfl,rfl,trivial⟩ fun k hk=>?_
 by_cases hkl : k < l.length
 ·have hx := hg l[k] (List.getElem_mem hkl)
  (repeat' (first
   |(apply W.qd;(first
   |(exact zM)|(exact zN)|(exact jAj)|(exact jAi)|(exact jAk)
   |(exact jA)))|(apply W.ed;(apply (e_callS (hx));exact rfl;exact rfl;(first | assumption | kernel_rfl)))|(apply yA)|(apply yB)|(refine jAb ?_)|(apply yE)|(apply yG)|(apply yH)|(apply yJ)|(apply yP)|(apply yL)|(apply yN)
   |(refine W.cond _ rfl (fun hb=>?_) (fun hb=>?_)<;>((try simp only [hb,zK])<;>(try simp only [zL,zI] at hb)<;>(try (exfalso;omega))))))
  ·exact EndsS.i rfl (idxA_hit hkl hb hk.2).symm
  ·refine ⟨k + 1, ⟨by omega, fun x hx => ?_⟩, by omega, ⟨rfl, by (repeat (first | exact trivial | refine ⟨rfl, ?_⟩))⟩⟩
   rw [List.take_succ_eq_append_getElem hkl] at hx
   rcases List.mem_append.1 hx with hx | hx
   ·exact hk.2 x hx
   ·rw [List.mem_singleton.1 hx];exact hb
 ·(repeat' (first
  |(apply W.qd;(first
  |(exact zN)
  |(exact jAj)))|(apply yA)|(apply yB)|(refine jAb ?_)|(apply yE)|(apply yI)|(apply yJ)|(apply yK)|(apply yM)
  |(refine W.cond _ rfl (fun hb=>?_) (fun hb=>?_)<;>((try simp only [hb,zK])<;>(try simp only [zL,zI] at hb)<;>(try (exfalso;omega))))))
  refine EndsS.i rfl (idxA_miss fun x hx=>hk.2 x ?_).symm
  rwa [List.take_of_length_le (by omega)]
abbrev findOC (nm : List Nat) : List Ent:=[.box [.fn 224 []],.box [bS nm]]
theorem A_find1C (c : Cd) {nm : List Nat} (h1 : isB c.1) (h2 : isB nm) : ACalls Tryz.prog 261 [cdA1 c,.opt 0 0,.opt 1 0] (findOC nm) (bV (decide (c.1 = nm))) (findOC nm):=by
 refine acalls_of_bodyO Tryz.func261 rfl (zU rfl) ?_
 have hn:=A_nmC c
 (repeat' (first
  |(apply W.qd;(first
  |(exact zW (hn))|(exact zN)|(exact jAg)|(exact jAn)
  |(exact jBd)))|(apply W.ed;(exact jAa))|(apply yA)|(apply yB)|(refine jAb ?_)|(refine jAr ?_)|(apply yE)|(refine jAx ?_)
  |(apply yJ)))
 exact ⟨.inl rfl,[0,1],[bV (decide (c.1 = nm))],rfl,rfl,⟨rfl,trivial⟩,AVle.of_eq rfl,rfl⟩
theorem A_findFC {l : List Cd} {nm : List Nat} (hl : l.length ≤ 9223372036854775807) (hb1 : ∀ c ∈ l,isB c.1) (h2 : isB nm) : ACalls Tryz.prog 223 [cds l,.fn 224 [],bS nm] [] (findA (fcI l nm)) []:=by
 refine acalls_of_body Tryz.func223 rfl (zU rfl) ?_
 have hi:=A_ixC (O:=findOC nm) (g:=261) (caps:=[.opt 0 0,.opt 1 0]) (fun c=>decide (c.1 = nm)) l hl (by kernel_rfl) (fun c hc=>A_find1C c (hb1 c hc) h2)
 rw [show idxA (fun c : Cd=>decide (c.1 = nm)) l = fcI l nm from rfl] at hi
 unfold findA fxI fxE
 generalize fcI l nm = i at *
 by_cases hi0 : i < 0
 ·rw [if_pos hi0, if_pos hi0]
  (repeat' (first
   |(apply W.qd;(first
   |(exact zM)|(exact zN)|(exact jAj)
   |(apply q_makeFunc)))
   |(apply W.ed;(first
   |(apply (e_callS (hi));exact rfl;exact rfl;(first | assumption | kernel_rfl))
   |(exact jAa)))|(apply yA)|(apply yB)|(refine jAb ?_)|(apply yE)|(apply yJ)|(apply yP)
   |(refine W.cond _ rfl (fun hb=>?_) (fun hb=>?_)<;>((try simp only [hb,zK])<;>(try simp only [zL,zI] at hb)<;>(try (exfalso;omega))))))
  exact Ends.two rfl rfl rfl
 ·rw [if_neg hi0, if_neg hi0]
  (repeat' (first
   |(apply W.qd;(first
   |(exact zM)|(exact zN)|(exact jAj)
   |(apply q_makeFunc)))
   |(apply W.ed;(first
   |(apply (e_callS (hi));exact rfl;exact rfl;(first | assumption | kernel_rfl))
   |(exact jAa)))|(apply yA)|(apply yB)|(refine jAb ?_)|(apply yE)|(apply yH)|(apply yJ)
   |(refine W.cond _ rfl (fun hb=>?_) (fun hb=>?_)<;>((try simp only [hb,zK])<;>(try simp only [zL,zI] at hb)<;>(try (exfalso;omega))))))
  exact Ends.two rfl rfl rfl
theorem A_findC {cs : List Cd} {vs : List Sv} {nm : List Nat} (hl : cs.length ≤ 9223372036854775807) (hb1 : ∀ c ∈ cs,isB c.1) (h2 : isB nm) : ACalls Tryz.prog 168 [lib cs vs,bS nm] [] (findA (fcI cs nm)) []:=by
 refine acalls_of_body Tryz.func168 rfl (zU rfl) ?_
 have hf:=A_findFC hl hb1 h2
 (repeat' (first
  |(apply W.qd;(first
  |(exact zW (hf))|(exact zM)|(exact zN)|(exact jAm)|(exact jAg)
  |(exact yAb rfl rfl)))|(apply W.ed;(exact jAa))|(apply yA)|(apply yB)|(refine jAb ?_)|(apply yE)
  |(apply yJ)))
 exact Ends.two rfl rfl rfl
theorem A_nmV (c : Sv) : ACalls Tryz.prog 226 [svA1 c] [] (bS c.1) []:=by
 refine acalls_of_body Tryz.func226 rfl (zU rfl) ?_
 (repeat' (first
  |(apply W.qd;(first
  |(exact zN)|(exact jAm)
  |(exact jAg)))|(apply W.ed;(exact jAa))|(apply yA)|(apply yB)|(refine jAb ?_)|(apply yE)
  |(apply yJ)))
 exact Ends.d rfl rfl
theorem A_ixV {O : List Ent} {g : FuncId} {caps : List AV} (q : Sv → Bool) (l : List Sv) (hl : l.length ≤ 9223372036854775807) (hgf : isFn Tryz.prog g = true) (hg : ∀ x ∈ l,ACalls Tryz.prog g (svA1 x :: caps) O (bV (q x)) O) : ACalls Tryz.prog 262 [svs l,.fn g caps] O (iV (idxA q l)) O:=by
 refine acalls_of_bodyS Tryz.func262 rfl (zU rfl) ?_
 have hm : (l.map svD).length = l.length:=List.length_map _
 (repeat (first
  |(apply W.qd;(first
  |(exact zM)|(exact zN)
  |(exact jAt)))|(apply yA)|(apply yB)|(refine jAb ?_)|(apply yE)
  |(apply yG)))
 refine AWP.loopE (α:=Nat) (fun k=>k ≤ l.length ∧ ∀ x ∈ l.take k,q x = false) (fun k=>⟨[(8,iV k),(7,iV l.length),(0,svs l),(1,.fn g caps)],O⟩) (fun k=>l.length - k) 0 ⟨by omega,by simp⟩ ⟨rfl,rfl,iV_eq (by rw [hm]),rfl,rfl,trivial⟩ fun k hk=>?_
 by_cases hkl : k < l.length
 ·have hx := hg l[k] (List.getElem_mem hkl)
  (repeat' (first
   |(apply W.qd;(first
   |(exact zM)|(exact zN)|(exact jAj)|(exact jAi)|(exact jAk)
   |(exact jA)))|(apply W.ed;(apply (e_callS (hx));exact rfl;exact rfl;(first | assumption | kernel_rfl)))|(apply yA)|(apply yB)|(refine jAb ?_)|(apply yE)|(apply yG)|(apply yH)|(apply yJ)|(apply yP)|(apply yL)|(apply yN)
   |(refine W.cond _ rfl (fun hb=>?_) (fun hb=>?_)<;>((try simp only [hb,zK])<;>(try simp only [zL,zI] at hb)<;>(try (exfalso;omega))))))
  ·exact EndsS.i rfl (idxA_hit hkl hb hk.2).symm
  ·refine ⟨k + 1, ⟨by omega, fun x hx => ?_⟩, by omega, ⟨rfl, by (repeat (first | exact trivial | refine ⟨rfl, ?_⟩))⟩⟩
   rw [List.take_succ_eq_append_getElem hkl] at hx
   rcases List.mem_append.1 hx with hx | hx
   ·exact hk.2 x hx
   ·rw [List.mem_singleton.1 hx];exact hb
 ·(repeat' (first
  |(apply W.qd;(first
  |(exact zN)
  |(exact jAj)))|(apply yA)|(apply yB)|(refine jAb ?_)|(apply yE)|(apply yI)|(apply yJ)|(apply yK)|(apply yM)
  |(refine W.cond _ rfl (fun hb=>?_) (fun hb=>?_)<;>((try simp only [hb,zK])<;>(try simp only [zL,zI] at hb)<;>(try (exfalso;omega))))))
  refine EndsS.i rfl (idxA_miss fun x hx=>hk.2 x ?_).symm
  rwa [List.take_of_length_le (by omega)]
abbrev findOV (nm : List Nat) : List Ent:=[.box [.fn 226 []],.box [bS nm]]
theorem A_find1V (c : Sv) {nm : List Nat} (h1 : isB c.1) (h2 : isB nm) : ACalls Tryz.prog 263 [svA1 c,.opt 0 0,.opt 1 0] (findOV nm) (bV (decide (c.1 = nm))) (findOV nm):=by
 refine acalls_of_bodyO Tryz.func263 rfl (zU rfl) ?_
 have hn:=A_nmV c
 (repeat' (first
  |(apply W.qd;(first
  |(exact zW (hn))|(exact zN)|(exact jAg)|(exact jAn)
  |(exact jBd)))|(apply W.ed;(exact jAa))|(apply yA)|(apply yB)|(refine jAb ?_)|(refine jAr ?_)|(apply yE)|(refine jAx ?_)
  |(apply yJ)))
 exact ⟨.inl rfl,[0,1],[bV (decide (c.1 = nm))],rfl,rfl,⟨rfl,trivial⟩,AVle.of_eq rfl,rfl⟩
theorem A_findFV {l : List Sv} {nm : List Nat} (hl : l.length ≤ 9223372036854775807) (hb1 : ∀ c ∈ l,isB c.1) (h2 : isB nm) : ACalls Tryz.prog 225 [svs l,.fn 226 [],bS nm] [] (findA (fvI l nm)) []:=by
 refine acalls_of_body Tryz.func225 rfl (zU rfl) ?_
 have hi:=A_ixV (O:=findOV nm) (g:=263) (caps:=[.opt 0 0,.opt 1 0]) (fun c=>decide (c.1 = nm)) l hl (by kernel_rfl) (fun c hc=>A_find1V c (hb1 c hc) h2)
 rw [show idxA (fun c : Sv=>decide (c.1 = nm)) l = fvI l nm from rfl] at hi
 unfold findA fxI fxE
 generalize fvI l nm = i at *
 by_cases hi0 : i < 0
 ·rw [if_pos hi0, if_pos hi0]
  (repeat' (first
   |(apply W.qd;(first
   |(exact zM)|(exact zN)|(exact jAj)
   |(apply q_makeFunc)))
   |(apply W.ed;(first
   |(apply (e_callS (hi));exact rfl;exact rfl;(first | assumption | kernel_rfl))
   |(exact jAa)))|(apply yA)|(apply yB)|(refine jAb ?_)|(apply yE)|(apply yJ)|(apply yP)
   |(refine W.cond _ rfl (fun hb=>?_) (fun hb=>?_)<;>((try simp only [hb,zK])<;>(try simp only [zL,zI] at hb)<;>(try (exfalso;omega))))))
  exact Ends.two rfl rfl rfl
 ·rw [if_neg hi0, if_neg hi0]
  (repeat' (first
   |(apply W.qd;(first
   |(exact zM)|(exact zN)|(exact jAj)
   |(apply q_makeFunc)))
   |(apply W.ed;(first
   |(apply (e_callS (hi));exact rfl;exact rfl;(first | assumption | kernel_rfl))
   |(exact jAa)))|(apply yA)|(apply yB)|(refine jAb ?_)|(apply yE)|(apply yH)|(apply yJ)
   |(refine W.cond _ rfl (fun hb=>?_) (fun hb=>?_)<;>((try simp only [hb,zK])<;>(try simp only [zL,zI] at hb)<;>(try (exfalso;omega))))))
  exact Ends.two rfl rfl rfl
theorem A_findV {cs : List Cd} {vs : List Sv} {nm : List Nat} (hl : vs.length ≤ 9223372036854775807) (hb1 : ∀ c ∈ vs,isB c.1) (h2 : isB nm) : ACalls Tryz.prog 169 [lib cs vs,bS nm] [] (findA (fvI vs nm)) []:=by
 refine acalls_of_body Tryz.func169 rfl (zU rfl) ?_
 have hf:=A_findFV hl hb1 h2
 (repeat' (first
  |(apply W.qd;(first
  |(exact zW (hf))|(exact zM)|(exact zN)|(exact jAm)|(exact jAg)
  |(exact yAb rfl rfl)))|(apply W.ed;(exact jAa))|(apply yA)|(apply yB)|(refine jAb ?_)|(apply yE)
  |(apply yJ)))
 exact Ends.two rfl rfl rfl
theorem A_has {cs : List Cd} {vs : List Sv} {k : Int} : ACalls Tryz.prog 228 [lib cs vs,iV k] [] (bV (hasB cs.length k)) []:=by
 refine acalls_of_body Tryz.func228 rfl (zU rfl) ?_
 have hm : (cs.map cdD).length = cs.length:=List.length_map _
 unfold hasB
 (repeat' (first
  |(apply yFb;exact rfl;exact rfl)
  |(apply W.qd;(first
  |(exact zM)|(exact zN)|(exact jAm)|(exact jAg)|(exact jAj)|(exact q_geq rfl rfl)|(exact jAt)|(apply (yEb (u:=.d _));exact rfl;exact rfl)
  |(apply (yDb (u:=.d _));exact rfl;exact rfl)))|(apply W.ed;(exact jAa))|(refine W.gOff _ _ rfl rfl (by intro h;cases h) ?_)|(apply yA)|(apply yB)|(refine jAb ?_)|(apply yE)|(apply yJ)
  |(refine W.gT _ _ rfl rfl (fun hb=>?_) (fun hb=>?_)<;>((try simp only [hb,zK])<;>(try simp only [zL,zI] at hb)<;>(try (exfalso;omega))))))
 all_goals (refine Ends.b rfl ?_;rw [Bool.eq_iff_iff];simp<;>omega)
theorem A_losD {c : Cd} (h : FInD c) : ACalls Tryz.prog 229 [cdA1 c] [] (iV (losD c)) []:=A_losses h
theorem A_keeps {cs : List Cd} {vs : List Sv} {k n : Int} (hF : ∀ c ∈ cs,FInD c) : ACalls Tryz.prog 171 [lib cs vs,iV k,iV n] [] (bV (keepsB cs k n)) []:=by
 refine acalls_of_body Tryz.func171 rfl (zU rfl) ?_
 have hm : (cs.map cdD).length = cs.length:=List.length_map _
 have hh:=A_has (cs:=cs) (vs:=vs) (k:=k)
 unfold keepsB
 cases hq : hasB cs.length k with
 | false =>
   rw [hq] at hh
   (repeat' (first
    |(apply W.qd;(first
    |(exact zW (hh))|(exact zM)|(exact zN)|(exact jAn)
    |(apply (yDb (u:=.d _));exact rfl;exact rfl)))|(apply W.ed;(exact jAa))|(refine W.gOff _ _ rfl rfl (by intro h;cases h) ?_)|(apply yA)|(apply yB)|(refine jAb ?_)|(apply yE)
    |(apply yJ)))
   all_goals exact Ends.b rfl rfl
 | true =>
   rw [hq] at hh
   unfold hasB at hq
   rw [Bool.and_eq_true,decide_eq_true_eq,decide_eq_true_eq] at hq
   obtain ⟨j,rfl⟩ : ∃ j : Nat,k = j:=⟨k.toNat,by omega⟩
   have hj : j < cs.length:=by omega
   have hls:=A_losD (hF cs[j] (List.getElem_mem hj))
   have eg : cs.getD (j : Int).toNat cd0 = cs[j]:=by rw [Int.toNat_natCast,List.getD_eq_getElem?_getD,List.getElem?_eq_getElem hj];rfl
   rw [eg]
   (repeat' (first
    |(apply yFb;exact rfl;exact rfl)
    |(apply W.qd;(first
    |(exact zW (hh))|(exact zW (hls))|(exact zM)|(exact zN)|(exact jAm)|(exact jAg)|(exact jAn)|(exact q_geq rfl rfl)|(exact jAk)|(exact jA)
    |(apply (yEb (u:=.d _));exact rfl;exact rfl)))|(apply W.ed;(exact jAa))|(apply yA)|(apply yB)|(refine jAb ?_)|(apply yE)
    |(apply yJ)))
   all_goals exact Ends.b rfl (by simp)
theorem A_user1 (v : Sv) {cs : List Cd} {vs : List Sv} {k : Int} : ACalls Tryz.prog 267 [svA1 v,.opt 1 0] [.box [cds cs,svs vs],.box [iV k]] (bV (usesB k v)) [.box [cds cs,svs vs],.box [iV k]]:=by
 refine acalls_of_bodyO Tryz.func267 rfl (zU rfl) ?_
 unfold usesB
 (repeat' (first
  |(apply yFb;exact rfl;exact rfl)
  |(apply W.qd;(first
  |(exact zM)|(exact zN)|(exact jAm)|(exact jAg)|(exact jAu)|(apply (yEb (u:=.d _));exact rfl;exact rfl)
  |(apply (yDb (u:=.d _));exact rfl;exact rfl)))|(apply W.ed;(exact jAa))|(refine W.gOff _ _ rfl rfl (by intro h;cases h) ?_)|(apply yA)|(apply yB)|(refine jAb ?_)|(apply yE)|(apply yJ)
  |(refine W.gF _ _ rfl rfl (fun hb=>?_) (fun hb=>?_)<;>((try simp only [hb,zK])<;>(try simp only [zL,zI] at hb)<;>(try (exfalso;omega))))))
 all_goals (refine ⟨.inl rfl,[0,1],[_],rfl,rfl,⟨rfl,trivial⟩,AVle.of_eq (congrArg bV ?_),rfl⟩;rw [Bool.eq_iff_iff];simp<;>omega)
theorem A_user {cs : List Cd} {vs : List Sv} {k : Int} (hl : vs.length ≤ 9223372036854775807) : ACalls Tryz.prog 230 [lib cs vs,iV k] [] (iV (userI vs k)) []:=by
 refine acalls_of_body Tryz.func230 rfl (zU rfl) ?_
 have hi:=A_ixV (O:=[.box [cds cs,svs vs],.box [iV k]]) (g:=267) (caps:=[.opt 1 0]) (usesB k) vs hl (by kernel_rfl) (fun v _=>A_user1 v)
 (repeat' (first
  |(apply W.qd;(first
  |(exact zN)|(exact jAm)|(exact jAg)
  |(apply q_makeFunc)))
  |(apply W.ed;(first
  |(apply (e_callS (hi));exact rfl;exact rfl;(first | assumption | kernel_rfl))
  |(exact jAa)))|(apply yA)|(apply yB)|(refine jAb ?_)|(apply yE)
  |(apply yJ)))
 exact Ends.i rfl rfl
theorem A_alone {cs : List Cd} {vs : List Sv} {i : Nat} (hl : vs.length ≤ 9223372036854775807) (hi : i < vs.length) : ACalls Tryz.prog 172 [lib cs vs,iV i] [] (bV (aloneB vs i)) []:=by
 refine acalls_of_body Tryz.func172 rfl (zU rfl) ?_
 have hm : (vs.map svD).length = vs.length:=List.length_map _
 have eg : vs.getD i sv0 = vs[i]:=by rw [List.getD_eq_getElem?_getD,List.getElem?_eq_getElem hi];rfl
 have h1:=A_user (cs:=cs) (vs:=vs) (k:=vs[i].2.1) hl
 have h2:=A_user (cs:=cs) (vs:=vs) (k:=vs[i].2.2.1) hl
 unfold aloneB
 rw [eg]
 generalize userI vs vs[i].2.1 = u1 at *
 generalize userI vs vs[i].2.2.1 = u2 at *
 (repeat' (first
  |(apply yFb;exact rfl;exact rfl)
  |(apply W.qd;(first
  |(exact zW (h1))|(exact zW (h2))|(exact zM)|(exact zN)|(exact jAm)|(exact jAg)|(exact jAn)|(exact jAu)|(exact jAk)|(exact jA)|(apply (yEb (u:=.d _));exact rfl;exact rfl)
  |(apply (yDb (u:=.d _));exact rfl;exact rfl)))
  |(apply W.ed;(first
  |(exact jAa)
  |(exact jAp)))|(apply W.ln;(exact jAh))|(refine W.gOff _ _ rfl rfl (by intro h;cases h) ?_)|(apply yA)|(apply yB)|(refine jAb ?_)|(apply yE)|(apply yJ)|(refine W.gT _ _ rfl rfl (fun hb=>?_) (fun hb=>?_)<;>((try simp only [hb,zK])<;>(try simp only [zL,zI] at hb)<;>(try (exfalso;omega))))
  |(refine W.gF _ _ rfl rfl (fun hb=>?_) (fun hb=>?_)<;>((try simp only [hb,zK])<;>(try simp only [zL,zI] at hb)<;>(try (exfalso;omega))))))
 all_goals (refine Ends.b rfl ?_;rw [Bool.eq_iff_iff];simp<;>omega)
end
section
structure LibIn (cs : List Cd) (vs : List Sv) : Prop where
 cn : ∀ c ∈ cs,NameIn c.1
 cp : ∀ c ∈ cs,c.2.2.2.1.length ≤ 9223372036854775807
 vn : ∀ v ∈ vs,NameIn v.1
 cl : cs.length ≤ 9223372036854775807
 vl : vs.length ≤ 9223372036854775807
def okC (cs : List Cd) (i : Nat) : Bool:=decide (fcI cs (cs.getD i cd0).1 = (i : Int)) && chkD (cs.getD i cd0)
def okV (cs : List Cd) (vs : List Sv) (i : Nat) : Bool:=decide (fvI vs (vs.getD i sv0).1 = (i : Int)) && (plausB (vs.getD i sv0).1 (vs.getD i sv0).2.2.2.1 (vs.getD i sv0).2.2.2.2 && (keepsB cs (vs.getD i sv0).2.1 (vs.getD i sv0).2.2.2.1 && (decide ((vs.getD i sv0).2.2.1 ≠ (vs.getD i sv0).2.1) && ((decide ((vs.getD i sv0).2.2.1 = -1) || keepsB cs (vs.getD i sv0).2.2.1 (vs.getD i sv0).2.2.2.1) && aloneB vs i))))
def validB (cs : List Cd) (vs : List Sv) : Bool:=(decide (cs.length ≤ 8) && decide (vs.length ≤ 8)) && ((List.range cs.length).all (okC cs) && (List.range vs.length).all (okV cs vs))
theorem idxA_nn {α : Type} {q : α → Bool} {l : List α} {x : α} (hx : x ∈ l) (h : q x = true) : 0 ≤ idxA q l:=by
 unfold idxA
 split
 ·omega
 ·rename_i hn
  have:=(List.findIdx?_eq_none_iff.1 hn) x hx
  rw [h] at this;cases this
theorem find_nn {i : Int} (h : 0 ≤ i) : findA i = .tup [iV i,iV 0]:=by
 unfold findA fxI fxE
 rw [if_neg (by omega),if_neg (by omega)]
theorem fin_chk {c : Cd} (h : chkD c = true) (hn : NameIn c.1) : FInD c:=by
 have hv:=chk_valid h
 unfold validC at hv
 simp only [Bool.and_eq_true,decide_eq_true_eq] at hv
 exact ⟨hn.b,hn.l,by omega,by omega⟩
theorem all_range {n : Nat} {p : Nat → Bool} : (List.range n).all p = true ↔ ∀ i,i < n → p i = true:=by
 rw [List.all_eq_true]
 exact ⟨fun h i hi=>h i (List.mem_range.2 hi),fun h i hi=>h i (List.mem_range.1 hi)⟩
theorem range_bad {n i : Nat} {p : Nat → Bool} (hi : i < n) (h : p i = false) : (List.range n).all p = false:=by
 rw [List.all_eq_false]
 exact ⟨i,List.mem_range.2 hi,by rw [h];decide⟩
attribute [local irreducible] Quiet Eff OpOk AWPG ACont ABlock ACalls AGoto
theorem A_valid30 {cs : List Cd} {vs : List Sv} (h : LibIn cs vs) : ACalls Tryz.prog 108 [lib cs vs] [] (bV (validB cs vs)) []:=by
 refine acalls_of_body Tryz.func108 rfl (zU rfl) ?_
 have hmc : (cs.map cdD).length = cs.length:=List.length_map _
 have hmv : (vs.map svD).length = vs.length:=List.length_map _
 have hcl:=h.cl
 have hvl:=h.vl
 by_cases hg : cs.length ≤ 8 ∧ vs.length ≤ 8
 case neg =>
  have e : validB cs vs = false:=by
   unfold validB
   rw [Bool.and_eq_false_iff]
   left
   rw [Bool.and_eq_false_iff,decide_eq_false_iff_not,decide_eq_false_iff_not]
   omega
  rw [e]
  (repeat' (first
   |(apply yFb;exact rfl;exact rfl)
   |(apply W.qd;(first
   |(exact zM)|(exact zN)|(exact jAm)|(exact jAg)|(exact jBf)|(exact jAt)|(apply (yEb (u:=.d _));exact rfl;exact rfl)
   |(apply (yDb (u:=.d _));exact rfl;exact rfl)))|(apply W.ed;(exact jAa))|(refine W.gOff _ _ rfl rfl (by intro h;cases h) ?_)|(apply yA)|(apply yB)|(apply (W.regionS 3);exact rfl;kernel_rfl)|(apply yE)|(apply yJ)|(apply yP)|(refine jAv ?_)|(refine W.gF _ _ rfl rfl (fun hb=>?_) (fun hb=>?_)<;>((try simp only [hb,zK])<;>(try simp only [zL,zI] at hb)<;>(try (exfalso;omega))))
   |(refine W.cond _ rfl (fun hb=>?_) (fun hb=>?_)<;>((try simp only [hb,zK])<;>(try simp only [zL,zI] at hb)<;>(try (exfalso;omega))))))
  all_goals first | exact Ends.b rfl rfl | (exfalso;omega)
 obtain ⟨hg1,hg2⟩:=hg
 have hV : validB cs vs = ((List.range cs.length).all (okC cs) && (List.range vs.length).all (okV cs vs)):=by
  unfold validB
  rw [decide_eq_true hg1,decide_eq_true hg2];rfl
 have hbC : ∀ i,i < cs.length → okC cs i = false → validB cs vs = false:=fun i hi h1=>by rw [hV,range_bad hi h1];rfl
 have hbV : ∀ i,i < vs.length → okV cs vs i = false → validB cs vs = false:=fun i hi h1=>by rw [hV,range_bad hi h1,Bool.and_false]
 have hgV : (∀ i,i < cs.length → okC cs i = true) → (∀ i,i < vs.length → okV cs vs i = true) → validB cs vs = true:=fun h1 h2=>by rw [hV,all_range.2 h1,all_range.2 h2];rfl
 clear hV
 generalize validB cs vs = V at *
 (repeat' (first
  |(apply yFb;exact rfl;exact rfl)
  |(apply W.qd;(first
  |(exact zM)|(exact zN)|(exact jAm)|(exact jAg)|(exact jBf)|(exact jAt)
  |(apply (yDb (u:=.d _));exact rfl;exact rfl)))|(apply W.ed;(exact jAa))|(apply yA)|(apply yB)|(apply (W.regionS 4);exact rfl;kernel_rfl)|(apply yE)|(apply yG)|(apply yH)|(refine W.gF _ _ rfl rfl (fun hb=>?_) (fun hb=>?_)<;>((try simp only [hb,zK])<;>(try simp only [zL,zI] at hb)<;>(try (exfalso;omega))))
  |(refine W.cond _ rfl (fun hb=>?_) (fun hb=>?_)<;>((try simp only [hb,zK])<;>(try simp only [zL,zI] at hb)<;>(try (exfalso;omega))))))
 all_goals try (exfalso;omega)
 refine AWP.loopW (α:=Nat) (fun k=>k ≤ cs.length ∧ ∀ j,j < k → okC cs j = true) (fun k=>⟨[(24,iV k),(23,iV cs.length),(22,cds cs),(1,.opt 0 0)],[.box [cds cs,svs vs]]⟩) (fun k=>cs.length - k) 0 ⟨Nat.zero_le _,fun j hj=>by omega⟩ ?wk0 fun k hk=>?_
 case wk0=>exact ⟨[0],rfl,rfl,rfl,rfl,iV_eq (by rw [hmc]),rfl,rfl,trivial⟩
 by_cases hkl : k < cs.length
 ·have hmem := List.getElem_mem hkl
  have eg : cs.getD k cd0 = cs[k]:=by rw [List.getD_eq_getElem?_getD,List.getElem?_eq_getElem hkl];rfl
  have hn:=h.cn _ hmem
  have hf:=A_findC (cs:=cs) (vs:=vs) (nm:=cs[k].1) hcl (fun c hc=>(h.cn c hc).b) hn.b
  have hnn : 0 ≤ fcI cs cs[k].1:=idxA_nn hmem (decide_eq_true rfl)
  rw [find_nn hnn] at hf
  obtain ⟨e,hc,he⟩:=A_lcheckG (M:=cs[k].2.1) (D:=cs[k].2.2.1) (par:=cs[k].2.2.2.1) (dom:=cs[k].2.2.2.2) hn.b hn.l (h.cp _ hmem)
  have hok : okC cs k = (decide (fcI cs cs[k].1 = (k : Int)) && chkD cs[k]):=by unfold okC;rw [eg]
  have he2 : e = 0 ↔ chkD cs[k] = true:=he
  replace hok:=Lib.hid hok
  have hbk:=hbC k hkl
  have hnx : okC cs k = true → ∀ j,j < k + 1 → okC cs j = true:=fun h1 j hj=>by
   by_cases e : j = k
   ·subst e;exact h1
   ·exact hk.2 j (by omega)
  clear hk hbC hbV hgV he
  generalize fcI cs cs[k].1 = fi at *
  generalize chkD cs[k] = ck at *
  (repeat' (first
   |(apply yFb;exact rfl;exact rfl)
   |(apply W.qd;(first
   |(exact zW (hf))|(exact zW (hc))|(exact zM)|(exact zN)|(exact jAm)|(exact jAg)|(exact jAn)|(exact jAj)|(exact jBb)|(exact jAi)|(exact yAb rfl rfl)|(exact jAk)|(exact jA)|(apply (yEb (u:=.d _));exact rfl;exact rfl)
   |(apply (yDb (u:=.d _));exact rfl;exact rfl)))|(apply W.ed;(exact jAp))|(apply W.ln;(exact jAh))|(refine W.gOff _ _ rfl rfl (by intro h;cases h) ?_)|(apply yA)|(apply yB)|(refine jAb ?_)|(apply yE)|(apply yG)|(apply yH)|(apply yJ)|(apply yP)|(apply yL)|(apply yN)|(refine jAv ?_)|(refine W.gF _ _ rfl rfl (fun hb=>?_) (fun hb=>?_)<;>((try simp only [hb,zK])<;>(try simp only [zL,zI] at hb)<;>(try (exfalso;omega))))
   |(refine W.cond _ rfl (fun hb=>?_) (fun hb=>?_)<;>((try simp only [hb,zK])<;>(try simp only [zL,zI] at hb)<;>(try (exfalso;omega))))))
  all_goals first
   |(refine Ends.b rfl (hbk ?_).symm;rw [hok.out,Bool.and_eq_false_iff,decide_eq_false_iff_not];first | (left;omega) | (right;rw [Bool.eq_false_iff];intro h9;have:=he2.2 h9;omega))|(refine ⟨k + 1,⟨by omega,hnx ?_⟩,by omega,[0],rfl,rfl,rfl,iV_eq (by omega),rfl,rfl,rfl,trivial⟩;rw [hok.out,Bool.and_eq_true,decide_eq_true_eq];exact ⟨by omega,he2.1 (by omega)⟩)
 ·have hC : ∀ i, i < cs.length → okC cs i = true := fun i hi => hk.2 i (by omega)
  have hF : ∀ c ∈ cs,FInD c:=fun c hc=>by
   obtain ⟨j,hj,rfl⟩:=List.getElem_of_mem hc
   have h1:=hC j hj
   unfold okC at h1
   rw [Bool.and_eq_true,List.getD_eq_getElem?_getD,List.getElem?_eq_getElem hj] at h1
   exact fin_chk h1.2 (h.cn _ hc)
  have hgV:=hgV hC
  clear hk hbC hC
  (repeat' (first
   |(apply W.qd;(first
   |(exact zM)|(exact jAm)|(exact jAg)|(exact jAj)
   |(exact jAt)))|(apply yA)|(apply yB)|(apply (W.regionS 11);exact rfl;kernel_rfl)|(apply yE)|(apply yG)|(apply yI)|(apply yK)|(apply yM)
   |(refine W.cond _ rfl (fun hb=>?_) (fun hb=>?_)<;>((try simp only [hb,zK])<;>(try simp only [zL,zI] at hb)<;>(try (exfalso;omega))))))
  all_goals try (exfalso;omega)
  refine AWP.loopW (α:=Nat) (fun k=>k ≤ vs.length ∧ ∀ j,j < k → okV cs vs j = true) (fun k=>⟨[(48,iV k),(47,iV vs.length),(46,svs vs),(1,.opt 0 0)],[.box [cds cs,svs vs]]⟩) (fun k=>vs.length - k) 0 ⟨Nat.zero_le _,fun j hj=>by omega⟩ ?wk1 fun k hk=>?_
  case wk1=>exact ⟨[0],rfl,rfl,rfl,rfl,iV_eq (by rw [hmv]),rfl,rfl,trivial⟩
  by_cases hkv : k < vs.length
  ·have hmem := List.getElem_mem hkv
   have eg : vs.getD k sv0 = vs[k]:=by rw [List.getD_eq_getElem?_getD,List.getElem?_eq_getElem hkv];rfl
   have hn:=h.vn _ hmem
   have hf:=A_findV (cs:=cs) (vs:=vs) (nm:=vs[k].1) hvl (fun c hc=>(h.vn c hc).b) hn.b
   have hnn : 0 ≤ fvI vs vs[k].1:=idxA_nn hmem (decide_eq_true rfl)
   rw [find_nn hnn] at hf
   have hp:=A_plausible (l:=vs[k].2.2.2.1) (w:=vs[k].2.2.2.2) hn
   have hk1:=A_keeps (vs:=vs) (k:=vs[k].2.1) (n:=vs[k].2.2.2.1) hF
   have hk2:=A_keeps (vs:=vs) (k:=vs[k].2.2.1) (n:=vs[k].2.2.2.1) hF
   have ha:=A_alone (cs:=cs) (vs:=vs) hvl hkv
   have hok : okV cs vs k = (decide (fvI vs vs[k].1 = (k : Int)) && (plausB vs[k].1 vs[k].2.2.2.1 vs[k].2.2.2.2 && (keepsB cs vs[k].2.1 vs[k].2.2.2.1 && (decide (vs[k].2.2.1 ≠ vs[k].2.1) && ((decide (vs[k].2.2.1 = -1) || keepsB cs vs[k].2.2.1 vs[k].2.2.2.1) && aloneB vs k))))):=by unfold okV;rw [eg]
   replace hok:=Lib.hid hok
   have hbk:=hbV k hkv
   have hnx : okV cs vs k = true → ∀ j,j < k + 1 → okV cs vs j = true:=fun h1 j hj=>by
    by_cases e : j = k
    ·subst e;exact h1
    ·exact hk.2 j (by omega)
   clear hk hbV hgV
   generalize fvI vs vs[k].1 = fi at *
   generalize plausB vs[k].1 vs[k].2.2.2.1 vs[k].2.2.2.2 = b1 at *
   generalize keepsB cs vs[k].2.1 vs[k].2.2.2.1 = b2 at *
   generalize keepsB cs vs[k].2.2.1 vs[k].2.2.2.1 = b3 at *
   generalize aloneB vs k = b4 at *
   (repeat' (first
    |(apply yFb;exact rfl;exact rfl)
    |(apply W.qd;(first
    |(exact zW (hf))|(exact zW (hp))|(exact zW (hk1))|(exact zW (hk2))|(exact zW (ha))|(exact zM)|(exact zN)|(exact jAm)|(exact jAg)|(exact jAn)|(exact jAj)|(exact jAu)|(exact jBb)|(exact jBe)|(exact jAi)|(exact yAb rfl rfl)|(exact jAk)|(exact jA)|(apply (yEb (u:=.d _));exact rfl;exact rfl)
    |(apply (yDb (u:=.d _));exact rfl;exact rfl)))|(apply W.ed;(exact jAp))|(apply W.ln;(exact jAh))|(refine W.gOff _ _ rfl rfl (by intro h;cases h) ?_)|(apply yA)|(apply yB)|(refine jAb ?_)|(apply yE)|(apply yG)|(apply yH)|(apply yJ)|(apply yP)|(apply yL)|(apply yN)|(refine jAv ?_)|(refine W.gT _ _ rfl rfl (fun hb=>?_) (fun hb=>?_)<;>((try simp only [hb,zK])<;>(try simp only [zL,zI] at hb)<;>(try (exfalso;omega))))|(refine W.gF _ _ rfl rfl (fun hb=>?_) (fun hb=>?_)<;>((try simp only [hb,zK])<;>(try simp only [zL,zI] at hb)<;>(try (exfalso;omega))))
    |(refine W.cond _ rfl (fun hb=>?_) (fun hb=>?_)<;>((try simp only [hb,zK])<;>(try simp only [zL,zI] at hb)<;>(try (exfalso;omega))))))
   all_goals first
    |(refine Ends.b rfl (hbk ?_).symm;rw [hok.out];simp [*]<;>omega)|(refine ⟨k + 1,⟨by omega,hnx ?_⟩,by omega,[0],rfl,rfl,rfl,iV_eq (by omega),rfl,rfl,rfl,trivial⟩;rw [hok.out];simp [*]<;>omega)
  ·have e : V = true := hgV fun i hi => hk.2 i (by omega)
   subst e
   clear hk hbV hgV
   (repeat' (first
    |(apply W.qd;(first
    |(exact zN)
    |(exact jAj)))|(apply yA)|(apply yB)|(refine jAb ?_)|(apply yE)|(apply yI)|(apply yJ)|(apply yK)|(apply yM)
    |(refine W.cond _ rfl (fun hb=>?_) (fun hb=>?_)<;>((try simp only [hb,zK])<;>(try simp only [zL,zI] at hb)<;>(try (exfalso;omega))))))
   all_goals exact Ends.b rfl rfl
end
section
structure LibOk (cs : List Cd) (vs : List Sv) : Prop where
 cn : ∀ c ∈ cs,NameIn c.1
 ck : ∀ c ∈ cs,chkD c = true
 vn : ∀ v ∈ vs,NameIn v.1
 cl : cs.length ≤ 1000
 vl : vs.length ≤ 1000
abbrev Lb:=List Cd × List Sv
def lb0 : Lb:=([],[])
def addCN (cs : List Cd) (vs : List Sv) (c : Cd) : Lb × Int × Int :=
 if chkD c = false then (lb0,0,1) else if 0 ≤ fcI cs c.1 then (lb0,0,20) else if 8 ≤ cs.length then (lb0,0,2) else ((cs ++ [c],vs),(cs.length : Int),0)
theorem chk_rows {c : Cd} (h : chkD c = true) : c.2.2.2.1.length ≤ 31 ∧ ∀ r ∈ c.2.2.2.1,r.length ≤ 31:=by
 have hv:=chk_valid h
 unfold validC at hv
 simp only [Bool.and_eq_true,decide_eq_true_eq,List.all_eq_true] at hv
 obtain ⟨⟨⟨⟨h1,h2⟩,h3⟩,h4⟩,h5⟩:=hv
 have h6 : c.2.2.1 ≤ 31:=by
  unfold chkD chkC at h
  simp only [Bool.and_eq_true,decide_eq_true_eq] at h
  have:=h.1.1.2
  omega
 refine ⟨by omega,fun r hr=>?_⟩
 have:=h5 r hr
 unfold rowOk at this
 simp only [Bool.and_eq_true,decide_eq_true_eq] at this
 omega
theorem LibOk.fin {cs : List Cd} {vs : List Sv} (h : LibOk cs vs) : ∀ c ∈ cs,FInD c:=fun c hc=>fin_chk (h.ck c hc) (h.cn c hc)
theorem find_no {i : Int} (h : ¬ 0 ≤ i) : findA i = .tup [iV 0,iV 12]:=by
 unfold findA fxI fxE
 rw [if_pos (by omega),if_pos (by omega)]
attribute [local irreducible] Quiet Eff OpOk AWPG ACont ABlock ACalls AGoto
end
section
theorem hasB_nat {n : Nat} {k : Int} (h : hasB n k = true) : ∃ j : Nat,k = j ∧ j < n:=by
 unfold hasB at h
 rw [Bool.and_eq_true,decide_eq_true_eq,decide_eq_true_eq] at h
 exact ⟨k.toNat,by omega,by omega⟩
attribute [local irreducible] Quiet Eff OpOk AWPG ACont ABlock ACalls AGoto
end
section
section
variable {α : Type} {q : α → Bool} {l : List α}
end
theorem getDc {cs : List Cd} {i : Nat} (h : i < cs.length) : cs.getD i cd0 = cs[i]:=by rw [List.getD_eq_getElem?_getD,List.getElem?_eq_getElem h];rfl
theorem getDv {vs : List Sv} {i : Nat} (h : i < vs.length) : vs.getD i sv0 = vs[i]:=by rw [List.getD_eq_getElem?_getD,List.getElem?_eq_getElem h];rfl
structure VOk (cs : List Cd) (vs : List Sv) (i : Nat) (v : Sv) : Prop where
 nm : fvI vs v.1 = (i : Int)
 pl : plausB v.1 v.2.2.2.1 v.2.2.2.2 = true
 kp : keepsB cs v.2.1 v.2.2.2.1 = true
 ne : v.2.2.1 ≠ v.2.1
 kn : v.2.2.1 = -1 ∨ keepsB cs v.2.2.1 v.2.2.2.1 = true
 us : userI vs v.2.1 = (i : Int)
 un : v.2.2.1 = -1 ∨ userI vs v.2.2.1 = (i : Int)
theorem okV_iff {cs : List Cd} {vs : List Sv} {i : Nat} (h : i < vs.length) : okV cs vs i = true ↔ VOk cs vs i vs[i]:=by
 unfold okV aloneB
 rw [getDv h]
 simp only [Bool.and_eq_true,Bool.or_eq_true,decide_eq_true_eq]
 exact ⟨fun ⟨h1,h2,h3,h4,h5,h6,h7⟩=>⟨h1,h2,h3,h4,h5,h6,h7⟩,fun ⟨h1,h2,h3,h4,h5,h6,h7⟩=>⟨h1,h2,h3,h4,h5,h6,h7⟩⟩
theorem okC_iff {cs : List Cd} {i : Nat} (h : i < cs.length) : okC cs i = true ↔ fcI cs cs[i].1 = (i : Int) ∧ chkD cs[i] = true:=by
 unfold okC
 rw [getDc h,Bool.and_eq_true,decide_eq_true_eq]
structure Vld (cs : List Cd) (vs : List Sv) : Prop where
 cl : cs.length ≤ 8
 vl : vs.length ≤ 8
 c : ∀ (i : Nat) (h : i < cs.length),fcI cs cs[i].1 = (i : Int) ∧ chkD cs[i] = true
 v : ∀ (i : Nat) (h : i < vs.length),VOk cs vs i vs[i]
theorem valid_iff {cs : List Cd} {vs : List Sv} : validB cs vs = true ↔ Vld cs vs:=by
 unfold validB
 simp only [Bool.and_eq_true,decide_eq_true_eq,all_range]
 exact ⟨fun ⟨⟨h1,h2⟩,h3,h4⟩=>⟨h1,h2,fun i h=>(okC_iff h).1 (h3 i h),fun i h=>(okV_iff h).1 (h4 i h)⟩,fun ⟨h1,h2,h3,h4⟩=>⟨⟨h1,h2⟩,fun i h=>(okC_iff h).2 (h3 i h),fun i h=>(okV_iff h).2 (h4 i h)⟩⟩
theorem keeps_has {cs : List Cd} {k n : Int} (h : keepsB cs k n = true) : 0 ≤ k ∧ k < cs.length:=by
 unfold keepsB at h
 rw [Bool.and_eq_true] at h
 obtain ⟨j,rfl,hj⟩:=hasB_nat h.1
 omega
end
section
theorem LibOk.nil : LibOk [] []:=⟨by simp,by simp,by simp,by decide,by decide⟩
theorem LibOk.addC {cs : List Cd} {vs : List Sv} (h : LibOk cs vs) (c : Cd) (h1 : NameIn c.1) (h2 : chkD c = true) (h3 : cs.length < 900) : LibOk (cs ++ [c]) vs where
 cn x hx:=by
  rcases List.mem_append.1 hx with h4 | h4
  ·exact h.cn x h4
  ·rw [List.mem_singleton.1 h4];exact h1
 ck x hx:=by
  rcases List.mem_append.1 hx with h4 | h4
  ·exact h.ck x h4
  ·rw [List.mem_singleton.1 h4];exact h2
 vn:=h.vn
 cl:=by simp;omega
 vl:=h.vl
theorem LibOk.addV {cs : List Cd} {vs : List Sv} (h : LibOk cs vs) (v : Sv) (h1 : NameIn v.1) (h3 : vs.length < 900) : LibOk cs (vs ++ [v]) where
 cn:=h.cn
 ck:=h.ck
 vn x hx:=by
  rcases List.mem_append.1 hx with h4 | h4
  ·exact h.vn x h4
  ·rw [List.mem_singleton.1 h4];exact h1
 cl:=h.cl
 vl:=by simp;omega
theorem LibOk.lin {cs : List Cd} {vs : List Sv} (h : LibOk cs vs) : LibIn cs vs where
 cn:=h.cn
 cp c hc:=by have:=(chk_rows (h.ck c hc)).1;omega
 vn:=h.vn
 cl:=by have:=h.cl;omega
 vl:=by have:=h.vl;omega
def rs30 : Cd:=([114,115],8,2,[[1,1],[1,2]],1)
def pa30 : Cd:=([112,97,114],8,2,[[1,1]],1)
def pb30 : Cd:=([112,97,114],8,2,[[1,2]],1)
def pc30 : Cd:=([112,97,114,50],8,2,[[1,2]],1)
theorem n_rs : NameIn rs30.1:=⟨by unfold isB rs30;decide,by decide⟩
theorem n_pa : NameIn pa30.1:=⟨by unfold isB pa30;decide,by decide⟩
theorem L1 : LibOk [rs30] []:=LibOk.nil.addC rs30 n_rs (by kernel_rfl) (by decide)
theorem L2 : LibOk [rs30,pa30] []:=L1.addC pa30 n_pa (by kernel_rfl) (by decide)
theorem r1 : addCN [] [] rs30 = (([rs30],[]),0,0):=by kernel_rfl
theorem r2 : addCN [rs30] [] pa30 = (([rs30,pa30],[]),1,0):=by kernel_rfl
theorem r3 : addCN [rs30,pa30] [] pb30 = (lb0,0,20):=by kernel_rfl
theorem r4 : addCN [rs30,pa30] [] pc30 = (([rs30,pa30,pc30],[]),2,0):=by kernel_rfl
attribute [local irreducible] Quiet Eff OpOk AWPG ACont ABlock ACalls AGoto
end
section
theorem Vld.ok {cs : List Cd} {vs : List Sv} (h : Vld cs vs) (hi : LibIn cs vs) : LibOk cs vs where
 cn:=hi.cn
 ck c hc:=by
  obtain ⟨i,hi,rfl⟩:=List.getElem_of_mem hc
  exact (h.c i hi).2
 vn:=hi.vn
 cl:=by have:=h.cl;omega
 vl:=by have:=h.vl;omega
theorem Vld.nil : Vld [] []:=⟨by decide,by decide,fun i h=>absurd h (by simp),fun i h=>absurd h (by simp)⟩
structure Gd30 (cs : List Cd) (vs : List Sv) : Prop where
 v : Vld cs vs
 n : LibIn cs vs
theorem Gd30.nil : Gd30 [] []:=⟨Vld.nil,LibOk.nil.lin⟩
attribute [local irreducible] Quiet Eff OpOk AWPG ACont ABlock ACalls AGoto
end
section
def rightB (cs : List Cd) (v : Sv) : Bool:=plausB v.1 v.2.2.2.1 v.2.2.2.2 && (keepsB cs v.2.1 v.2.2.2.1 && (decide (v.2.2.1 ≠ v.2.1) && (decide (v.2.2.1 = -1) || keepsB cs v.2.2.1 v.2.2.2.1)))
theorem okV_right {cs : List Cd} {vs : List Sv} {i : Nat} (h : i < vs.length) : okV cs vs i = (rightB cs vs[i] && (decide (fvI vs vs[i].1 = (i : Int)) && (decide (userI vs vs[i].2.1 = (i : Int)) && (decide (vs[i].2.2.1 = -1) || decide (userI vs vs[i].2.2.1 = (i : Int)))))):=by
 unfold okV aloneB rightB
 rw [getDv h]
 rw [Bool.eq_iff_iff]
 simp only [Bool.and_eq_true,Bool.or_eq_true,decide_eq_true_eq]
 constructor
 ·rintro ⟨h1, h2, h3, h4, h5, h6, h7⟩
  exact ⟨⟨h2,h3,h4,h5⟩,h1,h6,h7⟩
 ·rintro ⟨⟨h2, h3, h4, h5⟩, h1, h6, h7⟩
  exact ⟨h1,h2,h3,h4,h5,h6,h7⟩
attribute [local irreducible] Quiet Eff OpOk AWPG ACont ABlock ACalls AGoto
theorem A_all9 {n : Nat} (h : n ≤ 3000000) : ACalls Tryz.prog 268 [iV n] [] (bools (List.replicate n true)) []:=by
 refine acalls_of_body Tryz.func268 rfl (zU rfl) ?_
 (repeat' (first
  |(apply W.qd;(exact zN))|(apply yA)|(apply yB)|(apply (W.regionS 2);exact rfl;kernel_rfl)
  |(apply yE)))
 refine AWP.nilRow 3 1 4 rfl (by omega) ?_
 (repeat' (first
  |(apply W.qd;(exact zN))|(apply yB)|(apply (W.regionS 3);exact rfl;kernel_rfl)|(apply yE)
  |(apply yG)))
 refine AWP.loopW (α:=Nat) (fun i=>i ≤ n) (fun i=>⟨[(4,iV i),(3,.osl 0 i 0 (List.replicate i true).length),(0,iV n)],[.row i 1 4 ((List.replicate i true).map tD)]⟩) (fun i=>n - i) 0 (Nat.zero_le _) ⟨[0],rfl,rfl,rfl,by (repeat (first | exact trivial | refine ⟨rfl,?_⟩))⟩ fun i hi=>?_
 by_cases hil : i < n
 ·have hrp : List.replicate (i + 1) true = List.replicate i true ++ [true] := List.replicate_succ'
  have hln : (List.replicate i true).length = i:=List.length_replicate
  replace hrp:=Lib.hid hrp
  generalize List.replicate i true = A at *
  (repeat' (first
   |(apply W.qd;(first
   |(exact zM)|(exact zN)|(exact jAj)|(exact jAi)
   |(exact jAl)))|(apply W.ld;(apply l_app1;(iterate 8 exact rfl);(first | omega | (focus (simp;omega)) | (focus (simp;done)))))|(apply yA)|(apply yB)|(refine jAb ?_)|(apply yE)|(apply yG)|(apply yH)|(apply yL)
   |(refine W.cond _ rfl (fun hb=>?_) (fun hb=>?_)<;>((try simp only [hb,zK])<;>(try simp only [zL,zI] at hb)<;>(try (exfalso;omega))))))
  refine ⟨i + 1,by omega,by omega,?_⟩
  rw [hrp.out]
  exact ⟨[0],rfl,rfl,rfl,iV_eq (by omega),rfl,rfl,trivial⟩
 ·obtain rfl : i = n := by omega
  (repeat' (first
   |(apply W.qd;(first
   |(exact zM)|(exact zN)
   |(exact jAj)))|(apply yA)|(apply yB)|(refine jAb ?_)|(apply yE)|(apply yI)|(apply yJ)|(apply yK)|(apply yM)
   |(refine W.cond _ rfl (fun hb=>?_) (fun hb=>?_)<;>((try simp only [hb,zK])<;>(try simp only [zL,zI] at hb)<;>(try (exfalso;omega))))))
  exact Ends.osl rfl rfl (by simp) rfl
theorem A_losses9 {nm : List Nat} {M D dom : Int} {par : List (List Int)} (h : FIn nm D par) : ACalls Tryz.prog 236 [cdF nm M D par dom] [] (iV (lossC nm M D par dom)) []:=by
 have h1:=h.d
 have h2:=h.p
 have hmp : (par.map rD).length = par.length:=List.length_map _
 obtain ⟨w,hw⟩ : ∃ w : Nat,D + (par.length : Int) = w:=⟨(D + (par.length : Int)).toNat,by omega⟩
 have ha : ACalls Tryz.prog 268 [iV (D + ((par.map rD).length : Int))] [] (bools (List.replicate w true)) []:=by
  rw [hmp,hw];exact A_all9 (by omega)
 have hl:=A_left9 (M:=M) (dom:=dom) (hv:=List.replicate w true) h (by simp;omega)
 have e : lossC nm M D par dom = leftC nm M D par dom (List.replicate w true):=by unfold lossC;rw [hw,Int.toNat_natCast]
 rw [e]
 generalize leftC nm M D par dom (List.replicate w true) = L at *
 generalize List.replicate w true = A at *
 refine acalls_of_body Tryz.func236 rfl (zU rfl) ?_
 (repeat' (first
  |(apply W.qd;(first
  |(exact zW (ha))|(exact zW (hl))|(exact zN)|(exact jAm)|(exact jAg)|(exact jAn)|(exact jAi)
  |(exact jAt)))|(apply W.ed;(exact jAa))|(apply yA)|(apply yB)|(refine jAb ?_)|(refine jAr ?_)|(apply yE)|(refine jAx ?_)
  |(apply yJ)))
 exact Ends.i rfl rfl
theorem A_losD9 {c : Cd} (h : FInD c) : ACalls Tryz.prog 236 [cdA1 c] [] (iV (losD c)) []:=A_losses9 h
theorem A_rname {s : List Nat} (h : NameIn s) : ACalls Tryz.prog 181 [bS s] [] (bV (nameB s)) []:=by
 refine acalls_of_body Tryz.func181 rfl (zU rfl) ?_
 have hs:=h.b
 have hl:=h.l
 have hnB : nameB s = ((decide (1 ≤ s.length) && decide (s.length ≤ 12)) && (List.range s.length).all (wordAt s)):=rfl
 by_cases hg : 1 ≤ s.length ∧ s.length ≤ 12
 case neg =>
  have e : nameB s = false:=by
   rw [hnB,Bool.and_eq_false_iff]
   left
   rw [Bool.and_eq_false_iff,decide_eq_false_iff_not,decide_eq_false_iff_not]
   omega
  rw [e]
  (repeat' (first
   |(apply yFb;exact rfl;exact rfl)
   |(apply W.qd;(first
   |(exact zM)|(exact zN)|(exact jAj)|(exact jBf)|(exact q_len_bs rfl rfl)|(apply (yEb (u:=.d _));exact rfl;exact rfl)
   |(apply (yDb (u:=.d _));exact rfl;exact rfl)))|(refine W.gOff _ _ rfl rfl (by intro h;cases h) ?_)|(apply yA)|(apply yB)|(apply (W.regionS 3);exact rfl;kernel_rfl)|(apply yE)|(apply yJ)|(apply yP)|(refine jAv ?_)
   |(refine W.gF _ _ rfl rfl (fun hb=>?_) (fun hb=>?_)<;>((try simp only [hb,zK])<;>(try simp only [zL,zI] at hb)<;>(try (exfalso;omega))))))
  all_goals first | exact Ends.b rfl rfl | (exfalso;omega)
 have hp : 0 < s.length:=by omega
 have g0 : s.getD 0 0 = s[0]:=by rw [List.getD_eq_getElem?_getD,List.getElem?_eq_getElem hp];rfl
 rw [decide_eq_true hg.1,decide_eq_true hg.2,Bool.and_true,Bool.true_and] at hnB
 have hbad : ∀ k,k < s.length → wordAt s k = false → nameB s = false:=fun k hk h=>by
  rw [hnB,List.all_eq_false]
  exact ⟨k,List.mem_range.2 hk,by rw [h];decide⟩
 have hgood : (∀ k,k < s.length → wordAt s k = true) → nameB s = true:=fun h=>by
  rw [hnB,List.all_eq_true]
  intro j hj
  exact h j (List.mem_range.1 hj)
 clear hnB
 generalize nameB s = V at *
 by_cases hc : 97 ≤ s[0] ∧ s[0] ≤ 122
 case neg =>
  have e:=hbad 0 hp (by
   unfold wordAt letB
   rw [g0,Bool.or_eq_false_iff,Bool.and_eq_false_iff,decide_eq_false_iff_not,decide_eq_false_iff_not]
   exact ⟨by omega,by simp⟩)
  subst e
  (repeat' (first
   |(apply yFb;exact rfl;exact rfl)
   |(apply W.qd;(first
   |(exact zM)|(exact zN)|(exact jAj)|(exact jBf)|(exact q_len_bs rfl rfl)|(exact jAo)|(apply (yEb (u:=.d _));exact rfl;exact rfl)
   |(apply (yDb (u:=.d _));exact rfl;exact rfl)))|(refine W.gOff _ _ rfl rfl (by intro h;cases h) ?_)|(apply yA)|(apply yB)|(apply (W.regionS 3);exact rfl;kernel_rfl)|(apply yE)|(apply yJ)|(apply yP)|(refine jAv ?_)|(refine W.gF _ _ rfl rfl (fun hb=>?_) (fun hb=>?_)<;>((try simp only [hb,zK])<;>(try simp only [zL,zI] at hb)<;>(try (exfalso;omega))))
   |(refine W.cond _ rfl (fun hb=>?_) (fun hb=>?_)<;>((try simp only [hb,zK])<;>(try simp only [zL,zI] at hb)<;>(try (exfalso;omega))))))
  all_goals first | exact Ends.b rfl rfl | (exfalso;omega)
 (repeat' (first
  |(apply yFb;exact rfl;exact rfl)
  |(apply W.qd;(first
  |(exact zM)|(exact zN)|(exact jAj)|(exact jBf)|(exact q_len_bs rfl rfl)|(exact jAo)
  |(apply (yDb (u:=.d _));exact rfl;exact rfl)))|(apply yA)|(apply yB)|(apply (W.regionS 4);exact rfl;kernel_rfl)|(apply yE)|(apply yG)|(apply yH)|(refine W.gF _ _ rfl rfl (fun hb=>?_) (fun hb=>?_)<;>((try simp only [hb,zK])<;>(try simp only [zL,zI] at hb)<;>(try (exfalso;omega))))
  |(refine W.cond _ rfl (fun hb=>?_) (fun hb=>?_)<;>((try simp only [hb,zK])<;>(try simp only [zL,zI] at hb)<;>(try (exfalso;omega))))))
 all_goals try (exfalso;omega)
 refine AWP.loopW (α:=Nat) (fun k=>k ≤ s.length ∧ ∀ j,j < k → wordAt s j = true) (fun k=>⟨[(3,iV k),(0,bS s)],[]⟩) (fun k=>s.length - k) 0 ⟨Nat.zero_le _,fun j hj=>by omega⟩ ⟨[],rfl,rfl,rfl,by (repeat (first | exact trivial | refine ⟨rfl,?_⟩))⟩ fun k hk=>?_
 by_cases hkl : k < s.length
 ·have eg : s.getD k 0 = s[k] := by rw [List.getD_eq_getElem?_getD, List.getElem?_eq_getElem hkl]; rfl
  have hnext : wordAt s k = true → ∀ j,j < k + 1 → wordAt s j = true:=fun h j hj=>by
   by_cases e : j = k
   ·subst e;exact h
   ·exact hk.2 j (by omega)
  have hbk:=hbad k hkl
  have hwa : wordAt s k = true ↔ (97 ≤ s[k] ∧ s[k] ≤ 122) ∨ (48 ≤ s[k] ∧ s[k] ≤ 57):=by
   unfold wordAt letB digB;rw [eg]
   simp only [Bool.or_eq_true,Bool.and_eq_true,decide_eq_true_eq]
   by_cases e : k = 0
   ·subst e;exact ⟨fun h=>.inl hc,fun h=>.inl hc⟩
   ·exact ⟨fun h=>h.imp id (·.2),fun h=>h.imp id fun h=>⟨e,h⟩⟩
  have hwf : ¬ ((97 ≤ s[k] ∧ s[k] ≤ 122) ∨ (48 ≤ s[k] ∧ s[k] ≤ 57)) → wordAt s k = false:=fun h=>Bool.eq_false_iff.2 fun h2=>h (hwa.1 h2)
  clear hk hbad hgood
  (repeat' (first
   |(apply yFb;exact rfl;exact rfl)
   |(apply W.qd;(first
   |(exact zM)|(exact zN)|(exact jAj)|(exact jBf)|(exact jAi)|(exact q_len_bs rfl rfl)|(exact jAo)|(apply (yEb (u:=.d _));exact rfl;exact rfl)
   |(apply (yDb (u:=.d _));exact rfl;exact rfl)))|(refine W.gOff _ _ rfl rfl (by intro h;cases h) ?_)|(apply yA)|(apply yB)|(refine jAb ?_)|(apply yE)|(apply yG)|(apply yH)|(apply yJ)|(apply yP)|(apply yL)|(apply yN)|(refine jAv ?_)|(refine jAy ?_)|(refine W.gT _ _ rfl rfl (fun hb=>?_) (fun hb=>?_)<;>((try simp only [hb,zK])<;>(try simp only [zL,zI] at hb)<;>(try (exfalso;omega))))|(refine W.gF _ _ rfl rfl (fun hb=>?_) (fun hb=>?_)<;>((try simp only [hb,zK])<;>(try simp only [zL,zI] at hb)<;>(try (exfalso;omega))))
   |(refine W.cond _ rfl (fun hb=>?_) (fun hb=>?_)<;>((try simp only [hb,zK])<;>(try simp only [zL,zI] at hb)<;>(try (exfalso;omega))))))
  all_goals first
   |exact Ends.b rfl (hbk (hwf (by omega))).symm
   |exact ⟨k + 1,⟨by omega,hnext (hwa.2 (by omega))⟩,by omega,[],rfl,rfl,rfl,iV_eq (by omega),rfl,trivial⟩
 ·have e : V = true := hgood fun i hi => hk.2 i (by omega)
  subst e
  clear hk hbad hgood
  (repeat' (first
   |(apply W.qd;(first
   |(exact zM)|(exact zN)|(exact jAj)
   |(exact q_len_bs rfl rfl)))|(apply yA)|(apply yB)|(refine jAb ?_)|(apply yE)|(apply yI)|(apply yJ)|(apply yK)|(apply yM)
   |(refine W.cond _ rfl (fun hb=>?_) (fun hb=>?_)<;>((try simp only [hb,zK])<;>(try simp only [zL,zI] at hb)<;>(try (exfalso;omega))))))
  all_goals exact Ends.b rfl rfl
theorem A_rfindC {cs : List Cd} {vs : List Sv} {nm : List Nat} (hl : cs.length ≤ 9223372036854775807) (hb1 : ∀ c ∈ cs,isB c.1) (h2 : isB nm) : ACalls Tryz.prog 115 [lib cs vs,bS nm] [] (findA (fcI cs nm)) []:=by
 refine acalls_of_body Tryz.func115 rfl (zU rfl) ?_
 have hm : (cs.map cdD).length = cs.length:=List.length_map _
 (repeat' (first
  |(apply W.qd;(exact zN))|(apply W.ed;(exact jAa))|(apply yA)|(apply yB)|(apply (W.regionS 2);exact rfl;kernel_rfl)|(apply yE)
  |(apply yG)))
 refine AWP.loopW (α:=Nat) (fun k=>k ≤ cs.length ∧ ∀ x ∈ cs.take k,decide (x.1 = nm) = false) (fun k=>⟨[(6,iV k),(1,bS nm),(2,.opt 0 0)],[.box [cds cs,svs vs]]⟩) (fun k=>cs.length - k) 0 ⟨by omega,by simp⟩ ⟨[0],rfl,rfl,rfl,by (repeat (first | exact trivial | refine ⟨rfl,?_⟩))⟩ fun k hk=>?_
 by_cases hkl : k < cs.length
 ·have hx1 := hb1 cs[k] (List.getElem_mem hkl)
  (repeat' (first
   |(apply W.qd;(first
   |(exact zM)|(exact zN)|(exact jAm)|(exact jAg)|(exact jAj)|(exact jAi)|(exact jAt)|(exact jAc)|(exact jB)|(exact jA)
   |(exact jBd)))|(apply yA)|(apply yB)|(refine jAb ?_)|(apply yE)|(apply yG)|(apply yH)|(apply yJ)|(apply yP)|(apply yL)|(apply yN)
   |(refine W.cond _ rfl (fun hb=>?_) (fun hb=>?_)<;>((try simp only [hb,zK])<;>(try simp only [zL,zI] at hb)<;>(try (exfalso;omega))))))
  all_goals first
   |(rw [show fcI cs nm = (k : Int) from idxA_hit hkl (decide_eq_true hb) hk.2,find_nn (by omega)];exact Ends.two rfl rfl rfl)|(refine ⟨k + 1,⟨by omega,fun x hx=>?_⟩,by omega,[0],rfl,rfl,rfl,iV_eq (by omega),rfl,rfl,trivial⟩;rw [List.take_succ_eq_append_getElem hkl] at hx;rcases List.mem_append.1 hx with hx | hx<;>first | exact hk.2 x hx | (rw [List.mem_singleton.1 hx];exact decide_eq_false hb))
 ·rw [show fcI cs nm = -1 from idxA_miss fun x hx => hk.2 x (by rwa [List.take_of_length_le (by omega)]), find_no (by omega)]
  clear hk
  (repeat' (first
   |(apply W.qd;(first
   |(exact zM)|(exact zN)|(exact jAm)|(exact jAg)|(exact jAj)
   |(exact jAt)))|(apply yA)|(apply yB)|(refine jAb ?_)|(apply yE)|(apply yI)|(apply yJ)|(apply yK)|(apply yM)
   |(refine W.cond _ rfl (fun hb=>?_) (fun hb=>?_)<;>((try simp only [hb,zK])<;>(try simp only [zL,zI] at hb)<;>(try (exfalso;omega))))))
  exact Ends.two rfl rfl rfl
theorem A_rfindV {cs : List Cd} {vs : List Sv} {nm : List Nat} (hl : vs.length ≤ 9223372036854775807) (hb1 : ∀ c ∈ vs,isB c.1) (h2 : isB nm) : ACalls Tryz.prog 117 [lib cs vs,bS nm] [] (findA (fvI vs nm)) []:=by
 refine acalls_of_body Tryz.func117 rfl (zU rfl) ?_
 have hm : (vs.map svD).length = vs.length:=List.length_map _
 (repeat' (first
  |(apply W.qd;(exact zN))|(apply W.ed;(exact jAa))|(apply yA)|(apply yB)|(apply (W.regionS 2);exact rfl;kernel_rfl)|(apply yE)
  |(apply yG)))
 refine AWP.loopW (α:=Nat) (fun k=>k ≤ vs.length ∧ ∀ x ∈ vs.take k,decide (x.1 = nm) = false) (fun k=>⟨[(6,iV k),(1,bS nm),(2,.opt 0 0)],[.box [cds cs,svs vs]]⟩) (fun k=>vs.length - k) 0 ⟨by omega,by simp⟩ ⟨[0],rfl,rfl,rfl,by (repeat (first | exact trivial | refine ⟨rfl,?_⟩))⟩ fun k hk=>?_
 by_cases hkl : k < vs.length
 ·have hx1 := hb1 vs[k] (List.getElem_mem hkl)
  (repeat' (first
   |(apply W.qd;(first
   |(exact zM)|(exact zN)|(exact jAm)|(exact jAg)|(exact jAj)|(exact jAi)|(exact jAt)|(exact jAc)|(exact jB)|(exact jA)
   |(exact jBd)))|(apply yA)|(apply yB)|(refine jAb ?_)|(apply yE)|(apply yG)|(apply yH)|(apply yJ)|(apply yP)|(apply yL)|(apply yN)
   |(refine W.cond _ rfl (fun hb=>?_) (fun hb=>?_)<;>((try simp only [hb,zK])<;>(try simp only [zL,zI] at hb)<;>(try (exfalso;omega))))))
  all_goals first
   |(rw [show fvI vs nm = (k : Int) from idxA_hit hkl (decide_eq_true hb) hk.2,find_nn (by omega)];exact Ends.two rfl rfl rfl)|(refine ⟨k + 1,⟨by omega,fun x hx=>?_⟩,by omega,[0],rfl,rfl,rfl,iV_eq (by omega),rfl,rfl,trivial⟩;rw [List.take_succ_eq_append_getElem hkl] at hx;rcases List.mem_append.1 hx with hx | hx<;>first | exact hk.2 x hx | (rw [List.mem_singleton.1 hx];exact decide_eq_false hb))
 ·rw [show fvI vs nm = -1 from idxA_miss fun x hx => hk.2 x (by rwa [List.take_of_length_le (by omega)]), find_no (by omega)]
  clear hk
  (repeat' (first
   |(apply W.qd;(first
   |(exact zM)|(exact zN)|(exact jAm)|(exact jAg)|(exact jAj)
   |(exact jAt)))|(apply yA)|(apply yB)|(refine jAb ?_)|(apply yE)|(apply yI)|(apply yJ)|(apply yK)|(apply yM)
   |(refine W.cond _ rfl (fun hb=>?_) (fun hb=>?_)<;>((try simp only [hb,zK])<;>(try simp only [zL,zI] at hb)<;>(try (exfalso;omega))))))
  exact Ends.two rfl rfl rfl
theorem A_rkeeps {cs : List Cd} {vs : List Sv} {k n : Int} (hF : ∀ c ∈ cs,FInD c) : ACalls Tryz.prog 182 [lib cs vs,iV k,iV n] [] (bV (keepsB cs k n)) []:=by
 refine acalls_of_body Tryz.func182 rfl (zU rfl) ?_
 have hm : (cs.map cdD).length = cs.length:=List.length_map _
 unfold keepsB
 cases hq : hasB cs.length k with
 | false =>
   unfold hasB at hq
   rw [Bool.and_eq_false_iff,decide_eq_false_iff_not,decide_eq_false_iff_not] at hq
   (repeat' (first
    |(apply yFb;exact rfl;exact rfl)
    |(apply W.qd;(first
    |(exact zM)|(exact zN)|(exact jAm)|(exact jAg)|(exact jAj)|(exact q_geq rfl rfl)|(exact jAt)|(apply (yEb (u:=.d _));exact rfl;exact rfl)
    |(apply (yDb (u:=.d _));exact rfl;exact rfl)))|(apply W.ed;(exact jAa))|(refine W.gOff _ _ rfl rfl (by intro h;cases h) ?_)|(apply yA)|(apply yB)|(refine jAb ?_)|(apply yE)|(apply yJ)
    |(refine W.gT _ _ rfl rfl (fun hb=>?_) (fun hb=>?_)<;>((try simp only [hb,zK])<;>(try simp only [zL,zI] at hb)<;>(try (exfalso;omega))))))
   all_goals first | exact Ends.b rfl rfl | (exfalso;omega)
 | true =>
   unfold hasB at hq
   rw [Bool.and_eq_true,decide_eq_true_eq,decide_eq_true_eq] at hq
   obtain ⟨j,rfl⟩ : ∃ j : Nat,k = j:=⟨k.toNat,by omega⟩
   have hj : j < cs.length:=by omega
   have hls:=A_losD9 (hF cs[j] (List.getElem_mem hj))
   rw [Int.toNat_natCast,getDc hj]
   (repeat' (first
    |(apply yFb;exact rfl;exact rfl)
    |(apply W.qd;(first
    |(exact zW (hls))|(exact zM)|(exact zN)|(exact jAm)|(exact jAg)|(exact jAj)|(exact q_geq rfl rfl)|(exact jAt)|(exact jAk)|(exact jA)
    |(apply (yEb (u:=.d _));exact rfl;exact rfl)))|(apply W.ed;(exact jAa))|(apply yA)|(apply yB)|(refine jAb ?_)|(apply yE)|(apply yJ)
    |(refine W.gT _ _ rfl rfl (fun hb=>?_) (fun hb=>?_)<;>((try simp only [hb,zK])<;>(try simp only [zL,zI] at hb)<;>(try (exfalso;omega))))))
   all_goals first | exact Ends.b rfl (by simp) | (exfalso;omega)
theorem A_ruser {cs : List Cd} {vs : List Sv} {q : Int} (hl : vs.length ≤ 9223372036854775807) : ACalls Tryz.prog 118 [lib cs vs,iV q] [] (iV (userI vs q)) []:=by
 refine acalls_of_body Tryz.func118 rfl (zU rfl) ?_
 have hm : (vs.map svD).length = vs.length:=List.length_map _
 (repeat' (first
  |(apply W.qd;(exact zN))|(apply W.ed;(exact jAa))|(apply yA)|(apply yB)|(apply (W.regionS 2);exact rfl;kernel_rfl)|(apply yE)
  |(apply yG)))
 refine AWP.loopW (α:=Nat) (fun k=>k ≤ vs.length ∧ ∀ x ∈ vs.take k,usesB q x = false) (fun k=>⟨[(5,iV k),(1,iV q),(2,.opt 0 0)],[.box [cds cs,svs vs]]⟩) (fun k=>vs.length - k) 0 ⟨by omega,by simp⟩ ⟨[0],rfl,rfl,rfl,by (repeat (first | exact trivial | refine ⟨rfl,?_⟩))⟩ fun k hk=>?_
 by_cases hkl : k < vs.length
 ·have hu : usesB q vs[k] = true ↔ (vs[k].2.1 = q ∨ vs[k].2.2.1 = q) := by unfold usesB; simp
  have hit : usesB q vs[k] = true → userI vs q = (k : Int):=fun h=>idxA_hit hkl h hk.2
  have hnx : usesB q vs[k] = false → ∀ x ∈ vs.take (k + 1),usesB q x = false:=fun h x hx=>by
   rw [List.take_succ_eq_append_getElem hkl] at hx
   rcases List.mem_append.1 hx with hx | hx
   ·exact hk.2 x hx
   ·rw [List.mem_singleton.1 hx];exact h
  clear hk
  generalize userI vs q = U at *
  generalize usesB q vs[k] = B at *
  (repeat' (first
   |(apply yFb;exact rfl;exact rfl)
   |(apply W.qd;(first
   |(exact zM)|(exact zN)|(exact jAm)|(exact jAg)|(exact jAj)|(exact jAu)|(exact jAi)|(exact jAt)|(exact jAc)|(exact jB)|(exact jA)|(apply (yEb (u:=.d _));exact rfl;exact rfl)
   |(apply (yDb (u:=.d _));exact rfl;exact rfl)))|(refine W.gOff _ _ rfl rfl (by intro h;cases h) ?_)|(apply yA)|(apply yB)|(refine jAb ?_)|(apply yE)|(apply yG)|(apply yH)|(apply yJ)|(apply yP)|(apply yL)|(apply yN)|(refine jAv ?_)|(refine W.gF _ _ rfl rfl (fun hb=>?_) (fun hb=>?_)<;>((try simp only [hb,zK])<;>(try simp only [zL,zI] at hb)<;>(try (exfalso;omega))))
   |(refine W.cond _ rfl (fun hb=>?_) (fun hb=>?_)<;>((try simp only [hb,zK])<;>(try simp only [zL,zI] at hb)<;>(try (exfalso;omega))))))
  all_goals first
   |exact Ends.i rfl (hit (hu.2 (by omega))).symm
   |exact ⟨k + 1,⟨by omega,hnx (Bool.eq_false_iff.2 fun h=>by have:=hu.1 h;omega)⟩,by omega,[0],rfl,rfl,rfl,iV_eq (by omega),rfl,rfl,trivial⟩
 ·rw [show userI vs q = -1 from idxA_miss fun x hx => hk.2 x (by rwa [List.take_of_length_le (by omega)])]
  clear hk
  (repeat' (first
   |(apply W.qd;(first
   |(exact zM)|(exact zN)|(exact jAm)|(exact jAg)|(exact jAj)
   |(exact jAt)))|(apply yA)|(apply yB)|(refine jAb ?_)|(apply yE)|(apply yI)|(apply yJ)|(apply yK)|(apply yM)
   |(refine W.cond _ rfl (fun hb=>?_) (fun hb=>?_)<;>((try simp only [hb,zK])<;>(try simp only [zL,zI] at hb)<;>(try (exfalso;omega))))))
  exact Ends.i rfl rfl
theorem A_rright {cs : List Cd} {vs : List Sv} {v : Sv} (hF : ∀ c ∈ cs,FInD c) (hn : NameIn v.1) : ACalls Tryz.prog 116 [lib cs vs,svA1 v] [] (bV (rightB cs v)) []:=by
 refine acalls_of_body Tryz.func116 rfl (zU rfl) ?_
 have h1:=A_rname hn
 have h2:=A_rkeeps (vs:=vs) (k:=v.2.1) (n:=v.2.2.2.1) hF
 have h3:=A_rkeeps (vs:=vs) (k:=v.2.2.1) (n:=v.2.2.2.1) hF
 unfold rightB plausB
 generalize nameB v.1 = b1 at *
 generalize keepsB cs v.2.1 v.2.2.2.1 = b2 at *
 generalize keepsB cs v.2.2.1 v.2.2.2.1 = b3 at *
 (repeat' (first
  |(apply yFb;exact rfl;exact rfl)
  |(apply W.qd;(first
  |(exact zW (h1))|(exact zW (h2))|(exact zW (h3))|(exact zM)|(exact zN)|(exact jAm)|(exact jAg)|(exact jAn)|(exact jAj)|(exact jBf)|(exact jAu)|(exact jBe)|(apply (yEb (u:=.d _));exact rfl;exact rfl)
  |(apply (yDb (u:=.d _));exact rfl;exact rfl)))|(apply W.ed;(exact jAa))|(refine W.gOff _ _ rfl rfl (by intro h;cases h) ?_)|(apply yA)|(apply yB)|(refine jAb ?_)|(apply yE)|(apply yH)|(apply yJ)|(apply yP)|(refine jAv ?_)|(refine W.gF _ _ rfl rfl (fun hb=>?_) (fun hb=>?_)<;>((try simp only [hb,zK])<;>(try simp only [zL,zI] at hb)<;>(try (exfalso;omega))))
  |(refine W.cond _ rfl (fun hb=>?_) (fun hb=>?_)<;>((try simp only [hb,zK])<;>(try simp only [zL,zI] at hb)<;>(try (exfalso;omega))))))
 all_goals (refine Ends.b rfl ?_;simp [*]<;>omega)
end
section
def Ints (w : World) (v : Value) (l : List Int) : Prop :=
 ∃ (A : Option Addr) (c : Nat),v = .slice A l.length c ∧ l.length ≤ c ∧ c ≤ maxLen ∧ (0 < l.length → ∃ b o,A = some ⟨b,o,none⟩ ∧ b < w.heap.size ∧ ∀ j,j < l.length → w.cell? ⟨b,o + j,none⟩ = some (.int .i64 (l.getD j 0)))
theorem Ints.keep {w w' : World} {v : Value} {l : List Int} (h : Ints w v l) (hb : Below w.heap.size w w') : Ints w' v l:=by
 obtain ⟨A,c,rfl,h1,h2,h3⟩:=h
 refine ⟨A,c,rfl,h1,h2,fun hp=>?_⟩
 obtain ⟨b,o,rfl,hlt,hc⟩:=h3 hp
 refine ⟨b,o,rfl,Nat.lt_of_lt_of_le hlt hb.size,fun j hj=>?_⟩
 rw [hb.cell (p:=⟨b,o + j,none⟩) hlt];exact hc j hj
theorem Ints.of_own {w : World} {base e n : Nat} {v : Value} {l : List Int} (h : w.ownsRow base e 1 v n (l.map (Value.int .i64))) : Ints w v l:=by
 have hn : l.length = n:=by have:=h.1;simpa using this
 rcases h.2 with ⟨rfl,hx⟩ | ⟨g,cap,cur,rfl,hb,hh,hnc,hcm,hcs,htake⟩
 ·subst hx
  have : l = []:=List.eq_nil_of_length_eq_zero hn
  subst this
  exact ⟨none,0,rfl,by simp,by simp [maxLen],fun hp=>by simp at hp⟩
 ·subst hn
  refine ⟨_,cap,rfl,hnc,hcm,fun hp=>⟨g,0,rfl,?_,fun j hj=>?_⟩⟩
  ·rcases Nat.lt_or_ge g w.heap.size with hlt | hge
   ·exact hlt
   ·rw [Array.getElem?_eq_none hge] at hh;cases hh
  ·rw [cell_of_row w g (0 + j) cur e (0, 0) hh, Nat.zero_add]
   have h1 : cur.toList[j]? = (l.map (Value.int .i64))[j]?:=by
    rw [← htake,List.getElem?_take,if_pos (by simpa using hj)]
   have h2 : cur[j]? = cur.toList[j]?:=by simp
   rw [h2,h1]
   simp [List.getElem?_map,List.getElem?_eq_getElem hj]
theorem ret_i {k : IntKind} {a b : Int} (h : a = b) : Ending.returned (.int k a) = .returned (.int k b):=by rw [h]
theorem Below.then {B : Nat} {a w w' : World} (h : Below B a w) (hb : Below w.heap.size w w') (hB : B ≤ w.heap.size) : Below B a w':=h.trans (hb.mono hB)
theorem Below.lt {B : Nat} {w w' : World} (h : Below B w w') {k : Nat} (hk : k < w.heap.size) : k < w'.heap.size:=Nat.lt_of_lt_of_le hk h.size
theorem Ints.drew {w : World} {v : Value} {l : List Int} (h : Ints w v l) : Ints w.drew v l:=h
theorem Ints.alloc {w : World} {v : Value} {l : List Int} (h : Ints w v l) (o : Obj) : Ints (w.alloc o) v l:=h.keep ((Below.refl _ _).alloc (Nat.le_refl _) o)
theorem Ints.nil (w : World) : Ints w (.slice none 0 0) []:=⟨none,0,rfl,by simp,by simp [maxLen],fun h=>by simp at h⟩
theorem Below.after {w X w1 : World} (h : Below w.heap.size w X) (hb : Below X.heap.size X w1) : Below w.heap.size w w1:=h.trans (hb.mono h.size)
theorem Ints.lit (w : World) (e : TypeId) (l : List Int) (n : Nat) (hn : l.length = n) (hm : n ≤ 1000000000) :
 Ints (w.alloc (.cells (l.map (Value.int .i64)).toArray e)) (.slice (some ⟨w.heap.size,0,none⟩) n n) l:=by
 have h:=World.ownsRow_lit (base:=0) (size:=1) (e:=e) w (l.map (Value.int .i64)).toArray n (Nat.zero_le _) (by unfold maxLen;omega) (by simp [hn])
 exact Ints.of_own (by simpa using h)
theorem Ints.ext {w w' : World} {v : Value} {l : List Int} (h : Ints w v l) (hb : Below w.heap.size w w') : Ints w' v l:=h.keep hb
def Box6 (w : World) (g : Nat) (d r n s l i : Int) : Prop :=
 g < w.heap.size ∧ w.cell? ⟨g,0,none⟩ = some (.int .i64 d) ∧ w.cell? ⟨g,1,none⟩ = some (.int .i64 r) ∧ w.cell? ⟨g,2,none⟩ = some (.int .i64 n) ∧ w.cell? ⟨g,3,none⟩ = some (.int .i64 s) ∧ w.cell? ⟨g,4,none⟩ = some (.int .i64 l) ∧ w.cell? ⟨g,5,none⟩ = some (.int .i64 i)
theorem Box6.keep {w w' : World} {g : Nat} {d r n s l i : Int} (h : Box6 w g d r n s l i) (hb : Below w.heap.size w w') : Box6 w' g d r n s l i:=by
 obtain ⟨h0,h1,h2,h3,h4,h5,h6⟩:=h
 have hc:=fun o=>hb.cell (p:=⟨g,o,none⟩) h0
 exact ⟨Nat.lt_of_lt_of_le h0 hb.size,(hc 0).trans h1,(hc 1).trans h2,(hc 2).trans h3,(hc 3).trans h4,(hc 4).trans h5,(hc 5).trans h6⟩
theorem Box6.new (w : World) (t : TypeId) (d r n s l i : Int) : Box6 (w.alloc (.cells #[.int .i64 d,.int .i64 r,.int .i64 n,.int .i64 s,.int .i64 l,.int .i64 i] t)) w.heap.size d r n s l i:=by
 refine ⟨by simp,?_,?_,?_,?_,?_,?_⟩<;>simp
def Row (w : World) (b o : Nat) (l : List Int) : Prop:=b < w.heap.size ∧ ∀ j,j < l.length → w.cell? ⟨b,o + j,none⟩ = some (.int .i64 (l.getD j 0))
theorem Row.keep {w w' : World} {b o : Nat} {l : List Int} (h : Row w b o l) (hb : Below w.heap.size w w') : Row w' b o l :=
 ⟨Nat.lt_of_lt_of_le h.1 hb.size,fun j hj=>(hb.cell (p:=⟨b,o + j,none⟩) h.1).trans (h.2 j hj)⟩
theorem Ints.row {w : World} {v : Value} {l : List Int} (h : Ints w v l) (hp : 0 < l.length) : ∃ b o c,v = .slice (some ⟨b,o,none⟩) l.length c ∧ l.length ≤ c ∧ c ≤ 9223372036854775807 ∧ Row w b o l:=by
 obtain ⟨A,c,rfl,h1,h2,h3⟩:=h
 obtain ⟨b,o,rfl,hlt,hc⟩:=h3 hp
 exact ⟨b,o,c,rfl,h1,by unfold maxLen at h2;omega,hlt,hc⟩
theorem Row.ints {w : World} {b o c : Nat} {l : List Int} (h : Row w b o l) (h1 : l.length ≤ c) (h2 : c ≤ 9223372036854775807) : Ints w (.slice (some ⟨b,o,none⟩) l.length c) l :=
 ⟨_,c,rfl,h1,by unfold maxLen;omega,fun _=>⟨b,o,rfl,h.1,h.2⟩⟩
/-! ### A region that draws its order,whose operations read old cells and whose callees make memory but hand back numbers: one walk of the lexical order. -/
structure Ext (W : World) where
 w : World
 h : Below W.heap.size W w
instance (W : World) : Nonempty (Ext W):=⟨⟨W,Below.refl _ _⟩⟩
theorem Box6.ext {W : World} {g : Nat} {d r n s l i : Int} (h : Box6 W g d r n s l i) :
 (∀ y : Ext W,y.w.cell? ⟨g,0,none⟩ = some (.int .i64 d)) ∧ (∀ y : Ext W,y.w.cell? ⟨g,1,none⟩ = some (.int .i64 r)) ∧ (∀ y : Ext W,y.w.cell? ⟨g,2,none⟩ = some (.int .i64 n)) ∧
 (∀ y : Ext W,y.w.cell? ⟨g,3,none⟩ = some (.int .i64 s)) ∧ (∀ y : Ext W,y.w.cell? ⟨g,4,none⟩ = some (.int .i64 l)) ∧ (∀ y : Ext W,y.w.cell? ⟨g,5,none⟩ = some (.int .i64 i)):=by
 refine ⟨fun y=>?_,fun y=>?_,fun y=>?_,fun y=>?_,fun y=>?_,fun y=>?_⟩<;>(obtain ⟨_,h1,h2,h3,h4,h5,h6⟩:=h.keep y.h;assumption)
/-! ### A block that is known whole -/
def BlkB (w : World) (g : Nat) (t : TypeId) (cs : Array Value) : Prop:=w.heap[g]? = some (.cells cs t (0,0))
section
variable {w w' : World} {g : Nat} {t : TypeId} {cs : Array Value}
theorem BlkB.lt (h : BlkB w g t cs) : g < w.heap.size:=by
 rcases Nat.lt_or_ge g w.heap.size with hlt | hge
 ·exact hlt
 ·unfold BlkB at h;rw [Array.getElem?_eq_none hge] at h;cases h
theorem BlkB.cell (h : BlkB w g t cs) (i : Nat) : w.cell? ⟨g,i,none⟩ = cs[i]?:=cell_of_row w g i cs t (0,0) h
theorem BlkB.frozen (h : BlkB w g t cs) (i : Nat) : w.frozen? ⟨g,i,none⟩ = false:=by
 unfold BlkB at h
 simp [World.frozen?,h]
theorem BlkB.new (w : World) (t : TypeId) (cs : Array Value) : BlkB (w.alloc (.cells cs t)) w.heap.size t cs:=heap_alloc_new w _
theorem BlkB.alloc (h : BlkB w g t cs) (o : Obj) : BlkB (w.alloc o) g t cs:=(Below.heap_alloc w o g h.lt).trans h
theorem BlkB.below {B : Nat} (h : BlkB w g t cs) (hb : Below B w w') (hg : g < B) : BlkB w' g t cs:=(hb.block g hg).trans h
theorem BlkB.keep (h : BlkB w g t cs) (hb : Below w.heap.size w w') : BlkB w' g t cs:=h.below hb h.lt
end
end
section
/-! ### The multipliers -/
def prog (r k : Nat) : List Nat:=(List.range k).map fun i=>1 + i * r
def cnt (d r : Nat) : Nat:=(d - 1 + r - 1) / r
end
section
def RetOwn (w : World) (l : List Int) (e : Ending) (w' : World) : Prop :=
 ∃ v,e = .returned v ∧ w'.ownsRow w.heap.size 3 1 v l.length (l.map (Value.int .i64)) ∧ Below w.heap.size w w'
end
section
def OkC (d r n s l i : Int) : Prop:=(1 ≤ d ∧ d ≤ 64) ∧ (1 ≤ r ∧ r ≤ 8) ∧ (1 ≤ n ∧ n ≤ 4096) ∧ (0 ≤ s ∧ s ≤ d - 1) ∧ (1 ≤ l ∧ l ≤ 65536) ∧ (1 ≤ i ∧ i ≤ 65536) ∧ d % r = 0
instance (d r n s l i : Int) : Decidable (OkC d r n s l i):=by unfold OkC;infer_instance
def chk13 (d r n s l i : Int) : Int:=if OkC d r n s l i then 0 else 1
theorem chk13_yes {d r n s l i : Int} (h : OkC d r n s l i) : chk13 d r n s l i = 0:=if_pos h
theorem chk13_no {d r n s l i : Int} (h : ¬ OkC d r n s l i) : chk13 d r n s l i = 1:=if_neg h
theorem within_any (a b c : Int) (w : World) :
 Calls Tryz.prog 222 #[.int .i64 a,.int .i64 b,.int .i64 c] w fun e w'=>e = .returned (.bool (decide (b ≤ a) && decide (a ≤ c))) ∧ w = w':=by
 by_cases h : b ≤ a
 ·by_cases h2 : a ≤ c
  ·go_enter Tryz.func222, Tryz.ntmps222
   go_wp2
   go_ret
   first | (simp [h,h2];done) | (simp [h,h2];omega)
  ·have h2' : c < a := by omega
   go_enter Tryz.func222,Tryz.ntmps222
   go_wp2
   go_ret
   first | (simp [h,h2];done) | (simp [h,h2];omega)
 ·have h' : a < b := by omega
  go_enter Tryz.func222,Tryz.ntmps222
  go_wp2
  go_ret
  first | (simp [h];done) | (simp;intros;omega)
set_option maxHeartbeats 1600000 in
theorem check_any (d r n s l i : Int) (w : World) :
 Calls Tryz.prog 166 #[.agg #[.int .i64 d,.int .i64 r,.int .i64 n,.int .i64 s,.int .i64 l,.int .i64 i]] w fun e w'=>e = .returned (.int .i64 (chk13 d r n s l i)) ∧ Below w.heap.size w w':=by
 go_enter Tryz.func166,Tryz.ntmps166
 go_wp2_with (go_at_call 222;refine (within_any _ _ _ _).mono ?_;rintro e w' ⟨rfl,rfl⟩)
 all_goals (go_ret;refine ⟨ret_i ?_,by go_grown⟩)
 all_goals first
  |(rw [chk13_no];unfold OkC;intro h;obtain ⟨h1,h2,h3,h4,h5,h6,h7⟩:=h;first | (exact absurd h1 ‹_›) | (exact absurd h2 ‹_›) | (exact absurd h3 ‹_›) | (exact absurd h4 ‹_›) | (exact absurd h5 ‹_›) | (exact absurd h6 ‹_›) | (have hx : (d % r != 0) = true:=(by assumption);simp [h7] at hx);done)
  |(rw [chk13_yes];have hx : (d % r != 0) = false:=(by assumption);exact ⟨‹_›,‹_›,‹_›,‹_›,‹_›,‹_›,by simpa using hx⟩)
  |skip
theorem RetOwn.nil {w w' : World} (hb : Below w.heap.size w w') : RetOwn w [] (.returned (.slice none 0 0)) w':=⟨_,rfl,World.ownsRow_nil _ _ _ _,hb⟩
theorem RetOwn.later {w w1 : World} {l : List Int} {e : Ending} {w' : World} (h : RetOwn w1 l e w') (hb : Below w.heap.size w w1) : RetOwn w l e w':=by
 obtain ⟨v,rfl,ho,hb'⟩:=h
 exact ⟨v,rfl,ho.mono hb.size,hb.trans (hb'.mono hb.size)⟩
end
section
theorem in13_any (a b c : Int) (w : World) :
 Calls Tryz.prog 178 #[.int .i64 a,.int .i64 b,.int .i64 c] w fun e w'=>e = .returned (.bool (decide (b ≤ a) && decide (a ≤ c))) ∧ w = w':=by
 by_cases h : b ≤ a
 ·by_cases h2 : a ≤ c
  ·go_enter Tryz.func178, Tryz.ntmps178
   go_wp2
   go_ret
   first | (simp [h,h2];done) | (simp [h,h2];omega)
  ·have h2' : c < a := by omega
   go_enter Tryz.func178,Tryz.ntmps178
   go_wp2
   go_ret
   first | (simp [h,h2];done) | (simp [h,h2];omega)
 ·have h' : a < b := by omega
  go_enter Tryz.func178,Tryz.ntmps178
  go_wp2
  go_ret
  first | (simp [h];done) | (simp;intros;omega)
set_option maxHeartbeats 1600000 in
theorem rcheck_any (d r n s l i : Int) (w : World) :
 Calls Tryz.prog 113 #[.agg #[.int .i64 d,.int .i64 r,.int .i64 n,.int .i64 s,.int .i64 l,.int .i64 i]] w fun e w'=>e = .returned (.int .i64 (chk13 d r n s l i)) ∧ Below w.heap.size w w':=by
 go_enter Tryz.func113,Tryz.ntmps113
 go_wp2_with (go_at_call 178;refine (in13_any _ _ _ _).mono ?_;rintro e w' ⟨rfl,rfl⟩)
 all_goals (go_ret;refine ⟨ret_i ?_,by go_grown⟩)
 all_goals first
  |(rw [chk13_no];unfold OkC;intro h;obtain ⟨h1,h2,h3,h4,h5,h6,h7⟩:=h;first | (exact absurd h1 ‹_›) | (exact absurd h2 ‹_›) | (exact absurd h3 ‹_›) | (exact absurd h4 ‹_›) | (exact absurd h5 ‹_›) | (exact absurd h7 ‹_›) | (have hx : (!decide (1 ≤ i)) = true ∨ (!decide (i ≤ 65536)) = true:=(by assumption);simp at hx;omega) | (have hx : (!decide (0 ≤ s)) = true ∨ (!decide (s ≤ d - 1)) = true:=(by assumption);simp at hx;omega);done)
  |(rw [chk13_yes];have hx : (!decide (1 ≤ i)) = false ∧ (!decide (i ≤ 65536)) = false:=(by assumption);have hy : (!decide (0 ≤ s)) = false ∧ (!decide (s ≤ d - 1)) = false:=(by assumption);exact ⟨‹_›,‹_›,‹_›,by simpa using hy,‹_›,by simpa using hx,‹_›⟩)
end
section
abbrev cfgA (d r n s l i : Int) : AV:=.agg [iV d,iV r,iV n,iV s,iV l,iV i]
theorem A_dchk (d r n s l i : Int) : ACalls Tryz.prog 166 [cfgA d r n s l i] [] (iV (chk13 d r n s l i)) []:=acalls_of_exact rfl fun w=>check_any d r n s l i w
theorem A_rdchk (d r n s l i : Int) : ACalls Tryz.prog 113 [cfgA d r n s l i] [] (iV (chk13 d r n s l i)) []:=acalls_of_exact rfl fun w=>rcheck_any d r n s l i w
end
end Go.Proofs.YtplpgijpmgbaiaaGreatDoor
