import Derived.Test.YtplpgijpmgbaiaaGreatDoorMScrubRepairs5
import Derived.Shelf.Pu.Clone
/- Joined texts: Sc4 Sc5 Sc6 Sc7 Sc8 Sc9 Sc10 Sc11 Sc12 Sc14 Sc15 Sc19 Sc20 Sc21 Sc24 Sc25 Sc26 Sc28. -/
set_option linter.unusedVariables false
set_option linter.unusedSimpArgs false
namespace Go.Proofs.YtplpgijpmgbaiaaGreatDoor
open Go.RowKit
set_option maxHeartbeats 4000000
set_option maxRecDepth 100000
section
theorem lt32 {x : Nat} (h : x < 4294967296) : x < 2 ^ IntKind.u32.bits := h
theorem stp_parts (r : Nat) : ∃ b nb pb : Nat,b < 4294967296 ∧ nb < 4294967296 ∧ pb < 4294967296 ∧ r &&& 1 = b ∧ (2 ^ IntKind.u32.bits - b) % 2 ^ IntKind.u32.bits = nb ∧ 2197175160 &&& nb = pb ∧ r >>> 1 ^^^ pb = stp r := by
 have h : r &&& 1 = r % 2 := Nat.and_one_is_mod r
 rcases Nat.mod_two_eq_zero_or_one r with hp | hp
 ·exact ⟨0,0,0,by decide,by decide,by decide,by omega,rfl,rfl,by unfold stp;rw [if_neg (by omega)]⟩
 ·exact ⟨1,4294967295,2197175160,by decide,by decide,by decide,by omega,rfl,rfl,by unfold stp;rw [if_pos hp]⟩
def tabL (k : Nat) : List AV := (List.range 256).map fun j => uV (if j < k then tab j else 0)
theorem tabL_frz (own : List Ent) (js : List Nat) (k : Nat) : AV.frzL own js (tabL k) = tabL k := by
 rw [frzL_map]
 unfold tabL
 rw [List.map_map]
 rfl
theorem tabL_len (k : Nat) : (tabL k).length = 256 := by simp [tabL]
theorem tabL_get {k j : Nat} (h : j < 256) : (tabL k)[j]? = some (uV (if j < k then tab j else 0)) := by
 unfold tabL
 rw [List.getElem?_map,List.getElem?_range h];rfl
theorem tabL_set {k : Nat} (h : k < 256) : (tabL k).set (0 + k * 1) (uV (tab k)) = tabL (k + 1) := by
 apply List.ext_getElem?
 intro i
 rw [List.getElem?_set,tabL_len,show 0 + k * 1 = k by omega]
 by_cases e : k = i
 ·subst e;rw [if_pos rfl,if_pos h,tabL_get h,if_pos (by omega)]
 ·rw [if_neg e]
  by_cases hi : i < 256
  ·rw [tabL_get hi, tabL_get hi]
   by_cases h2 : i < k
   ·rw [if_pos h2,if_pos (by omega)]
   ·rw [if_neg h2,if_neg (by omega)]
  ·rw [List.getElem?_eq_none (by rw [tabL_len];omega),List.getElem?_eq_none (by rw [tabL_len];omega)]
theorem tabL_one (k : Nat) : (tabL k).all oneA = true := by
 rw [List.all_eq_true]
 intro x hx
 unfold tabL at hx
 obtain ⟨j,_,rfl⟩ := List.mem_map.1 hx
 rfl
attribute [local irreducible] Quiet Eff OpOk AWPG ACont ABlock ACalls AGoto
theorem A_table : ACalls Tryz.prog 277 [] [] (.agg (tabL 256)) [] := by
 refine acalls_of_body Tryz.func277 rfl (zU rfl) ?_
 (repeat' (first
  |(apply W.qd;(exact zM))|(apply W.ed;(exact jAo))|(apply yA)|(apply yB)|(apply (W.regionS 2);exact rfl;kernel_rfl)|(apply yE)
  |(apply yG)))
 refine AWP.loopW (α := Nat) (fun k => k ≤ 256) (fun k => ⟨[(3,iV k),(0,.opt 0 0)],[.box (tabL k)]⟩) (fun k => 256 - k) 0 (by omega) ⟨[0],rfl,rfl,rfl,by (repeat (first | exact trivial | refine ⟨rfl,?_⟩))⟩ fun k hk => ?_
 by_cases hkl : k < 256
 ·have hset := tabL_set hkl
  have hfz := fun own js => tabL_frz own js k
  have hfz2 := fun own js => tabL_frz own js (k + 1)
  have hlen := tabL_len k
  generalize tabL k = T at *
  (repeat' (first
   |(apply W.qd;(first
   |((apply (q_convN (k' := .u32) (xn := k) (v := k));(iterate 5 exact rfl);(show k % 4294967296 = k;omega)))|(exact zM)|(exact zN)
   |(exact jAj)))|(apply yA)|(apply yB)|(apply (W.regionS 6);exact rfl;kernel_rfl)|(apply yE)|(apply yG)|(apply yH)
   |(refine W.cond _ rfl (fun hb => ?_) (fun hb => ?_) <;> ((try simp only [hb,zK]) <;> (try simp only [zL,zI] at hb) <;> (try (exfalso;omega))))))
  all_goals try (exfalso;omega)
  refine AWP.loopW (α := Nat) (fun j => j ≤ 8) (fun j => ⟨[(8,iV j),(2,uV (stpN j k)),(3,iV k),(1,iV k),(0,.opt 0 0)],[.box T]⟩) (fun j => 8 - j) 0 (by omega) ?wkB fun j hj => ?_
  case wkB => exact ⟨[0],rfl,rfl,congrArg (fun l => [Ent.box l]) (hfz _ _).symm,rfl,rfl,rfl,rfl,rfl,trivial⟩
  by_cases hjl : j < 8
  ·have hlt := stpN_lt j (show k < 4294967296 by omega)
   have hs : stpN (j + 1) k = stp (stpN j k) := rfl
   generalize stpN j k = r at *
   obtain ⟨b,nb,pb,g1,g2,g3,g4,g5,g6,g7⟩ := stp_parts r
   have g8 := shr_lt (k := 1) hlt
   rw [← hs] at g7
   (repeat' (first
    |(apply W.qd;(first
    |((apply (q_shrU (xn := r) (n := 1) (v := r >>> 1));(iterate 4 exact rfl);decide;exact rfl))
    |((apply (q_andU (xn := r) (yn := 1) (v := b));(iterate 5 exact rfl);exact lt32 hlt;exact lt32 (by decide);exact g4))
    |((apply (q_negU (xn := b) (v := nb));(iterate 3 exact rfl);exact lt32 g1;exact g5))
    |((apply (q_andU (xn := 2197175160) (yn := nb) (v := pb));(iterate 5 exact rfl);exact lt32 (by decide);exact lt32 g2;exact g6))
    |((apply (q_xorU (xn := r >>> 1) (yn := pb) (v := stpN (j + 1) k));(iterate 5 exact rfl);exact lt32 g8;exact lt32 g3;exact g7))|(exact zM)|(exact zN)|(exact jAj)
    |(exact jAi)))|(apply yA)|(apply yB)|(refine jAd ?_)|(apply yE)|(apply yG)|(apply yH)|(apply yL)
    |(refine W.cond _ rfl (fun hb => ?_) (fun hb => ?_) <;> ((try simp only [hb,zK]) <;> (try simp only [zL,zI] at hb) <;> (try (exfalso;omega))))))
   all_goals first
    |(exfalso;omega)
    |exact ⟨j + 1,by omega,by omega,[0],rfl,rfl,congrArg (fun l => [Ent.box l]) (hfz _ _).symm,iV_eq (by omega),rfl,rfl,rfl,rfl,trivial⟩
  ·obtain rfl : j = 8 := by omega
   have ht : stpN 8 k = tab k := rfl
   rw [ht]
   (repeat' (first
    |(apply W.qd;(first
    |((apply (q_ix_ar (k := 1));(iterate 5 exact rfl);omega))|(exact zM)|(exact jAj)
    |(exact jAi)))|(apply W.en;((apply e_stS;(iterate 4 exact rfl);exact congrArg (fun l => [Ent.box l]) hset;(iterate 3 exact rfl);(show _ < T.length;omega))))|(apply yA)|(apply yB)|(refine jAd ?_)|(apply yE)|(apply yI)|(apply yK)|(apply yL)|(apply yM)
    |(refine jAx ?_)))
   all_goals first
    |(exfalso;omega)
    |exact ⟨k + 1,by omega,by omega,[0],rfl,rfl,congrArg (fun l => [Ent.box l]) (hfz2 _ _).symm,iV_eq (by omega),rfl,trivial⟩
 ·obtain rfl : k = 256 := by omega
  have hfz := fun own js => tabL_frz own js 256
  have hlen := tabL_len 256
  have hone := tabL_one 256
  generalize tabL 256 = T at *
  have hcut : T.take 0 ++ T ++ T.drop (0 + T.length) = T := by simp
  (repeat' (first
   |(apply W.qd;(first
   |((apply (q_ld_ar (k := 256));(iterate 3 exact rfl);exact hlen))
   |(exact jAj)))|(apply W.en;((apply (e_stK (l' := T) (cs := T) (n := 256) (b := true));(iterate 5 exact rfl);exact hone;exact hlen;exact hcut;exact rfl;(show 0 + 256 ≤ T.length;omega))))|(apply yA)|(apply yB)|(refine jAd ?_)|(apply yE)|(apply yI)|(apply yJ)|(apply yK)|(apply yM)
   |(refine jAx ?_)))
  all_goals first
   |(exfalso;omega)
   |exact Ends.cell1 rfl rfl (by rw [hlen];rfl) (congrArg AV.agg (hfz _ _))
theorem crc_ix {r x : Nat} (hx : x < 256) : (tabL 256)[0 + ((r % 256) ^^^ x) * 1]? = some (uV (tab ((r % 256) ^^^ x))) := by
 have h := low_lt (r := r) hx
 rw [show 0 + ((r % 256) ^^^ x) * 1 = (r % 256) ^^^ x by omega,tabL_get h,if_pos h]
theorem A_extend {l : List Nat} (hb : isB l) (hl : l.length ≤ 1000000) : ACalls Tryz.prog 248 [.d (.v (.int .u32 0)),byts l] [] (uV (crcN l)) [] := by
 refine acalls_of_body Tryz.func248 rfl (zU rfl) ?_
 have hml : (l.map nD).length = l.length := List.length_map _
 have ht := A_table
 have hfz := fun own js => tabL_frz own js 256
 have hlen := tabL_len 256
 have hone := tabL_one 256
 have hix := fun (r x : Nat) (h : x < 256) => crc_ix (r := r) h
 generalize tabL 256 = T at *
 have hcut : ∀ z : List AV,z.length = 256 → z.take 0 ++ T ++ z.drop (0 + T.length) = T := fun z hz => by
  rw [List.take_zero,List.nil_append,List.drop_of_length_le (by omega),List.append_nil]
 (repeat' (first
  |(apply W.qd;(first
  |(exact zW (ht))
  |((apply (q_cplU (xn := 0) (mx := 4294967295) (v := 4294967295));(iterate 4 exact rfl);exact lt32 (by decide);exact lt32 (by decide);exact rfl))|(exact zM)|(exact zN)
  |(exact jBc)))|(apply W.ed;(exact jAo))|(apply W.en;((apply (e_stK (l' := T) (cs := T) (n := 256) (b := true));(iterate 5 exact rfl);exact hone;exact hlen;exact hcut _ rfl;exact rfl;exact Nat.le_refl 256)))|(apply yA)|(apply yB)|(apply (W.regionS 4);exact rfl;kernel_rfl)|(apply yE)
  |(apply yG)))
 refine AWP.loopW (α := Nat) (fun i => i ≤ l.length) (fun i => ⟨[(14,iV i),(13,iV l.length),(12,byts l),(6,uV (crcS 4294967295 (l.take i))),(5,.opt 0 0)],[.box T]⟩) (fun i => l.length - i) 0 (Nat.zero_le _) ?wkA fun i hi => ?_
 case wkA =>
  exact ⟨[0],rfl,rfl,congrArg (fun l => [Ent.box l]) (hfz _ _).symm,rfl,iV_eq (by rw [hml]),rfl,rfl,rfl,trivial⟩
 by_cases hil : i < l.length
 ·have hr := crcS_lt (l := l.take i) (r := 4294967295) (by decide) (fun x hx => hb x (List.mem_of_mem_take hx))
  have hx : l[i] < 256 := hb _ (List.getElem_mem hil)
  have hs : crcS 4294967295 (l.take (i + 1)) = crcF (crcS 4294967295 (l.take i)) l[i] := by rw [List.take_succ_eq_append_getElem hil,crcS_snoc]
  generalize crcS 4294967295 (l.take i) = r at *
  have h1 := hix r l[i] hx
  have h2 := low_lt (r := r) hx
  have h3 : tab ((r % 256) ^^^ l[i]) < 4294967296 := stpN_lt 8 (by omega)
  have h4 := shr_lt (k := 8) hr
  have h5 : r >>> 8 ^^^ tab ((r % 256) ^^^ l[i]) = crcS 4294967295 (l.take (i + 1)) := hs.symm
  generalize tab ((r % 256) ^^^ l[i]) = tx at *
  (repeat' (first
   |(apply W.qd;(first
   |((apply (q_shrU (xn := r) (n := 8) (v := r >>> 8));(iterate 4 exact rfl);decide;exact rfl))
   |((apply (q_ix_ar (k := 1));(iterate 5 exact rfl);exact h2))
   |((apply yT;(iterate 3 exact rfl);exact h1))
   |((apply (q_xorU (xn := r >>> 8) (yn := tx) (v := crcS 4294967295 (l.take (i + 1))));(iterate 5 exact rfl);exact lt32 h4;exact lt32 h3;exact h5))|(exact zM)|(exact zN)|(exact jAj)|(exact jAi)|(exact jAe)|(exact jA)|(exact jBd)
   |(exact jAa)))|(apply yA)|(apply yB)|(refine jAd ?_)|(apply yE)|(apply yG)|(apply yH)|(apply yL)
   |(refine W.cond _ rfl (fun hb => ?_) (fun hb => ?_) <;> ((try simp only [hb,zK]) <;> (try simp only [zL,zI] at hb) <;> (try (exfalso;omega))))))
  all_goals first
   |(exfalso;omega)
   |exact ⟨i + 1,by omega,by omega,[0],rfl,rfl,congrArg (fun l => [Ent.box l]) (hfz _ _).symm,iV_eq (by omega),rfl,rfl,rfl,rfl,trivial⟩
 ·obtain rfl : i = l.length := by omega
  rw [List.take_length]
  have hr := crcS_lt (l := l) (r := 4294967295) (by decide) hb
  have hc : 4294967295 ^^^ crcS 4294967295 l = crcN l := rfl
  generalize crcS 4294967295 l = r at *
  generalize crcN l = c at *
  (repeat' (first
   |(apply W.qd;(first
   |((apply (q_cplU (xn := r) (mx := 4294967295) (v := c));(iterate 4 exact rfl);exact lt32 hr;exact lt32 (by decide);exact hc))|(exact zM)|(exact zN)
   |(exact jAj)))|(apply yA)|(apply yB)|(refine jAd ?_)|(apply yE)|(apply yI)|(apply yJ)|(apply yK)|(apply yM)
   |(refine W.cond _ rfl (fun hb => ?_) (fun hb => ?_) <;> ((try simp only [hb,zK]) <;> (try simp only [zL,zI] at hb) <;> (try (exfalso;omega))))))
  all_goals first | (exfalso;omega) | exact Ends.i rfl rfl
theorem A_crcOf {l : List Nat} (hb : isB l) (hl : l.length ≤ 1000000) : ACalls Tryz.prog 202 [byts l] [] (uV (crcN l)) [] := by
 refine acalls_of_body Tryz.func202 rfl (zU rfl) ?_
 have he := A_extend hb hl
 generalize crcN l = c at *
 (repeat' (first
  |(apply W.qd;(first
  |(exact zW (he))|(exact zM)
  |(exact zN)))|(apply yA)|(apply yB)|(refine jAd ?_)|(apply yE)
  |(apply yJ)))
 all_goals exact Ends.i rfl rfl
theorem stp_cases (r : Nat) : (r &&& 1 = 0 ∧ stp r = r >>> 1) ∨ (r &&& 1 = 1 ∧ r >>> 1 ^^^ 2197175160 = stp r) := by
 have h : r &&& 1 = r % 2 := Nat.and_one_is_mod r
 unfold stp
 rcases Nat.mod_two_eq_zero_or_one r with hp | hp
 ·left;rw [if_neg (by omega),Nat.xor_zero];exact ⟨by omega,rfl⟩
 ·right;rw [if_pos hp];exact ⟨by omega,rfl⟩
theorem A_feed {l : List Nat} (hb : isB l) (hl : l.length ≤ 1000000) : ACalls Tryz.prog 216 [uV 4294967295,byts l] [] (uV (crcS 4294967295 l)) [] := by
 refine acalls_of_body Tryz.func216 rfl (zU rfl) ?_
 have hml : (l.map nD).length = l.length := List.length_map _
 (repeat' (first
  |(apply W.qd;(exact zN))|(apply yA)|(apply yB)|(apply (W.regionS 2);exact rfl;kernel_rfl)|(apply yE)
  |(apply yG)))
 refine AWP.loopW (α := Nat) (fun i => i ≤ l.length) (fun i => ⟨[(5,iV i),(1,byts l),(0,uV (crcS 4294967295 (l.take i)))],[]⟩) (fun i => l.length - i) 0 (Nat.zero_le _) ⟨[],rfl,rfl,rfl,by (repeat (first | exact trivial | refine ⟨rfl,?_⟩))⟩ fun i hi => ?_
 by_cases hil : i < l.length
 ·have hr := crcS_lt (l := l.take i) (r := 4294967295) (by decide) (fun x hx => hb x (List.mem_of_mem_take hx))
  have hx : l[i] < 256 := hb _ (List.getElem_mem hil)
  have hs : crcS 4294967295 (l.take (i + 1)) = stpN 8 (crcS 4294967295 (l.take i) ^^^ l[i]) := by rw [List.take_succ_eq_append_getElem hil,crcS_snoc,crcF_eq]
  generalize crcS 4294967295 (l.take i) = r at *
  have hx2 : l[i] < 4294967296 := by omega
  have hr0 : r ^^^ l[i] < 4294967296 := Nat.xor_lt_two_pow (n := 32) hr hx2
  (repeat' (first
   |(apply W.qd;(first
   |((apply (q_convN (k' := .u32) (xn := l[i]) (v := l[i]));(iterate 5 exact rfl);exact Nat.mod_eq_of_lt hx2))
   |((apply (q_xorU (xn := r) (yn := l[i]) (v := r ^^^ l[i]));(iterate 5 exact rfl);exact lt32 hr;exact lt32 hx2;exact rfl))|(exact zM)|(exact zN)|(exact jAj)|(exact jBc)|(exact jAe)
   |(exact jA)))|(apply yA)|(apply yB)|(apply (W.regionS 6);exact rfl;kernel_rfl)|(apply yE)|(apply yG)|(apply yH)
   |(refine W.cond _ rfl (fun hb => ?_) (fun hb => ?_) <;> ((try simp only [hb,zK]) <;> (try simp only [zL,zI] at hb) <;> (try (exfalso;omega))))))
  all_goals try (exfalso;omega)
  refine AWP.loopW (α := Nat) (fun j => j ≤ 8) (fun j => ⟨[(6,iV j),(0,uV (stpN j (r ^^^ l[i]))),(5,iV i),(1,byts l)],[]⟩) (fun j => 8 - j) 0 (by omega) ⟨[],rfl,rfl,rfl,by (repeat (first | exact trivial | refine ⟨rfl,?_⟩))⟩ fun j hj => ?_
  by_cases hjl : j < 8
  ·have hlt := stpN_lt j hr0
   have hss : stpN (j + 1) (r ^^^ l[i]) = stp (stpN j (r ^^^ l[i])) := rfl
   generalize stpN j (r ^^^ l[i]) = q at *
   have g8 := shr_lt (k := 1) hlt
   rcases stp_cases q with ⟨c1,c2⟩ | ⟨c1,c2⟩
   ·rw [c2] at hss
    (repeat' (first
     |(apply W.qd;(first
     |((apply (q_shrU (xn := q) (n := 1) (v := stpN (j + 1) (r ^^^ l[i])));(iterate 4 exact rfl);decide;exact hss.symm))
     |((apply (q_andU (xn := q) (yn := 1) (v := 0));(iterate 5 exact rfl);exact lt32 hlt;exact lt32 (by decide);exact c1))|(exact zM)|(exact zN)|(exact jAj)|(exact jB)
     |(exact jAi)))|(apply yA)|(apply yB)|(refine jAd ?_)|(apply yE)|(apply yG)|(apply yH)|(apply yL)|(refine jAx ?_)
     |(refine W.cond _ rfl (fun hb => ?_) (fun hb => ?_) <;> ((try simp only [hb,zK]) <;> (try simp only [zL,zI] at hb) <;> (try (exfalso;omega))))))
    all_goals first
     |(exfalso;omega)
     |exact ⟨j + 1,by omega,by omega,[],rfl,rfl,rfl,iV_eq (by omega),rfl,rfl,rfl,trivial⟩
   ·rw [← hss] at c2
    (repeat' (first
     |(apply W.qd;(first
     |((apply (q_shrU (xn := q) (n := 1) (v := q >>> 1));(iterate 4 exact rfl);decide;exact rfl))
     |((apply (q_andU (xn := q) (yn := 1) (v := 1));(iterate 5 exact rfl);exact lt32 hlt;exact lt32 (by decide);exact c1))
     |((apply (q_xorU (xn := q >>> 1) (yn := 2197175160) (v := stpN (j + 1) (r ^^^ l[i])));(iterate 5 exact rfl);exact lt32 g8;exact lt32 (by decide);exact c2))|(exact zM)|(exact zN)|(exact jAj)|(exact jB)
     |(exact jAi)))|(apply yA)|(apply yB)|(refine jAd ?_)|(apply yE)|(apply yG)|(apply yH)|(apply yL)|(refine jBf ?_)
     |(refine W.cond _ rfl (fun hb => ?_) (fun hb => ?_) <;> ((try simp only [hb,zK]) <;> (try simp only [zL,zI] at hb) <;> (try (exfalso;omega))))))
    all_goals first
     |(exfalso;omega)
     |exact ⟨j + 1,by omega,by omega,[],rfl,rfl,rfl,iV_eq (by omega),rfl,rfl,rfl,trivial⟩
  ·obtain rfl : j = 8 := by omega
   rw [← hs]
   (repeat' (first
    |(apply W.qd;(first
    |(exact zM)|(exact zN)|(exact jAj)
    |(exact jAi)))|(apply yA)|(apply yB)|(refine jAd ?_)|(apply yE)|(apply yI)|(apply yK)|(apply yL)|(apply yM)
    |(refine jAx ?_)))
   all_goals first
    |(exfalso;omega)
    |exact ⟨i + 1,by omega,by omega,[],rfl,rfl,rfl,iV_eq (by omega),rfl,rfl,trivial⟩
 ·obtain rfl : i = l.length := by omega
  rw [List.take_length]
  (repeat' (first
   |(apply W.qd;(first
   |(exact zM)|(exact zN)|(exact jAj)
   |(exact jBc)))|(apply yA)|(apply yB)|(refine jAd ?_)|(apply yE)|(apply yI)|(apply yJ)|(apply yK)|(apply yM)
   |(refine W.cond _ rfl (fun hb => ?_) (fun hb => ?_) <;> ((try simp only [hb,zK]) <;> (try simp only [zL,zI] at hb) <;> (try (exfalso;omega))))))
  all_goals first | (exfalso;omega) | exact Ends.i rfl rfl
theorem A_rcrcOf {l : List Nat} (hb : isB l) (hl : l.length ≤ 1000000) : ACalls Tryz.prog 101 [byts l] [] (uV (crcN l)) [] := by
 have hx : ACalls Tryz.prog 159 [.d (.v (.int .u32 0)),byts l] [] (uV (crcN l)) [] := by
  refine acalls_of_body Tryz.func159 rfl (zU rfl) ?_
  have hf := A_feed hb hl
  have hr := crcS_lt (l := l) (r := 4294967295) (by decide) hb
  have hc : 4294967295 ^^^ crcS 4294967295 l = crcN l := rfl
  generalize crcS 4294967295 l = r at *
  generalize crcN l = c at *
  (repeat' (first
   |(apply W.qd;(first
   |(exact zW (hf))
   |((apply (q_cplU (xn := 0) (mx := 4294967295) (v := 4294967295));(iterate 4 exact rfl);exact lt32 (by decide);exact lt32 (by decide);exact rfl))
   |((apply (q_cplU (xn := r) (mx := 4294967295) (v := c));(iterate 4 exact rfl);exact lt32 hr;exact lt32 (by decide);exact hc))|(exact zM)
   |(exact zN)))|(apply yA)|(apply yB)|(refine jAd ?_)|(apply yE)
   |(apply yJ)))
  all_goals exact Ends.i rfl rfl
 refine acalls_of_body Tryz.func101 rfl (zU rfl) ?_
 generalize crcN l = c at *
 (repeat' (first
  |(apply W.qd;(first
  |(exact zW (hx))|(exact zM)
  |(exact zN)))|(apply yA)|(apply yB)|(refine jAd ?_)|(apply yE)
  |(apply yJ)))
 all_goals exact Ends.i rfl rfl
end
section
open Go.Shelf Go.RowKit
def cloR : Go.Shelf.Ren := ⟨fun | 25 => 204 | n => n,fun | 0 => 0 | 3 => 3 | 4 => 4 | 5 => 5 | 9 => 9 | 37 => 44 | 47 => 280 | n => n,fun | n => n⟩
theorem cloL : Go.Proofs.LaysPu.n25 Tryz.prog cloR := {
 mixed := by kernel_rfl
 f25 := Tryz.func204.trans (congrArg some (by kernel_rfl))
 t0 := Tryz.underlying0
 a0 := Tryz.isAgg0
 z0 := Tryz.sizeOf0
 v0 := Tryz.zeroValue0
 i0 := by kernel_rfl
 t3 := Tryz.underlying3
 a3 := Tryz.isAgg3
 z3 := Tryz.sizeOf3
 v3 := Tryz.zeroValue3
 i3 := by kernel_rfl
 t4 := Tryz.underlying4
 a4 := Tryz.isAgg4
 z4 := Tryz.sizeOf4
 v4 := Tryz.zeroValue4
 i4 := by kernel_rfl
 t5 := Tryz.underlying5
 a5 := Tryz.isAgg5
 z5 := Tryz.sizeOf5
 v5 := Tryz.zeroValue5
 i5 := by kernel_rfl
 t9 := Tryz.underlying9
 a9 := Tryz.isAgg9
 z9 := Tryz.sizeOf9
 v9 := Tryz.zeroValue9
 i9 := by kernel_rfl
 t37 := Tryz.underlying44
 a37 := Tryz.isAgg44
 z37 := Tryz.sizeOf44
 v37 := Tryz.zeroValue44
 i37 := by kernel_rfl
 t47 := Tryz.underlying280
 a47 := Tryz.isAgg280
 z47 := Tryz.sizeOf280
 v47 := Tryz.zeroValue280
 i47 := by kernel_rfl
}
theorem A_sclone0 {l : List Nat} (hl : l.length ≤ 1000000) : ACalls Tryz.prog 204 [bS l] [] (bS l) [] :=
 acalls_of_exact rfl fun w => AnyPu.stringslite_Clone cloL (bytesOf l) w (by rw [bytesOf_size];omega)
attribute [local irreducible] Quiet Eff OpOk AWPG ACont ABlock ACalls AGoto
theorem A_sclone {l : List Nat} (hl : l.length ≤ 1000000) : ACalls Tryz.prog 142 [bS l] [] (bS l) [] := by
 refine acalls_of_body Tryz.func142 rfl (zU rfl) ?_
 have h := A_sclone0 hl
 (repeat' (first
  |(apply W.qd;(first
  |(exact zW (h))|(exact zM)
  |(exact zN)))|(apply yA)|(apply yB)|(refine jAd ?_)|(apply yE)
  |(apply yJ)))
 all_goals exact Ends.d rfl rfl
end
section
theorem plB_iff {p : Pl} : plB p = true ↔ (0 ≤ p.1 ∧ p.1 < 64) ∧ (1 ≤ p.2.1 ∧ p.2.1 ≤ 4) ∧ 0 ≤ p.2.2 ∧ p.2.2 < 65536 := by unfold plB;rw [decide_eq_true_eq]
theorem gnB_iff {g : Gn} : gnB g = true ↔ (0 ≤ g.1 ∧ g.1 < 4294967296) ∧ (0 ≤ g.2 ∧ g.2 < 4294967296) ∧ ¬ (g.1 = 0 ∧ g.2 = 0) := by unfold gnB;rw [decide_eq_true_eq]
theorem b_eq {b : Bool} {p : Prop} [Decidable p] (h : b = true ↔ p) : decide p = b := by
 cases b with
 | true => rw [decide_eq_true_eq];exact h.1 rfl
 | false => rw [decide_eq_false_iff_not];exact fun hp => absurd (h.2 hp) (by decide)
theorem numN_snoc {s : List Nat} {i : Nat} (hi : i < s.length) : numN (s.take (i + 1)) = numN (s.take i) + s[i] * 256 ^ i := by
 rw [List.take_succ_eq_append_getElem hi,num_snoc,List.length_take,Nat.min_eq_left (by omega)]
theorem pow256 (i : Nat) : 256 ^ i = 2 ^ (8 * i) := by rw [show (256 : Nat) = 2 ^ 8 from rfl,← Nat.pow_mul]
theorem or_num {n b i : Nat} (h : n < 256 ^ i) : n ||| b <<< (8 * i) = n + b * 256 ^ i := by
 rw [Nat.or_comm,← Nat.shiftLeft_add_eq_or_of_lt (by rw [← pow256];exact h),Nat.shiftLeft_eq,← pow256,Nat.add_comm]
attribute [local irreducible] Quiet Eff OpOk AWPG ACont ABlock ACalls AGoto
theorem A_svalid (p : Pl) : ACalls Tryz.prog 140 [pcA p] [] (bV (plB p)) [] := by
 refine acalls_of_body Tryz.func140 rfl (zU rfl) ?_
 have h := plB_iff (p := p)
 generalize plB p = b at *
 (repeat' (first
  |(apply yFb;exact rfl;exact rfl)
  |(apply W.qd;(first
  |(exact zM)|(exact zN)|(exact jAr)|(exact jAk)|(exact jAj)|(exact q_leq rfl rfl)|(exact q_geq rfl rfl)|(apply (yEb (u := .d _));exact rfl;exact rfl)
  |(apply (yDb (u := .d _));exact rfl;exact rfl)))|(apply W.ed;(exact jAc))|(refine W.gOff _ _ rfl rfl (by intro h;cases h) ?_)|(apply yA)|(apply yB)|(refine jAd ?_)|(apply yE)|(apply yJ)
  |(refine W.gT _ _ rfl rfl (fun hb => ?_) (fun hb => ?_) <;> ((try simp only [hb,zK]) <;> (try simp only [zL,zI] at hb) <;> (try (exfalso;omega))))))
 all_goals (refine Ends.b rfl ?_;first | (rw [← b_eq h];simp <;> omega) | (cases b <;> simp at h ⊢ <;> omega))
theorem A_rsvalid (p : Pl) : ACalls Tryz.prog 98 [pcA p] [] (bV (plB p)) [] := by
 refine acalls_of_body Tryz.func98 rfl (zU rfl) ?_
 have h := plB_iff (p := p)
 generalize plB p = b at *
 (repeat' (first
  |(apply yFb;exact rfl;exact rfl)
  |(apply W.qd;(first
  |(exact zM)|(exact zN)|(exact jAr)|(exact jAk)|(exact jAj)|(exact q_leq rfl rfl)|(exact q_geq rfl rfl)|(apply (yEb (u := .d _));exact rfl;exact rfl)
  |(apply (yDb (u := .d _));exact rfl;exact rfl)))|(apply W.ed;(exact jAc))|(refine W.gOff _ _ rfl rfl (by intro h;cases h) ?_)|(apply yA)|(apply yB)|(refine jAd ?_)|(apply yE)|(apply yJ)
  |(refine W.gT _ _ rfl rfl (fun hb => ?_) (fun hb => ?_) <;> ((try simp only [hb,zK]) <;> (try simp only [zL,zI] at hb) <;> (try (exfalso;omega))))))
 all_goals (refine Ends.b rfl ?_;first | (rw [← b_eq h];simp <;> omega) | (cases b <;> simp at h ⊢ <;> omega))
theorem A_validGen (g : Gn) : ACalls Tryz.prog 203 [gnA g] [] (bV (gnB g)) [] := by
 refine acalls_of_body Tryz.func203 rfl (zU rfl) ?_
 have h := gnB_iff (g := g)
 have fi : fldsInt Tryz.prog 83 = some [0,1] := by kernel_rfl
 generalize gnB g = b at *
 (repeat' (first
  |(apply yFb;exact rfl;exact rfl)
  |(apply W.qd;(first
  |(first | (apply (q_eqsI fi);(iterate 5 exact rfl)) | (apply (q_nesI fi);(iterate 5 exact rfl)))|(exact zM)|(exact zN)|(exact jAr)|(exact jAk)|(exact jAm)|(exact jAj)|(exact q_geq rfl rfl)|(exact jAz)|(exact q_min rfl rfl)|(exact q_max rfl rfl)|(apply (yEb (u := .d _));exact rfl;exact rfl)
  |(apply (yDb (u := .d _));exact rfl;exact rfl)))|(apply W.ed;(exact jAc))|(refine W.gOff _ _ rfl rfl (by intro h;cases h) ?_)|(apply yA)|(apply yB)|(refine jAd ?_)|(apply yE)|(apply yJ)
  |(refine W.gT _ _ rfl rfl (fun hb => ?_) (fun hb => ?_) <;> ((try simp only [hb,zK]) <;> (try simp only [zL,zI] at hb) <;> (try (exfalso;omega))))))
 all_goals (refine Ends.b rfl ?_;first | (rw [← b_eq h];simp <;> omega) | (cases b <;> simp at h ⊢ <;> omega))
theorem A_fits15 (n : Int) : ACalls Tryz.prog 158 [iV n] [] (bV (decide (0 ≤ n ∧ n < 4294967296))) [] := by
 refine acalls_of_body Tryz.func158 rfl (zU rfl) ?_
 (repeat' (first
  |(apply yFb;exact rfl;exact rfl)
  |(apply W.qd;(first
  |(exact zM)|(exact zN)|(exact jAj)|(exact q_geq rfl rfl)|(apply (yEb (u := .d _));exact rfl;exact rfl)
  |(apply (yDb (u := .d _));exact rfl;exact rfl)))|(refine W.gOff _ _ rfl rfl (by intro h;cases h) ?_)|(apply yA)|(apply yB)|(refine jAd ?_)|(apply yE)|(apply yJ)
  |(refine W.gT _ _ rfl rfl (fun hb => ?_) (fun hb => ?_) <;> ((try simp only [hb,zK]) <;> (try simp only [zL,zI] at hb) <;> (try (exfalso;omega))))))
 all_goals (refine Ends.b rfl ?_;rw [Bool.eq_iff_iff];simp <;> omega)
theorem A_right (g : Gn) : ACalls Tryz.prog 99 [gnA g] [] (bV (gnB g)) [] := by
 refine acalls_of_body Tryz.func99 rfl (zU rfl) ?_
 have h := gnB_iff (g := g)
 have fi : fldsInt Tryz.prog 83 = some [0,1] := by kernel_rfl
 have f1 := A_fits15 g.1
 have f2 := A_fits15 g.2
 have d1 : decide (0 ≤ g.1 ∧ g.1 < 4294967296) = true ↔ (0 ≤ g.1 ∧ g.1 < 4294967296) := by rw [decide_eq_true_eq]
 have d2 : decide (0 ≤ g.2 ∧ g.2 < 4294967296) = true ↔ (0 ≤ g.2 ∧ g.2 < 4294967296) := by rw [decide_eq_true_eq]
 generalize decide (0 ≤ g.1 ∧ g.1 < 4294967296) = c1 at *
 generalize decide (0 ≤ g.2 ∧ g.2 < 4294967296) = c2 at *
 generalize gnB g = b at *
 cases c1 <;> cases c2
 all_goals
  (repeat' (first
   |(apply yFb;exact rfl;exact rfl)
   |(apply W.qd;(first
   |(exact zW (f1))|(exact zW (f2))|(first | (apply (q_eqsI fi);(iterate 5 exact rfl)) | (apply (q_nesI fi);(iterate 5 exact rfl)))|(exact zM)|(exact zN)|(exact jAr)|(exact jAk)|(exact jAm)|(exact jAz)|(apply (yEb (u := .d _));exact rfl;exact rfl)
   |(apply (yDb (u := .d _));exact rfl;exact rfl)))|(apply W.ed;(exact jAc))|(refine W.gOff _ _ rfl rfl (by intro h;cases h) ?_)|(apply yA)|(apply yB)|(refine jAd ?_)|(apply yE)
   |(apply yJ)))
  all_goals (refine Ends.b rfl ?_;first | (rw [← b_eq h];simp at d1 d2 ⊢ <;> omega) | (cases b <;> simp at h d1 d2 ⊢ <;> omega))
theorem A_get {s : List Nat} (hb : isB s) (hl : s.length ≤ 4) : ACalls Tryz.prog 201 [bS s] [] (iV (numN s : Nat)) [] := by
 refine acalls_of_body Tryz.func201 rfl (zU rfl) ?_
 (repeat' (first
  |(apply W.qd;(first
  |(exact zM)|(exact zN)
  |(exact q_len_bs rfl rfl)))|(apply yA)|(apply yB)|(apply (W.regionS 3);exact rfl;kernel_rfl)|(apply yE)
  |(apply yG)))
 refine AWP.loopW (α := Nat) (fun i => i ≤ s.length) (fun i => ⟨[(7,iV i),(6,iV s.length),(3,iV (numN (s.take i) : Nat)),(0,bS s)],[]⟩) (fun i => s.length - i) 0 (Nat.zero_le _) ⟨[],rfl,rfl,rfl,by (repeat (first | exact trivial | refine ⟨rfl,?_⟩))⟩ fun i hi => ?_
 by_cases hil : i < s.length
 ·have hx : s[i] < 256 := hb _ (List.getElem_mem hil)
  have hs := numN_snoc hil
  have hn : numN (s.take i) < 256 ^ i := by
   have := num_lt (l := s.take i) fun y hy => hb y (List.mem_of_mem_take hy)
   rwa [List.length_take,Nat.min_eq_left (by omega)] at this
  have ho := or_num (b := s[i]) hn
  rw [← hs] at ho
  have hn2 : numN (s.take (i + 1)) < 256 ^ 4 := by
   have h1 := num_lt (l := s.take (i + 1)) fun y hy => hb y (List.mem_of_mem_take hy)
   rw [List.length_take] at h1
   exact Nat.lt_of_lt_of_le h1 (Nat.pow_le_pow_right (by decide) (by omega))
  have hn1 : numN (s.take i) < 256 ^ 4 := Nat.lt_of_lt_of_le hn (Nat.pow_le_pow_right (by decide) (by omega))
  have hcap1 : ∀ n,n ≤ 24 → s[i] <<< n < 9223372036854775808 := fun n hn => by
   rw [Nat.shiftLeft_eq]
   have h1 : 2 ^ n ≤ 2 ^ 24 := Nat.pow_le_pow_right (by decide) hn
   have h2 := Nat.mul_le_mul (show s[i] ≤ 255 by omega) h1
   omega
  have h8 : ((8 : Int) * (i : Int)) = ((8 * i : Nat) : Int) := by omega
  generalize numN (s.take i) = q at *
  have hq : q < 9223372036854775808 := by omega
  have hsh : s[i] <<< (8 * i) < 9223372036854775808 := hcap1 _ (by omega)
  (repeat' (first
   |(apply W.qd;(first
   |((apply (q_shlN (xn := s[i]) (n := 8 * i));(iterate 3 exact rfl);exact h8;exact rfl;omega;exact hsh))
   |((apply (q_orN (xn := q) (yn := s[i] <<< (8 * i)));(iterate 4 exact rfl);exact hq;exact hsh))|(exact zM)|(exact zN)|(exact jAj)|(exact jAi)|(exact jBg)|(exact jAp)
   |(apply q_convI;(iterate 3 exact rfl);omega)))|(apply yA)|(apply yB)|(refine jAd ?_)|(apply yE)|(apply yG)|(apply yH)|(apply yL)
   |(refine W.cond _ rfl (fun hb => ?_) (fun hb => ?_) <;> ((try simp only [hb,zK]) <;> (try simp only [zL,zI] at hb) <;> (try (exfalso;omega))))))
  all_goals first
   |(exfalso;omega)|(refine ⟨i + 1,by omega,by omega,?_⟩;(try dsimp only);rw [← ho];exact ⟨[],rfl,rfl,rfl,iV_eq (by omega),rfl,rfl,rfl,trivial⟩)
 ·obtain rfl : i = s.length := by omega
  rw [List.take_length]
  (repeat' (first
   |(apply W.qd;(first
   |(exact zM)|(exact zN)
   |(exact jAj)))|(apply yA)|(apply yB)|(refine jAd ?_)|(apply yE)|(apply yI)|(apply yJ)|(apply yK)|(apply yM)
   |(refine W.cond _ rfl (fun hb => ?_) (fun hb => ?_) <;> ((try simp only [hb,zK]) <;> (try simp only [zL,zI] at hb) <;> (try (exfalso;omega))))))
  all_goals first | (exfalso;omega) | exact Ends.i rfl rfl
theorem num_drop {s : List Nat} {i : Nat} (hi : i < s.length) : numN (s.drop i) = s[i] + 256 * numN (s.drop (i + 1)) := by
 rw [List.drop_eq_getElem_cons hi,numN]
theorem A_read15 {s : List Nat} (hb : isB s) (hl : s.length ≤ 4) : ACalls Tryz.prog 205 [bS s] [] (iV (numN s : Nat)) [] := by
 refine acalls_of_body Tryz.func205 rfl (zU rfl) ?_
 (repeat' (first
  |(apply W.qd;(first
  |(exact zM)|(exact zN)|(exact q_sub rfl rfl (by omega))
  |(exact q_len_bs rfl rfl)))|(apply yA)|(apply yB)|(apply (W.regionS 3);exact rfl;kernel_rfl)|(apply yE)
  |(apply yG)))
 refine AWP.loopW (α := Nat) (fun i => i ≤ s.length) (fun i => ⟨[(4,iV ((i : Int) - 1)),(3,iV (numN (s.drop i) : Nat)),(0,bS s)],[]⟩) (fun i => i) s.length (Nat.le_refl _) ?wkA fun i hi => ?_
 case wkA =>
  rw [List.drop_length]
  exact ⟨[],rfl,rfl,rfl,by (repeat (first | exact trivial | refine ⟨rfl,?_⟩))⟩
 by_cases hil : 0 < i
 ·obtain ⟨j, rfl⟩ : ∃ j, i = j + 1 := ⟨i - 1, by omega⟩
  have hjl : j < s.length := by omega
  have hx : s[j] < 256 := hb _ (List.getElem_mem hjl)
  have hd := num_drop hjl
  have hn : numN (s.drop (j + 1)) < 256 ^ 4 := by
   have h1 := num_lt (l := s.drop (j + 1)) fun y hy => hb y (List.mem_of_mem_drop hy)
   rw [List.length_drop] at h1
   exact Nat.lt_of_lt_of_le h1 (Nat.pow_le_pow_right (by decide) (by omega))
  have hij : (((j + 1 : Nat) : Int) - 1) = ((j : Nat) : Int) := by omega
  generalize numN (s.drop (j + 1)) = q at *
  rw [hij]
  (repeat' (first
   |(apply W.qd;(first
   |(exact zM)|(exact zN)|(exact q_geq rfl rfl)|(exact jAi)|(exact q_sub rfl rfl (by omega))|(exact jBg)|(exact jAp)
   |(apply q_convI;(iterate 3 exact rfl);omega)))|(apply yA)|(apply yB)|(refine jAd ?_)|(apply yE)|(apply yG)|(apply yH)|(apply yL)
   |(refine jBf ?_)))
  all_goals first
   |(exfalso;omega)|(refine ⟨j,by omega,by omega,?_⟩;(try dsimp only);rw [hd];exact ⟨[],rfl,rfl,rfl,rfl,iV_eq (by omega),rfl,trivial⟩)
 ·obtain rfl : i = 0 := by omega
  rw [List.drop_zero]
  (repeat' (first
   |(apply W.qd;(first
   |(exact zM)|(exact zN)
   |(exact q_geq rfl rfl)))|(apply yA)|(apply yB)|(refine jAd ?_)|(apply yE)|(apply yI)|(apply yJ)|(apply yK)|(apply yM)
   |(refine jAx ?_)))
  all_goals first | (exfalso;omega) | exact Ends.i rfl rfl
theorem A_sizeOf16 : ACalls Tryz.prog 257 [] [] (iV 2) [] := by
 refine acalls_of_body Tryz.func257 rfl (zU rfl) ?_
 (repeat' (first
  |(apply W.qd;(first
  |((apply (q_convN (k' := .u16) (xn := 0) (v := 0));(iterate 6 exact rfl)))
  |((apply (q_cplU (xn := 0) (mx := 65535) (v := 65535));(iterate 4 exact rfl);decide;decide;exact rfl))
  |((apply (q_convN (k' := .u64) (xn := 65535) (v := 65535));(iterate 6 exact rfl)))
  |(exact zN)))|(apply yA)|(apply yB)|(apply (W.regionS 3);exact rfl;kernel_rfl)|(apply yE)
  |(apply yG)))
 refine AWP.loopW (α := Nat) (fun i => i ≤ 2) (fun i => ⟨[(2,.d (.v (.int .u64 ((65535 >>> (8 * i) : Nat) : Int)))),(1,iV i)],[]⟩) (fun i => 2 - i) 0 (Nat.zero_le _) ⟨[],rfl,rfl,rfl,by (repeat (first | exact trivial | refine ⟨rfl,?_⟩))⟩ fun i hi => ?_
 have h : i = 0 ∨ i = 1 ∨ i = 2 := by omega
 rcases h with rfl | rfl | rfl
 ·(repeat' (first
  |(apply W.qd;(first
  |((apply (q_shrU (xn := 65535) (n := 8) (v := 255));(iterate 4 exact rfl);decide;exact rfl))|(exact zM)|(exact zN)|(exact q_gtr rfl rfl)
  |(exact jAi)))|(apply yA)|(apply yB)|(refine jAd ?_)|(apply yE)|(apply yG)|(apply yH)|(apply yL)
  |(refine jBf ?_)))
  all_goals first | (exfalso;omega) | exact ⟨1,by omega,by omega,⟨[],rfl,rfl,rfl,by (repeat (first | exact trivial | refine ⟨rfl,?_⟩))⟩⟩
 ·(repeat' (first
  |(apply W.qd;(first
  |((apply (q_shrU (xn := 255) (n := 8) (v := 0));(iterate 4 exact rfl);decide;exact rfl))|(exact zM)|(exact zN)|(exact q_gtr rfl rfl)
  |(exact jAi)))|(apply yA)|(apply yB)|(refine jAd ?_)|(apply yE)|(apply yG)|(apply yH)|(apply yL)
  |(refine jBf ?_)))
  all_goals first | (exfalso;omega) | exact ⟨2,by omega,by omega,⟨[],rfl,rfl,rfl,by (repeat (first | exact trivial | refine ⟨rfl,?_⟩))⟩⟩
 ·(repeat' (first
  |(apply W.qd;(first
  |(exact zM)|(exact zN)
  |(exact q_gtr rfl rfl)))|(apply yA)|(apply yB)|(refine jAd ?_)|(apply yE)|(apply yI)|(apply yJ)|(apply yK)|(apply yM)
  |(refine jAx ?_)))
  all_goals first | (exfalso;omega) | exact Ends.i rfl rfl
theorem A_sizeOf32 : ACalls Tryz.prog 258 [] [] (iV 4) [] := by
 refine acalls_of_body Tryz.func258 rfl (zU rfl) ?_
 (repeat' (first
  |(apply W.qd;(first
  |((apply (q_convN (k' := .u32) (xn := 0) (v := 0));(iterate 6 exact rfl)))
  |((apply (q_cplU (xn := 0) (mx := 4294967295) (v := 4294967295));(iterate 4 exact rfl);exact lt32 (by decide);exact lt32 (by decide);exact rfl))
  |((apply (q_convN (k' := .u64) (xn := 4294967295) (v := 4294967295));(iterate 6 exact rfl)))
  |(exact zN)))|(apply yA)|(apply yB)|(apply (W.regionS 3);exact rfl;kernel_rfl)|(apply yE)
  |(apply yG)))
 refine AWP.loopW (α := Nat) (fun i => i ≤ 4) (fun i => ⟨[(2,.d (.v (.int .u64 ((4294967295 >>> (8 * i) : Nat) : Int)))),(1,iV i)],[]⟩) (fun i => 4 - i) 0 (Nat.zero_le _) ⟨[],rfl,rfl,rfl,by (repeat (first | exact trivial | refine ⟨rfl,?_⟩))⟩ fun i hi => ?_
 have h : i = 0 ∨ i = 1 ∨ i = 2 ∨ i = 3 ∨ i = 4 := by omega
 rcases h with rfl | rfl | rfl | rfl | rfl
 ·(repeat' (first
  |(apply W.qd;(first
  |((apply (q_shrU (xn := 4294967295) (n := 8) (v := 16777215));(iterate 4 exact rfl);decide;exact rfl))|(exact zM)|(exact zN)|(exact q_gtr rfl rfl)
  |(exact jAi)))|(apply yA)|(apply yB)|(refine jAd ?_)|(apply yE)|(apply yG)|(apply yH)|(apply yL)
  |(refine jBf ?_)))
  all_goals first | (exfalso;omega) | exact ⟨1,by omega,by omega,⟨[],rfl,rfl,rfl,by (repeat (first | exact trivial | refine ⟨rfl,?_⟩))⟩⟩
 ·(repeat' (first
  |(apply W.qd;(first
  |((apply (q_shrU (xn := 16777215) (n := 8) (v := 65535));(iterate 4 exact rfl);decide;exact rfl))|(exact zM)|(exact zN)|(exact q_gtr rfl rfl)
  |(exact jAi)))|(apply yA)|(apply yB)|(refine jAd ?_)|(apply yE)|(apply yG)|(apply yH)|(apply yL)
  |(refine jBf ?_)))
  all_goals first | (exfalso;omega) | exact ⟨2,by omega,by omega,⟨[],rfl,rfl,rfl,by (repeat (first | exact trivial | refine ⟨rfl,?_⟩))⟩⟩
 ·(repeat' (first
  |(apply W.qd;(first
  |((apply (q_shrU (xn := 65535) (n := 8) (v := 255));(iterate 4 exact rfl);decide;exact rfl))|(exact zM)|(exact zN)|(exact q_gtr rfl rfl)
  |(exact jAi)))|(apply yA)|(apply yB)|(refine jAd ?_)|(apply yE)|(apply yG)|(apply yH)|(apply yL)
  |(refine jBf ?_)))
  all_goals first | (exfalso;omega) | exact ⟨3,by omega,by omega,⟨[],rfl,rfl,rfl,by (repeat (first | exact trivial | refine ⟨rfl,?_⟩))⟩⟩
 ·(repeat' (first
  |(apply W.qd;(first
  |((apply (q_shrU (xn := 255) (n := 8) (v := 0));(iterate 4 exact rfl);decide;exact rfl))|(exact zM)|(exact zN)|(exact q_gtr rfl rfl)
  |(exact jAi)))|(apply yA)|(apply yB)|(refine jAd ?_)|(apply yE)|(apply yG)|(apply yH)|(apply yL)
  |(refine jBf ?_)))
  all_goals first | (exfalso;omega) | exact ⟨4,by omega,by omega,⟨[],rfl,rfl,rfl,by (repeat (first | exact trivial | refine ⟨rfl,?_⟩))⟩⟩
 ·(repeat' (first
  |(apply W.qd;(first
  |(exact zM)|(exact zN)
  |(exact q_gtr rfl rfl)))|(apply yA)|(apply yB)|(refine jAd ?_)|(apply yE)|(apply yI)|(apply yJ)|(apply yK)|(apply yM)
  |(refine jAx ?_)))
  all_goals first | (exfalso;omega) | exact Ends.i rfl rfl
end
section
theorem lt64 {x : Nat} (h : x < 18446744073709551616) : x < 2 ^ IntKind.u64.bits := h
theorem lt16 {x : Nat} (h : x < 65536) : x < 2 ^ IntKind.u16.bits := h
theorem shr_step (x i : Nat) : x >>> (8 * (i + 1)) = x >>> (8 * i) >>> 8 := by rw [← Nat.shiftRight_add];rfl
theorem put_facts (l : List Nat) (x n : Nat) (hn : l.length = n) : l ++ leN x 0 = l ∧ (∀ i,l ++ leN x (i + 1) = (l ++ leN x i) ++ [(x >>> (8 * i)) % 256]) ∧ ∀ i,(l ++ leN x i).length = n + i :=
 ⟨by simp [leN],fun i => by rw [leN_snoc,List.append_assoc],fun i => by rw [List.length_append,leN_length,hn]⟩
attribute [local irreducible] Quiet Eff OpOk AWPG ACont ABlock ACalls AGoto
theorem A_put32 {l : List Nat} {v n x : Nat} (hx : x < 4294967296) (hn : l.length = n) (hl : n ≤ 1000) : ACalls Tryz.prog 215 [.osl 0 v 0 n,uV x] [.row v 1 5 (l.map nD)] (.osl 0 (v + 4) 0 (n + 4)) [.row (v + 4) 1 5 ((l ++ leN x 4).map nD)] := by
 refine acalls_of_bodyO Tryz.func215 rfl (zU rfl) ?_
 have hz := A_sizeOf32
 obtain ⟨h0,hs,hll⟩ := put_facts l x n hn
 have hX : ∀ i,x >>> (8 * i) < 4294967296 := fun i => shr_lt hx
 have hXs := shr_step x
 have hX0 : x >>> (8 * 0) = x := rfl
 generalize hL : (fun i => l ++ leN x i) = L at *
 have eL : ∀ i,l ++ leN x i = L i := fun i => congrFun hL i
 simp only [eL] at h0 hs hll ⊢
 generalize hXX : (fun i => x >>> (8 * i)) = X at *
 have eX : ∀ i,x >>> (8 * i) = X i := fun i => congrFun hXX i
 simp only [eX] at hs hX hXs hX0
 clear eL eX hL hXX
 (repeat' (first
  |(apply W.qd;(first
  |(exact zW (hz))|(exact zM)
  |(exact zN)))|(apply yA)|(apply yB)|(apply (W.regionS 2);exact rfl;kernel_rfl)|(apply yE)
  |(apply yG)))
 refine AWP.loopW (α := Nat) (fun i => i ≤ 4) (fun i => ⟨[(6,iV i),(5,iV 4),(0,.osl 0 (v + i) 0 (L i).length),(1,uV (X i))],[.row (v + i) 1 5 ((L i).map nD)]⟩) (fun i => 4 - i) 0 (Nat.zero_le _) ?wkA fun i hi => ?_
 case wkA =>
  rw [h0,hX0,hn]
  exact ⟨[0],rfl,rfl,rfl,by (repeat (first | exact trivial | refine ⟨rfl,?_⟩))⟩
 by_cases hil : i < 4
 ·have h1 := hX i
  have h2 := hs i
  have h3 := hXs i
  have h4 := hll i
  have h5 := shr_lt (k := 8) h1
  generalize X i = q at *
  have m1 : q % 2 ^ IntKind.u64.bits = q := Nat.mod_eq_of_lt (lt64 (by omega))
  have m2 : (q >>> 8) % 2 ^ IntKind.u32.bits = q >>> 8 := Nat.mod_eq_of_lt (lt32 h5)
  (repeat' (first
   |(apply W.qd;(first
   |((apply (q_convN (k' := .u64) (xn := q) (v := q));(iterate 5 exact rfl);exact m1))
   |((apply (q_shrU (xn := q) (n := 8) (v := q >>> 8));(iterate 4 exact rfl);decide;exact rfl))
   |((apply (q_convN (k' := .u32) (xn := q >>> 8) (v := q >>> 8));(iterate 5 exact rfl);exact m2))|(exact zM)|(exact zN)|(exact jAj)|(exact jAi)|(exact jAl)
   |(exact jBd)))|(apply W.ld;(exact jAw))|(apply yA)|(apply yB)|(refine jAd ?_)|(apply yE)|(apply yG)|(apply yH)|(apply yL)
   |(refine W.cond _ rfl (fun hb => ?_) (fun hb => ?_) <;> ((try simp only [hb,zK]) <;> (try simp only [zL,zI] at hb) <;> (try (exfalso;omega))))))
  all_goals first
   |(exfalso;omega)|(refine ⟨i + 1,by omega,by omega,?_⟩;(try dsimp only);rw [h2,h3];exact ⟨[0],rfl,rfl,rfl,iV_eq (by omega),rfl,rfl,rfl,trivial⟩)
 ·obtain rfl : i = 4 := by omega
  have h4 := hll 4
  (repeat' (first
   |(apply W.qd;(first
   |(exact zM)|(exact zN)
   |(exact jAj)))|(apply yA)|(apply yB)|(refine jAd ?_)|(apply yE)|(apply yI)|(apply yJ)|(apply yK)|(apply yM)
   |(refine jAx ?_)))
  all_goals first
   |(exfalso;omega)
   |(rw [← h4];exact ⟨.inl rfl,[0],[.osl 0 (v + 4) 0 (L 4).length],rfl,rfl,⟨rfl,trivial⟩,AVle.of_eq rfl,rfl⟩)
theorem A_put32n {x : Nat} (hx : x < 4294967296) : ACalls Tryz.prog 215 [.d (.v (.slice none 0 0)),uV x] [] (.osl 0 4 0 4) [.row 4 1 5 ((leN x 4).map nD)] := by
 refine acalls_of_bodyO Tryz.func215 rfl (zU rfl) ?_
 have hz := A_sizeOf32
 obtain ⟨h0,hs,hll⟩ := put_facts [] x 0 rfl
 simp only [List.nil_append,Nat.zero_add] at h0 hs hll
 have hX : ∀ i,x >>> (8 * i) < 4294967296 := fun i => shr_lt hx
 have hXs := shr_step x
 have hX0 : x >>> (8 * 0) = x := rfl
 generalize hL : (fun i => leN x i) = L at *
 have eL : ∀ i,leN x i = L i := fun i => congrFun hL i
 simp only [eL] at h0 hs hll ⊢
 generalize hXX : (fun i => x >>> (8 * i)) = X at *
 have eX : ∀ i,x >>> (8 * i) = X i := fun i => congrFun hXX i
 simp only [eX] at hs hX hXs hX0
 clear eL eX hL hXX
 (repeat' (first
  |(apply W.qd;(first
  |(exact zW (hz))|(exact zM)
  |(exact zN)))|(apply yA)|(apply yB)|(apply (W.regionS 2);exact rfl;kernel_rfl)|(apply yE)
  |(apply yG)))
 refine AWP.nilRow 0 1 5 rfl (by omega) ?_
 refine AWP.loopW (α := Nat) (fun i => i ≤ 4) (fun i => ⟨[(6,iV i),(5,iV 4),(0,.osl 0 i 0 (L i).length),(1,uV (X i))],[.row i 1 5 ((L i).map nD)]⟩) (fun i => 4 - i) 0 (Nat.zero_le _) ?wkA fun i hi => ?_
 case wkA =>
  rw [h0,hX0]
  exact ⟨[0],rfl,rfl,rfl,by (repeat (first | exact trivial | refine ⟨rfl,?_⟩))⟩
 by_cases hil : i < 4
 ·have h1 := hX i
  have h2 := hs i
  have h3 := hXs i
  have h4 := hll i
  have h5 := shr_lt (k := 8) h1
  generalize X i = q at *
  have m1 : q % 2 ^ IntKind.u64.bits = q := Nat.mod_eq_of_lt (lt64 (by omega))
  have m2 : (q >>> 8) % 2 ^ IntKind.u32.bits = q >>> 8 := Nat.mod_eq_of_lt (lt32 h5)
  (repeat' (first
   |(apply W.qd;(first
   |((apply (q_convN (k' := .u64) (xn := q) (v := q));(iterate 5 exact rfl);exact m1))
   |((apply (q_shrU (xn := q) (n := 8) (v := q >>> 8));(iterate 4 exact rfl);decide;exact rfl))
   |((apply (q_convN (k' := .u32) (xn := q >>> 8) (v := q >>> 8));(iterate 5 exact rfl);exact m2))|(exact zM)|(exact zN)|(exact jAj)|(exact jAi)|(exact jAl)
   |(exact jBd)))|(apply W.ld;(exact jAw))|(apply yA)|(apply yB)|(refine jAd ?_)|(apply yE)|(apply yG)|(apply yH)|(apply yL)
   |(refine W.cond _ rfl (fun hb => ?_) (fun hb => ?_) <;> ((try simp only [hb,zK]) <;> (try simp only [zL,zI] at hb) <;> (try (exfalso;omega))))))
  all_goals first
   |(exfalso;omega)|(refine ⟨i + 1,by omega,by omega,?_⟩;(try dsimp only);rw [h2,h3];exact ⟨[0],rfl,rfl,rfl,iV_eq (by omega),rfl,rfl,rfl,trivial⟩)
 ·obtain rfl : i = 4 := by omega
  have h4 := hll 4
  (repeat' (first
   |(apply W.qd;(first
   |(exact zM)|(exact zN)
   |(exact jAj)))|(apply yA)|(apply yB)|(refine jAd ?_)|(apply yE)|(apply yI)|(apply yJ)|(apply yK)|(apply yM)
   |(refine jAx ?_)))
  all_goals first
   |(exfalso;omega)|(refine ⟨.inl rfl,[0],[.osl 0 4 0 (L 4).length],rfl,rfl,⟨rfl,trivial⟩,AVle.of_eq ?_,rfl⟩;rw [h4];rfl)
theorem A_put16 {l : List Nat} {v n x : Nat} (hx : x < 65536) (hn : l.length = n) (hl : n ≤ 1000) : ACalls Tryz.prog 214 [.osl 0 v 0 n,.d (.v (.int .u16 (x : Int)))] [.row v 1 5 (l.map nD)] (.osl 0 (v + 2) 0 (n + 2)) [.row (v + 2) 1 5 ((l ++ leN x 2).map nD)] := by
 refine acalls_of_bodyO Tryz.func214 rfl (zU rfl) ?_
 have hz := A_sizeOf16
 obtain ⟨h0,hs,hll⟩ := put_facts l x n hn
 have hX : ∀ i,x >>> (8 * i) < 65536 := fun i => shr_lt hx
 have hXs := shr_step x
 have hX0 : x >>> (8 * 0) = x := rfl
 generalize hL : (fun i => l ++ leN x i) = L at *
 have eL : ∀ i,l ++ leN x i = L i := fun i => congrFun hL i
 simp only [eL] at h0 hs hll ⊢
 generalize hXX : (fun i => x >>> (8 * i)) = X at *
 have eX : ∀ i,x >>> (8 * i) = X i := fun i => congrFun hXX i
 simp only [eX] at hs hX hXs hX0
 clear eL eX hL hXX
 (repeat' (first
  |(apply W.qd;(first
  |(exact zW (hz))|(exact zM)
  |(exact zN)))|(apply yA)|(apply yB)|(apply (W.regionS 2);exact rfl;kernel_rfl)|(apply yE)
  |(apply yG)))
 refine AWP.loopW (α := Nat) (fun i => i ≤ 2) (fun i => ⟨[(6,iV i),(5,iV 2),(0,.osl 0 (v + i) 0 (L i).length),(1,.d (.v (.int .u16 (X i : Int))))],[.row (v + i) 1 5 ((L i).map nD)]⟩) (fun i => 2 - i) 0 (Nat.zero_le _) ?wkA fun i hi => ?_
 case wkA =>
  rw [h0,hX0,hn]
  exact ⟨[0],rfl,rfl,rfl,by (repeat (first | exact trivial | refine ⟨rfl,?_⟩))⟩
 by_cases hil : i < 2
 ·have h1 := hX i
  have h2 := hs i
  have h3 := hXs i
  have h4 := hll i
  have h5 := shr_lt (k := 8) h1
  generalize X i = q at *
  have m1 : q % 2 ^ IntKind.u64.bits = q := Nat.mod_eq_of_lt (lt64 (by omega))
  have m2 : (q >>> 8) % 2 ^ IntKind.u16.bits = q >>> 8 := Nat.mod_eq_of_lt (lt16 h5)
  (repeat' (first
   |(apply W.qd;(first
   |((apply (q_convN (k' := .u64) (xn := q) (v := q));(iterate 5 exact rfl);exact m1))
   |((apply (q_shrU (xn := q) (n := 8) (v := q >>> 8));(iterate 4 exact rfl);decide;exact rfl))
   |((apply (q_convN (k' := .u16) (xn := q >>> 8) (v := q >>> 8));(iterate 5 exact rfl);exact m2))|(exact zM)|(exact zN)|(exact jAj)|(exact jAi)|(exact jAl)
   |(exact jBd)))|(apply W.ld;(exact jAw))|(apply yA)|(apply yB)|(refine jAd ?_)|(apply yE)|(apply yG)|(apply yH)|(apply yL)
   |(refine W.cond _ rfl (fun hb => ?_) (fun hb => ?_) <;> ((try simp only [hb,zK]) <;> (try simp only [zL,zI] at hb) <;> (try (exfalso;omega))))))
  all_goals first
   |(exfalso;omega)|(refine ⟨i + 1,by omega,by omega,?_⟩;(try dsimp only);rw [h2,h3];exact ⟨[0],rfl,rfl,rfl,iV_eq (by omega),rfl,rfl,rfl,trivial⟩)
 ·obtain rfl : i = 2 := by omega
  have h4 := hll 2
  (repeat' (first
   |(apply W.qd;(first
   |(exact zM)|(exact zN)
   |(exact jAj)))|(apply yA)|(apply yB)|(refine jAd ?_)|(apply yE)|(apply yI)|(apply yJ)|(apply yK)|(apply yM)
   |(refine jAx ?_)))
  all_goals first
   |(exfalso;omega)
   |(rw [← h4];exact ⟨.inl rfl,[0],[.osl 0 (v + 2) 0 (L 2).length],rfl,rfl,⟨rfl,trivial⟩,AVle.of_eq rfl,rfl⟩)
theorem A_number {x k : Nat} (hx : x < 9223372036854775808) (hk : 1 ≤ k ∧ k ≤ 8) : ACalls Tryz.prog 100 [iV x,iV k] [] (byts (leN x k)) [] := by
 refine acalls_of_body Tryz.func100 rfl (zU rfl) ?_
 obtain ⟨h0,hs,hll⟩ := put_facts [] x 0 rfl
 simp only [List.nil_append,Nat.zero_add] at h0 hs hll
 generalize hL : (fun i => leN x i) = L at *
 have eL : ∀ i,leN x i = L i := fun i => congrFun hL i
 simp only [eL] at h0 hs hll ⊢
 clear eL hL
 (repeat' (first
  |(apply W.qd;(exact zN))|(apply yA)|(apply yB)|(apply (W.regionS 3);exact rfl;kernel_rfl)|(apply yE)
  |(apply yG)))
 refine AWP.nilRow 5 1 5 rfl (by omega) ?_
 refine AWP.loopW (α := Nat) (fun i => i ≤ k) (fun i => ⟨[(6,iV i),(5,.osl 0 i 0 (L i).length),(0,iV x),(1,iV k)],[.row i 1 5 ((L i).map nD)]⟩) (fun i => k - i) 0 (Nat.zero_le _) ?wkA fun i hi => ?_
 case wkA =>
  rw [h0]
  exact ⟨[0],rfl,rfl,rfl,by (repeat (first | exact trivial | refine ⟨rfl,?_⟩))⟩
 by_cases hil : i < k
 ·have h2 := hs i
  have h4 := hll i
  have h8 : ((8 : Int) * (i : Int)) = ((8 * i : Nat) : Int) := by omega
  (repeat' (first
   |(apply W.qd;(first
   |(exact zM)|(exact zN)|(exact jAj)|(exact jAi)|(exact jBg)|(exact jAl)|(exact jBd)
   |(exact jAt)))|(apply W.ld;(exact jAw))|(apply yA)|(apply yB)|(refine jAd ?_)|(apply yE)|(apply yG)|(apply yH)|(apply yL)
   |(refine W.cond _ rfl (fun hb => ?_) (fun hb => ?_) <;> ((try simp only [hb,zK]) <;> (try simp only [zL,zI] at hb) <;> (try (exfalso;omega))))))
  all_goals first
   |(exfalso;omega)|(refine ⟨i + 1,by omega,by omega,?_⟩;(try dsimp only);rw [h2];exact ⟨[0],rfl,rfl,rfl,iV_eq (by omega),rfl,rfl,rfl,trivial⟩)
 ·obtain rfl : i = k := by omega
  have h4 := hll i
  (repeat' (first
   |(apply W.qd;(first
   |(exact zM)|(exact zN)
   |(exact jAj)))|(apply yA)|(apply yB)|(refine jAd ?_)|(apply yE)|(apply yI)|(apply yJ)|(apply yK)|(apply yM)
   |(refine W.cond _ rfl (fun hb => ?_) (fun hb => ?_) <;> ((try simp only [hb,zK]) <;> (try simp only [zL,zI] at hb) <;> (try (exfalso;omega))))))
  all_goals first
   |(exfalso;omega)
   |exact Ends.osl rfl rfl (by rw [List.length_map]) rfl
end
section
theorem seal_parts {dk a ix ep ct : Nat} {u : List Nat} : bodyL ((dk : Int),(a : Int),(ix : Int)) ((ep : Int),(ct : Int)) u = (((((([a,dk] ++ leN ix 2) ++ leN ep 4) ++ leN ct 4) ++ u) ++ List.replicate (40 - u.length) 0) ++ leN ep 4) ++ leN ct 4 := by
 unfold bodyL headL genL
 simp only [Int.toNat_natCast,List.append_assoc]
theorem pl_nat {p : Pl} (h : plB p = true) : ∃ dk a ix : Nat,p = ((dk : Int),(a : Int),(ix : Int)) ∧ dk < 64 ∧ a ≤ 4 ∧ ix < 65536 := by
 obtain ⟨x,y,z⟩ := p
 have h1 := plB_bd h
 dsimp only at h1
 refine ⟨x.toNat,y.toNat,z.toNat,?_,by omega,by omega,by omega⟩
 rw [Int.toNat_of_nonneg (by omega),Int.toNat_of_nonneg (by omega),Int.toNat_of_nonneg (by omega)]
theorem gn_nat {g : Gn} (h : gnB g = true) : ∃ ep ct : Nat,g = ((ep : Int),(ct : Int)) ∧ ep < 4294967296 ∧ ct < 4294967296 := by
 obtain ⟨x,y⟩ := g
 have h1 := gnB_bd h
 dsimp only at h1
 refine ⟨x.toNat,y.toNat,?_,by omega,by omega⟩
 rw [Int.toNat_of_nonneg (by omega),Int.toNat_of_nonneg (by omega)]
attribute [local irreducible] Quiet Eff OpOk AWPG ACont ABlock ACalls AGoto
theorem A_seal {p : Pl} {g : Gn} {u : List Nat} (hub : isB u) (h32 : u.length = 32) : ACalls Tryz.prog 156 [pcA p,gnA g,bS u] [] (.tup [bS (sealN p g u).1,iV (sealN p g u).2]) [] := by
 refine acalls_of_body Tryz.func156 rfl (zU rfl) ?_
 have f1 := A_svalid p
 have f2 := A_validGen g
 by_cases h : plB p = true ∧ gnB g = true
 case neg =>
  have e : sealN p g u = ([],1) := if_neg fun hh => h ⟨hh.1,hh.2.1⟩
  rw [e]
  generalize plB p = b1 at *
  generalize gnB g = b2 at *
  cases b1 <;> cases b2
  all_goals try (exfalso;exact h ⟨rfl,rfl⟩)
  all_goals
   (repeat' (first
    |(apply yFb;exact rfl;exact rfl)
    |(apply W.qd;(first
    |(exact zW (f1))|(exact zW (f2))|(exact zM)|(exact zN)|(exact jAm)|(exact jBh)|(apply (yEb (u := .d _));exact rfl;exact rfl)
    |(apply (yDb (u := .d _));exact rfl;exact rfl)))|(apply W.ed;(exact jAc))|(refine W.gOff _ _ rfl rfl (by intro h;cases h) ?_)|(apply yA)|(apply yB)|(refine jAd ?_)|(apply yE)|(apply yJ)|(apply yP)
    |(refine jBf ?_)))
   all_goals first | (exfalso;omega) | exact Ends.two rfl rfl rfl
 obtain ⟨hp,hg⟩ := h
 have e : sealN p g u = (sealL p g u,0) := if_pos ⟨hp,hg,by omega⟩
 have hbL := bodyL_isB (g := g) hp hub
 rw [e]
 rw [hp] at f1
 rw [hg] at f2
 obtain ⟨dk,a,ix,rfl,hdk,ha,hix⟩ := pl_nat hp
 obtain ⟨ep,ct,rfl,hep,hct⟩ := gn_nat hg
 unfold sealL
 rw [seal_parts] at hbL ⊢
 rw [h32] at hbL ⊢
 show AWPG _ _ _ _ _ (Ends _ _ (.tup [bS (leN (crcN ((((((([a,dk] ++ leN ix 2) ++ leN ep 4) ++ leN ct 4) ++ u) ++ List.replicate 8 0) ++ leN ep 4) ++ leN ct 4)) 4 ++ ((((((([a,dk] ++ leN ix 2) ++ leN ep 4) ++ leN ct 4) ++ u) ++ List.replicate 8 0) ++ leN ep 4) ++ leN ct 4)),iV 0]) []) _
 have c1 := A_put16 (l := [a,dk]) (v := 0) (n := 2) (x := ix) hix rfl (by omega)
 obtain ⟨L1,e1,k1⟩ : ∃ L1,[a,dk] ++ leN ix 2 = L1 ∧ L1.length = 4 := ⟨_,rfl,by rw [List.length_append,leN_length];rfl⟩
 rw [e1] at c1 hbL ⊢
 have c2 := A_put32 (l := L1) (v := 2) (n := 4) (x := ep) hep k1 (by omega)
 obtain ⟨L2,e2,k2⟩ : ∃ L2,L1 ++ leN ep 4 = L2 ∧ L2.length = 8 := ⟨_,rfl,by rw [List.length_append,leN_length,k1]⟩
 rw [e2] at c2 hbL ⊢
 have c3 := A_put32 (l := L2) (v := 6) (n := 8) (x := ct) hct k2 (by omega)
 obtain ⟨L3,e3,k3⟩ : ∃ L3,L2 ++ leN ct 4 = L3 ∧ L3.length = 12 := ⟨_,rfl,by rw [List.length_append,leN_length,k2]⟩
 rw [e3] at c3 hbL ⊢
 have k4 : (L3 ++ u).length = 44 := by rw [List.length_append,k3,h32]
 have k5 : ((L3 ++ u) ++ List.replicate 8 0).length = 52 := by rw [List.length_append,k4,List.length_replicate]
 have c4 := A_put32 (l := (L3 ++ u) ++ List.replicate 8 0) (v := 12) (n := 52) (x := ep) hep k5 (by omega)
 obtain ⟨L6,e6,k6⟩ : ∃ L6,((L3 ++ u) ++ List.replicate 8 0) ++ leN ep 4 = L6 ∧ L6.length = 56 := ⟨_,rfl,by rw [List.length_append,leN_length,k5]⟩
 rw [e6] at c4 hbL ⊢
 have c5 := A_put32 (l := L6) (v := 16) (n := 56) (x := ct) hct k6 (by omega)
 obtain ⟨L7,e7,k7⟩ : ∃ L7,L6 ++ leN ct 4 = L7 ∧ L7.length = 60 := ⟨_,rfl,by rw [List.length_append,leN_length,k6]⟩
 rw [e7] at c5 hbL ⊢
 have c6 := A_crcOf hbL (by omega)
 have hcl := crcN_lt hbL
 generalize crcN L7 = c at *
 have c7 := A_put32n hcl
 have hcb := leN_isB c 4
 have hck := leN_length c 4
 generalize leN c 4 = C at *
 have hCb : isB (C ++ L7) := isB_app hcb hbL
 have hCl : (C ++ L7).length = 64 := by rw [List.length_append,hck,k7]
 have mi : ix % 2 ^ IntKind.u16.bits = ix := Nat.mod_eq_of_lt (lt16 hix)
 have me : ep % 2 ^ IntKind.u32.bits = ep := Nat.mod_eq_of_lt (lt32 hep)
 have mc : ct % 2 ^ IntKind.u32.bits = ct := Nat.mod_eq_of_lt (lt32 hct)
 have hfz : ∀ own own' : List Ent,own[2]? = some (.row 20 1 5 (L7.map nD)) → same [2] own own' → AV.frzL own' [] [.osl 2 20 0 60] = [byts L7] := fun own own' h1 h2 => congrArg (fun z => [z]) (frz_rowJ ((h2 2 (by simp)).trans h1) rfl (by rw [List.length_map];exact k7.symm))
 clear e1 e2 e3 e6 e7
 (repeat' (first
  |(apply yFb;exact rfl;exact rfl)|(apply W.ed;(apply (e_litO (es := [a,dk].map nD));(iterate 6 exact rfl);kernel_rfl;exact rfl;exact rfl))
  |(apply W.qd;(first
  |(exact zW (f1))|(exact zW (f2))
  |((apply (q_convN (k' := .u16) (xn := ix) (v := ix));(iterate 5 exact rfl);exact mi))
  |((apply (q_convN (k' := .u32) (xn := ep) (v := ep));(iterate 5 exact rfl);exact me))
  |((apply (q_convN (k' := .u32) (xn := ct) (v := ct));(iterate 5 exact rfl);exact mc))
  |((apply (q_callF (js := [2]) c6);exact rfl;exact fun own' hh => hfz _ own' rfl hh;exact rfl;kernel_rfl))
  |((apply q_str_osl;(iterate 4 exact rfl);exact hCl.symm;exact hCb))|(exact zM)|(exact zN)|(exact jAr)|(exact jAk)|(exact jAm)|(exact q_gtr rfl rfl)|(exact jBh)|(exact q_sub rfl rfl (by omega))|(exact q_len_bs rfl rfl)|(apply (yDb (u := .d _));exact rfl;exact rfl)
  |(apply q_conv8;(iterate 3 exact rfl);(first | (with_reducible exact rfl) | exact natI_spec rfl | assumption | exact (Int.toNat_of_nonneg (by omega)).symm);omega)))
  |(apply W.ed;(first
  |(apply (e_callJ (js := [2]) (c1));(iterate 5 exact rfl);kernel_rfl;kernel_rfl)|(apply (e_callJ (js := [2]) (c2));(iterate 5 exact rfl);kernel_rfl;kernel_rfl)|(apply (e_callJ (js := [2]) (c3));(iterate 5 exact rfl);kernel_rfl;kernel_rfl)|(apply (e_callJ (js := [2]) (c4));(iterate 5 exact rfl);kernel_rfl;kernel_rfl)|(apply (e_callJ (js := [2]) (c5));(iterate 5 exact rfl);kernel_rfl;kernel_rfl)
  |((apply (e_appStr (q := 44) (l2 := u));(iterate 7 exact rfl);exact k3.symm;omega;exact hub;omega))
  |((apply (e_apzO (q := 52) (k := 8));(iterate 3 exact rfl);omega;(iterate 4 exact rfl);exact k4.symm;omega;omega;omega))|(apply (e_callJ (js := []) (c7));(iterate 5 exact rfl);kernel_rfl;kernel_rfl)
  |((apply (e_appRm (q := 64) (l := C) (l2 := L7));(iterate 8 exact rfl);exact hck.symm;exact k7.symm;omega;omega;omega))
  |(exact jAc)))|(apply yA)|(apply yB)|(refine jAd ?_)|(refine jAs ?_)|(apply yE)|(refine jBb ?_)|(apply yH)|(apply yJ)
  |(refine W.cond _ rfl (fun hb => ?_) (fun hb => ?_) <;> ((try simp only [hb,zK]) <;> (try simp only [zL,zI] at hb) <;> (try (exfalso;omega))))))
 all_goals first | (exfalso;omega) | exact Ends.two rfl rfl rfl
end
section
theorem eq_pl (a b : Pl) {r : Bool} (h : decide (a = b) = r) : eqOffs #[.int .i64 a.1,.int .i64 a.2.1,.int .i64 a.2.2] #[.int .i64 b.1,.int .i64 b.2.1,.int .i64 b.2.2] [0,1,2] = some r := by
 subst h
 obtain ⟨a1,a2,a3⟩ := a
 obtain ⟨b1,b2,b3⟩ := b
 simp [eqOffs,Bool.decide_and]
theorem eq_gn (a b : Gn) {r : Bool} (h : decide (a = b) = r) : eqOffs #[.int .i64 a.1,.int .i64 a.2] #[.int .i64 b.1,.int .i64 b.2] [0,1] = some r := by
 subst h
 obtain ⟨a1,a2⟩ := a
 obtain ⟨b1,b2⟩ := b
 simp [eqOffs,Bool.decide_and]
def lblP (s : List Nat) : Pl := if labE s = 0 then labP s else (0,0,0)
def lblG (s : List Nat) : Gn := if labE s = 0 then labG s else (0,0)
def opnG (p : Pl) (s : List Nat) : Gn := if openE p s = 0 then labG s else (0,0)
def opnU (p : Pl) (s : List Nat) : List Nat := if openE p s = 0 then cut s 16 56 else []
theorem rep_snoc (l : List Nat) (j : Nat) : l ++ List.replicate (j + 1) 0 = (l ++ List.replicate j 0) ++ [0] := by rw [List.replicate_succ',List.append_assoc]
attribute [local irreducible] Quiet Eff OpOk AWPG ACont ABlock ACalls AGoto
theorem A_rseal {p : Pl} {g : Gn} {u : List Nat} (hub : isB u) (hul : u.length ≤ 9223372036854775807) : ACalls Tryz.prog 50 [pcA p,gnA g,bS u] [] (.tup [bS (sealN p g u).1,iV (sealN p g u).2]) [] := by
 refine acalls_of_body Tryz.func50 rfl (zU rfl) ?_
 have f1 := A_rsvalid p
 have f2 := A_right g
 by_cases h : plB p = true ∧ gnB g = true
 case neg =>
  have e : sealN p g u = ([],1) := if_neg fun hh => h ⟨hh.1,hh.2.1⟩
  rw [e]
  generalize plB p = b1 at *
  generalize gnB g = b2 at *
  cases b1 <;> cases b2
  all_goals try (exfalso;exact h ⟨rfl,rfl⟩)
  all_goals
   (repeat' (first
    |(apply yFb;exact rfl;exact rfl)
    |(apply W.qd;(first
    |(exact zW (f1))|(exact zW (f2))|(exact zM)|(exact zN)|(exact jAm)|(exact jBh)|(apply (yEb (u := .d _));exact rfl;exact rfl)
    |(apply (yDb (u := .d _));exact rfl;exact rfl)))|(apply W.ed;(exact jAc))|(refine W.gOff _ _ rfl rfl (by intro h;cases h) ?_)|(apply yA)|(apply yB)|(refine jAd ?_)|(apply yE)|(apply yJ)|(apply yP)
    |(refine jBf ?_)))
   all_goals first | (exfalso;omega) | exact Ends.two rfl rfl rfl
 obtain ⟨hp,hg⟩ := h
 by_cases h40 : u.length ≤ 40
 case neg =>
  have e : sealN p g u = ([],1) := if_neg fun hh => h40 hh.2.2
  rw [e]
  rw [hp] at f1
  rw [hg] at f2
  (repeat' (first
   |(apply yFb;exact rfl;exact rfl)
   |(apply W.qd;(first
   |(exact zW (f1))|(exact zW (f2))|(exact zM)|(exact zN)|(exact jAm)|(exact q_gtr rfl rfl)|(exact jBh)|(exact q_len_bs rfl rfl)
   |(apply (yDb (u := .d _));exact rfl;exact rfl)))|(apply W.ed;(exact jAc))|(apply yA)|(apply yB)|(apply (W.regionS 5);exact rfl;kernel_rfl)|(apply yE)|(apply yJ)|(apply yP)
   |(refine W.cond _ rfl (fun hb => ?_) (fun hb => ?_) <;> ((try simp only [hb,zK]) <;> (try simp only [zL,zI] at hb) <;> (try (exfalso;omega))))))
  all_goals first | (exfalso;omega) | exact Ends.two rfl rfl rfl
 have e : sealN p g u = (sealL p g u,0) := if_pos ⟨hp,hg,h40⟩
 have hbL := bodyL_isB (g := g) hp hub
 rw [e]
 rw [hp] at f1
 rw [hg] at f2
 obtain ⟨dk,a,ix,rfl,hdk,ha,hix⟩ := pl_nat hp
 obtain ⟨ep,ct,rfl,hep,hct⟩ := gn_nat hg
 unfold sealL
 rw [seal_parts] at hbL ⊢
 have c1 := A_number (x := ix) (k := 2) (by omega) (by omega)
 have c2 := A_number (x := ep) (k := 4) (by omega) (by omega)
 have c3 := A_number (x := ct) (k := 4) (by omega) (by omega)
 have n1 := leN_length ix 2
 have n2 := leN_length ep 4
 have n3 := leN_length ct 4
 generalize leN ix 2 = X1 at *
 generalize leN ep 4 = X2 at *
 generalize leN ct 4 = X3 at *
 have k1 : ([a,dk] ++ X1).length = 4 := by rw [List.length_append,n1];rfl
 have k2 : (([a,dk] ++ X1) ++ X2).length = 8 := by rw [List.length_append,n2,k1]
 obtain ⟨L3,e3,k3⟩ : ∃ L3,(([a,dk] ++ X1) ++ X2) ++ X3 = L3 ∧ L3.length = 12 := ⟨_,rfl,by rw [List.length_append,n3,k2]⟩
 have e3' : ∀ E : List Ent,setF E 2 (.row 3 1 5 (((([a,dk] ++ X1) ++ X2) ++ X3).map nD)) = setF E 2 (.row 3 1 5 (L3.map nD)) := fun E => by rw [e3]
 (repeat' (first
  |(apply yFb;exact rfl;exact rfl)|(apply W.ed;(apply (e_litO (es := [a,dk].map nD));(iterate 6 exact rfl);kernel_rfl;exact rfl;exact rfl))
  |(apply W.qd;(first
  |(exact zW (f1))|(exact zW (f2))|(exact zW (c1))|(exact zW (c2))|(exact zW (c3))|(exact zM)|(exact zN)|(exact jAr)|(exact jAk)|(exact jAm)|(exact q_gtr rfl rfl)|(exact jBh)|(exact q_len_bs rfl rfl)|(apply (yDb (u := .d _));exact rfl;exact rfl)
  |(apply q_conv8;(iterate 3 exact rfl);(first | (with_reducible exact rfl) | exact natI_spec rfl | assumption | exact (Int.toNat_of_nonneg (by omega)).symm);omega)))
  |(apply W.ed;(first
  |((apply (e_appDm (q := 4) (l := [a,dk]) (l2 := X1));(iterate 8 exact rfl);(show 4 = 2 + X1.length;omega);(show 2 + X1.length ≤ _;omega)))
  |((apply (e_appDm (q := 8) (l := [a,dk] ++ X1) (l2 := X2));(iterate 7 exact rfl);exact k1.symm;omega;omega))
  |((apply (e_appDm (q := 12) (l := ([a,dk] ++ X1) ++ X2) (l2 := X3));(iterate 7 exact rfl);exact k2.symm;omega;omega))
  |(exact jAc)))|(apply yA)|(apply yB)|(apply (W.regionS 9);exact rfl;kernel_rfl)|(apply yE)|(apply yH)
  |(refine W.cond _ rfl (fun hb => ?_) (fun hb => ?_) <;> ((try simp only [hb,zK]) <;> (try simp only [zL,zI] at hb) <;> (try (exfalso;omega))))))
 all_goals try (exfalso;omega)
 show AWPG _ _ _ _ _ _ ⟨_,[_,_,.row 3 1 5 (((([a,dk] ++ X1) ++ X2) ++ X3).map nD)]⟩
 rw [e3] at hbL ⊢
 clear e3 e3'
 have k4 : (L3 ++ u).length = 12 + u.length := by rw [List.length_append,k3]
 (repeat' (first
  |(apply W.qd;(first
  |(exact zM)
  |(exact zN)))|(apply W.ed;((apply (e_appStr (q := 12 + u.length) (l2 := u));(iterate 7 exact rfl);exact k3.symm;omega;exact hub;omega)))|(apply yA)|(apply yB)|(apply (W.regionS 10);exact rfl;kernel_rfl)|(apply yE)
  |(apply yG)))
 generalize hL4 : L3 ++ u = L4 at *
 refine AWP.loopW (α := Nat) (fun j => j ≤ 40 - u.length) (fun j => ⟨[(10,.osl 2 (4 + j) 0 (12 + u.length + j)),(3,.opt 0 0),(4,.opt 1 0)],[.box [iV dk,iV a,iV ix],.box [iV ep,iV ct],.row (4 + j) 1 5 ((L4 ++ List.replicate j 0).map nD)]⟩) (fun j => 40 - u.length - j) 0 (Nat.zero_le _) ?wkA fun j hj => ?_
 case wkA =>
  rw [show List.replicate 0 0 = ([] : List Nat) from rfl,List.append_nil,← hL4]
  exact ⟨[0,1,2],rfl,rfl,rfl,by (repeat (first | exact trivial | refine ⟨rfl,?_⟩))⟩
 have k5 : (L4 ++ List.replicate j 0).length = 12 + u.length + j := by rw [List.length_append,k4,List.length_replicate]
 by_cases hjl : j < 40 - u.length
 ·have hs := rep_snoc L4 j
  generalize L4 ++ List.replicate j 0 = L at *
  (repeat' (first
   |(apply W.qd;(first
   |(exact zM)|(exact zN)|(exact jAj)|(exact q_len_osl rfl rfl rfl)
   |(exact jAl)))|(apply W.ed;((apply (e_appDm (q := 12 + u.length + j + 1) (l := L) (l2 := [0]));(iterate 7 exact rfl);exact k5.symm;(show _ = L.length + 1;omega);(show L.length + 1 ≤ _;omega))))|(apply yA)|(apply yB)|(refine jAd ?_)|(apply yE)|(apply yG)|(apply yH)|(apply yL)
   |(refine W.cond _ rfl (fun hb => ?_) (fun hb => ?_) <;> ((try simp only [hb,zK]) <;> (try simp only [zL,zI] at hb) <;> (try (exfalso;omega))))))
  all_goals first
   |(exfalso;omega)|(refine ⟨j + 1,by omega,by omega,?_⟩;(try dsimp only);rw [hs];exact ⟨[0,1,2],rfl,rfl,rfl,by (repeat (first | exact trivial | refine ⟨rfl,?_⟩))⟩)
 ·obtain rfl : j = 40 - u.length := by omega
  generalize L4 ++ List.replicate (40 - u.length) 0 = L at *
  have k6 : (L ++ X2).length = 12 + u.length + (40 - u.length) + 4 := by rw [List.length_append,k5,n2]
  have k7 : ((L ++ X2) ++ X3).length = 12 + u.length + (40 - u.length) + 8 := by rw [List.length_append,k6,n3]
  have c6 := A_rcrcOf hbL (by omega)
  have hcl := crcN_lt hbL
  generalize crcN ((L ++ X2) ++ X3) = c at *
  have c7 := A_number (x := c) (k := 4) (by omega) (by omega)
  have hcb := leN_isB c 4
  have hck := leN_length c 4
  generalize leN c 4 = C at *
  have hfz : ∀ (own own' : List Ent) (v n : Nat),own[2]? = some (.row v 1 5 (((L ++ X2) ++ X3).map nD)) → n = ((L ++ X2) ++ X3).length → same [2] own own' → AV.frzL own' [] [.osl 2 v 0 n] = [byts ((L ++ X2) ++ X3)] := fun own own' v n h1 hn h2 => congrArg (fun z => [z]) (frz_rowJ ((h2 2 (by simp)).trans h1) rfl (by rw [List.length_map];exact hn))
  (repeat' (first
   |(apply W.qd;(first
   |(exact zW (c2))|(exact zW (c3))|(exact zW (c7))
   |((apply (q_callF (js := [2]) c6);exact rfl;exact fun own' hh => hfz _ own' _ _ rfl k7.symm hh;exact rfl;kernel_rfl))
   |((apply (q_str_dat (l := C));(iterate 3 exact rfl);exact hcb))
   |((apply q_str_osl;(iterate 4 exact rfl);exact k7.symm;exact hbL))
   |((apply (q_cat (v := C ++ ((L ++ X2) ++ X3)));(iterate 3 exact rfl);omega))|(exact zM)|(exact zN)|(exact jAr)|(exact jAk)|(exact jAj)|(exact q_len_osl rfl rfl rfl)
   |(apply q_convI;(iterate 3 exact rfl);omega)))
   |(apply W.ed;(first
   |((apply (e_appDm (q := 12 + u.length + (40 - u.length) + 4) (l := L) (l2 := X2));(iterate 7 exact rfl);exact k5.symm;omega;omega))
   |((apply (e_appDm (q := 12 + u.length + (40 - u.length) + 8) (l := L ++ X2) (l2 := X3));(iterate 7 exact rfl);exact k6.symm;omega;omega))))|(apply yA)|(apply yB)|(refine jAd ?_)|(apply yE)|(apply yI)|(apply yJ)|(apply yK)|(apply yM)
   |(refine W.cond _ rfl (fun hb => ?_) (fun hb => ?_) <;> ((try simp only [hb,zK]) <;> (try simp only [zL,zI] at hb) <;> (try (exfalso;omega))))))
  all_goals first | (exfalso;omega) | exact Ends.two rfl rfl rfl
end
section
theorem lab_parts {s : List Nat} (h : s.length = 64) (hb : isB s) : ∃ (x4 x5 n6 n8 n12 n0 c : Nat) (t : Bool), x4 < 256 ∧ x5 < 256 ∧ n6 < 4294967296 ∧ n8 < 4294967296 ∧ n12 < 4294967296 ∧ n0 < 4294967296 ∧ c < 4294967296 ∧
 s[4]'(by omega) = x4 ∧ s[5]'(by omega) = x5 ∧ numN ((s.drop 6).take (8 - 6)) = n6 ∧ numN ((s.drop 8).take (12 - 8)) = n8 ∧ numN ((s.drop 12).take (16 - 12)) = n12 ∧ numN ((s.drop 0).take (4 - 0)) = n0 ∧ crcN ((s.drop 4).take (s.length - 4)) = c ∧ (!decide ((s.drop 8).take (16 - 8) = (s.drop 56).take (s.length - 56))) = t ∧
 labP s = ((x5 : Int),(x4 : Int),(n6 : Int)) ∧ labG s = ((n8 : Int),(n12 : Int)) ∧ labB s = (decide (n0 = c) && (plB ((x5 : Int),(x4 : Int),(n6 : Int)) && (gnB ((n8 : Int),(n12 : Int)) && !t))) := by
 have hg : ∀ i (hi : i < s.length),s.getD i 0 = s[i] := fun i hi => by rw [List.getD_eq_getElem?_getD,List.getElem?_eq_getElem hi];rfl
 have hn : ∀ a k,k ≤ 4 → numN ((s.drop a).take k) < 4294967296 := fun a k hk => by
  have h1 := num_lt (isB_sub hb a k)
  refine Nat.lt_of_lt_of_le h1 ?_
  have h2 : ((s.drop a).take k).length ≤ 4 := by rw [List.length_take];omega
  exact Nat.le_trans (Nat.pow_le_pow_right (by decide) h2) (by decide)
 have hd : (s.drop 4).take (s.length - 4) = s.drop 4 := List.take_of_length_le (by rw [List.length_drop];exact Nat.le_refl _)
 have h56 : (s.drop 56).take (s.length - 56) = cut s 56 64 := by rw [h];rfl
 refine ⟨_,_,_,_,_,_,_,_,hb _ (List.getElem_mem _),hb _ (List.getElem_mem _),hn 6 _ (by decide),hn 8 _ (by decide),hn 12 _ (by decide),hn 0 _ (by decide),?_,rfl,rfl,rfl,rfl,rfl,rfl,rfl,rfl,?_,rfl,?_⟩
 ·exact crcN_lt (isB_sub hb 4 _)
 ·unfold labP;rw [hg 5 (by omega),hg 4 (by omega)];rfl
 ·have e : labP s = (((s[5]'(by omega) : Nat) : Int), ((s[4]'(by omega) : Nat) : Int), ((numN ((s.drop 6).take (8 - 6)) : Nat) : Int)) := by unfold labP; rw [hg 5 (by omega), hg 4 (by omega)]; rfl
  unfold labB
  rw [e,hd,h56,Bool.not_not]
  rfl
attribute [local irreducible] Quiet Eff OpOk AWPG ACont ABlock ACalls AGoto
theorem A_label {s : List Nat} (hb2 : isB s) (hl : s.length ≤ 9223372036854775807) : ACalls Tryz.prog 141 [bS s] [] (.tup [pcA (lblP s),gnA (lblG s),iV (labE s)]) [] := by
 refine acalls_of_body Tryz.func141 rfl (zU rfl) ?_
 by_cases h : s.length = 64
 case neg =>
  have e : labE s = 1 := if_pos h
  unfold lblP lblG
  rw [e,if_neg (by decide),if_neg (by decide)]
  (repeat' (first
   |(apply W.qd;(first
   |(exact zM)|(exact zN)|(exact jAu)|(exact q_len_bs rfl rfl)
   |(exact jAz)))|(apply W.ed;(exact jAo))|(apply W.ln;(exact jAh))|(apply yA)|(apply yB)|(apply (W.regionS 3);exact rfl;kernel_rfl)|(apply yE)|(apply yJ)|(apply yP)
   |(refine W.cond _ rfl (fun hb => ?_) (fun hb => ?_) <;> ((try simp only [hb,zK]) <;> (try simp only [zL,zI] at hb) <;> (try (exfalso;omega))))))
  all_goals first | (exfalso;omega) | exact Ends.cells3 rfl rfl rfl rfl rfl rfl rfl rfl
 obtain ⟨x4,x5,n6,n8,n12,n0,c,t,b4,b5,b6,b8,b12,b0,bc,g4,g5,g6,g8,g12,g0,gc,gt,eP,eG,eB⟩ := lab_parts h hb2
 have e : labE s = if labB s = true then 0 else 7 := if_neg (by omega)
 have q6 := A_get (s := (s.drop 6).take (8 - 6)) (isB_sub hb2 _ _) (by rw [List.length_take];omega)
 have q8 := A_get (s := (s.drop 8).take (12 - 8)) (isB_sub hb2 _ _) (by rw [List.length_take];omega)
 have q12 := A_get (s := (s.drop 12).take (16 - 12)) (isB_sub hb2 _ _) (by rw [List.length_take];omega)
 have q0 := A_get (s := (s.drop 0).take (4 - 0)) (isB_sub hb2 _ _) (by rw [List.length_take];omega)
 have qc := A_crcOf (l := (s.drop 4).take (s.length - 4)) (isB_sub hb2 _ _) (by rw [List.length_take];omega)
 have qP := A_svalid ((x5 : Int),(x4 : Int),(n6 : Int))
 have qG := A_validGen ((n8 : Int),(n12 : Int))
 rw [g6] at q6
 rw [g8] at q8
 rw [g12] at q12
 rw [g0] at q0
 rw [gc] at qc
 have hs1 := isB_sub hb2 8 (16 - 8)
 have hs2 := isB_sub hb2 56 (s.length - 56)
 unfold lblP lblG
 rw [e,eB,eP,eG]
 generalize plB ((x5 : Int),(x4 : Int),(n6 : Int)) = bP at *
 generalize gnB ((n8 : Int),(n12 : Int)) = bG at *
 have hn0 : decide (n0 = c) = true ↔ n0 = c := by rw [decide_eq_true_eq]
 generalize decide (n0 = c) = bc0 at *
 clear eP eG eB e
 subst g4 g5
 cases bc0 <;> cases bP <;> cases bG <;> cases t
 all_goals simp only [Bool.false_eq_true,false_iff,true_iff] at hn0
 all_goals
  (repeat' (first
   |(apply yFb;exact rfl;exact rfl)
   |(apply W.qd;(first
   |(exact zW (q6))|(exact zW (q8))|(exact zW (q12))|(exact zW (q0))|(exact zW (qc))|(exact zW (qP))|(exact zW (qG))
   |((apply q_neqSV;exact rfl;exact rfl;exact hs1;exact hs2;exact gt))|(exact zM)|(exact zN)|(exact jAm)|(exact jAu)|(exact jBh)|(exact q_len_bs rfl rfl)|(exact jAz)|(exact jAp)|(apply (yEb (u := .d _));exact rfl;exact rfl)|(apply (yDb (u := .d _));exact rfl;exact rfl)|(apply q_convI;(iterate 3 exact rfl);omega)|(apply q_bytes;(iterate 3 exact rfl);(first | assumption | exact isB_sub (by assumption) _ _);(first | omega | (focus (simp only [List.length_map];omega)) | (focus (simp;done)) | (focus (simp;omega))))
   |(apply q_slc_bs;exact rfl;exact rfl;(first | exact ⟨_,_,rfl,rfl⟩ | exact ⟨_,_,rfl,natI_spec rfl⟩ | exact ⟨_,_,rfl,(Int.toNat_of_nonneg (by omega)).symm⟩ | exact rfl);(first | exact ⟨_,_,rfl,rfl⟩ | exact ⟨_,_,rfl,natI_spec rfl⟩ | exact ⟨_,_,rfl,(Int.toNat_of_nonneg (by omega)).symm⟩ | exact rfl);(first | omega | (focus (simp only [List.length_map];omega)) | (focus (simp;done)) | (focus (simp;omega)));(first | omega | (focus (simp only [List.length_map];omega)) | (focus (simp;done)) | (focus (simp;omega))))))|(apply W.ed;(exact jAo))|(apply W.ln;(exact jAh))|(refine W.gOff _ _ rfl rfl (by intro h;cases h) ?_)|(apply yA)|(apply yB)|(refine jAd ?_)|(refine jAs ?_)|(apply yE)|(refine jBb ?_)|(apply yH)|(apply yJ)|(apply yP)|(refine jBf ?_)|(refine jAx ?_)|(refine W.gF _ _ rfl rfl (fun hb => ?_) (fun hb => ?_) <;> ((try simp only [hb,zK]) <;> (try simp only [zL,zI] at hb) <;> (try (exfalso;omega))))
   |(refine W.cond _ rfl (fun hb => ?_) (fun hb => ?_) <;> ((try simp only [hb,zK]) <;> (try simp only [zL,zI] at hb) <;> (try (exfalso;omega))))))
  all_goals first | (exfalso;omega) | exact Ends.cells3 rfl rfl rfl rfl rfl rfl rfl rfl
theorem A_rlabel {s : List Nat} (hb2 : isB s) (hl : s.length ≤ 9223372036854775807) : ACalls Tryz.prog 143 [bS s] [] (.tup [pcA (lblP s),gnA (lblG s),iV (labE s)]) [] := by
 refine acalls_of_body Tryz.func143 rfl (zU rfl) ?_
 by_cases h : s.length = 64
 case neg =>
  have e : labE s = 1 := if_pos h
  unfold lblP lblG
  rw [e,if_neg (by decide),if_neg (by decide)]
  (repeat' (first
   |(apply W.qd;(first
   |(exact zM)|(exact zN)|(exact jAu)|(exact q_len_bs rfl rfl)
   |(exact jAz)))|(apply W.ed;(exact jAo))|(apply W.ln;(exact jAh))|(apply yA)|(apply yB)|(apply (W.regionS 3);exact rfl;kernel_rfl)|(apply yE)|(apply yJ)|(apply yP)
   |(refine W.cond _ rfl (fun hb => ?_) (fun hb => ?_) <;> ((try simp only [hb,zK]) <;> (try simp only [zL,zI] at hb) <;> (try (exfalso;omega))))))
  all_goals first | (exfalso;omega) | exact Ends.cells3 rfl rfl rfl rfl rfl rfl rfl rfl
 obtain ⟨x4,x5,n6,n8,n12,n0,c,t,b4,b5,b6,b8,b12,b0,bc,g4,g5,g6,g8,g12,g0,gc,gt,eP,eG,eB⟩ := lab_parts h hb2
 have e : labE s = if labB s = true then 0 else 7 := if_neg (by omega)
 have q6 := A_read15 (s := (s.drop 6).take (8 - 6)) (isB_sub hb2 _ _) (by rw [List.length_take];omega)
 have q8 := A_read15 (s := (s.drop 8).take (12 - 8)) (isB_sub hb2 _ _) (by rw [List.length_take];omega)
 have q12 := A_read15 (s := (s.drop 12).take (16 - 12)) (isB_sub hb2 _ _) (by rw [List.length_take];omega)
 have q0 := A_read15 (s := (s.drop 0).take (4 - 0)) (isB_sub hb2 _ _) (by rw [List.length_take];omega)
 have qc := A_rcrcOf (l := (s.drop 4).take (s.length - 4)) (isB_sub hb2 _ _) (by rw [List.length_take];omega)
 have qP := A_rsvalid ((x5 : Int),(x4 : Int),(n6 : Int))
 have qG := A_right ((n8 : Int),(n12 : Int))
 rw [g6] at q6
 rw [g8] at q8
 rw [g12] at q12
 rw [g0] at q0
 rw [gc] at qc
 have hs1 := isB_sub hb2 8 (16 - 8)
 have hs2 := isB_sub hb2 56 (s.length - 56)
 unfold lblP lblG
 rw [e,eB,eP,eG]
 generalize plB ((x5 : Int),(x4 : Int),(n6 : Int)) = bP at *
 generalize gnB ((n8 : Int),(n12 : Int)) = bG at *
 have hn0 : decide (n0 = c) = true ↔ n0 = c := by rw [decide_eq_true_eq]
 generalize decide (n0 = c) = bc0 at *
 clear eP eG eB e
 subst g4 g5
 cases bc0 <;> cases bP <;> cases bG <;> cases t
 all_goals simp only [Bool.false_eq_true,false_iff,true_iff] at hn0
 all_goals
  (repeat' (first
   |(apply yFb;exact rfl;exact rfl)
   |(apply W.qd;(first
   |(exact zW (q6))|(exact zW (q8))|(exact zW (q12))|(exact zW (q0))|(exact zW (qc))|(exact zW (qP))|(exact zW (qG))
   |((apply q_neqSV;exact rfl;exact rfl;exact hs1;exact hs2;exact gt))|(exact zM)|(exact zN)|(exact jAm)|(exact jAu)|(exact jBh)|(exact q_len_bs rfl rfl)|(exact jAz)|(exact jAp)|(apply (yEb (u := .d _));exact rfl;exact rfl)|(apply (yDb (u := .d _));exact rfl;exact rfl)|(apply q_convI;(iterate 3 exact rfl);omega)|(apply q_bytes;(iterate 3 exact rfl);(first | assumption | exact isB_sub (by assumption) _ _);(first | omega | (focus (simp only [List.length_map];omega)) | (focus (simp;done)) | (focus (simp;omega))))
   |(apply q_slc_bs;exact rfl;exact rfl;(first | exact ⟨_,_,rfl,rfl⟩ | exact ⟨_,_,rfl,natI_spec rfl⟩ | exact ⟨_,_,rfl,(Int.toNat_of_nonneg (by omega)).symm⟩ | exact rfl);(first | exact ⟨_,_,rfl,rfl⟩ | exact ⟨_,_,rfl,natI_spec rfl⟩ | exact ⟨_,_,rfl,(Int.toNat_of_nonneg (by omega)).symm⟩ | exact rfl);(first | omega | (focus (simp only [List.length_map];omega)) | (focus (simp;done)) | (focus (simp;omega)));(first | omega | (focus (simp only [List.length_map];omega)) | (focus (simp;done)) | (focus (simp;omega))))))|(apply W.ed;(exact jAo))|(apply W.ln;(exact jAh))|(refine W.gOff _ _ rfl rfl (by intro h;cases h) ?_)|(apply yA)|(apply yB)|(refine jAd ?_)|(refine jAs ?_)|(apply yE)|(refine jBb ?_)|(apply yH)|(apply yJ)|(apply yP)|(refine jBf ?_)|(refine jAx ?_)|(refine W.gF _ _ rfl rfl (fun hb => ?_) (fun hb => ?_) <;> ((try simp only [hb,zK]) <;> (try simp only [zL,zI] at hb) <;> (try (exfalso;omega))))
   |(refine W.cond _ rfl (fun hb => ?_) (fun hb => ?_) <;> ((try simp only [hb,zK]) <;> (try simp only [zL,zI] at hb) <;> (try (exfalso;omega))))))
  all_goals first | (exfalso;omega) | exact Ends.cells3 rfl rfl rfl rfl rfl rfl rfl rfl
theorem labE_len {s : List Nat} (h : labE s = 0) : s.length = 64 := Classical.byContradiction fun hn => by
 have : labE s = 1 := if_pos hn
 omega
theorem A_open {p : Pl} {s : List Nat} (hb2 : isB s) (hl : s.length ≤ 9223372036854775807) : ACalls Tryz.prog 82 [pcA p,bS s] [] (.tup [gnA (opnG p s),bS (opnU p s),iV (openE p s)]) [] := by
 refine acalls_of_body Tryz.func82 rfl (zU rfl) ?_
 have f1 := A_svalid p
 have fi : fldsInt Tryz.prog 81 = some [0,1,2] := by kernel_rfl
 by_cases hp : plB p = true
 case neg =>
  have e : openE p s = 1 := if_neg hp
  unfold opnG opnU
  rw [e,if_neg (by decide),if_neg (by decide)]
  rw [Bool.eq_false_iff.2 hp] at f1
  (repeat' (first
   |(apply W.qd;(first
   |(exact zW (f1))|(exact zN)|(exact jAm)|(exact jBh)
   |(exact jAz)))
   |(apply W.ed;(first
   |(exact jAc)
   |(exact jAo)))|(apply W.ln;(exact jAh))|(apply yA)|(apply yB)|(refine jAd ?_)|(apply yE)|(apply yJ)|(apply yP)
   |(refine jBf ?_)))
  all_goals first | (exfalso;omega) | exact Ends.cell12 rfl rfl rfl rfl rfl rfl
 rw [hp] at f1
 have f2 := A_label hb2 hl
 have e : openE p s = if labE s ≠ 0 then labE s else if labP s = p then 0 else 8 := if_pos hp
 by_cases he : labE s = 0
 case neg =>
  rw [if_pos he] at e
  unfold opnG opnU
  rw [e,if_neg he,if_neg he]
  generalize labE s = E at *
  generalize lblP s = Q at *
  generalize lblG s = G at *
  (repeat' (first
   |(apply W.qd;(first
   |(exact zW (f1))|(exact zW (f2))|(exact zM)|(exact zN)|(exact jAm)|(exact jAu)|(exact jBh)|(exact jBa)
   |(exact jAz)))
   |(apply W.ed;(first
   |(exact jAc)
   |(exact jAo)))|(apply W.ln;(exact jAh))|(apply yA)|(apply yB)|(refine jAd ?_)|(apply yE)|(apply yG)|(apply yH)|(apply yJ)|(apply yP)|(apply yN)|(refine jAx ?_)
   |(refine W.cond _ rfl (fun hb => ?_) (fun hb => ?_) <;> ((try simp only [hb,zK]) <;> (try simp only [zL,zI] at hb) <;> (try (exfalso;omega))))))
  all_goals first | (exfalso;omega) | exact Ends.cell12 rfl rfl rfl rfl rfl rfl
 have hlen := labE_len he
 rw [if_neg (by omega)] at e
 have hP : lblP s = labP s := if_pos he
 have hG : lblG s = labG s := if_pos he
 rw [he,hP,hG] at f2
 have f3 := A_sclone (l := (s.drop 16).take (56 - 16)) (by rw [List.length_take];omega)
 have f3 : ACalls Tryz.prog 142 [bS ((s.drop 16).take (56 - 16))] [] (bS (cut s 16 56)) [] := f3
 by_cases hq : labP s = p
 ·rw [if_pos hq] at e
  unfold opnG opnU
  rw [e,if_pos rfl,if_pos rfl]
  have hc : decide (labP s = p) = true := decide_eq_true hq
  generalize labP s = Q at *
  generalize labG s = G at *
  generalize cut s 16 56 = U at *
  (repeat' (first
   |(apply W.qd;(first
   |(exact zW (f1))|(exact zW (f2))|(exact zW (f3))
   |((apply (q_nesI (b := true) fi);(iterate 4 exact rfl);exact eq_pl _ _ hc))|(exact zM)|(exact zN)|(exact jAm)|(exact jAu)|(exact jBh)|(exact jBa)
   |(apply q_slc_bs;exact rfl;exact rfl;(first | exact ⟨_,_,rfl,rfl⟩ | exact ⟨_,_,rfl,natI_spec rfl⟩ | exact ⟨_,_,rfl,(Int.toNat_of_nonneg (by omega)).symm⟩ | exact rfl);(first | exact ⟨_,_,rfl,rfl⟩ | exact ⟨_,_,rfl,natI_spec rfl⟩ | exact ⟨_,_,rfl,(Int.toNat_of_nonneg (by omega)).symm⟩ | exact rfl);(first | omega | (focus (simp only [List.length_map];omega)) | (focus (simp;done)) | (focus (simp;omega)));(first | omega | (focus (simp only [List.length_map];omega)) | (focus (simp;done)) | (focus (simp;omega))))))
   |(apply W.ed;(first
   |(exact jAc)
   |(exact jAo)))|(apply W.ln;(exact jAh))|(apply yA)|(apply yB)|(refine jAd ?_)|(refine jAs ?_)|(apply yE)|(refine jBb ?_)|(apply yG)|(apply yH)|(apply yJ)|(apply yL)
   |(refine jAx ?_)))
  all_goals first | (exfalso;omega) | exact Ends.cell12 rfl rfl rfl rfl rfl rfl
 ·rw [if_neg hq] at e
  unfold opnG opnU
  rw [e,if_neg (by decide),if_neg (by decide)]
  have hc : decide (labP s = p) = false := decide_eq_false hq
  generalize labP s = Q at *
  generalize labG s = G at *
  (repeat' (first
   |(apply W.qd;(first
   |(exact zW (f1))|(exact zW (f2))
   |((apply (q_nesI (b := false) fi);(iterate 4 exact rfl);exact eq_pl _ _ hc))|(exact zM)|(exact zN)|(exact jAm)|(exact jAu)|(exact jBh)|(exact jBa)
   |(exact jAz)))
   |(apply W.ed;(first
   |(exact jAc)
   |(exact jAo)))|(apply W.ln;(exact jAh))|(apply yA)|(apply yB)|(refine jAd ?_)|(apply yE)|(apply yG)|(apply yH)|(apply yJ)|(apply yP)|(apply yN)|(refine jBf ?_)
   |(refine jAx ?_)))
  all_goals first | (exfalso;omega) | exact Ends.cell12 rfl rfl rfl rfl rfl rfl
theorem A_ropen {p : Pl} {s : List Nat} (hb2 : isB s) (hl : s.length ≤ 9223372036854775807) : ACalls Tryz.prog 83 [pcA p,bS s] [] (.tup [gnA (opnG p s),bS (opnU p s),iV (openE p s)]) [] := by
 refine acalls_of_body Tryz.func83 rfl (zU rfl) ?_
 have f1 := A_rsvalid p
 have fi : fldsInt Tryz.prog 81 = some [0,1,2] := by kernel_rfl
 by_cases hp : plB p = true
 case neg =>
  have e : openE p s = 1 := if_neg hp
  unfold opnG opnU
  rw [e,if_neg (by decide),if_neg (by decide)]
  rw [Bool.eq_false_iff.2 hp] at f1
  (repeat' (first
   |(apply W.qd;(first
   |(exact zW (f1))|(exact zM)|(exact zN)|(exact jAm)|(exact jBh)
   |(exact jAz)))
   |(apply W.ed;(first
   |(exact jAc)
   |(exact jAo)))|(apply W.ln;(exact jAh))|(apply yA)|(apply yB)|(refine jAd ?_)|(apply yE)|(apply yJ)|(apply yP)
   |(refine jBf ?_)))
  all_goals first | (exfalso;omega) | exact Ends.cell12 rfl rfl rfl rfl rfl rfl
 rw [hp] at f1
 have f2 := A_rlabel hb2 hl
 have e : openE p s = if labE s ≠ 0 then labE s else if labP s = p then 0 else 8 := if_pos hp
 by_cases he : labE s = 0
 case neg =>
  rw [if_pos he] at e
  unfold opnG opnU
  rw [e,if_neg he,if_neg he]
  generalize labE s = E at *
  generalize lblP s = Q at *
  generalize lblG s = G at *
  (repeat' (first
   |(apply W.qd;(first
   |(exact zW (f1))|(exact zW (f2))|(exact zM)|(exact zN)|(exact jAm)|(exact jAu)|(exact jBh)|(exact jBa)
   |(exact jAz)))
   |(apply W.ed;(first
   |(exact jAc)
   |(exact jAo)))|(apply W.ln;(exact jAh))|(apply yA)|(apply yB)|(refine jAd ?_)|(apply yE)|(apply yH)|(apply yJ)|(apply yP)|(refine jAx ?_)
   |(refine W.cond _ rfl (fun hb => ?_) (fun hb => ?_) <;> ((try simp only [hb,zK]) <;> (try simp only [zL,zI] at hb) <;> (try (exfalso;omega))))))
  all_goals first | (exfalso;omega) | exact Ends.cell12 rfl rfl rfl rfl rfl rfl
 have hlen := labE_len he
 rw [if_neg (by omega)] at e
 have hP : lblP s = labP s := if_pos he
 have hG : lblG s = labG s := if_pos he
 rw [he,hP,hG] at f2
 by_cases hq : labP s = p
 ·rw [if_pos hq] at e
  unfold opnG opnU
  rw [e,if_pos rfl,if_pos rfl]
  have hc : decide (labP s = p) = true := decide_eq_true hq
  generalize labP s = Q at *
  generalize labG s = G at *
  (repeat' (first
   |(apply W.qd;(first
   |(exact zW (f1))|(exact zW (f2))
   |((apply (q_nesI (b := true) fi);(iterate 4 exact rfl);exact eq_pl _ _ hc))|(exact zM)|(exact zN)|(exact jAm)|(exact jAu)|(exact jBh)|(exact jBa)
   |(apply q_slc_bs;exact rfl;exact rfl;(first | exact ⟨_,_,rfl,rfl⟩ | exact ⟨_,_,rfl,natI_spec rfl⟩ | exact ⟨_,_,rfl,(Int.toNat_of_nonneg (by omega)).symm⟩ | exact rfl);(first | exact ⟨_,_,rfl,rfl⟩ | exact ⟨_,_,rfl,natI_spec rfl⟩ | exact ⟨_,_,rfl,(Int.toNat_of_nonneg (by omega)).symm⟩ | exact rfl);(first | omega | (focus (simp only [List.length_map];omega)) | (focus (simp;done)) | (focus (simp;omega)));(first | omega | (focus (simp only [List.length_map];omega)) | (focus (simp;done)) | (focus (simp;omega))))))
   |(apply W.ed;(first
   |(exact jAc)
   |(exact jAo)))|(apply W.ln;(exact jAh))|(apply yA)|(apply yB)|(refine jAd ?_)|(refine jAs ?_)|(apply yE)|(refine jBb ?_)|(apply yH)|(apply yJ)
   |(refine jAx ?_)))
  all_goals first | (exfalso;omega) | exact Ends.cell12 rfl rfl rfl rfl rfl rfl
 ·rw [if_neg hq] at e
  unfold opnG opnU
  rw [e,if_neg (by decide),if_neg (by decide)]
  have hc : decide (labP s = p) = false := decide_eq_false hq
  generalize labP s = Q at *
  generalize labG s = G at *
  (repeat' (first
   |(apply W.qd;(first
   |(exact zW (f1))|(exact zW (f2))
   |((apply (q_nesI (b := false) fi);(iterate 4 exact rfl);exact eq_pl _ _ hc))|(exact zM)|(exact zN)|(exact jAm)|(exact jAu)|(exact jBh)|(exact jBa)
   |(exact jAz)))
   |(apply W.ed;(first
   |(exact jAc)
   |(exact jAo)))|(apply W.ln;(exact jAh))|(apply yA)|(apply yB)|(refine jAd ?_)|(apply yE)|(apply yH)|(apply yJ)|(apply yP)|(refine jBf ?_)
   |(refine jAx ?_)))
  all_goals first | (exfalso;omega) | exact Ends.cell12 rfl rfl rfl rfl rfl rfl
theorem opn_len {p : Pl} {s : List Nat} (h : openE p s = 0) : (cut s 16 56).length = 40 := by
 refine cut_length ?_ (by decide)
 unfold openE at h
 split at h
 ·split at h
  ·rename_i h1 h2;exact absurd h h2
  ·rename_i h1 h2
   have := labE_len (Classical.byContradiction fun hn => h2 hn)
   omega
 ·exact absurd h (by decide)
theorem cut_cut (s : List Nat) : ((cut s 16 56).drop 0).take (32 - 0) = cut s 16 48 := by
 unfold cut
 rw [List.drop_zero,List.take_take]
 rfl
theorem A_state {p : Pl} {g : Gn} {s : List Nat} {r : Bool} (hb2 : isB s) (hl : s.length ≤ 9223372036854775807) : ACalls Tryz.prog 35 [pcA p,gnA g,bS s,bV r] [] (.tup [iV (staN p g s r).1,bS (staN p g s r).2]) [] := by
 refine acalls_of_body Tryz.func35 rfl (zU rfl) ?_
 have f1 := A_open (p := p) hb2 hl
 have fi : fldsInt Tryz.prog 83 = some [0,1] := by kernel_rfl
 cases r with
 | false =>
   have e : staN p g s false = (2,[]) := rfl
   rw [e]
   (repeat' (first
    |(apply W.qd;(first
    |(exact zM)|(exact zN)
    |(exact jBh)))|(apply W.ed;(exact jAc))|(apply yA)|(apply yB)|(refine jAd ?_)|(apply yE)|(apply yJ)|(apply yP)
    |(refine jBf ?_)))
   all_goals first | (exfalso;omega) | exact Ends.two rfl rfl rfl
 | true =>
 have e : staN p g s true = if openE p s = 0 ∧ labG s = g then (1,cut s 16 48) else (3,[]) := rfl
 unfold opnG opnU at f1
 by_cases he : openE p s = 0
 case neg =>
  rw [if_neg fun h => he h.1] at e
  rw [e]
  rw [if_neg he,if_neg he] at f1
  generalize openE p s = E at *
  (repeat' (first
   |(apply W.qd;(first
   |(exact zW (f1))|(exact zM)|(exact zN)|(exact jAm)|(exact jAu)|(exact jBh)|(exact jBa)
   |(apply (yEb (u := .d _));exact rfl;exact rfl)))
   |(apply W.ed;(first
   |(exact jAc)
   |(exact jAo)))|(apply W.ln;(exact jAh))|(refine W.gOff _ _ rfl rfl (by intro h;cases h) ?_)|(apply yA)|(apply yB)|(refine jAd ?_)|(apply yE)|(apply yH)|(apply yJ)|(apply yP)|(refine jBf ?_)|(refine jAx ?_)
   |(refine W.gF _ _ rfl rfl (fun hb => ?_) (fun hb => ?_) <;> ((try simp only [hb,zK]) <;> (try simp only [zL,zI] at hb) <;> (try (exfalso;omega))))))
  all_goals first | (exfalso;omega) | exact Ends.two rfl rfl rfl
 have hu := opn_len he
 have hcc := cut_cut s
 rw [he,if_pos rfl,if_pos rfl] at f1
 by_cases hq : labG s = g
 ·rw [if_pos ⟨he, hq⟩, ← hcc] at e
  rw [e]
  have hc : decide (labG s = g) = true := decide_eq_true hq
  generalize labG s = G at *
  generalize cut s 16 56 = U at *
  (repeat' (first
   |(apply yFb;exact rfl;exact rfl)
   |(apply W.qd;(first
   |(exact zW (f1))
   |((apply (q_nesI (b := true) fi);(iterate 4 exact rfl);exact eq_gn _ _ hc))|(exact zM)|(exact zN)|(exact jAm)|(exact jAu)|(exact jBh)|(exact jBa)|(apply (yDb (u := .d _));exact rfl;exact rfl)
   |(apply q_slc_bs;exact rfl;exact rfl;(first | exact ⟨_,_,rfl,rfl⟩ | exact ⟨_,_,rfl,natI_spec rfl⟩ | exact ⟨_,_,rfl,(Int.toNat_of_nonneg (by omega)).symm⟩ | exact rfl);(first | exact ⟨_,_,rfl,rfl⟩ | exact ⟨_,_,rfl,natI_spec rfl⟩ | exact ⟨_,_,rfl,(Int.toNat_of_nonneg (by omega)).symm⟩ | exact rfl);(first | omega | (focus (simp only [List.length_map];omega)) | (focus (simp;done)) | (focus (simp;omega)));(first | omega | (focus (simp only [List.length_map];omega)) | (focus (simp;done)) | (focus (simp;omega))))))
   |(apply W.ed;(first
   |(exact jAc)
   |(exact jAo)))|(apply W.ln;(exact jAh))|(apply yA)|(apply yB)|(refine jAd ?_)|(refine jAs ?_)|(apply yE)|(refine jBb ?_)|(apply yH)|(apply yJ)
   |(refine jAx ?_)))
  all_goals first | (exfalso;omega) | exact Ends.two rfl rfl rfl
 ·rw [if_neg fun h => hq h.2] at e
  rw [e]
  have hc : decide (labG s = g) = false := decide_eq_false hq
  generalize labG s = G at *
  generalize cut s 16 56 = U at *
  (repeat' (first
   |(apply yFb;exact rfl;exact rfl)
   |(apply W.qd;(first
   |(exact zW (f1))
   |((apply (q_nesI (b := false) fi);(iterate 4 exact rfl);exact eq_gn _ _ hc))|(exact zM)|(exact zN)|(exact jAm)|(exact jAu)|(exact jBh)|(exact jBa)
   |(apply (yDb (u := .d _));exact rfl;exact rfl)))
   |(apply W.ed;(first
   |(exact jAc)
   |(exact jAo)))|(apply W.ln;(exact jAh))|(apply yA)|(apply yB)|(refine jAd ?_)|(apply yE)|(apply yH)|(apply yJ)|(apply yP)|(refine jBf ?_)
   |(refine jAx ?_)))
  all_goals first | (exfalso;omega) | exact Ends.two rfl rfl rfl
theorem A_rstate {p : Pl} {g : Gn} {s : List Nat} {r : Bool} (hb2 : isB s) (hl : s.length ≤ 9223372036854775807) : ACalls Tryz.prog 36 [pcA p,gnA g,bS s,bV r] [] (.tup [iV (staN p g s r).1,bS (staN p g s r).2]) [] := by
 refine acalls_of_body Tryz.func36 rfl (zU rfl) ?_
 have f1 := A_ropen (p := p) hb2 hl
 have fi : fldsInt Tryz.prog 83 = some [0,1] := by kernel_rfl
 cases r with
 | false =>
   have e : staN p g s false = (2,[]) := rfl
   rw [e]
   (repeat' (first
    |(apply W.qd;(first
    |(exact zM)|(exact zN)
    |(exact jBh)))|(apply W.ed;(exact jAc))|(apply yA)|(apply yB)|(refine jAd ?_)|(apply yE)|(apply yJ)|(apply yP)
    |(refine jBf ?_)))
   all_goals first | (exfalso;omega) | exact Ends.two rfl rfl rfl
 | true =>
 have e : staN p g s true = if openE p s = 0 ∧ labG s = g then (1,cut s 16 48) else (3,[]) := rfl
 unfold opnG opnU at f1
 by_cases he : openE p s = 0
 case neg =>
  rw [if_neg fun h => he h.1] at e
  rw [e]
  rw [if_neg he,if_neg he] at f1
  generalize openE p s = E at *
  (repeat' (first
   |(apply W.qd;(first
   |(exact zW (f1))|(exact zM)|(exact zN)|(exact jAm)|(exact jAu)|(exact jBh)|(exact jBa)
   |(apply (yEb (u := .d _));exact rfl;exact rfl)))
   |(apply W.ed;(first
   |(exact jAc)
   |(exact jAo)))|(apply W.ln;(exact jAh))|(refine W.gOff _ _ rfl rfl (by intro h;cases h) ?_)|(apply yA)|(apply yB)|(refine jAd ?_)|(apply yE)|(apply yH)|(apply yJ)|(apply yP)|(refine jBf ?_)|(refine jAx ?_)
   |(refine W.gF _ _ rfl rfl (fun hb => ?_) (fun hb => ?_) <;> ((try simp only [hb,zK]) <;> (try simp only [zL,zI] at hb) <;> (try (exfalso;omega))))))
  all_goals first | (exfalso;omega) | exact Ends.two rfl rfl rfl
 have hu := opn_len he
 have hcc := cut_cut s
 rw [he,if_pos rfl,if_pos rfl] at f1
 by_cases hq : labG s = g
 ·rw [if_pos ⟨he, hq⟩, ← hcc] at e
  rw [e]
  have hc : decide (labG s = g) = true := decide_eq_true hq
  generalize labG s = G at *
  generalize cut s 16 56 = U at *
  (repeat' (first
   |(apply yFb;exact rfl;exact rfl)
   |(apply W.qd;(first
   |(exact zW (f1))
   |((apply (q_nesI (b := true) fi);(iterate 4 exact rfl);exact eq_gn _ _ hc))|(exact zM)|(exact zN)|(exact jAm)|(exact jAu)|(exact jBh)|(exact jBa)|(apply (yDb (u := .d _));exact rfl;exact rfl)
   |(apply q_slc_bs;exact rfl;exact rfl;(first | exact ⟨_,_,rfl,rfl⟩ | exact ⟨_,_,rfl,natI_spec rfl⟩ | exact ⟨_,_,rfl,(Int.toNat_of_nonneg (by omega)).symm⟩ | exact rfl);(first | exact ⟨_,_,rfl,rfl⟩ | exact ⟨_,_,rfl,natI_spec rfl⟩ | exact ⟨_,_,rfl,(Int.toNat_of_nonneg (by omega)).symm⟩ | exact rfl);(first | omega | (focus (simp only [List.length_map];omega)) | (focus (simp;done)) | (focus (simp;omega)));(first | omega | (focus (simp only [List.length_map];omega)) | (focus (simp;done)) | (focus (simp;omega))))))
   |(apply W.ed;(first
   |(exact jAc)
   |(exact jAo)))|(apply W.ln;(exact jAh))|(apply yA)|(apply yB)|(refine jAd ?_)|(refine jAs ?_)|(apply yE)|(refine jBb ?_)|(apply yH)|(apply yJ)
   |(refine jAx ?_)))
  all_goals first | (exfalso;omega) | exact Ends.two rfl rfl rfl
 ·rw [if_neg fun h => hq h.2] at e
  rw [e]
  have hc : decide (labG s = g) = false := decide_eq_false hq
  generalize labG s = G at *
  generalize cut s 16 56 = U at *
  (repeat' (first
   |(apply yFb;exact rfl;exact rfl)
   |(apply W.qd;(first
   |(exact zW (f1))
   |((apply (q_nesI (b := false) fi);(iterate 4 exact rfl);exact eq_gn _ _ hc))|(exact zM)|(exact zN)|(exact jAm)|(exact jAu)|(exact jBh)|(exact jBa)
   |(apply (yDb (u := .d _));exact rfl;exact rfl)))
   |(apply W.ed;(first
   |(exact jAc)
   |(exact jAo)))|(apply W.ln;(exact jAh))|(apply yA)|(apply yB)|(refine jAd ?_)|(apply yE)|(apply yH)|(apply yJ)|(apply yP)|(refine jBf ?_)
   |(refine jAx ?_)))
  all_goals first | (exfalso;omega) | exact Ends.two rfl rfl rfl
end
section
def decL (M D : Nat) (ps us : List (List Nat)) (hv : List Bool) (W : Nat) : List (List Nat) := (List.range W).map fun i => (recN M D ps us hv i).getD []
def decS (M D : Nat) (ps us : List (List Nat)) (hv : List Bool) : AV := if allN M D ps us hv = true then .tup [strs (decL M D ps us hv (D + ps.length)),iV 0] else .tup [strs [],iV 11]
theorem allS_map {α β : Type} {C : Nat → Option α} {f : α → β} (k : Nat) : allS (fun i => (C i).map f) k = allS C k := by
 unfold allS
 congr 1
 funext i
 show ((C i).map f).isSome = (C i).isSome
 cases C i <;> rfl
theorem dec_parts {M D : Nat} {ps us : List (List Nat)} {hv : List Bool} (h : SrcOk M D ps us hv) : ∃ (q : Nat) (ls : Nat → List (Nat × Nat)),q ≤ D + ps.length ∧ (∀ i,i < q → combN M D ps hv i = some (ls i) ∧ TermsIn M 32 us (ls i)) ∧ (q < D + ps.length → combN M D ps hv q = none) ∧ decR M 32 us ls (D + ps.length) q = decS M D ps us hv := by
 obtain ⟨q,q1,q2,q3,q4⟩ := first_none (combN M D ps hv) (D + ps.length)
 refine ⟨q,fun i => (combN M D ps hv i).getD [],q1,fun i hi => ?_,q3,?_⟩
 ·obtain ⟨l, hl⟩ := Option.isSome_iff_exists.1 (q2 i hi)
  refine ⟨?_,?_⟩
  ·show combN M D ps hv i = some ((combN M D ps hv i).getD [])
   rw [hl];rfl
  ·show TermsIn M 32 us ((combN M D ps hv i).getD [])
   rw [hl];exact h.terms (u := i) (by omega) hl
 ·have e : allN M D ps us hv = decide (q = D + ps.length) := by
   rw [← q4]
   unfold allN recN
   exact allS_map _
  unfold decR decS
  rw [e]
  by_cases hq : q < D + ps.length
  ·rw [if_pos hq,decide_eq_false (by omega),if_neg (by decide)]
  ·rw [if_neg hq, decide_eq_true (by omega), if_pos rfl]
   have e2 : (List.range (D + ps.length)).map (fun i => sumN M 32 us ((combN M D ps hv i).getD [])) = decL M D ps us hv (D + ps.length) := by
    unfold decL
    apply List.map_congr_left
    intro i hi
    have hi := List.mem_range.1 hi
    obtain ⟨l,hl⟩ := Option.isSome_iff_exists.1 (q2 i (by omega))
    unfold recN
    rw [hl];rfl
   rw [← e2]
theorem A_edecS {M D : Nat} {ps us : List (List Nat)} {hv : List Bool} (h : SrcOk M D ps us hv) : ACalls Tryz.prog 206 [cdN M D ps,strs us,bools hv] [] (decS M D ps us hv) [] := by
 obtain ⟨q,ls,q1,q2,q3,e⟩ := dec_parts h
 rw [← e]
 exact A_decode h.c h.ul h.hl (fun x hx => (h.b x hx).2) h.fit (fit32 h.c.f) (by omega) q1 q2 q3
theorem decL_take {M D : Nat} {ps us : List (List Nat)} {hv : List Bool} {W : Nat} (hW : D ≤ W) : ((decL M D ps us hv W).drop 0).take (D - 0) = (List.range D).map fun i => (recN M D ps us hv i).getD [] := by
 unfold decL
 rw [List.drop_zero,Nat.sub_zero,← List.map_take,List.take_range,Nat.min_eq_left hW]
theorem wrd_props {M D : Nat} {ps us : List (List Nat)} {hv : List Bool} (h : SrcOk M D ps us hv) (ha : allN M D ps us hv = true) : (wrdN M D ps us hv).length = D + ps.length ∧ ∀ u ∈ wrdN M D ps us hv,isB u ∧ u.length = 32 := by
 obtain ⟨w1,w2⟩ := wrd_data h.c h ha
 unfold wrdN
 exact ⟨by rw [encN_length,w1],encN_ok h.c w1 w2 (fit32 h.c.f)⟩
theorem agrT_mono {w us : List (List Nat)} {hv : List Bool} {i k : Nat} (hik : i ≤ k) (h : agrT w us hv i = false) : agrT w us hv k = false := by
 rw [Bool.eq_false_iff] at h ⊢
 intro hk
 exact h (agrT_iff.2 fun j hj => (agrT_iff.1 hk) j (by omega))
def canR (M D : Nat) (ps us : List (List Nat)) (hv : List Bool) : AV := .tup [strs (if allN M D ps us hv = true then wrdN M D ps us hv else []),bV (conN M D ps us hv),iV (if allN M D ps us hv = true then 0 else 11)]
attribute [local irreducible] Quiet Eff OpOk AWPG ACont ABlock ACalls AGoto
theorem A_cand {M D : Nat} {ps us : List (List Nat)} {hv : List Bool} (h : SrcOk M D ps us hv) : ACalls Tryz.prog 144 [cdN M D ps,strs us,bools hv] [] (canR M D ps us hv) [] := by
 refine acalls_of_body Tryz.func144 rfl (zU rfl) ?_
 have h1 := h.c.d
 have h2 := h.c.w
 have hul := h.ul
 have hhl := h.hl
 have hub := h.b
 have fd := A_edecS h
 have hmh : (hv.map tD).length = hv.length := List.length_map _
 have hmu : (us.map sD).length = us.length := List.length_map _
 unfold decS at fd
 unfold canR conN
 cases ha : allN M D ps us hv with
 | false =>
   rw [ha,if_neg (by decide)] at fd
   rw [if_neg (by decide),if_neg (by decide),Bool.false_and]
   (repeat' (first
    |(apply W.qd;(first
    |(exact zW (fd))|(exact zM)|(exact zN)|(exact jAm)|(exact jAu)
    |(exact jBa)))|(apply W.ed;(exact jAc))|(apply yA)|(apply yB)|(refine jAd ?_)|(apply yE)|(apply yJ)|(apply yP)
    |(refine jBf ?_)))
   all_goals first
    |(exfalso;omega)
    |exact ⟨.inl rfl,[],[.d (.v (.slice none 0 0)),bV false,iV 11],rfl,⟨rfl,rfl,rfl,trivial⟩,AVle.tup ⟨AVle.nil 1,AVle.of_eq rfl,AVle.of_eq rfl,trivial⟩,rfl⟩
 | true =>
 rw [ha,if_pos rfl] at fd
 rw [if_pos rfl,if_pos rfl,Bool.true_and]
 obtain ⟨d1,d2⟩ := wrd_data h.c h ha
 have fe := A_encode h.c d1 d2 (by omega) (fit32 h.c.f)
 have hdt := decL_take (M := M) (D := D) (ps := ps) (us := us) (hv := hv) (W := D + ps.length) (by omega)
 obtain ⟨w1,w2⟩ := wrd_props h ha
 have hw : encN M ps ((List.range D).map fun i => (recN M D ps us hv i).getD []) = wrdN M D ps us hv := rfl
 rw [hw,← hdt] at fe
 have hdl : (decL M D ps us hv (D + ps.length)).length = D + ps.length := by simp [decL]
 generalize (decL M D ps us hv (D + ps.length)) = X at *
 unfold agrN
 have hst := agrT_succ (wrdN M D ps us hv) us hv
 have hmo := fun i k => agrT_mono (w := wrdN M D ps us hv) (us := us) (hv := hv) (i := i) (k := k)
 have h0 : agrT (wrdN M D ps us hv) us hv 0 = true := rfl
 generalize agrT (wrdN M D ps us hv) us hv = G at *
 generalize wrdN M D ps us hv = w at *
 have hmw : (w.map sD).length = w.length := List.length_map _
 clear hw hdt d1 d2 ha h
 (repeat' (first
  |(apply W.qd;(first
  |(exact zW (fd))|(exact zW (fe))|(exact zM)|(exact zN)|(exact jAr)|(exact jAk)|(exact jAm)|(exact jAu)|(exact jBa)|(exact jBc)
  |(apply q_slc_map;exact rfl;exact rfl;(first | exact ⟨_,_,rfl,rfl⟩ | exact ⟨_,_,rfl,natI_spec rfl⟩ | exact ⟨_,_,rfl,(Int.toNat_of_nonneg (by omega)).symm⟩ | exact rfl);(first | exact ⟨_,_,rfl,rfl⟩ | exact ⟨_,_,rfl,natI_spec rfl⟩ | exact ⟨_,_,rfl,(Int.toNat_of_nonneg (by omega)).symm⟩ | exact rfl);(first | omega | (focus (simp only [List.length_map];omega)) | (focus (simp;done)) | (focus (simp;omega)));(first | omega | (focus (simp only [List.length_map];omega)) | (focus (simp;done)) | (focus (simp;omega)));exact Or.inl rfl)))|(apply W.ed;(exact jAc))|(apply yA)|(apply yB)|(apply (W.regionS 8);exact rfl;kernel_rfl)|(apply (W.regionDS 8);exact rfl;exact rfl;kernel_rfl)|(apply yE)|(refine jBb ?_)|(apply yG)|(apply yH)
  |(refine jAx ?_)))
 all_goals try (exfalso;omega)
 refine AWP.loopW (α := Nat) (fun i => i ≤ hv.length ∧ G i = true) (fun i => ⟨[(38,iV i),(37,iV hv.length),(36,bools hv),(11,strs w),(1,strs us)],[]⟩) (fun i => hv.length - i) 0 ⟨Nat.zero_le _,h0⟩ ?wkA fun i hi => ?_
 case wkA => exact ⟨[],rfl,rfl,rfl,rfl,iV_eq (by rw [hmh]),rfl,rfl,rfl,trivial⟩
 by_cases hil : i < hv.length
 ·have hiw : i < w.length := by omega
  have hiu : i < us.length := by omega
  have hs := hst i
  have eg : hv.getD i false = hv[i] := by rw [List.getD_eq_getElem?_getD,List.getElem?_eq_getElem hil];rfl
  have ew : w.getD i [] = w[i] := by rw [List.getD_eq_getElem?_getD,List.getElem?_eq_getElem hiw];rfl
  have eu : us.getD i [] = us[i] := by rw [List.getD_eq_getElem?_getD,List.getElem?_eq_getElem hiu];rfl
  rw [eg,ew,eu,hi.2,Bool.true_and] at hs
  have b1 := (w2 _ (List.getElem_mem hiw)).1
  have b2 := (hub _ (List.getElem_mem hiu)).1
  have hbad : G (i + 1) = false → G hv.length = false := hmo (i + 1) hv.length (by omega)
  cases hvi : hv[i] with
  | false =>
    rw [hvi] at hs
    have hs : G (i + 1) = true := hs
    clear hbad hmo hst
    (repeat' (first
     |(apply yFb;exact rfl;exact rfl)
     |(apply W.qd;(first
     |(exact zM)|(exact zN)|(exact jAj)|(exact jAi)|(exact jAe)|(exact jA)|(apply (yEb (u := .d _));exact rfl;exact rfl)|(apply (yDb (u := .d _));exact rfl;exact rfl)
     |(exact jAv)))|(refine W.gOff _ _ rfl rfl (by intro h;cases h) ?_)|(apply yA)|(apply yB)|(refine jAd ?_)|(refine jAs ?_)|(apply yE)|(refine jBb ?_)|(apply yG)|(apply yH)|(apply yJ)|(apply yP)|(apply yL)|(apply yN)|(refine jAx ?_)|(refine W.gT _ _ rfl rfl (fun hb => ?_) (fun hb => ?_) <;> ((try simp only [hb,zK]) <;> (try simp only [zL,zI] at hb) <;> (try (exfalso;omega))))
     |(refine W.cond _ rfl (fun hb => ?_) (fun hb => ?_) <;> ((try simp only [hb,zK]) <;> (try simp only [zL,zI] at hb) <;> (try (exfalso;omega))))))
    (all_goals (try (exfalso;exact absurd ((‹hv[i] = true› : hv[i] = true).symm.trans (‹hv[i] = false› : hv[i] = false)) (by decide))))
    all_goals first
     |(exfalso;omega)
     |exact ⟨i + 1,⟨by omega,hs⟩,by omega,[],rfl,rfl,rfl,iV_eq (by omega),rfl,rfl,rfl,rfl,trivial⟩
  | true =>
    rw [hvi] at hs
    by_cases hq : w[i] = us[i]
    ·have hs : G (i + 1) = true := by rw [hs, decide_eq_true hq]; rfl
     have hne : (!decide (w[i] = us[i])) = false := by rw [decide_eq_true hq];rfl
     clear hbad hmo hst
     (repeat' (first
      |(apply yFb;exact rfl;exact rfl)
      |(apply W.qd;(first
      |((apply q_neqSV;exact rfl;exact rfl;exact b1;exact b2;exact hne))|(exact zM)|(exact zN)|(exact jAj)|(exact jAi)|(exact jAe)|(exact jA)|(apply (yEb (u := .d _));exact rfl;exact rfl)
      |(apply (yDb (u := .d _));exact rfl;exact rfl)))|(refine W.gOff _ _ rfl rfl (by intro h;cases h) ?_)|(apply yA)|(apply yB)|(refine jAd ?_)|(refine jAs ?_)|(apply yE)|(refine jBb ?_)|(apply yG)|(apply yH)|(apply yL)|(refine jAx ?_)|(refine W.gT _ _ rfl rfl (fun hb => ?_) (fun hb => ?_) <;> ((try simp only [hb,zK]) <;> (try simp only [zL,zI] at hb) <;> (try (exfalso;omega))))
      |(refine W.cond _ rfl (fun hb => ?_) (fun hb => ?_) <;> ((try simp only [hb,zK]) <;> (try simp only [zL,zI] at hb) <;> (try (exfalso;omega))))))
     (all_goals (try (exfalso;exact absurd ((‹hv[i] = true› : hv[i] = true).symm.trans (‹hv[i] = false› : hv[i] = false)) (by decide))))
     all_goals first
      |(exfalso;omega)
      |exact ⟨i + 1,⟨by omega,hs⟩,by omega,[],rfl,rfl,rfl,iV_eq (by omega),rfl,rfl,rfl,rfl,trivial⟩
    ·have hs : G (i + 1) = false := by rw [hs, decide_eq_false hq]; rfl
     have hne : (!decide (w[i] = us[i])) = true := by rw [decide_eq_false hq];rfl
     rw [hbad hs]
     clear hbad hmo hst
     (repeat' (first
      |(apply yFb;exact rfl;exact rfl)
      |(apply W.qd;(first
      |((apply q_neqSV;exact rfl;exact rfl;exact b1;exact b2;exact hne))|(exact zM)|(exact zN)|(exact jAj)|(exact jAi)|(exact jAe)|(exact jA)|(apply (yEb (u := .d _));exact rfl;exact rfl)
      |(apply (yDb (u := .d _));exact rfl;exact rfl)))|(refine W.gOff _ _ rfl rfl (by intro h;cases h) ?_)|(apply yA)|(apply yB)|(refine jAd ?_)|(refine jAs ?_)|(apply yE)|(refine jBb ?_)|(apply yG)|(apply yH)|(apply yJ)|(apply yP)|(apply yL)|(apply yN)|(refine jBf ?_)|(refine jAx ?_)|(refine W.gT _ _ rfl rfl (fun hb => ?_) (fun hb => ?_) <;> ((try simp only [hb,zK]) <;> (try simp only [zL,zI] at hb) <;> (try (exfalso;omega))))
      |(refine W.cond _ rfl (fun hb => ?_) (fun hb => ?_) <;> ((try simp only [hb,zK]) <;> (try simp only [zL,zI] at hb) <;> (try (exfalso;omega))))))
     (all_goals (try (exfalso;exact absurd ((‹hv[i] = true› : hv[i] = true).symm.trans (‹hv[i] = false› : hv[i] = false)) (by decide))))
     all_goals first
      |(exfalso;omega)
      |exact Ends.three rfl rfl rfl rfl
 ·obtain rfl : i = hv.length := by omega
  rw [hi.2]
  clear hmo hst
  (repeat' (first
   |(apply W.qd;(first
   |(exact zM)|(exact zN)
   |(exact jAj)))|(apply yA)|(apply yB)|(refine jAd ?_)|(apply yE)|(apply yI)|(apply yJ)|(apply yK)|(apply yM)
   |(refine W.cond _ rfl (fun hb => ?_) (fun hb => ?_) <;> ((try simp only [hb,zK]) <;> (try simp only [zL,zI] at hb) <;> (try (exfalso;omega))))))
  all_goals first | (exfalso;omega) | exact Ends.three rfl rfl rfl rfl
end
section
section
variable (M D : Nat) (ps us : List (List Nat)) (hv : List Bool)
def wrdT : Nat → List (List Nat)
 | 0 => []
 | k + 1 => if hv.getD k false = true then (if conN M D ps us (hv.set k false) = true then wrdN M D ps us (hv.set k false) else wrdT k) else wrdT k
end
theorem con_all {M D : Nat} {ps us : List (List Nat)} {hv : List Bool} (h : conN M D ps us hv = true) : allN M D ps us hv = true := by
 unfold conN at h
 rw [Bool.and_eq_true] at h
 exact h.1
theorem wrdT_last {M D : Nat} {ps us : List (List Nat)} {hv : List Bool} {l : List Nat} {u : Nat} : ∀ {k : Nat}, fndT M D ps us hv k = l ++ [u] → wrdT M D ps us hv k = wrdN M D ps us (hv.set u false)
 | 0,h => by
   have := congrArg List.length h
   simp [fndT] at this
 | k + 1,h => by
   rw [fndT_succ] at h
   rw [wrdT]
   by_cases h1 : hv.getD k false = true
   ·rw [if_pos h1] at h ⊢
    by_cases h2 : conN M D ps us (hv.set k false) = true
    ·rw [if_pos h2] at h ⊢
     obtain ⟨_,h3⟩ := List.append_inj' h rfl
     have : k = u := by simpa using h3
     rw [this]
    ·rw [if_neg h2] at h ⊢
     rw [List.append_nil] at h
     exact wrdT_last h
   ·rw [if_neg h1] at h ⊢
    rw [List.append_nil] at h
    exact wrdT_last h
abbrev trO (M D : Nat) (ps us : List (List Nat)) (hv : List Bool) (F : List Nat) (Wd : List (List Nat)) (v : Nat) : List Ent := [.box [.d .any,iV M,iV D,rowsN ps,.d .any],.box [strs us],.box [bools hv],.box [.osl 5 v 0 F.length],.box [strs Wd],.row v 1 3 (F.map kD)]
def srcA2 (M D : Nat) (ps us : List (List Nat)) (hv : List Bool) : AV := match oneN (fndN M D ps us hv) with | some u => .tup [iV u,strs (wrdN M D ps us (hv.set u false)),iV 0] | none => .tup [iV 0,strs [],iV 13]
attribute [local irreducible] Quiet Eff OpOk AWPG ACont ABlock ACalls AGoto
theorem A_try {M D u v : Nat} {ps us : List (List Nat)} {hv : List Bool} {F : List Nat} {Wd : List (List Nat)} (h : SrcOk M D ps us hv) (hu : u < hv.length) (hF : F.length ≤ 1000) : ACalls Tryz.prog 207 [iV u,.opt 2 0,.opt 0 0,.opt 1 0,.opt 3 0,.opt 4 0] (trO M D ps us hv F Wd v) (.tup []) (if conN M D ps us (hv.set u false) = true then trO M D ps us hv (F ++ [u]) (wrdN M D ps us (hv.set u false)) (v + 1) else trO M D ps us hv F Wd v) := by
 have hw := h.c.w
 have hhl := h.hl
 have hcl := A_cloneB (l := hv) (by omega) (by omega)
 have hmh : (hv.map tD).length = hv.length := List.length_map _
 have hsl : hv.length = ((hv.set u false).map tD).length := by rw [List.length_map,List.length_set]
 have hca := A_cand (src_set h.c h u)
 unfold canR at hca
 have hcn := con_all (M := M) (D := D) (ps := ps) (us := us) (hv := hv.set u false)
 generalize conN M D ps us (hv.set u false) = C at *
 generalize wrdN M D ps us (hv.set u false) = X at *
 generalize allN M D ps us (hv.set u false) = E at *
 clear h
 cases C with
 | true =>
   obtain rfl := hcn rfl
   rw [if_pos rfl,if_pos rfl] at hca
   rw [if_pos rfl]
   refine acalls_of_bodyO Tryz.func207 rfl (zU rfl) ?_
   (repeat' (first
    |(apply W.qd;(first
    |(exact zM)|(exact zN)|(exact jAk)
    |(exact jAb)))|(apply W.ed;(apply (e_callJ (js := []) (hcl));(iterate 5 exact rfl);kernel_rfl;kernel_rfl))|(apply W.ln;(exact jAg))|(apply yA)|(apply yB)|(apply (W.regionS 2);exact rfl;kernel_rfl)
    |(apply yE)))
   all_goals try (exfalso;omega)
   refine AWP.wk ⟨[(0,iV u),(1,.opt 2 0),(2,.opt 0 0),(3,.opt 1 0),(4,.opt 3 0),(5,.opt 4 0),(7,bools (hv.set u false))],trO M D ps us hv F Wd v⟩ ⟨[0,1,2,3,4,5],rfl,rfl,rfl,rfl,rfl,rfl,rfl,rfl,rfl,(frz_rowJ rfl rfl hsl).symm,trivial⟩ ?_
   (repeat' (first
    |(apply yFb;exact rfl;exact rfl)
    |(apply W.qd;(first
    |(exact zW (hca))|(exact zM)|(exact zN)|(exact jAk)|(exact jAm)|(exact jB)|(exact jBa)|(exact jAl)
    |(apply (yEb (u := .d _));exact rfl;exact rfl)))|(apply W.ld;(exact jAw))|(apply W.ln;(exact jAh))|(apply yA)|(apply yB)|(refine jAd ?_)|(apply yE)
    |(refine jBf ?_)))
   all_goals first
    |(exfalso;omega)
    |exact ⟨.inr rfl,[0,1,2,3,4,5],[],rfl,rfl,trivial,AVle.of_eq rfl,rfl⟩
 | false =>
   rw [if_neg (by decide)]
   generalize (if E = true then X else []) = X2 at *
   generalize (if E = true then (0 : Int) else 11) = e2 at *
   refine acalls_of_bodyO Tryz.func207 rfl (zU rfl) ?_
   (repeat' (first
    |(apply W.qd;(first
    |(exact zM)|(exact zN)|(exact jAk)
    |(exact jAb)))|(apply W.ed;(apply (e_callJ (js := []) (hcl));(iterate 5 exact rfl);kernel_rfl;kernel_rfl))|(apply W.ln;(exact jAg))|(apply yA)|(apply yB)|(apply (W.regionS 2);exact rfl;kernel_rfl)
    |(apply yE)))
   all_goals try (exfalso;omega)
   refine AWP.wk ⟨[(0,iV u),(1,.opt 2 0),(2,.opt 0 0),(3,.opt 1 0),(4,.opt 3 0),(5,.opt 4 0),(7,bools (hv.set u false))],trO M D ps us hv F Wd v⟩ ⟨[0,1,2,3,4,5],rfl,rfl,rfl,rfl,rfl,rfl,rfl,rfl,rfl,(frz_rowJ rfl rfl hsl).symm,trivial⟩ ?_
   (repeat' (first
    |(apply W.qd;(first
    |(exact zW (hca))|(exact zM)|(exact zN)|(exact jAk)|(exact jAm)|(exact jBa)
    |(apply (yDb (u := .d _));exact rfl;exact rfl)))|(refine W.gOff _ _ rfl rfl (by intro h;cases h) ?_)|(apply yA)|(apply yB)|(refine jAd ?_)|(apply yE)|(apply yH)
    |(refine jAx ?_)))
   all_goals first
    |(exfalso;omega)
    |exact ⟨.inr rfl,[0,1,2,3,4,5],[],rfl,rfl,trivial,AVle.of_eq rfl,rfl⟩
theorem A_lsearch {M D : Nat} {ps us : List (List Nat)} {hv : List Bool} (h : SrcOk M D ps us hv) : ACalls Tryz.prog 145 [cdN M D ps,strs us,bools hv] [] (srcA2 M D ps us hv) [] := by
 refine acalls_of_body Tryz.func145 rfl (zU rfl) ?_
 have hw := h.c.w
 have hhl := h.hl
 have hmh : (hv.map tD).length = hv.length := List.length_map _
 have hsu := fndT_succ M D ps us hv
 have hwu : ∀ k,wrdT M D ps us hv (k + 1) = if hv.getD k false = true then (if conN M D ps us (hv.set k false) = true then wrdN M D ps us (hv.set k false) else wrdT M D ps us hv k) else wrdT M D ps us hv k := fun k => rfl
 have hlast := fun l u => wrdT_last (M := M) (D := D) (ps := ps) (us := us) (hv := hv) (l := l) (u := u) (k := hv.length)
 have hle := fndT_len M D ps us hv
 have h0 : fndT M D ps us hv 0 = [] := rfl
 have h1 : wrdT M D ps us hv 0 = [] := rfl
 have htry := fun (i v : Nat) (hi : i < hv.length) => A_try (v := v) (F := fndT M D ps us hv i) (Wd := wrdT M D ps us hv i) h hi (by have := hle i;omega)
 unfold srcA2 fndN
 generalize conN M D ps us = C at *
 generalize wrdN M D ps us = X at *
 generalize fndT M D ps us hv = F at *
 generalize wrdT M D ps us hv = Wd at *
 clear h
 (repeat' (first
  |(apply W.qd;(first
  |(exact zN)
  |(apply q_makeFunc)))
  |(apply W.ed;(first
  |(exact jAc)
  |(exact jAo)))|(apply yA)|(apply yB)|(apply (W.regionS 4);exact rfl;kernel_rfl)
  |(apply yE)))
 refine AWP.nilBox (l' := [.osl 5 0 0 0]) 3 0 1 3 rfl rfl (by omega) rfl rfl rfl rfl ?_
 refine AWP.leBox (l' := [strs []]) 4 0 (strs []) rfl rfl (AVle.nil 1) rfl (by simp) rfl ?_
 (repeat' (first
  |(apply W.qd;(first
  |(exact zM)|(exact jAk)
  |(exact jBc)))|(apply yB)|(apply (W.regionS 5);exact rfl;kernel_rfl)|(apply yE)
  |(apply yG)))
 refine AWP.loopW (α := Nat × Nat) (fun x => x.1 ≤ hv.length) (fun x => ⟨[(17,iV x.1),(16,iV hv.length),(15,bools hv),(11,.fn 207 [.opt 2 0,.opt 0 0,.opt 1 0,.opt 3 0,.opt 4 0]),(9,.opt 3 0),(10,.opt 4 0)],trO M D ps us hv (F x.1) (Wd x.1) x.2⟩) (fun x => hv.length - x.1) (0,0) (Nat.zero_le _) ?wkA fun x hi => ?_
 case wkA =>
  dsimp only
  rw [h0,h1]
  exact ⟨[0,1,2,3,4,5],rfl,rfl,rfl,rfl,iV_eq (by rw [hmh]),rfl,rfl,rfl,rfl,trivial⟩
 obtain ⟨i,v⟩ := x
 dsimp only at hi ⊢
 by_cases hil : i < hv.length
 ·have hs := hsu i
  have hwi := hwu i
  have ht := htry i v hil
  have eg : hv.getD i false = hv[i] := by rw [List.getD_eq_getElem?_getD,List.getElem?_eq_getElem hil];rfl
  rw [eg] at hs hwi
  clear htry hsu hwu hlast
  generalize F i = Fi at *
  generalize Wd i = Wi at *
  cases hvi : hv[i] with
  | false =>
    rw [hvi,if_neg (by decide)] at hs hwi
    rw [List.append_nil] at hs
    (repeat' (first
     |(apply W.qd;(first
     |(exact zM)|(exact zN)|(exact jAj)|(exact jAi)|(exact jAe)
     |(exact jA)))|(apply yA)|(apply yB)|(refine jAd ?_)|(apply yE)|(apply yG)|(apply yH)|(apply yL)
     |(refine W.cond _ rfl (fun hb => ?_) (fun hb => ?_) <;> ((try simp only [hb,zK]) <;> (try simp only [zL,zI] at hb) <;> (try (exfalso;omega))))))
    (all_goals (try (exfalso;exact absurd ((‹hv[i] = true› : hv[i] = true).symm.trans (‹hv[i] = false› : hv[i] = false)) (by decide))))
    all_goals first
     |(exfalso;omega)|(refine ⟨(i + 1,v),by dsimp only;omega,by dsimp only;omega,?_⟩;dsimp only;rw [hs,hwi];exact ⟨[0,1,2,3,4,5],rfl,rfl,rfl,iV_eq (by omega),rfl,rfl,rfl,rfl,rfl,trivial⟩)
  | true =>
    rw [hvi,if_pos rfl] at hs hwi
    by_cases hC : C (hv.set i false) = true
    ·rw [if_pos hC] at hs hwi ht
     (repeat' (first
      |(apply W.qd;(first
      |(exact zM)|(exact zN)|(exact jAj)|(exact jAi)|(exact jAe)
      |(exact jA)))|(apply W.ed;((apply (e_callA ht);exact rfl;exact rfl;kernel_rfl)))|(apply yA)|(apply yB)|(refine jAd ?_)|(apply yE)|(apply yG)|(apply yH)|(apply yL)
      |(refine W.cond _ rfl (fun hb => ?_) (fun hb => ?_) <;> ((try simp only [hb,zK]) <;> (try simp only [zL,zI] at hb) <;> (try (exfalso;omega))))))
     (all_goals (try (exfalso;exact absurd ((‹hv[i] = true› : hv[i] = true).symm.trans (‹hv[i] = false› : hv[i] = false)) (by decide))))
     all_goals first
      |(exfalso;omega)|(refine ⟨(i + 1,v + 1),by dsimp only;omega,by dsimp only;omega,?_⟩;dsimp only;rw [hs,hwi];exact ⟨[0,1,2,3,4,5],rfl,rfl,rfl,iV_eq (by omega),rfl,rfl,rfl,rfl,rfl,trivial⟩)
    ·rw [if_neg hC] at hs hwi ht
     rw [List.append_nil] at hs
     (repeat' (first
      |(apply W.qd;(first
      |(exact zM)|(exact zN)|(exact jAj)|(exact jAi)|(exact jAe)
      |(exact jA)))|(apply W.ed;((apply (e_callA ht);exact rfl;exact rfl;kernel_rfl)))|(apply yA)|(apply yB)|(refine jAd ?_)|(apply yE)|(apply yG)|(apply yH)|(apply yL)
      |(refine W.cond _ rfl (fun hb => ?_) (fun hb => ?_) <;> ((try simp only [hb,zK]) <;> (try simp only [zL,zI] at hb) <;> (try (exfalso;omega))))))
     (all_goals (try (exfalso;exact absurd ((‹hv[i] = true› : hv[i] = true).symm.trans (‹hv[i] = false› : hv[i] = false)) (by decide))))
     all_goals first
      |(exfalso;omega)|(refine ⟨(i + 1,v),by dsimp only;omega,by dsimp only;omega,?_⟩;dsimp only;rw [hs,hwi];exact ⟨[0,1,2,3,4,5],rfl,rfl,rfl,iV_eq (by omega),rfl,rfl,rfl,rfl,rfl,trivial⟩)
 ·obtain rfl : i = hv.length := by omega
  clear htry hsu hwu
  generalize F hv.length = Fn at *
  cases hO : oneN Fn with
  | some u =>
    obtain rfl := oneN_some hO
    have hl := hlast [] u rfl
    dsimp only
    rw [← hl]
    generalize Wd hv.length = Wn at *
    (repeat' (first
     |(apply W.qd;(first
     |(exact zN)|(exact jAk)|(exact jAj)|(exact jAu)|(exact q_len_osl rfl rfl rfl)|(exact jAb)
     |(exact jAn)))|(apply yA)|(apply yB)|(refine jAd ?_)|(refine jAs ?_)|(apply yE)|(refine jBb ?_)|(apply yH)|(apply yI)|(apply yJ)|(apply yK)|(apply yM)|(refine jAx ?_)
     |(refine W.cond _ rfl (fun hb => ?_) (fun hb => ?_) <;> ((try simp only [hb,zK]) <;> (try simp only [zL,zI] at hb) <;> (try (exfalso;omega))))))
    all_goals first | (exfalso;omega) | exact Ends.three rfl rfl rfl rfl
  | none =>
    have hne : Fn.length ≠ 1 := fun hn => by
     match Fn,hn with
     | [u],_ => cases hO
    have hmf : (Fn.map kD).length = Fn.length := List.length_map _
    generalize Wd hv.length = Wn at *
    (repeat' (first
     |(apply W.qd;(first
     |(exact zN)|(exact jAk)|(exact jAj)|(exact jAu)
     |(exact q_len_osl rfl rfl rfl)))|(apply yA)|(apply yB)|(refine jAd ?_)|(apply yE)|(apply yI)|(apply yJ)|(apply yK)|(apply yP)|(apply yM)
     |(refine W.cond _ rfl (fun hb => ?_) (fun hb => ?_) <;> ((try simp only [hb,zK]) <;> (try simp only [zL,zI] at hb) <;> (try (exfalso;omega))))))
    all_goals first
     |(exfalso;omega)
     |exact ⟨.inl rfl,[],[iV 0,.d (.v (.slice none 0 0)),iV 13],rfl,⟨rfl,rfl,rfl,trivial⟩,AVle.tup ⟨AVle.of_eq rfl,AVle.nil 1,AVle.of_eq rfl,trivial⟩,rfl⟩
theorem locN_eq (M D : Nat) (ps us : List (List Nat)) (hv : List Bool) : locN M D ps us hv = (if allN M D ps us hv = false then (0,11) else if conN M D ps us hv = true then (0,12) else match oneN (fndN M D ps us hv) with | some u => ((u : Int),0) | none => (0,13) : Int × Int) := by
 unfold locN conN
 cases allN M D ps us hv <;> rfl
theorem corN_eq (M D : Nat) (ps us : List (List Nat)) (hv : List Bool) : corN M D ps us hv = (if allN M D ps us hv = false then ([],11) else if conN M D ps us hv = true then (wrdN M D ps us hv,0) else match oneN (fndN M D ps us hv) with | some u => (wrdN M D ps us (hv.set u false),0) | none => ([],13) : List (List Nat) × Int) := by
 unfold corN conN
 cases allN M D ps us hv <;> rfl
theorem A_locate {M D : Nat} {ps us : List (List Nat)} {hv : List Bool} (h : SrcOk M D ps us hv) : ACalls Tryz.prog 86 [cdN M D ps,strs us,bools hv] [] (.tup [iV (locN M D ps us hv).1,iV (locN M D ps us hv).2]) [] := by
 refine acalls_of_body Tryz.func86 rfl (zU rfl) ?_
 have f1 := A_cand h
 have f2 := A_lsearch h
 have hcn := con_all (M := M) (D := D) (ps := ps) (us := us) (hv := hv)
 rw [locN_eq]
 unfold canR at f1
 unfold srcA2 at f2
 generalize conN M D ps us hv = C at *
 generalize wrdN M D ps us = X at *
 generalize allN M D ps us hv = E at *
 generalize oneN (fndN M D ps us hv) = O at *
 cases E with
 | false =>
   have hC : C = false := by
    cases C with
    | false => rfl
    | true => exact absurd (hcn rfl) (by decide)
   subst hC
   rw [if_neg (by decide),if_neg (by decide)] at f1
   rw [if_pos rfl]
   (repeat' (first
    |(apply W.qd;(first
    |(exact zW (f1))|(exact zM)|(exact zN)|(exact jAm)|(exact jAu)
    |(exact jBa)))|(apply W.ed;(exact jAc))|(apply yA)|(apply yB)|(refine jAd ?_)|(apply yE)|(apply yG)|(apply yJ)|(apply yP)|(apply yN)
    |(refine jBf ?_)))
   all_goals first | (exfalso;omega) | exact Ends.two rfl rfl rfl
 | true =>
   rw [if_pos rfl,if_pos rfl] at f1
   rw [if_neg (by decide)]
   generalize X hv = w at *
   cases C with
   | true =>
     rw [if_pos rfl]
     (repeat' (first
      |(apply W.qd;(first
      |(exact zW (f1))|(exact zM)|(exact zN)|(exact jAm)|(exact jAu)
      |(exact jBa)))|(apply W.ed;(exact jAc))|(apply yA)|(apply yB)|(refine jAd ?_)|(apply yE)|(apply yG)|(apply yJ)|(apply yP)|(apply yN)|(refine jBf ?_)
      |(refine jAx ?_)))
     all_goals first | (exfalso;omega) | exact Ends.two rfl rfl rfl
   | false =>
     rw [if_neg (by decide)]
     cases O <;> dsimp only at f2 ⊢
     all_goals
      (repeat' (first
       |(apply W.qd;(first
       |(exact zW (f1))|(exact zW (f2))|(exact zM)|(exact zN)|(exact jAm)|(exact jAu)
       |(exact jBa)))|(apply W.ed;(exact jAc))|(apply yA)|(apply yB)|(refine jAd ?_)|(apply yE)|(apply yG)|(apply yH)|(apply yJ)|(apply yL)
       |(refine jAx ?_)))
      all_goals first | (exfalso;omega) | exact Ends.two rfl rfl rfl
theorem A_correct {M D : Nat} {ps us : List (List Nat)} {hv : List Bool} (h : SrcOk M D ps us hv) : ACalls Tryz.prog 87 [cdN M D ps,strs us,bools hv] [] (.tup [strs (corN M D ps us hv).1,iV (corN M D ps us hv).2]) [] := by
 refine acalls_of_body Tryz.func87 rfl (zU rfl) ?_
 have f1 := A_cand h
 have f2 := A_lsearch h
 have hcn := con_all (M := M) (D := D) (ps := ps) (us := us) (hv := hv)
 rw [corN_eq]
 unfold canR at f1
 unfold srcA2 at f2
 generalize conN M D ps us hv = C at *
 generalize allN M D ps us hv = E at *
 generalize oneN (fndN M D ps us hv) = O at *
 generalize wrdN M D ps us = X at *
 cases E with
 | false =>
   have hC : C = false := by
    cases C with
    | false => rfl
    | true => exact absurd (hcn rfl) (by decide)
   subst hC
   rw [if_neg (by decide),if_neg (by decide)] at f1
   rw [if_pos rfl]
   (repeat' (first
    |(apply W.qd;(first
    |(exact zW (f1))|(exact zM)|(exact zN)|(exact jAm)|(exact jAu)
    |(exact jBa)))|(apply W.ed;(exact jAc))|(apply yA)|(apply yB)|(refine jAd ?_)|(apply yE)|(apply yG)|(apply yJ)|(apply yP)|(apply yN)
    |(refine jBf ?_)))
   all_goals first
    |(exfalso;omega)
    |exact ⟨.inl rfl,[],[.d (.v (.slice none 0 0)),iV 11],rfl,⟨rfl,rfl,trivial⟩,AVle.tup2 (AVle.nil 1) (AVle.of_eq rfl),rfl⟩
 | true =>
   rw [if_pos rfl,if_pos rfl] at f1
   rw [if_neg (by decide)]
   cases C with
   | true =>
     rw [if_pos rfl]
     generalize X hv = w at *
     (repeat' (first
      |(apply W.qd;(first
      |(exact zW (f1))|(exact zM)|(exact zN)|(exact jAm)|(exact jAu)
      |(exact jBa)))|(apply W.ed;(exact jAc))|(apply yA)|(apply yB)|(refine jAd ?_)|(apply yE)|(apply yG)|(apply yJ)|(apply yP)|(apply yN)|(refine jBf ?_)
      |(refine jAx ?_)))
     all_goals first | (exfalso;omega) | exact Ends.two rfl rfl rfl
   | false =>
     rw [if_neg (by decide)]
     generalize X hv = w at *
     cases O with
     | none =>
       dsimp only at f2 ⊢
       (repeat' (first
        |(apply W.qd;(first
        |(exact zW (f1))|(exact zW (f2))|(exact zM)|(exact zN)|(exact jAm)|(exact jAu)
        |(exact jBa)))|(apply W.ed;(exact jAc))|(apply yA)|(apply yB)|(refine jAd ?_)|(apply yE)|(apply yG)|(apply yH)|(apply yJ)|(apply yL)
        |(refine jAx ?_)))
       all_goals first | (exfalso;omega) | exact Ends.two rfl rfl rfl
     | some u =>
       dsimp only at f2 ⊢
       generalize X (hv.set u false) = w2 at *
       (repeat' (first
        |(apply W.qd;(first
        |(exact zW (f1))|(exact zW (f2))|(exact zM)|(exact zN)|(exact jAm)|(exact jAu)
        |(exact jBa)))|(apply W.ed;(exact jAc))|(apply yA)|(apply yB)|(refine jAd ?_)|(apply yE)|(apply yG)|(apply yH)|(apply yJ)|(apply yL)
        |(refine jAx ?_)))
       all_goals first | (exfalso;omega) | exact Ends.two rfl rfl rfl
end
section
def fil {α : Type} (f : Nat → α) (z : α) (n k : Nat) : List α := (List.range n).map fun j => if j < k then f j else z
section
variable {α : Type} {f : Nat → α} {z : α} {n : Nat}
theorem fil_len (k : Nat) : (fil f z n k).length = n := by simp [fil]
theorem fil_get {k j : Nat} (h : j < n) : (fil f z n k)[j]? = some (if j < k then f j else z) := by
 unfold fil
 rw [List.getElem?_map,List.getElem?_range h];rfl
theorem fil_zero : fil f z n 0 = List.replicate n z := by
 apply List.ext_getElem (by simp [fil])
 intro i h1 h2
 simp [fil]
theorem fil_all : fil f z n n = (List.range n).map f := by
 unfold fil
 apply List.map_congr_left
 intro j hj
 rw [if_pos (List.mem_range.1 hj)]
theorem fil_set {k : Nat} (h : k < n) : (fil f z n k).set k (f k) = fil f z n (k + 1) := by
 apply List.ext_getElem?
 intro i
 rw [List.getElem?_set,fil_len]
 by_cases e : k = i
 ·subst e;rw [if_pos rfl,if_pos h,fil_get h,if_pos (by omega)]
 ·rw [if_neg e]
  by_cases hi : i < n
  ·rw [fil_get hi, fil_get hi]
   by_cases h2 : i < k
   ·rw [if_pos h2,if_pos (by omega)]
   ·rw [if_neg h2,if_neg (by omega)]
  ·rw [List.getElem?_eq_none (by rw [fil_len];omega),List.getElem?_eq_none (by rw [fil_len];omega)]
theorem fil_map {β : Type} (g : α → List β) {k j : Nat} (h : j < k) (hk : k ≤ n) : ((fil f z n k).map g)[j]? = some (g (f j)) := by
 rw [List.getElem?_map,fil_get (by omega),if_pos h];rfl
end
abbrev rpA (r : Rep) : AV := .agg [iV r.1,ints r.2.1,strs r.2.2.1,iV r.2.2.2]
def rep0 : Rep := (0,[],[],0)
section
variable (M D : Nat) (ps : List (List Nat)) (at' : List Pl) (g : Gn) (ss : List (List Nat)) (rd : List Bool)
def rpN : Rep := repU M D ps (stU (staL at' g ss rd (D + ps.length))) (stS (staL at' g ss rd (D + ps.length))) (stH (staL at' g ss rd (D + ps.length)))
end
theorem sta_maps (at' : List Pl) (g : Gn) (ss : List (List Nat)) (rd : List Bool) (n : Nat) : (List.range n).map (fun k => (staN (at'.getD k pz0) g (ss.getD k []) (rd.getD k false)).1) = stS (staL at' g ss rd n) ∧ (List.range n).map (fun k => (staN (at'.getD k pz0) g (ss.getD k []) (rd.getD k false)).2) = stU (staL at' g ss rd n) ∧ (List.range n).map (fun k => decide ((staN (at'.getD k pz0) g (ss.getD k []) (rd.getD k false)).1 = 1)) = stH (staL at' g ss rd n) := by
 unfold stS stU stH staL
 simp [List.map_map,Function.comp_def]
theorem fnd_lt {M D : Nat} {ps us : List (List Nat)} {hv : List Bool} {u : Nat} (h : oneN (fndN M D ps us hv) = some u) : u < hv.length := by
 have h1 := oneN_some h
 have h2 : u ∈ fndN M D ps us hv := by rw [h1];simp
 unfold fndN fndT at h2
 exact List.mem_range.1 (List.mem_filter.1 h2).1
theorem loc_cases (M D : Nat) (ps us : List (List Nat)) (hv : List Bool) : (∃ u,u < hv.length ∧ locN M D ps us hv = ((u : Int),0)) ∨ locN M D ps us hv = (0,12) ∨ locN M D ps us hv = (0,13) ∨ locN M D ps us hv = (0,11) := by
 rw [locN_eq]
 split
 ·exact .inr (.inr (.inr rfl))
 ·split
  ·exact .inr (.inl rfl)
  ·cases h : oneN (fndN M D ps us hv) with
   | some u => exact .inl ⟨u,fnd_lt h,rfl⟩
   | none => exact .inr (.inr (.inl rfl))
theorem frz_rep1 {own : List Ent} {n : Nat} {e : TypeId} {l : List Int} {a b c : Int} {y : Dat} (h : own[3]? = some (.row 0 1 e (l.map iD))) (hn : n = l.length) : AV.frz own [] (.tup [.agg [iV a,.osl 3 0 0 n,.d y,iV b],iV c]) = .tup [.agg [iV a,ints l,.d y,iV b],iV c] := by
 show AV.tup [.agg [iV a,AV.frz own [] (.osl 3 0 0 n),.d y,iV b],iV c] = _
 rw [frz_rowJ h rfl (by rw [List.length_map];exact hn)]
theorem frz_rep2 {own : List Ent} {n : Nat} {e e' : TypeId} {l : List Int} {q : List (List Nat)} {a b c : Int} (h : own[3]? = some (.row 0 1 e (l.map iD))) (hn : n = l.length) (h' : own[4]? = some (.row 0 1 e' (q.map sD))) (hn' : n = q.length) : AV.frz own [] (.tup [.agg [iV a,.osl 3 0 0 n,.osl 4 0 0 n,iV b],iV c]) = .tup [.agg [iV a,ints l,strs q,iV b],iV c] := by
 show AV.tup [.agg [iV a,AV.frz own [] (.osl 3 0 0 n),AV.frz own [] (.osl 4 0 0 n),iV b],iV c] = _
 rw [frz_rowJ h rfl (by rw [List.length_map];exact hn),frz_rowJ h' rfl (by rw [List.length_map];exact hn')]
theorem recR_eq (o : Option (List Nat)) : ∃ e : Int,recR o = .tup [bS (o.getD []),iV e] := by
 cases o with
 | none => exact ⟨11,rfl⟩
 | some x => exact ⟨0,rfl⟩
attribute [local irreducible] Quiet Eff OpOk AWPG ACont ABlock ACalls AGoto
theorem A_checkG {M D : Nat} {ps : List (List Nat)} {at' : List Pl} {g : Gn} {ss : List (List Nat)} {rd : List Bool} (h : CodeOk M D ps) (ha : at'.length = D + ps.length) (hs : ss.length = D + ps.length) (hr : rd.length = D + ps.length) (hsb : ∀ s ∈ ss,isB s ∧ s.length ≤ 9223372036854775807) : ACalls Tryz.prog 38 [cdN M D ps,pcs at',gnA g,strs ss,bools rd] [] (.tup [rpA (rpN M D ps at' g ss rd),iV 0]) [] := by
 refine acalls_of_body Tryz.func38 rfl (zU rfl) ?_
 have h1 := h.d
 have h2 := h.w
 have hma : (at'.map pcD).length = at'.length := List.length_map _
 have hms : (ss.map sD).length = ss.length := List.length_map _
 have hmr : (rd.map tD).length = rd.length := List.length_map _
 have hw := A_ewidthN h
 have hsrc := sta_src (at' := at') (g := g) (rd := rd) h (fun s hx => (hsb s hx).1)
 have hhl := hsrc.hl
 have f1 := A_locate hsrc
 have f2 := A_correct hsrc
 have f3 := fun u (hu : u < D + ps.length) => A_erecS hsrc (u := u) hu
 have hlc := loc_cases M D ps (stU (staL at' g ss rd (D + ps.length))) (stH (staL at' g ss rd (D + ps.length)))
 obtain ⟨m1,m2,m3⟩ := sta_maps at' g ss rd (D + ps.length)
 have hSl : (stS (staL at' g ss rd (D + ps.length))).length = D + ps.length := by unfold stS;rw [List.length_map,staL_length]
 unfold rpN repU
 generalize stU (staL at' g ss rd (D + ps.length)) = U at *
 generalize stS (staL at' g ss rd (D + ps.length)) = S at *
 generalize stH (staL at' g ss rd (D + ps.length)) = H at *
 have hstt := fun k (hk : k < ss.length) (ha : k < at'.length) (hr : k < rd.length) => A_state (p := at'[k]) (g := g) (s := ss[k]) (r := rd[k]) (hsb _ (List.getElem_mem hk)).1 (hsb _ (List.getElem_mem hk)).2
 have hga : ∀ k (hk : k < at'.length),at'.getD k pz0 = at'[k] := fun k hk => by rw [List.getD_eq_getElem?_getD,List.getElem?_eq_getElem hk];rfl
 have hgs : ∀ k (hk : k < ss.length),ss.getD k [] = ss[k] := fun k hk => by rw [List.getD_eq_getElem?_getD,List.getElem?_eq_getElem hk];rfl
 have hgr : ∀ k (hk : k < rd.length),rd.getD k false = rd[k] := fun k hk => by rw [List.getD_eq_getElem?_getD,List.getElem?_eq_getElem hk];rfl
 generalize hfS : (fun k => (staN (at'.getD k pz0) g (ss.getD k []) (rd.getD k false)).1) = fS at *
 generalize hfU : (fun k => (staN (at'.getD k pz0) g (ss.getD k []) (rd.getD k false)).2) = fU at *
 generalize hfH : (fun k => decide ((staN (at'.getD k pz0) g (ss.getD k []) (rd.getD k false)).1 = 1)) = fH at *
 have eS : ∀ k (hk : k < ss.length) (ha : k < at'.length) (hr : k < rd.length),fS k = (staN at'[k] g ss[k] rd[k]).1 := fun k hk ha hr => by rw [← hfS];show (staN _ _ _ _).1 = _;rw [hga k ha,hgs k hk,hgr k hr]
 have eU : ∀ k (hk : k < ss.length) (ha : k < at'.length) (hr : k < rd.length),fU k = (staN at'[k] g ss[k] rd[k]).2 := fun k hk ha hr => by rw [← hfU];show (staN _ _ _ _).2 = _;rw [hga k ha,hgs k hk,hgr k hr]
 have eH : ∀ k (hk : k < ss.length) (ha : k < at'.length) (hr : k < rd.length),fH k = decide ((staN at'[k] g ss[k] rd[k]).1 = 1) := fun k hk ha hr => by rw [← hfH];show decide ((staN _ _ _ _).1 = 1) = _;rw [hga k ha,hgs k hk,hgr k hr]
 have hrec : ∀ k,k < D + ps.length → ∃ e : Int,ACalls Tryz.prog 88 [cdN M D ps,strs U,bools H,iV k] [] (.tup [bS ((recN M D ps U H k).getD []),iV e]) [] := fun k hk => by
  have h1 := f3 k hk
  obtain ⟨e,he⟩ := recR_eq (recN M D ps U H k)
  rw [he] at h1
  exact ⟨e,h1⟩
 generalize hR : (fun k => (recN M D ps U H k).getD []) = fR at *
 have eR : ∀ k,(recN M D ps U H k).getD [] = fR k := fun k => congrFun hR k
 simp only [eR] at hrec ⊢
 clear hfS hfU hfH hga hgs hgr f3 hsrc hR eR
 generalize locN M D ps U H = L at *
 generalize corN M D ps U H = C at *
 generalize hn : D + ps.length = n at *
 (repeat' (first
  |(apply yFb;exact rfl;exact rfl)
  |(apply W.qd;(first
  |(exact zW (hw))|(exact zM)|(exact zN)|(exact jAm)|(exact jB)|(exact jAu)|(exact jBc)
  |(apply (yDb (u := .d _));exact rfl;exact rfl)))
  |(apply W.ed;(first
  |(exact jAc)
  |(exact jAo)))|(apply yA)|(apply yB)|(apply (W.regionS 4);exact rfl;kernel_rfl)|(apply yE)|(apply yH)|(refine W.gF _ _ rfl rfl (fun hb => ?_) (fun hb => ?_) <;> ((try simp only [hb,zK]) <;> (try simp only [zL,zI] at hb) <;> (try (exfalso;omega))))
  |(refine W.cond _ rfl (fun hb => ?_) (fun hb => ?_) <;> ((try simp only [hb,zK]) <;> (try simp only [zL,zI] at hb) <;> (try (exfalso;omega))))))
 all_goals try (exfalso;omega)
 refine AWP.hole rfl (AWP.hole rfl (AWP.hole rfl ?_))
 (repeat' (first
  |(apply W.qd;(first
  |(exact zM)
  |(exact jAz)))
  |(apply W.ld;(first
  |(apply (l_make (f := iD) 0);(iterate 10 exact rfl);kernel_rfl;omega)|(apply (l_make (f := sD) []);(iterate 10 exact rfl);kernel_rfl;omega)
  |(apply l_alloc;(iterate 3 exact rfl);kernel_rfl;kernel_rfl)))|(apply W.ln;(exact jAh))|(apply yA)|(apply yB)|(apply (W.regionDS 5);exact rfl;exact rfl;kernel_rfl)|(apply yE)
  |(refine jBb ?_)))
 refine AWP.hole rfl (AWP.hole rfl ?_)
 (repeat' (first
  |(apply W.qd;(first
  |(exact zM)
  |(exact zN)))
  |(apply W.ld;(first
  |(apply (l_make (f := tD) false);(iterate 10 exact rfl);kernel_rfl;omega)
  |(apply (l_make (f := sD) []);(iterate 10 exact rfl);kernel_rfl;omega)))|(apply yA)|(apply yB)|(apply (W.regionS 7);exact rfl;kernel_rfl)|(apply (W.regionDS 7);exact rfl;exact rfl;kernel_rfl)|(apply yE)|(refine jBb ?_)
  |(apply yG)))
 refine AWP.loopW (α := Nat) (fun k => k ≤ n) (fun k => ⟨[(53,iV k),(52,iV n),(12,iV n),(13,.opt 5 0),(14,.osl 6 0 0 n),(15,.osl 7 0 0 n),(1,pcs at'),(3,strs ss),(4,bools rd),(5,.opt 0 0),(7,.opt 1 0),(10,.opt 2 0)],[.box [.d .any,iV M,iV D,rowsN ps,.d .any],.box [iV g.1,iV g.2],.box [iV 0,.d (.v (.slice none 0 0)),.d (.v (.slice none 0 0)),iV 0],.row 0 1 3 ((fil fS 0 n k).map iD),.row 0 1 9 ((List.replicate n []).map sD),.box [iV 1,.osl 3 0 0 n,.osl 4 0 0 n,iV (-1)],.row 0 1 9 ((fil fU [] n k).map sD),.row 0 1 4 ((fil fH false n k).map tD)]⟩) (fun k => n - k) 0 (Nat.zero_le _) ?wkA fun k hk => ?_
 case wkA =>
  rw [fil_zero,fil_zero,fil_zero]
  exact ⟨[0,1,2,3,4,5,6,7],rfl,rfl,rfl,by (repeat (first | exact trivial | refine ⟨rfl,?_⟩))⟩
 by_cases hkl : k < n
 ·have hka : k < at'.length := by omega
  have hks : k < ss.length := by omega
  have hkr : k < rd.length := by omega
  have hst := hstt k hks hka hkr
  have e1 := eS k hks hka hkr
  have e2 := eU k hks hka hkr
  have e3 := eH k hks hka hkr
  have s1 := fil_set (f := fS) (z := 0) hkl
  have s2 := fil_set (f := fU) (z := []) hkl
  have s3 := fil_set (f := fH) (z := false) hkl
  have g1 := fil_map (f := fS) (z := 0) (n := n) iD (k := k + 1) (j := k) (by omega) (by omega)
  have l1 := fil_len (f := fS) (z := 0) (n := n) k
  have l2 := fil_len (f := fU) (z := []) (n := n) k
  have l3 := fil_len (f := fH) (z := false) (n := n) k
  have l4 := fil_len (f := fS) (z := 0) (n := n) (k + 1)
  rw [e1] at s1 g1
  rw [e2] at s2
  rw [e3] at s3
  generalize staN at'[k] g ss[k] rd[k] = q at *
  obtain ⟨x,y⟩ := q
  dsimp only at *
  clear f1 f2 hlc hrec hstt eS eU eH m1 m2 m3
  generalize fil fS 0 n k = S1 at *
  generalize fil fU [] n k = U1 at *
  generalize fil fH false n k = H1 at *
  (repeat' (first
   |(apply W.qd;(first
   |(exact zW (hst))|(exact zM)|(exact zN)|(exact jAr)|(exact jAk)|(exact jAm)|(exact jAj)|(exact jBa)|(exact jAe)|(exact jAy)|(exact jA)
   |(exact jAb)))|(apply W.ln;(exact jAg))|(apply yA)|(apply yB)|(apply (W.regionS 10);exact rfl;kernel_rfl)|(apply (W.regionDS 10);exact rfl;exact rfl;kernel_rfl)|(apply yE)|(refine jBb ?_)|(apply yG)|(apply yH)
   |(refine W.cond _ rfl (fun hb => ?_) (fun hb => ?_) <;> ((try simp only [hb,zK]) <;> (try simp only [zL,zI] at hb) <;> (try (exfalso;omega))))))
  all_goals try (exfalso;omega)
  rw [s1,s2]
  (repeat' (first
   |(apply W.qd;(first
   |((apply q_ld_rpt;(iterate 3 exact rfl);exact g1;exact rfl))|(exact zM)|(exact jAr)|(exact jAk)|(exact jB)|(exact jAi)
   |(exact jAb)))|(apply W.ln;(exact jAg))|(apply yB)|(refine jAd ?_)|(apply yE)
   |(apply yL)))
  all_goals first
   |(exfalso;omega)|(refine ⟨k + 1,by omega,by omega,?_⟩;(try dsimp only);rw [← s3];exact ⟨[0,1,2,3,4,5,6,7],rfl,rfl,rfl,iV_eq (by omega),rfl,rfl,rfl,rfl,rfl,rfl,rfl,rfl,rfl,rfl,rfl,trivial⟩)
 ·obtain rfl : k = n := by omega
  rw [fil_all,fil_all,fil_all,m1,m2,m3]
  have hUl : k = (U.map sD).length := by rw [← m2];simp
  have hHl : k = (H.map tD).length := by rw [← m3];simp
  clear hstt eS eU eH m1 m2 m3
  refine AWP.wk ⟨[(53,iV k),(52,iV k),(12,iV k),(13,.opt 5 0),(14,strs U),(15,bools H),(5,.opt 0 0),(10,.opt 2 0)],[.box [.d .any,iV M,iV D,rowsN ps,.d .any],.box [iV g.1,iV g.2],.box [iV 0,.d (.v (.slice none 0 0)),.d (.v (.slice none 0 0)),iV 0],.row 0 1 3 (S.map iD),.row 0 1 9 ((List.replicate k []).map sD),.box [iV 1,.osl 3 0 0 k,.osl 4 0 0 k,iV (-1)]]⟩ ⟨[0,1,2,3,4,5],rfl,rfl,rfl,rfl,rfl,rfl,rfl,(frz_rowJ rfl rfl hUl).symm,(frz_rowJ rfl rfl hHl).symm,rfl,rfl,trivial⟩ ?_
  rcases hlc with ⟨u,hu,hL⟩ | hL | hL | hL
  ·rw [hL] at f1 ⊢
   rw [if_pos rfl]
   have huk : u < k := by omega
   obtain ⟨c1,c2⟩ := C
   (repeat' (first
    |(apply W.qd;(first
    |(exact zW (f1))|(exact zW (f2))|(exact zM)|(exact zN)|(exact jAr)|(exact jAk)|(exact jAm)|(exact jAj)|(exact jB)|(exact jBa)
    |(exact jAb)))
    |(apply W.ln;(first
    |(exact jAh)
    |(exact jAg)))|(apply yA)|(apply yB)|(refine jAd ?_)|(apply yE)|(apply yG)|(apply yI)|(apply yJ)|(apply yK)|(apply yL)|(apply yM)|(apply yO;exact rfl)|(refine jBf ?_)
    |(refine W.cond _ rfl (fun hb => ?_) (fun hb => ?_) <;> ((try simp only [hb,zK]) <;> (try simp only [zL,zI] at hb) <;> (try (exfalso;omega))))))
   all_goals first
    |(exfalso;omega)|(refine Ends.cell2 rfl rfl rfl rfl ?_;exact frz_rep1 rfl (by rw [List.length_set];exact hSl.symm))
  ·rw [hL] at f1 ⊢
   rw [if_neg (by decide),if_pos rfl]
   obtain ⟨c1,c2⟩ := C
   (repeat' (first
    |(apply W.qd;(first
    |(exact zW (f1))|(exact zW (f2))|(exact zM)|(exact zN)|(exact jAr)|(exact jAm)|(exact jAj)|(exact jB)
    |(exact jBa)))|(apply W.ln;(exact jAh))|(apply yA)|(apply yB)|(refine jAd ?_)|(apply yE)|(apply yG)|(apply yH)|(apply yI)|(apply yJ)|(apply yK)|(apply yM)|(apply yO;exact rfl)|(refine jBf ?_)|(refine jAx ?_)
    |(refine W.cond _ rfl (fun hb => ?_) (fun hb => ?_) <;> ((try simp only [hb,zK]) <;> (try simp only [zL,zI] at hb) <;> (try (exfalso;omega))))))
   all_goals first
    |(exfalso;omega)|(refine Ends.cell2 rfl rfl rfl rfl ?_;exact frz_rep1 rfl hSl.symm)
  ·rw [hL] at f1 ⊢
   rw [if_neg (by decide),if_neg (by decide),if_pos rfl]
   (repeat' (first
    |(apply W.qd;(first
    |(exact zW (f1))|(exact zM)|(exact zN)|(exact jAr)|(exact jAm)|(exact jAj)|(exact jB)
    |(exact jBa)))|(apply W.ln;(exact jAh))|(apply yA)|(apply yB)|(refine jAd ?_)|(apply yE)|(apply yG)|(apply yH)|(apply yI)|(apply yJ)|(apply yK)|(apply yM)|(apply yO;exact rfl)|(refine jBf ?_)|(refine jAx ?_)
    |(refine W.cond _ rfl (fun hb => ?_) (fun hb => ?_) <;> ((try simp only [hb,zK]) <;> (try simp only [zL,zI] at hb) <;> (try (exfalso;omega))))))
   all_goals first
    |(exfalso;omega)|(refine Ends.cell2 rfl rfl rfl rfl ?_;exact frz_rep2 rfl hSl.symm rfl (by rw [List.length_replicate]))
  ·rw [hL] at f1 ⊢
   rw [if_neg (by decide),if_neg (by decide),if_neg (by decide)]
   (repeat' (first
    |(apply W.qd;(first
    |(exact zW (f1))|(exact zM)|(exact zN)|(exact jAr)|(exact jAm)|(exact jAj)|(exact jB)
    |(exact jBa)))|(apply W.ln;(exact jAh))|(apply yA)|(apply yB)|(apply (W.regionS 23);exact rfl;kernel_rfl)|(apply yE)|(apply yG)|(apply yH)|(apply yI)|(apply yK)|(apply yM)|(apply yO;exact rfl)|(refine jAx ?_)
    |(refine W.cond _ rfl (fun hb => ?_) (fun hb => ?_) <;> ((try simp only [hb,zK]) <;> (try simp only [zL,zI] at hb) <;> (try (exfalso;omega))))))
   all_goals try (exfalso;omega)
   refine AWP.loopW (α := Nat) (fun j => j ≤ k) (fun j => ⟨[(121,iV j),(120,iV k),(13,.opt 5 0),(14,strs U),(15,bools H),(5,.opt 0 0),(10,.opt 2 0)],[.box [.d .any,iV M,iV D,rowsN ps,.d .any],.box [iV g.1,iV g.2],.box [iV 0,.d (.v (.slice none 0 0)),.d (.v (.slice none 0 0)),iV 0],.row 0 1 3 (S.map iD),.row 0 1 9 ((fil fR [] k j).map sD),.box [iV 3,.osl 3 0 0 k,.osl 4 0 0 k,iV (-1)]]⟩) (fun j => k - j) 0 (Nat.zero_le _) ?wkB fun j hj => ?_
   case wkB =>
    rw [fil_zero]
    exact ⟨[0,1,2,3,4,5],rfl,rfl,rfl,by (repeat (first | exact trivial | refine ⟨rfl,?_⟩))⟩
   by_cases hjl : j < k
   ·obtain ⟨e, hre⟩ := hrec j hjl
    have s1 := fil_set (f := fR) (z := []) hjl
    have l1 := fil_len (f := fR) (z := []) (n := k) j
    clear f1 f2 hrec
    generalize fR j = x at *
    generalize fil fR [] k j = R1 at *
    (repeat' (first
     |(apply W.qd;(first
     |(exact zW (hre))|(exact zM)|(exact zN)|(exact jAr)|(exact jAk)|(exact jAm)|(exact jAj)|(exact jAi)|(exact jBa)
     |(exact jAb)))|(apply W.ln;(exact jAg))|(apply yA)|(apply yB)|(refine jAd ?_)|(refine jAs ?_)|(apply yE)|(refine jBb ?_)|(apply yG)|(apply yH)|(apply yL)
     |(refine W.cond _ rfl (fun hb => ?_) (fun hb => ?_) <;> ((try simp only [hb,zK]) <;> (try simp only [zL,zI] at hb) <;> (try (exfalso;omega))))))
    all_goals first
     |(exfalso;omega)|(refine ⟨j + 1,by omega,by omega,?_⟩;(try dsimp only);rw [← s1];exact ⟨[0,1,2,3,4,5],rfl,rfl,rfl,iV_eq (by omega),rfl,rfl,rfl,rfl,rfl,rfl,trivial⟩)
   ·obtain rfl : j = k := by omega
    rw [fil_all]
    (repeat' (first
     |(apply W.qd;(first
     |(exact zN)|(exact jAm)
     |(exact jAj)))|(apply W.ln;(exact jAh))|(apply yA)|(apply yB)|(refine jAd ?_)|(apply yE)|(apply yI)|(apply yJ)|(apply yK)|(apply yM)
     |(refine W.cond _ rfl (fun hb => ?_) (fun hb => ?_) <;> ((try simp only [hb,zK]) <;> (try simp only [zL,zI] at hb) <;> (try (exfalso;omega))))))
    all_goals first
     |(exfalso;omega)|(refine Ends.cell2 rfl rfl rfl rfl ?_;exact frz_rep2 rfl hSl.symm rfl (by simp))
end
section
abbrev fxs (l : List Fx) : AV := .d (.sl 2 (l.map fxD))
section
variable {at' : List Pl} {g : Gn} {r : Rep} {st : List Int} {k : Nat}
theorem fixL_succ : fixL at' g r (k + 1) = fixL at' g r k ++ if r.2.1.getD k 0 = 1 then [] else [(k,sealL (at'.getD k pz0) g (r.2.2.1.getD k []))] := by
 unfold fixL
 rw [fixT_succ,List.map_append]
 congr 1
 by_cases h : r.2.1.getD k 0 = 1
 ·rw [if_pos h,if_pos h];rfl
 ·rw [if_neg h,if_neg h];rfl
theorem fixB_succ : fixB at' g st (k + 1) = (fixB at' g st k && (decide (st.getD k 0 = 1) || (plB (at'.getD k pz0) && gnB g))) := by
 unfold fixB
 rw [fixT_succ,List.all_append]
 congr 1
 by_cases h : st.getD k 0 = 1
 ·rw [if_pos h,decide_eq_true h];rfl
 ·rw [if_neg h,decide_eq_false h];simp
theorem fixB_mono {i : Nat} (h : fixB at' g st i = false) : ∀ k, i ≤ k → fixB at' g st k = false
 | 0, hk => by obtain rfl : i = 0 := by omega
               exact h
 | k + 1,hk => by
   rw [fixB_succ]
   by_cases e : i = k + 1
   ·subst e;rw [fixB_succ] at h;exact h
   ·rw [fixB_mono h k (by omega),Bool.false_and]
theorem fixL_len : (fixL at' g r k).length ≤ k := by
 unfold fixL fixT
 rw [List.length_map]
 exact Nat.le_trans (List.length_filter_le _ _) (by simp)
end
theorem corN_ok {M D : Nat} {ps us : List (List Nat)} {hv : List Bool} (h : SrcOk M D ps us hv) (hl : (locN M D ps us hv).2 = 0 ∨ (locN M D ps us hv).2 = 12) : (corN M D ps us hv).1.length = D + ps.length ∧ ∀ u ∈ (corN M D ps us hv).1,isB u ∧ u.length = 32 := by
 rw [locN_eq] at hl
 rw [corN_eq]
 by_cases h1 : allN M D ps us hv = false
 ·rw [if_pos h1] at hl;exact absurd hl (by decide)
 ·rw [if_neg h1] at hl ⊢
  by_cases h2 : conN M D ps us hv = true
  ·rw [if_pos h2]
   exact wrd_props h (by simpa using h1)
  ·rw [if_neg h2] at hl ⊢
   cases h3 : oneN (fndN M D ps us hv) with
   | none => rw [h3] at hl;exact absurd hl (by decide)
   | some u =>
     have h4 := oneN_some h3
     have h5 : u ∈ fndN M D ps us hv := by rw [h4];simp
     unfold fndN fndT at h5
     have h6 := (List.mem_filter.1 h5).2
     rw [Bool.and_eq_true] at h6
     exact wrd_props (src_set h.c h u) (con_all h6.2)
theorem rpN_cases {M D : Nat} {ps : List (List Nat)} {at' : List Pl} {g : Gn} {ss : List (List Nat)} {rd : List Bool} (h : CodeOk M D ps) (hb : ∀ s ∈ ss,isB s) : (rpN M D ps at' g ss rd).1 = 2 ∨ (rpN M D ps at' g ss rd).1 = 3 ∨ (rpN M D ps at' g ss rd).1 = 1 ∧ (rpN M D ps at' g ss rd).2.1.length = D + ps.length ∧ (rpN M D ps at' g ss rd).2.2.1.length = D + ps.length ∧ ∀ u ∈ (rpN M D ps at' g ss rd).2.2.1,isB u ∧ u.length = 32 := by
 have hs := sta_src (at' := at') (g := g) (rd := rd) h hb
 have hSl : (stS (staL at' g ss rd (D + ps.length))).length = D + ps.length := by unfold stS;rw [List.length_map,staL_length]
 have hc := corN_ok hs
 unfold rpN repU
 by_cases h1 : (locN M D ps (stU (staL at' g ss rd (D + ps.length))) (stH (staL at' g ss rd (D + ps.length)))).2 = 0
 ·rw [if_pos h1]
  exact .inr (.inr ⟨rfl,by rw [List.length_set];exact hSl,hc (.inl h1)⟩)
 ·rw [if_neg h1]
  by_cases h2 : (locN M D ps (stU (staL at' g ss rd (D + ps.length))) (stH (staL at' g ss rd (D + ps.length)))).2 = 12
  ·rw [if_pos h2]
   exact .inr (.inr ⟨rfl,hSl,hc (.inr h2)⟩)
  ·rw [if_neg h2]
   split
   ·exact .inl rfl
   ·exact .inr (.inl rfl)
attribute [local irreducible] Quiet Eff OpOk AWPG ACont ABlock ACalls AGoto
theorem A_bseal {at' : List Pl} {g : Gn} {k : Nat} {u : List Nat} (hk : k < at'.length) (hal : at'.length ≤ 1000000) (hub : isB u) (h32 : u.length = 32) : ACalls Tryz.prog 93 [.agg [pcs at',iV g.1,iV g.2],iV k,bS u] [] (.tup [bS (sealN at'[k] g u).1,iV (sealN at'[k] g u).2]) [] := by
 refine acalls_of_body Tryz.func93 rfl (zU rfl) ?_
 have hs := A_seal (p := at'[k]) (g := g) hub h32
 have hma : (at'.map pcD).length = at'.length := List.length_map _
 generalize sealN at'[k] g u = q at *
 obtain ⟨x,y⟩ := q
 (repeat' (first
  |(apply W.qd;(first
  |(exact zW (hs))|(exact zM)|(exact zN)|(exact jAr)|(exact jAk)|(exact jAm)|(exact jBa)|(exact jAy)
  |(exact jA)))|(apply W.ed;(exact jAc))|(apply yA)|(apply yB)|(refine jAd ?_)|(refine jAs ?_)|(apply yE)|(refine jBb ?_)
  |(apply yJ)))
 all_goals first
  |(exfalso;omega)
  |exact ⟨.inl rfl,[],[bS x,iV y],rfl,⟨rfl,rfl,trivial⟩,AVle.of_eq rfl,rfl⟩
end
section
open Go.Shelf Go.RowKit
section
variable (at' : List Pl) (g : Gn) (us : List (List Nat)) (k : Nat)
def slB : Bool := (List.range k).all fun j => decide ((sealN (at'.getD j pz0) g (us.getD j [])).2 = 0 ∧ (us.getD j []).length = 32)
def slL : List (List Nat) := (List.range k).map fun j => (sealN (at'.getD j pz0) g (us.getD j [])).1
theorem slB_succ : slB at' g us (k + 1) = (slB at' g us k && decide ((sealN (at'.getD k pz0) g (us.getD k [])).2 = 0 ∧ (us.getD k []).length = 32)) := by
 unfold slB;rw [List.range_succ,List.all_append];simp
theorem slL_succ : slL at' g us (k + 1) = slL at' g us k ++ [(sealN (at'.getD k pz0) g (us.getD k [])).1] := by
 unfold slL;rw [List.range_succ,List.map_append];rfl
theorem slL_len : (slL at' g us k).length = k := by simp [slL]
end
theorem slB_get {at' : List Pl} {g : Gn} {us : List (List Nat)} {n : Nat} (h : slB at' g us n = true) {k : Nat} (hk : k < n) : (sealN (at'.getD k pz0) g (us.getD k [])).2 = 0 ∧ (us.getD k []).length = 32 := by
 unfold slB at h
 rw [List.all_eq_true] at h
 exact of_decide_eq_true (h k (List.mem_range.2 hk))
theorem seal_other {p : Pl} {g g' : Gn} {u : List Nat} (hp : plB p = true) (hg : gnB g = true) (hb : isB u) (hu : u.length ≤ 40) (hne : g ≠ g') : staN p g' (sealL p g u) true = (3,[]) := by
 unfold staN
 rw [if_pos rfl,if_neg]
 rintro ⟨_,h⟩
 rw [seal_labG hg] at h
 exact hne h
attribute [local irreducible] Quiet Eff OpOk AWPG ACont ABlock ACalls AGoto
theorem A_lsealOk {at' : List Pl} {g : Gn} {us : List (List Nat)} (ha : at'.length = us.length) (hul : us.length ≤ 1000000) (hub : ∀ u ∈ us,isB u ∧ u.length ≤ 9223372036854775807) (hB : slB at' g us us.length = true) : ACalls Tryz.prog 80 [pcs at',gnA g,strs us] [] (.tup [.osl 0 us.length 0 us.length,bV true]) [.row us.length 1 9 ((slL at' g us us.length).map sD)] := by
 refine acalls_of_bodyO Tryz.func80 rfl (zU rfl) ?_
 have hma : (at'.map pcD).length = at'.length := List.length_map _
 have hmu : (us.map sD).length = us.length := List.length_map _
 have hget := fun k (hk : k < us.length) => slB_get hB hk
 have hsu := slL_succ at' g us
 have hsl := slL_len at' g us
 (repeat' (first
  |(apply W.qd;(first
  |(exact zM)|(exact zN)|(exact jAu)
  |(exact jBc)))|(apply W.ed;(exact jAc))|(apply yA)|(apply yB)|(apply (W.regionS 4);exact rfl;kernel_rfl)|(apply yE)|(apply yH)
  |(refine W.cond _ rfl (fun hb => ?_) (fun hb => ?_) <;> ((try simp only [hb,zK]) <;> (try simp only [zL,zI] at hb) <;> (try (exfalso;omega))))))
 all_goals try (exfalso;omega)
 refine AWP.nilRow 8 1 9 rfl (by omega) ?_
 (repeat' (first
  |(apply W.qd;(first
  |(exact zM)
  |(exact jBc)))|(apply yB)|(apply (W.regionS 5);exact rfl;kernel_rfl)|(apply yE)
  |(apply yG)))
 refine AWP.loopW (α := Nat) (fun k => k ≤ us.length) (fun k => ⟨[(20,iV k),(19,iV us.length),(18,strs us),(0,pcs at'),(4,.opt 0 0),(8,.osl 1 k 0 k)],[.box [iV g.1,iV g.2],.row k 1 9 ((slL at' g us k).map sD)]⟩) (fun k => us.length - k) 0 (Nat.zero_le _) ?wkA fun k hk => ?_
 case wkA =>
  exact ⟨[0,1],rfl,rfl,rfl,rfl,iV_eq (by omega),rfl,rfl,rfl,rfl,trivial⟩
 by_cases hkl : k < us.length
 ·have hka : k < at'.length := by omega
  have e2 : us.getD k [] = us[k] := by rw [List.getD_eq_getElem?_getD,List.getElem?_eq_getElem hkl];rfl
  have e3 : at'.getD k pz0 = at'[k] := by rw [List.getD_eq_getElem?_getD,List.getElem?_eq_getElem hka];rfl
  have h1 := hget k hkl
  have h2 := hsu k
  have l1 := hsl k
  rw [e2,e3] at h1 h2
  have hu := hub _ (List.getElem_mem hkl)
  have hs := A_rseal (p := at'[k]) (g := g) hu.1 hu.2
  rw [h1.1] at hs
  have h32 := h1.2
  clear hget hsu hsl h1
  generalize (sealN at'[k] g us[k]).1 = x at *
  generalize slL at' g us k = S1 at *
  have b1 : (S1 ++ [x]).length = k + 1 := by simp [l1]
  (repeat' (first
   |(apply yFb;exact rfl;exact rfl)
   |(apply W.qd;(first
   |(exact zW (hs))|(exact zM)|(exact zN)|(exact jAm)|(exact jAj)|(exact jAu)|(exact jAi)|(exact jBa)|(exact q_len_bs rfl rfl)|(exact jAe)|(exact jAy)|(exact jAl)|(exact jA)
   |(apply (yDb (u := .d _));exact rfl;exact rfl)))|(apply W.ed;((apply (e_app1F (l := S1) (f := sD) x);exact congrArg (AV.osl 1 k 0) l1.symm;(iterate 7 exact rfl);omega)))|(apply yA)|(apply yB)|(refine jAd ?_)|(refine jAs ?_)|(apply yE)|(refine jBb ?_)|(apply yG)|(apply yH)|(apply yL)
   |(refine W.cond _ rfl (fun hb => ?_) (fun hb => ?_) <;> ((try simp only [hb,zK]) <;> (try simp only [zL,zI] at hb) <;> (try (exfalso;omega))))))
  all_goals first
   |(exfalso;omega)|(refine ⟨k + 1,by omega,by omega,?_⟩;(try dsimp only);rw [h2,b1];exact ⟨[0,1],rfl,rfl,rfl,iV_eq (by omega),rfl,rfl,rfl,rfl,rfl,trivial⟩)
 ·obtain rfl : k = us.length := by omega
  (repeat' (first
   |(apply W.qd;(first
   |(exact zM)|(exact zN)
   |(exact jAj)))|(apply yA)|(apply yB)|(refine jAd ?_)|(apply yE)|(apply yI)|(apply yJ)|(apply yK)|(apply yM)
   |(refine W.cond _ rfl (fun hb => ?_) (fun hb => ?_) <;> ((try simp only [hb,zK]) <;> (try simp only [zL,zI] at hb) <;> (try (exfalso;omega))))))
  all_goals first
   |(exfalso;omega)
   |exact ⟨.inl rfl,[1],[.osl 1 us.length 0 us.length,bV true],rfl,rfl,⟨rfl,rfl,trivial⟩,AVle.of_eq rfl,rfl⟩
def p40 : List Pl := [(0,4,7),(1,4,7),(2,4,7)]
def g40 : Gn := (1,5)
def u40 (b : Nat) : List Nat := List.replicate 32 b
theorem isB_u40 {b : Nat} (h : b < 256) : isB (u40 b) := fun x hx => by rw [(List.mem_replicate.1 hx).2];exact h
theorem ok40 : CodeOk 8 2 [[1,1]] := ⟨.inl rfl,by decide,by decide,by decide⟩
abbrev s40 (k : Int) (b : Nat) : List Nat := sealL (k,4,7) g40 (u40 b)
theorem seal40 {k : Int} {b : Nat} (hk : plB (k,4,7) = true) : sealN (k,4,7) g40 (u40 b) = (s40 k b,0) := by
 unfold sealN
 rw [if_pos ⟨hk,by decide,by simp [u40]⟩]
theorem st40 {k : Int} {b : Nat} (hk : plB (k,4,7) = true) (hb : b < 256) : staN (k,4,7) g40 (s40 k b) true = (1,u40 b) := seal_state hk (by decide) (isB_u40 hb) (by simp [u40]) (by simp [u40])
theorem slB40 : slB p40 g40 [u40 97,u40 98,u40 3] 3 = true := by
 have e : slB p40 g40 [u40 97,u40 98,u40 3] 3 = (decide ((sealN (0,4,7) g40 (u40 97)).2 = 0 ∧ (u40 97).length = 32) && (decide ((sealN (1,4,7) g40 (u40 98)).2 = 0 ∧ (u40 98).length = 32) && (decide ((sealN (2,4,7) g40 (u40 3)).2 = 0 ∧ (u40 3).length = 32) && true))) := rfl
 rw [e,seal40 (by decide),seal40 (by decide),seal40 (by decide)]
 simp [u40]
theorem slL40 : slL p40 g40 [u40 97,u40 98,u40 3] 3 = [s40 0 97,s40 1 98,s40 2 3] := by
 have e : slL p40 g40 [u40 97,u40 98,u40 3] 3 = [(sealN (0,4,7) g40 (u40 97)).1,(sealN (1,4,7) g40 (u40 98)).1,(sealN (2,4,7) g40 (u40 3)).1] := rfl
 rw [e,seal40 (by decide),seal40 (by decide),seal40 (by decide)]
theorem rpN_three {g : Gn} {x y z : List Nat} {a b c : Bool} : rpN 8 2 [[1,1]] p40 g [x,y,z] [a,b,c] = repU 8 2 [[1,1]] (stU [staN (0,4,7) g x a,staN (1,4,7) g y b,staN (2,4,7) g z c]) (stS [staN (0,4,7) g x a,staN (1,4,7) g y b,staN (2,4,7) g z c]) (stH [staN (0,4,7) g x a,staN (1,4,7) g y b,staN (2,4,7) g z c]) := rfl
theorem sta_no {p : Pl} {g : Gn} {s : List Nat} : staN p g s false = (2,[]) := rfl
theorem rp40a : rpN 8 2 [[1,1]] p40 g40 [s40 0 97,s40 1 98,s40 2 3] [true,true,true] = (1,[1,1,1],[u40 97,u40 98,u40 3],-1) := by
 rw [rpN_three,st40 (by decide) (by decide),st40 (by decide) (by decide),st40 (by decide) (by decide)]
 kernel_rfl
theorem rp40b : rpN 8 2 [[1,1]] p40 (1,4) [s40 0 97,s40 1 98,s40 2 3] [true,true,true] = (3,[3,3,3],[[],[],[]],-1) := by
 rw [rpN_three,seal_other (by decide) (by decide) (isB_u40 (by decide)) (by simp [u40]) (by decide),seal_other (by decide) (by decide) (isB_u40 (by decide)) (by simp [u40]) (by decide),seal_other (by decide) (by decide) (isB_u40 (by decide)) (by simp [u40]) (by decide)]
 kernel_rfl
theorem rp40c : rpN 8 2 [[1,1]] p40 g40 [s40 0 97,s40 1 98,s40 2 3] [true,false,true] = (1,[1,2,1],[u40 97,u40 98,u40 3],-1) := by
 rw [rpN_three,st40 (by decide) (by decide),sta_no,st40 (by decide) (by decide)]
 kernel_rfl
theorem rp40d : rpN 8 2 [[1,1]] p40 g40 [s40 0 97,s40 1 98,s40 2 3] [false,false,true] = (3,[2,2,1],[[],[],u40 3],-1) := by
 rw [rpN_three,sta_no,sta_no,st40 (by decide) (by decide)]
 kernel_rfl
theorem rp40e : rpN 8 2 [[1,1]] p40 g40 [s40 0 97,s40 1 97,s40 2 3] [true,true,true] = (2,[1,1,1],[[],[],[]],-1) := by
 rw [rpN_three,st40 (by decide) (by decide),st40 (by decide) (by decide),st40 (by decide) (by decide)]
 kernel_rfl
theorem fx40c : fixN p40 g40 (1,[1,2,1],[u40 97,u40 98,u40 3],-1) = ([(1,s40 1 98)],0) := rfl
theorem fx40d : fixN p40 g40 (3,[2,2,1],[[],[],u40 3],-1) = ([],11) := rfl
theorem A_rep97 : ACalls Tryz.prog 79 [.d (.v (.string ⟨#[97]⟩)),iV 32] [] (bS (u40 97)) [] :=
 acalls_of_exact rfl fun w => Any.strings_Repeat layRepeat extra_repeat ⟨#[97]⟩ 32 w (by omega) (by decide)
theorem A_rep98 : ACalls Tryz.prog 79 [.d (.v (.string ⟨#[98]⟩)),iV 32] [] (bS (u40 98)) [] :=
 acalls_of_exact rfl fun w => Any.strings_Repeat layRepeat extra_repeat ⟨#[98]⟩ 32 w (by omega) (by decide)
theorem A_rep3 : ACalls Tryz.prog 79 [.d (.v (.string ⟨#[3]⟩)),iV 32] [] (bS (u40 3)) [] :=
 acalls_of_exact rfl fun w => Any.strings_Repeat layRepeat extra_repeat ⟨#[3]⟩ 32 w (by omega) (by decide)
end
section
theorem Ends.cell2K {P : Program} {env : List (Nat × AV)} {own own' : List Ent} {t p i : Nat} {tyc : TypeId} {l : List AV} {y r : AV} {mm : Nat} (js : List Nat) (hx : look env p = .opt i 0) (ho : own[i]? = some (.box l)) (ht : tyInfo P tyc = some (true,l.length)) (hy : look env t = y) (hj : selOk own js = true) (hm : js.take mm = List.range mm) (hs : selOwn own js = own') (hr : AV.frz own js (.tup [.agg l,y]) = r) : EndsO P mm [.cell p tyc,.tmp t] r own' .ret ⟨env,own⟩ :=
 ⟨.inl rfl,js,[.agg l,y],hj,hm,⟨⟨i,l,true,hx,ho,ht,rfl⟩,hy,trivial⟩,AVle.of_eq hr,hs⟩
theorem frz_repK1 {own : List Ent} {n : Nat} {e : TypeId} {l : List Int} {a b c : Int} {y : Dat} (h : own[4]? = some (.row 0 1 e (l.map iD))) (hn : n = l.length) : AV.frz own [0] (.tup [.agg [iV a,.osl 4 0 0 n,.d y,iV b],iV c]) = .tup [.agg [iV a,ints l,.d y,iV b],iV c] := by
 show AV.tup [.agg [iV a,AV.frz own [0] (.osl 4 0 0 n),.d y,iV b],iV c] = _
 rw [frz_rowJ h rfl (by rw [List.length_map];exact hn)]
theorem frz_repK2 {own : List Ent} {n : Nat} {e e' : TypeId} {l : List Int} {q : List (List Nat)} {a b c : Int} (h : own[4]? = some (.row 0 1 e (l.map iD))) (hn : n = l.length) (h' : own[5]? = some (.row 0 1 e' (q.map sD))) (hn' : n = q.length) : AV.frz own [0] (.tup [.agg [iV a,.osl 4 0 0 n,.osl 5 0 0 n,iV b],iV c]) = .tup [.agg [iV a,ints l,strs q,iV b],iV c] := by
 show AV.tup [.agg [iV a,AV.frz own [0] (.osl 4 0 0 n),AV.frz own [0] (.osl 5 0 0 n),iV b],iV c] = _
 rw [frz_rowJ h rfl (by rw [List.length_map];exact hn),frz_rowJ h' rfl (by rw [List.length_map];exact hn')]
attribute [local irreducible] Quiet Eff OpOk AWPG ACont ABlock ACalls AGoto
theorem A_checkBR {M D : Int} {par : List (List Int)} {at' : List Pl} {g : Gn} {ss : List (List Nat)} {rd : List Bool} {v : Nat} (hp : CodeIn par) (h : chkB M D par at' ss rd = false) (hD : D ≤ 1000000) (hP : par.length ≤ 1000000) : ACalls Tryz.prog 38 [cdA M D par,pcs at',gnA g,.osl 0 v 0 ss.length,bools rd] [.row v 1 9 (ss.map sD)] (.tup [rpA rep0,iV 1]) [.row v 1 9 (ss.map sD)] := by
 refine acalls_of_bodyO Tryz.func38 rfl (zU rfl) ?_
 have hw := A_ewidth (M := M) (D := D) hp
 have hma : (at'.map pcD).length = at'.length := List.length_map _
 have hms : (ss.map sD).length = ss.length := List.length_map _
 have hmr : (rd.map tD).length = rd.length := List.length_map _
 unfold chkB at h
 cases hv : validC M D par with
 | false =>
   rw [hv,if_neg (by decide)] at hw
   (repeat' (first
    |(apply W.qd;(first
    |(exact zW (hw))|(exact zM)|(exact zN)|(exact jAm)|(exact jB)|(exact jAz)
    |(apply (yEb (u := .d _));exact rfl;exact rfl)))
    |(apply W.ed;(first
    |(exact jAc)
    |(exact jAo)))|(apply W.ln;(exact jAh))|(refine W.gOff _ _ rfl rfl (by intro h;cases h) ?_)|(apply yA)|(apply yB)|(refine jAd ?_)|(apply yE)|(apply yJ)|(apply yP)
    |(refine jBf ?_)))
   all_goals first
    |(exfalso;omega)
    |exact ⟨.inl rfl,[0],[.agg [iV 0,.d (.v (.slice none 0 0)),.d (.v (.slice none 0 0)),iV 0],iV 1],rfl,rfl,⟨⟨3,_,true,rfl,rfl,rfl,rfl⟩,rfl,trivial⟩,AVle.tup ⟨AVle.agg ⟨AVle.of_eq rfl,AVle.nil 1,AVle.nil 1,AVle.of_eq rfl,trivial⟩,AVle.of_eq rfl,trivial⟩,rfl⟩
 | true =>
   rw [hv,if_pos rfl] at hw
   rw [hv,Bool.true_and,decide_eq_false_iff_not] at h
   (repeat' (first
    |(apply yFb;exact rfl;exact rfl)
    |(apply W.qd;(first
    |(exact zW (hw))|(exact zM)|(exact zN)|(exact jAm)|(exact jB)|(exact jAu)|(exact jBc)|(exact q_len_osl rfl rfl rfl)|(exact jAz)|(apply (yEb (u := .d _));exact rfl;exact rfl)
    |(apply (yDb (u := .d _));exact rfl;exact rfl)))
    |(apply W.ed;(first
    |(exact jAc)
    |(exact jAo)))|(apply W.ln;(exact jAh))|(refine W.gOff _ _ rfl rfl (by intro h;cases h) ?_)|(apply yA)|(apply yB)|(apply (W.regionS 4);exact rfl;kernel_rfl)|(apply yE)|(apply yJ)|(apply yP)|(refine jBf ?_)|(refine W.gF _ _ rfl rfl (fun hb => ?_) (fun hb => ?_) <;> ((try simp only [hb,zK]) <;> (try simp only [zL,zI] at hb) <;> (try (exfalso;omega))))
    |(refine W.cond _ rfl (fun hb => ?_) (fun hb => ?_) <;> ((try simp only [hb,zK]) <;> (try simp only [zL,zI] at hb) <;> (try (exfalso;omega))))))
   all_goals first
    |(exfalso;omega)
    |exact ⟨.inl rfl,[0],[.agg [iV 0,.d (.v (.slice none 0 0)),.d (.v (.slice none 0 0)),iV 0],iV 1],rfl,rfl,⟨⟨3,_,true,rfl,rfl,rfl,rfl⟩,rfl,trivial⟩,AVle.tup ⟨AVle.agg ⟨AVle.of_eq rfl,AVle.nil 1,AVle.nil 1,AVle.of_eq rfl,trivial⟩,AVle.of_eq rfl,trivial⟩,rfl⟩
theorem A_checkR {M D : Nat} {ps : List (List Nat)} {at' : List Pl} {g : Gn} {ss : List (List Nat)} {rd : List Bool} {v : Nat} (h : CodeOk M D ps) (ha : at'.length = D + ps.length) (hs : ss.length = D + ps.length) (hr : rd.length = D + ps.length) (hsb : ∀ s ∈ ss,isB s ∧ s.length ≤ 9223372036854775807) : ACalls Tryz.prog 38 [cdN M D ps,pcs at',gnA g,.osl 0 v 0 ss.length,bools rd] [.row v 1 9 (ss.map sD)] (.tup [rpA (rpN M D ps at' g ss rd),iV 0]) [.row v 1 9 (ss.map sD)] := by
 refine acalls_of_bodyO Tryz.func38 rfl (zU rfl) ?_
 have h1 := h.d
 have h2 := h.w
 have hma : (at'.map pcD).length = at'.length := List.length_map _
 have hms : (ss.map sD).length = ss.length := List.length_map _
 have hmr : (rd.map tD).length = rd.length := List.length_map _
 have hw := A_ewidthN h
 have hsrc := sta_src (at' := at') (g := g) (rd := rd) h (fun s hx => (hsb s hx).1)
 have hhl := hsrc.hl
 have f1 := A_locate hsrc
 have f2 := A_correct hsrc
 have f3 := fun u (hu : u < D + ps.length) => A_erecS hsrc (u := u) hu
 have hlc := loc_cases M D ps (stU (staL at' g ss rd (D + ps.length))) (stH (staL at' g ss rd (D + ps.length)))
 obtain ⟨m1,m2,m3⟩ := sta_maps at' g ss rd (D + ps.length)
 have hSl : (stS (staL at' g ss rd (D + ps.length))).length = D + ps.length := by unfold stS;rw [List.length_map,staL_length]
 unfold rpN repU
 generalize stU (staL at' g ss rd (D + ps.length)) = U at *
 generalize stS (staL at' g ss rd (D + ps.length)) = S at *
 generalize stH (staL at' g ss rd (D + ps.length)) = H at *
 have hstt := fun k (hk : k < ss.length) (ha : k < at'.length) (hr : k < rd.length) => A_state (p := at'[k]) (g := g) (s := ss[k]) (r := rd[k]) (hsb _ (List.getElem_mem hk)).1 (hsb _ (List.getElem_mem hk)).2
 have hga : ∀ k (hk : k < at'.length),at'.getD k pz0 = at'[k] := fun k hk => by rw [List.getD_eq_getElem?_getD,List.getElem?_eq_getElem hk];rfl
 have hgs : ∀ k (hk : k < ss.length),ss.getD k [] = ss[k] := fun k hk => by rw [List.getD_eq_getElem?_getD,List.getElem?_eq_getElem hk];rfl
 have hgr : ∀ k (hk : k < rd.length),rd.getD k false = rd[k] := fun k hk => by rw [List.getD_eq_getElem?_getD,List.getElem?_eq_getElem hk];rfl
 generalize hfS : (fun k => (staN (at'.getD k pz0) g (ss.getD k []) (rd.getD k false)).1) = fS at *
 generalize hfU : (fun k => (staN (at'.getD k pz0) g (ss.getD k []) (rd.getD k false)).2) = fU at *
 generalize hfH : (fun k => decide ((staN (at'.getD k pz0) g (ss.getD k []) (rd.getD k false)).1 = 1)) = fH at *
 have eS : ∀ k (hk : k < ss.length) (ha : k < at'.length) (hr : k < rd.length),fS k = (staN at'[k] g ss[k] rd[k]).1 := fun k hk ha hr => by rw [← hfS];show (staN _ _ _ _).1 = _;rw [hga k ha,hgs k hk,hgr k hr]
 have eU : ∀ k (hk : k < ss.length) (ha : k < at'.length) (hr : k < rd.length),fU k = (staN at'[k] g ss[k] rd[k]).2 := fun k hk ha hr => by rw [← hfU];show (staN _ _ _ _).2 = _;rw [hga k ha,hgs k hk,hgr k hr]
 have eH : ∀ k (hk : k < ss.length) (ha : k < at'.length) (hr : k < rd.length),fH k = decide ((staN at'[k] g ss[k] rd[k]).1 = 1) := fun k hk ha hr => by rw [← hfH];show decide ((staN _ _ _ _).1 = 1) = _;rw [hga k ha,hgs k hk,hgr k hr]
 have hrec : ∀ k,k < D + ps.length → ∃ e : Int,ACalls Tryz.prog 88 [cdN M D ps,strs U,bools H,iV k] [] (.tup [bS ((recN M D ps U H k).getD []),iV e]) [] := fun k hk => by
  have h1 := f3 k hk
  obtain ⟨e,he⟩ := recR_eq (recN M D ps U H k)
  rw [he] at h1
  exact ⟨e,h1⟩
 generalize hR : (fun k => (recN M D ps U H k).getD []) = fR at *
 have eR : ∀ k,(recN M D ps U H k).getD [] = fR k := fun k => congrFun hR k
 simp only [eR] at hrec ⊢
 clear hfS hfU hfH hga hgs hgr f3 hsrc hR eR
 generalize locN M D ps U H = L at *
 generalize corN M D ps U H = C at *
 generalize hn : D + ps.length = n at *
 (repeat' (first
  |(apply yFb;exact rfl;exact rfl)
  |(apply W.qd;(first
  |(exact zW (hw))|(exact zM)|(exact zN)|(exact jAm)|(exact jB)|(exact jAu)|(exact jBc)|(exact q_len_osl rfl rfl rfl)
  |(apply (yDb (u := .d _));exact rfl;exact rfl)))
  |(apply W.ed;(first
  |(exact jAc)
  |(exact jAo)))|(apply yA)|(apply yB)|(apply (W.regionS 4);exact rfl;kernel_rfl)|(apply yE)|(apply yH)|(refine W.gF _ _ rfl rfl (fun hb => ?_) (fun hb => ?_) <;> ((try simp only [hb,zK]) <;> (try simp only [zL,zI] at hb) <;> (try (exfalso;omega))))
  |(refine W.cond _ rfl (fun hb => ?_) (fun hb => ?_) <;> ((try simp only [hb,zK]) <;> (try simp only [zL,zI] at hb) <;> (try (exfalso;omega))))))
 all_goals try (exfalso;omega)
 refine AWP.hole rfl (AWP.hole rfl (AWP.hole rfl ?_))
 (repeat' (first
  |(apply W.qd;(first
  |(exact zM)
  |(exact jAz)))
  |(apply W.ld;(first
  |(apply (l_make (f := iD) 0);(iterate 10 exact rfl);kernel_rfl;omega)|(apply (l_make (f := sD) []);(iterate 10 exact rfl);kernel_rfl;omega)
  |(apply l_alloc;(iterate 3 exact rfl);kernel_rfl;kernel_rfl)))|(apply W.ln;(exact jAh))|(apply yA)|(apply yB)|(apply (W.regionDS 5);exact rfl;exact rfl;kernel_rfl)|(apply yE)
  |(refine jBb ?_)))
 refine AWP.hole rfl (AWP.hole rfl ?_)
 (repeat' (first
  |(apply W.qd;(first
  |(exact zM)
  |(exact zN)))
  |(apply W.ld;(first
  |(apply (l_make (f := tD) false);(iterate 10 exact rfl);kernel_rfl;omega)
  |(apply (l_make (f := sD) []);(iterate 10 exact rfl);kernel_rfl;omega)))|(apply yA)|(apply yB)|(apply (W.regionS 7);exact rfl;kernel_rfl)|(apply (W.regionDS 7);exact rfl;exact rfl;kernel_rfl)|(apply yE)|(refine jBb ?_)
  |(apply yG)))
 refine AWP.loopW (α := Nat) (fun k => k ≤ n) (fun k => ⟨[(53,iV k),(52,iV n),(12,iV n),(13,.opt 6 0),(14,.osl 7 0 0 n),(15,.osl 8 0 0 n),(1,pcs at'),(3,.osl 0 v 0 ss.length),(4,bools rd),(5,.opt 1 0),(7,.opt 2 0),(10,.opt 3 0)],[.row v 1 9 (ss.map sD),.box [.d .any,iV M,iV D,rowsN ps,.d .any],.box [iV g.1,iV g.2],.box [iV 0,.d (.v (.slice none 0 0)),.d (.v (.slice none 0 0)),iV 0],.row 0 1 3 ((fil fS 0 n k).map iD),.row 0 1 9 ((List.replicate n []).map sD),.box [iV 1,.osl 4 0 0 n,.osl 5 0 0 n,iV (-1)],.row 0 1 9 ((fil fU [] n k).map sD),.row 0 1 4 ((fil fH false n k).map tD)]⟩) (fun k => n - k) 0 (Nat.zero_le _) ?wkA fun k hk => ?_
 case wkA =>
  rw [fil_zero,fil_zero,fil_zero]
  exact ⟨[0,1,2,3,4,5,6,7,8],rfl,rfl,rfl,by (repeat (first | exact trivial | refine ⟨rfl,?_⟩))⟩
 by_cases hkl : k < n
 ·have hka : k < at'.length := by omega
  have hks : k < ss.length := by omega
  have hkr : k < rd.length := by omega
  have hst := hstt k hks hka hkr
  have e1 := eS k hks hka hkr
  have e2 := eU k hks hka hkr
  have e3 := eH k hks hka hkr
  have s1 := fil_set (f := fS) (z := 0) hkl
  have s2 := fil_set (f := fU) (z := []) hkl
  have s3 := fil_set (f := fH) (z := false) hkl
  have g1 := fil_map (f := fS) (z := 0) (n := n) iD (k := k + 1) (j := k) (by omega) (by omega)
  have l1 := fil_len (f := fS) (z := 0) (n := n) k
  have l2 := fil_len (f := fU) (z := []) (n := n) k
  have l3 := fil_len (f := fH) (z := false) (n := n) k
  have l4 := fil_len (f := fS) (z := 0) (n := n) (k + 1)
  rw [e1] at s1 g1
  rw [e2] at s2
  rw [e3] at s3
  generalize staN at'[k] g ss[k] rd[k] = q at *
  obtain ⟨x,y⟩ := q
  dsimp only at *
  have gk : (ss.map sD)[k]? = some (sD ss[k]) := by rw [List.getElem?_map,List.getElem?_eq_getElem hks];rfl
  clear f1 f2 hlc hrec hstt eS eU eH m1 m2 m3
  generalize fil fS 0 n k = S1 at *
  generalize fil fU [] n k = U1 at *
  generalize fil fH false n k = H1 at *
  (repeat' (first
   |(apply W.qd;(first
   |(exact zW (hst))
   |((apply q_ld_rpt;(iterate 3 exact rfl);exact gk;exact rfl))|(exact zM)|(exact zN)|(exact jAr)|(exact jAk)|(exact jAm)|(exact jAj)|(exact jBa)|(exact jAe)|(exact jAy)|(exact jA)
   |(exact jAb)))|(apply W.ln;(exact jAg))|(apply yA)|(apply yB)|(apply (W.regionS 10);exact rfl;kernel_rfl)|(apply (W.regionDS 10);exact rfl;exact rfl;kernel_rfl)|(apply yE)|(refine jBb ?_)|(apply yG)|(apply yH)
   |(refine W.cond _ rfl (fun hb => ?_) (fun hb => ?_) <;> ((try simp only [hb,zK]) <;> (try simp only [zL,zI] at hb) <;> (try (exfalso;omega))))))
  all_goals try (exfalso;omega)
  rw [s1,s2]
  (repeat' (first
   |(apply W.qd;(first
   |((apply q_ld_rpt;(iterate 3 exact rfl);exact g1;exact rfl))|(exact zM)|(exact jAr)|(exact jAk)|(exact jB)|(exact jAi)
   |(exact jAb)))|(apply W.ln;(exact jAg))|(apply yB)|(refine jAd ?_)|(apply yE)
   |(apply yL)))
  all_goals first
   |(exfalso;omega)|(refine ⟨k + 1,by omega,by omega,?_⟩;(try dsimp only);rw [← s3];exact ⟨[0,1,2,3,4,5,6,7,8],rfl,rfl,rfl,iV_eq (by omega),rfl,rfl,rfl,rfl,rfl,rfl,rfl,rfl,rfl,rfl,rfl,trivial⟩)
 ·obtain rfl : k = n := by omega
  rw [fil_all,fil_all,fil_all,m1,m2,m3]
  have hUl : k = (U.map sD).length := by rw [← m2];simp
  have hHl : k = (H.map tD).length := by rw [← m3];simp
  clear hstt eS eU eH m1 m2 m3
  refine AWP.wk ⟨[(53,iV k),(52,iV k),(12,iV k),(13,.opt 6 0),(14,strs U),(15,bools H),(5,.opt 1 0),(10,.opt 3 0)],[.row v 1 9 (ss.map sD),.box [.d .any,iV M,iV D,rowsN ps,.d .any],.box [iV g.1,iV g.2],.box [iV 0,.d (.v (.slice none 0 0)),.d (.v (.slice none 0 0)),iV 0],.row 0 1 3 (S.map iD),.row 0 1 9 ((List.replicate k []).map sD),.box [iV 1,.osl 4 0 0 k,.osl 5 0 0 k,iV (-1)]]⟩ ⟨[0,1,2,3,4,5,6],rfl,rfl,rfl,rfl,rfl,rfl,rfl,(frz_rowJ rfl rfl hUl).symm,(frz_rowJ rfl rfl hHl).symm,rfl,rfl,trivial⟩ ?_
  rcases hlc with ⟨u,hu,hL⟩ | hL | hL | hL
  ·rw [hL] at f1 ⊢
   rw [if_pos rfl]
   have huk : u < k := by omega
   obtain ⟨c1,c2⟩ := C
   (repeat' (first
    |(apply W.qd;(first
    |(exact zW (f1))|(exact zW (f2))|(exact zM)|(exact zN)|(exact jAr)|(exact jAk)|(exact jAm)|(exact jAj)|(exact jB)|(exact jBa)
    |(exact jAb)))
    |(apply W.ln;(first
    |(exact jAh)
    |(exact jAg)))|(apply yA)|(apply yB)|(refine jAd ?_)|(apply yE)|(apply yG)|(apply yI)|(apply yJ)|(apply yK)|(apply yL)|(apply yM)|(apply yO;exact rfl)|(refine jBf ?_)
    |(refine W.cond _ rfl (fun hb => ?_) (fun hb => ?_) <;> ((try simp only [hb,zK]) <;> (try simp only [zL,zI] at hb) <;> (try (exfalso;omega))))))
   all_goals first
    |(exfalso;omega)|(refine Ends.cell2K [0] rfl rfl rfl rfl rfl rfl rfl ?_;exact frz_repK1 rfl (by rw [List.length_set];exact hSl.symm))
  ·rw [hL] at f1 ⊢
   rw [if_neg (by decide),if_pos rfl]
   obtain ⟨c1,c2⟩ := C
   (repeat' (first
    |(apply W.qd;(first
    |(exact zW (f1))|(exact zW (f2))|(exact zM)|(exact zN)|(exact jAr)|(exact jAm)|(exact jAj)|(exact jB)
    |(exact jBa)))|(apply W.ln;(exact jAh))|(apply yA)|(apply yB)|(refine jAd ?_)|(apply yE)|(apply yG)|(apply yH)|(apply yI)|(apply yJ)|(apply yK)|(apply yM)|(apply yO;exact rfl)|(refine jBf ?_)|(refine jAx ?_)
    |(refine W.cond _ rfl (fun hb => ?_) (fun hb => ?_) <;> ((try simp only [hb,zK]) <;> (try simp only [zL,zI] at hb) <;> (try (exfalso;omega))))))
   all_goals first
    |(exfalso;omega)|(refine Ends.cell2K [0] rfl rfl rfl rfl rfl rfl rfl ?_;exact frz_repK1 rfl hSl.symm)
  ·rw [hL] at f1 ⊢
   rw [if_neg (by decide),if_neg (by decide),if_pos rfl]
   (repeat' (first
    |(apply W.qd;(first
    |(exact zW (f1))|(exact zM)|(exact zN)|(exact jAr)|(exact jAm)|(exact jAj)|(exact jB)
    |(exact jBa)))|(apply W.ln;(exact jAh))|(apply yA)|(apply yB)|(refine jAd ?_)|(apply yE)|(apply yG)|(apply yH)|(apply yI)|(apply yJ)|(apply yK)|(apply yM)|(apply yO;exact rfl)|(refine jBf ?_)|(refine jAx ?_)
    |(refine W.cond _ rfl (fun hb => ?_) (fun hb => ?_) <;> ((try simp only [hb,zK]) <;> (try simp only [zL,zI] at hb) <;> (try (exfalso;omega))))))
   all_goals first
    |(exfalso;omega)|(refine Ends.cell2K [0] rfl rfl rfl rfl rfl rfl rfl ?_;exact frz_repK2 rfl hSl.symm rfl (by rw [List.length_replicate]))
  ·rw [hL] at f1 ⊢
   rw [if_neg (by decide),if_neg (by decide),if_neg (by decide)]
   (repeat' (first
    |(apply W.qd;(first
    |(exact zW (f1))|(exact zM)|(exact zN)|(exact jAr)|(exact jAm)|(exact jAj)|(exact jB)
    |(exact jBa)))|(apply W.ln;(exact jAh))|(apply yA)|(apply yB)|(apply (W.regionS 23);exact rfl;kernel_rfl)|(apply yE)|(apply yG)|(apply yH)|(apply yI)|(apply yK)|(apply yM)|(apply yO;exact rfl)|(refine jAx ?_)
    |(refine W.cond _ rfl (fun hb => ?_) (fun hb => ?_) <;> ((try simp only [hb,zK]) <;> (try simp only [zL,zI] at hb) <;> (try (exfalso;omega))))))
   all_goals try (exfalso;omega)
   refine AWP.loopW (α := Nat) (fun j => j ≤ k) (fun j => ⟨[(121,iV j),(120,iV k),(13,.opt 6 0),(14,strs U),(15,bools H),(5,.opt 1 0),(10,.opt 3 0)],[.row v 1 9 (ss.map sD),.box [.d .any,iV M,iV D,rowsN ps,.d .any],.box [iV g.1,iV g.2],.box [iV 0,.d (.v (.slice none 0 0)),.d (.v (.slice none 0 0)),iV 0],.row 0 1 3 (S.map iD),.row 0 1 9 ((fil fR [] k j).map sD),.box [iV 3,.osl 4 0 0 k,.osl 5 0 0 k,iV (-1)]]⟩) (fun j => k - j) 0 (Nat.zero_le _) ?wkB fun j hj => ?_
   case wkB =>
    rw [fil_zero]
    exact ⟨[0,1,2,3,4,5,6],rfl,rfl,rfl,by (repeat (first | exact trivial | refine ⟨rfl,?_⟩))⟩
   by_cases hjl : j < k
   ·obtain ⟨e, hre⟩ := hrec j hjl
    have s1 := fil_set (f := fR) (z := []) hjl
    have l1 := fil_len (f := fR) (z := []) (n := k) j
    clear f1 f2 hrec
    generalize fR j = x at *
    generalize fil fR [] k j = R1 at *
    (repeat' (first
     |(apply W.qd;(first
     |(exact zW (hre))|(exact zM)|(exact zN)|(exact jAr)|(exact jAk)|(exact jAm)|(exact jAj)|(exact jAi)|(exact jBa)
     |(exact jAb)))|(apply W.ln;(exact jAg))|(apply yA)|(apply yB)|(refine jAd ?_)|(refine jAs ?_)|(apply yE)|(refine jBb ?_)|(apply yG)|(apply yH)|(apply yL)
     |(refine W.cond _ rfl (fun hb => ?_) (fun hb => ?_) <;> ((try simp only [hb,zK]) <;> (try simp only [zL,zI] at hb) <;> (try (exfalso;omega))))))
    all_goals first
     |(exfalso;omega)|(refine ⟨j + 1,by omega,by omega,?_⟩;(try dsimp only);rw [← s1];exact ⟨[0,1,2,3,4,5,6],rfl,rfl,rfl,iV_eq (by omega),rfl,rfl,rfl,rfl,rfl,rfl,trivial⟩)
   ·obtain rfl : j = k := by omega
    rw [fil_all]
    (repeat' (first
     |(apply W.qd;(first
     |(exact zN)|(exact jAm)
     |(exact jAj)))|(apply W.ln;(exact jAh))|(apply yA)|(apply yB)|(refine jAd ?_)|(apply yE)|(apply yI)|(apply yJ)|(apply yK)|(apply yM)
     |(refine W.cond _ rfl (fun hb => ?_) (fun hb => ?_) <;> ((try simp only [hb,zK]) <;> (try simp only [zL,zI] at hb) <;> (try (exfalso;omega))))))
    all_goals first
     |(exfalso;omega)|(refine Ends.cell2K [0] rfl rfl rfl rfl rfl rfl rfl ?_;exact frz_repK2 rfl hSl.symm rfl (by simp))
theorem A_fixesR {M D : Nat} {ps : List (List Nat)} {at' : List Pl} {g : Gn} {ss : List (List Nat)} {rd : List Bool} {v : Nat} (h : CodeOk M D ps) (ha : at'.length = D + ps.length) (hs : ss.length = D + ps.length) (hr : rd.length = D + ps.length) (hsb : ∀ s ∈ ss,isB s ∧ s.length ≤ 9223372036854775807) : ACalls Tryz.prog 40 [cdN M D ps,pcs at',gnA g,.osl 0 v 0 ss.length,bools rd] [.row v 1 9 (ss.map sD)] (.tup [fxs (fixN at' g (rpN M D ps at' g ss rd)).1,iV (fixN at' g (rpN M D ps at' g ss rd)).2]) [.row v 1 9 (ss.map sD)] := by
 refine acalls_of_bodyO Tryz.func40 rfl (zU rfl) ?_
 have h1 := h.d
 have h2 := h.w
 have hc := A_checkR (v := v) (g := g) h ha hs hr hsb
 have hcs := rpN_cases (at' := at') (g := g) (rd := rd) h (fun s hx => (hsb s hx).1)
 generalize rpN M D ps at' g ss rd = r at *
 obtain ⟨f,S,U,s⟩ := r
 generalize hn : D + ps.length = n at *
 unfold fixN
 dsimp only at hcs
 dsimp only [rpA] at hc
 rcases hcs with rfl | rfl | ⟨rfl,hS,hU,h32⟩
 ·rw [if_pos rfl]
  (repeat' (first
   |(apply W.qd;(first
   |(exact zM)|(exact zN)|(exact jAr)|(exact jAk)|(exact jAm)|(exact jB)|(exact jAu)
   |(exact jBa)))
   |(apply W.ed;(first
   |(apply (e_callJ (js := [0]) (hc));(iterate 5 exact rfl);kernel_rfl;kernel_rfl)|(exact jAc)
   |(exact jAo)))|(apply W.ln;(exact jAh))|(apply yA)|(apply yB)|(refine jAd ?_)|(apply yE)|(apply yG)|(apply yJ)|(apply yP)|(apply yN)|(refine jBf ?_)
   |(refine jAx ?_)))
  all_goals first
   |(exfalso;omega)
   |exact ⟨.inl rfl,[0],[.d (.v (.slice none 0 0)),iV 13],rfl,rfl,⟨rfl,rfl,trivial⟩,AVle.tup ⟨AVle.nil 2,AVle.of_eq rfl,trivial⟩,rfl⟩
 ·rw [if_neg (by simp), if_pos rfl]
  (repeat' (first
   |(apply W.qd;(first
   |(exact zM)|(exact zN)|(exact jAr)|(exact jAk)|(exact jAm)|(exact jB)|(exact jAu)
   |(exact jBa)))
   |(apply W.ed;(first
   |(apply (e_callJ (js := [0]) (hc));(iterate 5 exact rfl);kernel_rfl;kernel_rfl)|(exact jAc)
   |(exact jAo)))|(apply W.ln;(exact jAh))|(apply yA)|(apply yB)|(refine jAd ?_)|(apply yE)|(apply yG)|(apply yJ)|(apply yP)|(apply yN)|(refine jBf ?_)
   |(refine jAx ?_)))
  all_goals first
   |(exfalso;omega)
   |exact ⟨.inl rfl,[0],[.d (.v (.slice none 0 0)),iV 11],rfl,rfl,⟨rfl,rfl,trivial⟩,AVle.tup ⟨AVle.nil 2,AVle.of_eq rfl,trivial⟩,rfl⟩
 ·rw [if_neg (by simp), if_neg (by simp)]
  dsimp only
  have hmS : (S.map iD).length = S.length := List.length_map _
  have hmU : (U.map sD).length = U.length := List.length_map _
  (repeat' (first
   |(apply W.qd;(first
   |((apply q_makeBd;exact Eq.refl [AV.agg [pcs at',iV g.1,iV g.2]]))
   |((apply q_as;exact Eq.refl (AV.bd _ _)))|(exact zM)|(exact zN)|(exact jAr)|(exact jAk)|(exact jAm)|(exact jB)|(exact jAu)|(exact jBa)
   |(exact jAz)))
   |(apply W.ed;(first
   |(apply (e_callJ (js := [0]) (hc));(iterate 5 exact rfl);kernel_rfl;kernel_rfl)|(exact jAc)
   |(exact jAo)))|(apply W.ln;(exact jAh))|(apply yA)|(apply yB)|(apply (W.regionS 10);exact rfl;kernel_rfl)|(apply yE)|(apply yG)|(apply yH)|(apply yL)
   |(refine jAx ?_)))
  all_goals try (exfalso;omega)
  refine AWP.nilRow 15 2 107 rfl (by omega) ?_
  (repeat' (first
   |(apply W.qd;(first
   |(exact zM)|(exact jAr)|(exact jAk)
   |(exact jBc)))|(apply yB)|(apply (W.regionS 11);exact rfl;kernel_rfl)|(apply yE)
   |(apply yG)))
  refine AWP.loopW (α := Nat) (fun k => k ≤ n ∧ fixB at' g S k = true) (fun k => ⟨[(48,iV k),(47,iV n),(46,ints S),(12,.opt 3 0),(14,.bd 93 [.agg [pcs at',iV g.1,iV g.2]]),(15,.osl 4 (fixL at' g (1,S,U,s) k).length 0 (fixL at' g (1,S,U,s) k).length)],[.row v 1 9 (ss.map sD),.box [.d .any,iV M,iV D,rowsN ps,.d .any],.box [iV g.1,iV g.2],.box [iV 1,ints S,strs U,iV s],.row (fixL at' g (1,S,U,s) k).length 2 107 ((fixL at' g (1,S,U,s) k).map fxD)]⟩) (fun k => n - k) 0 ⟨Nat.zero_le _,rfl⟩ ?wkA fun k hk => ?_
  case wkA =>
   exact ⟨[0,1,2,3,4],rfl,rfl,rfl,rfl,iV_eq (by omega),rfl,rfl,rfl,rfl,trivial⟩
  obtain ⟨hk,hfb⟩ := hk
  have hfl := fixL_len (at' := at') (g := g) (r := (1,S,U,s)) (k := k)
  by_cases hkl : k < n
  ·have hka : k < at'.length := by omega
   have hkS : k < S.length := by omega
   have hkU : k < U.length := by omega
   have e1 : S.getD k 0 = S[k] := by rw [List.getD_eq_getElem?_getD,List.getElem?_eq_getElem hkS];rfl
   have e2 : U.getD k [] = U[k] := by rw [List.getD_eq_getElem?_getD,List.getElem?_eq_getElem hkU];rfl
   have e3 : at'.getD k pz0 = at'[k] := by rw [List.getD_eq_getElem?_getD,List.getElem?_eq_getElem hka];rfl
   have hL := fixL_succ (at' := at') (g := g) (r := (1,S,U,s)) (k := k)
   have hB := fixB_succ (at' := at') (g := g) (st := S) (k := k)
   have hm := fixB_mono (at' := at') (g := g) (st := S) (i := k + 1)
   have hu := h32 _ (List.getElem_mem hkU)
   have hcb := A_bseal (g := g) hka (by omega) hu.1 hu.2
   dsimp only at hL
   rw [e1,e2,e3] at hL
   rw [e1,e3,hfb,Bool.true_and] at hB
   by_cases hs1 : S[k] = 1
   ·rw [if_pos hs1, List.append_nil] at hL
    rw [decide_eq_true hs1,Bool.true_or] at hB
    clear hcb hc
    generalize fixL at' g (1,S,U,s) k = A at *
    (repeat' (first
     |(apply W.qd;(first
     |(exact zM)|(exact zN)|(exact jAj)|(exact jB)|(exact jAi)|(exact jAe)
     |(exact jA)))|(apply yA)|(apply yB)|(refine jAd ?_)|(apply yE)|(apply yG)|(apply yH)|(apply yI)|(apply yK)|(apply yM)
     |(refine W.cond _ rfl (fun hb => ?_) (fun hb => ?_) <;> ((try simp only [hb,zK]) <;> (try simp only [zL,zI] at hb) <;> (try (exfalso;omega))))))
    all_goals first
     |(exfalso;omega)|(refine ⟨k + 1,⟨by omega,hB⟩,by omega,?_⟩;rw [hL];exact ⟨[0,1,2,3,4],rfl,rfl,rfl,iV_eq (by omega),rfl,rfl,rfl,rfl,rfl,trivial⟩)
   ·rw [if_neg hs1] at hL
    rw [decide_eq_false hs1,Bool.false_or] at hB
    by_cases hpg : plB at'[k] = true ∧ gnB g = true
    ·have e4 : sealN at'[k] g U[k] = (sealL at'[k] g U[k], 0) := if_pos ⟨hpg.1, hpg.2, by omega⟩
     rw [e4] at hcb
     rw [hpg.1,hpg.2] at hB
     have el : (fixL at' g (1,S,U,s) k ++ [(k,sealL at'[k] g U[k])]).length = (fixL at' g (1,S,U,s) k).length + 1 := by simp
     clear hc e4
     generalize sealL at'[k] g U[k] = x at *
     generalize fixL at' g (1,S,U,s) k = A at *
     (repeat' (first
      |(apply W.qd;(first
      |((apply q_mv;exact Eq.refl (AV.bd _ _)))
      |((apply q_callBd hcb;(iterate 4 exact rfl);kernel_rfl))|(exact zM)|(exact zN)|(exact jAr)|(exact jAk)|(exact jAj)|(exact jB)|(exact jAu)|(exact jAi)|(exact jBa)|(exact jAe)|(exact jAz)|(exact jAl)
      |(exact jA)))|(apply W.ed;((apply (e_app1F (f := fxD) ((k,x) : Fx));(iterate 8 exact rfl);omega)))|(apply yA)|(apply yB)|(refine jAd ?_)|(apply yE)|(apply yG)|(apply yH)|(apply yL)|(refine jAx ?_)
      |(refine W.cond _ rfl (fun hb => ?_) (fun hb => ?_) <;> ((try simp only [hb,zK]) <;> (try simp only [zL,zI] at hb) <;> (try (exfalso;omega))))))
     all_goals first
      |(exfalso;omega)|(refine ⟨k + 1,⟨by omega,hB⟩,by omega,?_⟩;rw [hL,el];exact ⟨[0,1,2,3,4],rfl,rfl,rfl,iV_eq (by omega),rfl,rfl,rfl,rfl,congrArg (AV.osl 4 (A.length + 1) 0) (by simp),trivial⟩)
    ·have e4 : sealN at'[k] g U[k] = ([], 1) := if_neg (fun hh => hpg ⟨hh.1, hh.2.1⟩)
     rw [e4] at hcb
     have hB' : fixB at' g S (k + 1) = false := by
      rw [hB]
      cases hp : plB at'[k]
      ·rfl
      ·cases hg : gnB g
       ·rfl
       ·exact absurd ⟨hp,hg⟩ hpg
     have hf := hm hB' S.length (by omega)
     rw [if_neg (by rw [hf];decide)]
     clear hc e4 hm hL hB hB' hf
     generalize fixL at' g (1,S,U,s) k = A at *
     (repeat' (first
      |(apply W.qd;(first
      |((apply q_mv;exact Eq.refl (AV.bd _ _)))
      |((apply q_callBd hcb;(iterate 4 exact rfl);kernel_rfl))|(exact zM)|(exact zN)|(exact jAr)|(exact jAk)|(exact jAj)|(exact jB)|(exact jAu)|(exact jBa)|(exact jAe)
      |(exact jA)))|(apply yA)|(apply yB)|(refine jAd ?_)|(apply yE)|(apply yG)|(apply yH)|(apply yJ)|(apply yP)|(apply yN)|(refine jBf ?_)
      |(refine W.cond _ rfl (fun hb => ?_) (fun hb => ?_) <;> ((try simp only [hb,zK]) <;> (try simp only [zL,zI] at hb) <;> (try (exfalso;omega))))))
     all_goals first
      |(exfalso;omega)
      |exact ⟨.inl rfl,[0],[.d (.v (.slice none 0 0)),iV 1],rfl,rfl,⟨rfl,rfl,trivial⟩,AVle.tup ⟨AVle.nil 2,AVle.of_eq rfl,trivial⟩,rfl⟩
  ·obtain rfl : k = n := by omega
   rw [hS,if_pos hfb]
   clear hc
   generalize fixL at' g (1,S,U,s) k = A at *
   (repeat' (first
    |(apply W.qd;(first
    |(exact zM)|(exact zN)
    |(exact jAj)))|(apply yA)|(apply yB)|(refine jAd ?_)|(apply yE)|(apply yI)|(apply yJ)|(apply yK)|(apply yM)
    |(refine W.cond _ rfl (fun hb => ?_) (fun hb => ?_) <;> ((try simp only [hb,zK]) <;> (try simp only [zL,zI] at hb) <;> (try (exfalso;omega))))))
   all_goals first
    |(exfalso;omega)
    |exact ⟨.inl rfl,[0],[.osl 4 A.length 0 A.length,iV 0],rfl,rfl,⟨rfl,rfl,trivial⟩,AVle.of_eq (by show AV.tup [AV.frz _ [0] (.osl 4 A.length 0 A.length),iV 0] = _;rw [frz_rowJ rfl rfl (by simp)]),rfl⟩
end
section
abbrev C40 : AV := cdX (.string ⟨#[112,97,114]⟩) (.int .i64 3) 8 2 [[1,1]]
attribute [local irreducible] Quiet Eff OpOk AWPG ACont ABlock ACalls AGoto
theorem A_sanity40 : ACalls Tryz.prog 34 [] [] (bV true) [] := by
 refine acalls_of_bodyO Tryz.func34 rfl (zU rfl) ?_
 have hle : ∀ (own : List Ent) (l : List AV),∀ F κ w vs,AV.satL F own κ w (C40 :: l) vs → AV.satL F own κ w (cdN 8 2 [[1,1]] :: l) vs := fun own l F κ w vs => satL_le1 (fun F own κ w u => cdX_le rfl rfl) F own κ w vs
 have r1 := A_rep97
 have r2 := A_rep98
 have r3 := A_rep3
 have hsl := A_lsealOk (at' := p40) (g := g40) (us := [u40 97,u40 98,u40 3]) rfl (by decide) (fun u hu => by simp at hu;rcases hu with rfl | rfl | rfl <;> exact ⟨isB_u40 (by decide),by simp [u40]⟩) slB40
 rw [show [u40 97,u40 98,u40 3].length = 3 from rfl,slL40] at hsl
 have hb3 : ∀ {k0 k1 k2 : Int} {b0 b1 b2 : Nat},plB (k0,4,7) = true → plB (k1,4,7) = true → plB (k2,4,7) = true → b0 < 256 → b1 < 256 → b2 < 256 → ∀ s ∈ [s40 k0 b0,s40 k1 b1,s40 k2 b2],isB s ∧ s.length ≤ 9223372036854775807 := fun h0 h1 h2 c0 c1 c2 s hs => by
  simp at hs
  rcases hs with rfl | rfl | rfl
  ·exact ⟨sealL_isB h0 (isB_u40 c0),by rw [sealL_length (by simp [u40])];decide⟩
  ·exact ⟨sealL_isB h1 (isB_u40 c1),by rw [sealL_length (by simp [u40])];decide⟩
  ·exact ⟨sealL_isB h2 (isB_u40 c2),by rw [sealL_length (by simp [u40])];decide⟩
 have hbA := hb3 (k0 := 0) (k1 := 1) (k2 := 2) (b0 := 97) (b1 := 98) (b2 := 3) (by decide) (by decide) (by decide) (by decide) (by decide) (by decide)
 have hbE := hb3 (k0 := 0) (k1 := 1) (k2 := 2) (b0 := 97) (b1 := 97) (b2 := 3) (by decide) (by decide) (by decide) (by decide) (by decide) (by decide)
 have c1 := (A_checkR (v := 3) (at' := p40) (g := g40) (rd := [true,true,true]) ok40 rfl rfl rfl hbA).le (hle _ _)
 rw [rp40a] at c1
 have c2 := (A_checkR (v := 3) (at' := p40) (g := (1,4)) (rd := [true,true,true]) ok40 rfl rfl rfl hbA).le (hle _ _)
 rw [rp40b] at c2
 have c3 := (A_fixesR (v := 3) (at' := p40) (g := g40) (rd := [true,false,true]) ok40 rfl rfl rfl hbA).le (hle _ _)
 rw [rp40c,fx40c] at c3
 have c4 := (A_fixesR (v := 3) (at' := p40) (g := g40) (rd := [false,false,true]) ok40 rfl rfl rfl hbA).le (hle _ _)
 rw [rp40d,fx40d] at c4
 have c5 := (A_checkR (v := 3) (at' := p40) (g := g40) (rd := [true,true,true]) ok40 rfl rfl rfl hbE).le (hle _ _)
 rw [rp40e] at c5
 have hs1 := A_rseal (p := (1,4,7)) (g := g40) (u := u40 97) (isB_u40 (by decide)) (by simp [u40])
 rw [seal40 (by decide)] at hs1
 have c6 := ((A_checkBR (v := 3) (M := 8) (D := 2) (par := [[1,1]]) (at' := []) (g := g40) (ss := [s40 0 97,s40 1 97,s40 2 3]) (rd := [true,true,true]) (code_in ok40) rfl (by decide) (by decide)).le (hle _ _)).le (args' := [C40,.d (.v (.slice none 0 0)),gnA g40,.osl 0 3 0 3,bools [true,true,true]]) fun F κ w vs hs => AVleL.sat (xs := [C40,.d (.v (.slice none 0 0)),gnA g40,.osl 0 3 0 3,bools [true,true,true]]) (ys := [C40,pcs [],gnA g40,.osl 0 3 0 3,bools [true,true,true]]) ⟨AVle.refl _,AVle.nil 3,AVle.refl _,AVle.refl _,AVle.refl _,trivial⟩ F _ κ w vs hs
 dsimp only [rpA] at c1 c2 c3 c4 c5 c6 hs1
 have l64 : (s40 1 98).length = 64 := sealL_length (by simp [u40])
 clear hb3 hbA hbE hle
 generalize s40 0 97 = x0 at *
 generalize s40 1 98 = x1 at *
 generalize s40 2 3 = x2 at *
 generalize s40 1 97 = x3 at *
 have i1 := A_same_ints (a := [1,1,1]) (b := [1,1,1]) (by decide) (by decide)
 rw [decide_eq_true rfl] at i1
 have i2 := A_same_ints (a := [3,3,3]) (b := [3,3,3]) (by decide) (by decide)
 rw [decide_eq_true rfl] at i2
 (repeat' (first
  |(apply W.qd;(first
  |(exact zW (r1))|(exact zW (r2))|(exact zW (r3))|(exact zM)|(exact zN)|(exact jAm)|(exact jBa)|(exact jAz)
  |(exact jAl)))
  |(apply W.ed;(first
  |(apply (e_callJ (js := []) (hsl));(iterate 5 exact rfl);kernel_rfl;kernel_rfl)
  |(exact jAo)))|(apply W.ln;(exact jAh))|(apply yA)|(apply yB)|(apply (W.regionS 6);exact rfl;kernel_rfl)
  |(apply yE)))
 all_goals try (exfalso;omega)
 refine AWP.wk ⟨[(1,.opt 0 0),(2,bS (u40 97)),(3,bS (u40 98)),(4,bS (u40 3)),(5,pcs p40),(6,.opt 1 0),(7,.osl 2 3 0 3),(8,bV true)],[.box [.d (.v (.string ⟨#[112,97,114]⟩)),iV 8,iV 2,rowsN [[1,1]],.d (.v (.int .i64 3))],.box [iV 1,iV 5],.row 3 1 9 ([x0,x1,x2].map sD)]⟩ ⟨[0,1,2],rfl,rfl,rfl,by (repeat (first | exact trivial | refine ⟨rfl,?_⟩))⟩ ?_
 (repeat' (first
  |(apply W.qd;(first
  |(exact zM)|(exact zN)|(exact jAm)|(exact jBh)|(exact jBa)|(exact jAz)
  |(exact jAl)))
  |(apply W.ed;(first
  |(apply (e_callJ (js := [2]) (c1));(iterate 5 exact rfl);kernel_rfl;kernel_rfl)|(apply (e_callJ (js := [2]) (c2));(iterate 5 exact rfl);kernel_rfl;kernel_rfl)|(apply (e_callJ (js := [2]) (c3));(iterate 5 exact rfl);kernel_rfl;kernel_rfl)|(apply (e_callJ (js := [2]) (c4));(iterate 5 exact rfl);kernel_rfl;kernel_rfl)
  |(exact jAo)))|(apply W.ln;(exact jAh))|(apply yA)|(apply yB)|(apply (W.regionS 13);exact rfl;kernel_rfl)|(apply yE)|(apply yH)
  |(refine jAx ?_)))
 all_goals try (exfalso;omega)
 refine AWP.wk ⟨[(1,.opt 0 0),(2,bS (u40 97)),(5,pcs p40),(6,.opt 1 0),(7,.osl 2 3 0 3),(9,bools [true,true,true]),(10,.opt 3 0),(11,iV 0),(12,.opt 4 0),(13,iV 0),(14,fxs [(1,x1)]),(15,iV 0),(17,iV 11)],[.box [.d (.v (.string ⟨#[112,97,114]⟩)),iV 8,iV 2,rowsN [[1,1]],.d (.v (.int .i64 3))],.box [iV 1,iV 5],.row 3 1 9 ([x0,x1,x2].map sD),.box [iV 1,ints [1,1,1],strs [u40 97,u40 98,u40 3],iV (-1)],.box [iV 3,ints [3,3,3],strs [[],[],[]],iV (-1)]]⟩ ⟨[0,1,2,3,4],rfl,rfl,rfl,by (repeat (first | exact trivial | refine ⟨rfl,?_⟩))⟩ ?_
 (repeat' (first
  |(apply yFb;exact rfl;exact rfl)
  |(apply W.qd;(first
  |(exact zW (hs1))|(exact zW (i1))|(exact zW (i2))
  |((apply yY;(iterate 3 exact rfl);exact Nat.le_of_ble_eq_true rfl))
  |((apply yX;(iterate 3 exact rfl);exact Nat.le_of_ble_eq_true rfl))
  |((apply (yGb (j := 1));(iterate 5 exact rfl);exact Nat.le_of_ble_eq_true rfl))
  |((apply (yGb (j := 0));(iterate 5 exact rfl);exact Nat.le_of_ble_eq_true rfl))
  |((apply (q_ix_osl0 (j := 1));(iterate 5 exact rfl);exact Nat.le_of_ble_eq_true rfl))|(exact zM)|(exact zN)|(exact jAr)|(exact jAk)|(exact jAm)|(exact jB)|(exact jBa)|(exact jBc)|(exact q_len_bs rfl rfl)|(apply q_fld_fptF;(iterate 3 exact rfl))|(exact jAl)|(apply (yEb (u := .d _));exact rfl;exact rfl)
  |(apply (yDb (u := .d _));exact rfl;exact rfl)))
  |(apply W.ed;(first
  |(apply (e_callJ (js := [2]) (c5));(iterate 5 exact rfl);kernel_rfl;kernel_rfl)|(apply (e_callJ (js := [2]) (c6));(iterate 5 exact rfl);kernel_rfl;kernel_rfl)
  |(exact jAo)))|(apply W.ln;(exact jAh))|(apply W.en;((apply (e_st_rptm x3);(iterate 7 exact rfl);exact fun _ => rfl;exact Nat.le_of_ble_eq_true rfl)))|(refine W.gOff _ _ rfl rfl (by intro h;cases h) ?_)|(apply yA)|(apply yB)|(refine jAd ?_)|(refine jAs ?_)|(apply yE)|(refine jBb ?_)|(apply yJ)
  |(refine W.gT _ _ rfl rfl (fun hb => ?_) (fun hb => ?_) <;> ((try simp only [hb,zK]) <;> (try simp only [zL,zI] at hb) <;> (try (exfalso;omega))))))
 all_goals first
  |(exfalso;exact hb (by show (x1.length : Int) = 64;rw [l64];rfl))
  |(exfalso;omega)
  |exact ⟨.inl rfl,[],[bV true],rfl,rfl,⟨rfl,trivial⟩,AVle.of_eq rfl,rfl⟩
end
section
theorem repl_map (n : Nat) : (List.range n).map (fun _ => true) = List.replicate n true := by
 apply List.ext_getElem (by simp)
 intro i h1 h2
 simp
attribute [local irreducible] Quiet Eff OpOk AWPG ACont ABlock ACalls AGoto
theorem A_lsealBad {at' : List Pl} {g : Gn} {us : List (List Nat)} (hal : at'.length ≤ 9223372036854775807) (hul : us.length ≤ 1000000) (hub : ∀ u ∈ us,isB u ∧ u.length ≤ 9223372036854775807) (hB : at'.length ≠ us.length ∨ slB at' g us us.length = false) : ACalls Tryz.prog 80 [pcs at',gnA g,strs us] [] (.tup [.d (.v (.slice none 0 0)),bV false]) [] := by
 refine acalls_of_body Tryz.func80 rfl (zU rfl) ?_
 have hma : (at'.map pcD).length = at'.length := List.length_map _
 have hmu : (us.map sD).length = us.length := List.length_map _
 by_cases ha : at'.length = us.length
 ·have hB : slB at' g us us.length = false := by rcases hB with h | h; exact absurd ha h; exact h
  have hsu := slL_succ at' g us
  have hbu := slB_succ at' g us
  have hsl := slL_len at' g us
  (repeat' (first
   |(apply W.qd;(first
   |(exact zM)|(exact zN)|(exact jAu)
   |(exact jBc)))|(apply W.ed;(exact jAc))|(apply yA)|(apply yB)|(apply (W.regionS 4);exact rfl;kernel_rfl)|(apply yE)|(apply yH)
   |(refine W.cond _ rfl (fun hb => ?_) (fun hb => ?_) <;> ((try simp only [hb,zK]) <;> (try simp only [zL,zI] at hb) <;> (try (exfalso;omega))))))
  all_goals try (exfalso;omega)
  refine AWP.nilRow 8 1 9 rfl (by omega) ?_
  (repeat' (first
   |(apply W.qd;(first
   |(exact zM)
   |(exact jBc)))|(apply yB)|(apply (W.regionS 5);exact rfl;kernel_rfl)|(apply yE)
   |(apply yG)))
  refine AWP.loopW (α := Nat) (fun k => k ≤ us.length ∧ slB at' g us k = true) (fun k => ⟨[(20,iV k),(19,iV us.length),(18,strs us),(0,pcs at'),(4,.opt 0 0),(8,.osl 1 k 0 k)],[.box [iV g.1,iV g.2],.row k 1 9 ((slL at' g us k).map sD)]⟩) (fun k => us.length - k) 0 ⟨Nat.zero_le _,rfl⟩ ?wkA fun k hk => ?_
  case wkA =>
   exact ⟨[0,1],rfl,rfl,rfl,rfl,iV_eq (by omega),rfl,rfl,rfl,rfl,trivial⟩
  obtain ⟨hk,hkB⟩ := hk
  by_cases hkl : k < us.length
  ·have hka : k < at'.length := by omega
   have e2 : us.getD k [] = us[k] := by rw [List.getD_eq_getElem?_getD,List.getElem?_eq_getElem hkl];rfl
   have e3 : at'.getD k pz0 = at'[k] := by rw [List.getD_eq_getElem?_getD,List.getElem?_eq_getElem hka];rfl
   have h1 := hbu k
   have h2 := hsu k
   have l1 := hsl k
   rw [e2,e3] at h1 h2
   rw [hkB,Bool.true_and] at h1
   have hu := hub _ (List.getElem_mem hkl)
   have hs := A_rseal (p := at'[k]) (g := g) hu.1 hu.2
   clear hsu hsl hbu
   generalize sealN at'[k] g us[k] = q at *
   obtain ⟨x,y⟩ := q
   dsimp only at h1 h2 hs
   by_cases hgd : y = 0 ∧ us[k].length = 32
   ·rw [decide_eq_true hgd] at h1
    obtain ⟨rfl,h32⟩ := hgd
    generalize slL at' g us k = S1 at *
    have b1 : (S1 ++ [x]).length = k + 1 := by simp [l1]
    (repeat' (first
     |(apply yFb;exact rfl;exact rfl)
     |(apply W.qd;(first
     |(exact zW (hs))|(exact zM)|(exact zN)|(exact jAm)|(exact jAj)|(exact jAu)|(exact jAi)|(exact jBa)|(exact q_len_bs rfl rfl)|(exact jAe)|(exact jAy)|(exact jAl)|(exact jA)
     |(apply (yDb (u := .d _));exact rfl;exact rfl)))|(apply W.ed;((apply (e_app1F (l := S1) (f := sD) x);exact congrArg (AV.osl 1 k 0) l1.symm;(iterate 7 exact rfl);omega)))|(apply yA)|(apply yB)|(refine jAd ?_)|(refine jAs ?_)|(apply yE)|(refine jBb ?_)|(apply yG)|(apply yH)|(apply yL)
     |(refine W.cond _ rfl (fun hb => ?_) (fun hb => ?_) <;> ((try simp only [hb,zK]) <;> (try simp only [zL,zI] at hb) <;> (try (exfalso;omega))))))
    all_goals first
     |(exfalso;omega)|(refine ⟨k + 1,⟨by omega,h1⟩,by omega,?_⟩;(try dsimp only);rw [h2,b1];exact ⟨[0,1],rfl,rfl,rfl,iV_eq (by omega),rfl,rfl,rfl,rfl,rfl,trivial⟩)
   ·clear h1 h2 l1
    generalize slL at' g us k = S1 at *
    (repeat' (first
     |(apply yFb;exact rfl;exact rfl)
     |(apply W.qd;(first
     |(exact zW (hs))|(exact zM)|(exact zN)|(exact jAm)|(exact jAj)|(exact jAu)|(exact jBa)|(exact q_len_bs rfl rfl)|(exact jAe)|(exact jAy)|(exact jA)|(apply (yEb (u := .d _));exact rfl;exact rfl)
     |(apply (yDb (u := .d _));exact rfl;exact rfl)))|(refine W.gOff _ _ rfl rfl (by intro h;cases h) ?_)|(apply yA)|(apply yB)|(refine jAd ?_)|(refine jAs ?_)|(apply yE)|(refine jBb ?_)|(apply yG)|(apply yH)|(apply yJ)|(apply yP)|(apply yN)|(refine jBf ?_)|(refine W.gF _ _ rfl rfl (fun hb => ?_) (fun hb => ?_) <;> ((try simp only [hb,zK]) <;> (try simp only [zL,zI] at hb) <;> (try (exfalso;omega))))
     |(refine W.cond _ rfl (fun hb => ?_) (fun hb => ?_) <;> ((try simp only [hb,zK]) <;> (try simp only [zL,zI] at hb) <;> (try (exfalso;omega))))))
    all_goals first
     |(exfalso;omega)
     |exact ⟨.inl rfl,[],[.d (.v (.slice none 0 0)),bV false],rfl,⟨rfl,rfl,trivial⟩,AVle.of_eq rfl,rfl⟩
  ·obtain rfl : k = us.length := by omega
   rw [hB] at hkB
   cases hkB
 ·(repeat' (first
  |(apply W.qd;(first
  |(exact zM)|(exact zN)|(exact jAu)
  |(exact jBc)))|(apply W.ed;(exact jAc))|(apply yA)|(apply yB)|(refine jAd ?_)|(apply yE)|(apply yJ)|(apply yP)
  |(refine W.cond _ rfl (fun hb => ?_) (fun hb => ?_) <;> ((try simp only [hb,zK]) <;> (try simp only [zL,zI] at hb) <;> (try (exfalso;omega))))))
  all_goals first
   |(exfalso;omega)
   |exact ⟨.inl rfl,[],[.d (.v (.slice none 0 0)),bV false],rfl,⟨rfl,rfl,trivial⟩,AVle.of_eq rfl,rfl⟩
theorem A_lallO {n : Nat} (hn : n ≤ 1000000) : ACalls Tryz.prog 44 [iV n] [] (.osl 0 0 0 n) [.row 0 1 4 ((List.replicate n true).map tD)] := by
 refine acalls_of_bodyO Tryz.func44 rfl (zU rfl) ?_
 have hset := fun k (h : k < n) => fil_set (f := fun _ => true) (z := false) h
 have hll := fun k => fil_len (f := fun _ => true) (z := false) (n := n) k
 (repeat' (first
  |(apply W.qd;(first
  |(exact zM)
  |(exact zN)))|(apply W.ed;(apply e_makeF;exact rfl;exact rfl;(first | (with_reducible exact rfl) | exact natI_spec rfl | assumption | exact (Int.toNat_of_nonneg (by omega)).symm);(iterate 6 exact rfl);omega))|(apply yA)|(apply yB)|(apply (W.regionS 2);exact rfl;kernel_rfl)
  |(apply yE)))
 all_goals try (exfalso;omega)
 (repeat' (first
  |(apply W.qd;(first
  |(exact zM)
  |(exact q_len_osl rfl rfl rfl)))|(apply yB)|(apply (W.regionS 3);exact rfl;kernel_rfl)|(apply yE)
  |(apply yG)))
 refine AWP.loopW (α := Nat) (fun k => k ≤ n) (fun k => ⟨[(9,iV k),(8,iV n),(3,.osl 0 0 0 n)],[.row 0 1 4 ((fil (fun _ => true) false n k).map tD)]⟩) (fun k => n - k) 0 (Nat.zero_le _) ?wkA fun k hk => ?_
 case wkA =>
  rw [fil_zero,List.map_replicate,List.map_replicate]
  exact ⟨[0],rfl,rfl,rfl,by (repeat (first | exact trivial | refine ⟨rfl,?_⟩))⟩
 by_cases hkl : k < n
 ·have s1 := hset k hkl
  have l1 := hll k
  clear hset hll
  generalize fil (fun _ => true) false n k = S1 at *
  (repeat' (first
   |(apply W.qd;(first
   |(exact zM)|(exact zN)|(exact jAj)|(exact jAi)
   |(exact jAb)))|(apply W.ln;(exact jAg))|(apply yA)|(apply yB)|(refine jAd ?_)|(apply yE)|(apply yG)|(apply yH)|(apply yL)
   |(refine W.cond _ rfl (fun hb => ?_) (fun hb => ?_) <;> ((try simp only [hb,zK]) <;> (try simp only [zL,zI] at hb) <;> (try (exfalso;omega))))))
  all_goals first
   |(exfalso;omega)|(refine ⟨k + 1,by omega,by omega,?_⟩;(try dsimp only);rw [← s1];exact ⟨[0],rfl,rfl,rfl,iV_eq (by omega),rfl,rfl,trivial⟩)
 ·obtain rfl : k = n := by omega
  rw [fil_all,repl_map]
  (repeat' (first
   |(apply W.qd;(first
   |(exact zM)|(exact zN)
   |(exact jAj)))|(apply yA)|(apply yB)|(refine jAd ?_)|(apply yE)|(apply yI)|(apply yJ)|(apply yK)|(apply yM)
   |(refine W.cond _ rfl (fun hb => ?_) (fun hb => ?_) <;> ((try simp only [hb,zK]) <;> (try simp only [zL,zI] at hb) <;> (try (exfalso;omega))))))
  all_goals first
   |(exfalso;omega)
   |exact ⟨.inl rfl,[0],[.osl 0 0 0 k],rfl,rfl,⟨rfl,trivial⟩,AVle.of_eq rfl,rfl⟩
end
section
theorem getD_repl (n i : Nat) (b : Bool) : (List.replicate n b).getD i false = (decide (i < n) && b) := by
 rw [List.getD_eq_getElem?_getD,List.getElem?_replicate]
 by_cases h : i < n
 ·rw [if_pos h,decide_eq_true h];simp
 ·rw [if_neg h,decide_eq_false h];rfl
theorem isB_getDL {W : List (List Nat)} (h : ∀ u ∈ W,isB u) (k : Nat) : isB (W.getD k []) := by
 rw [List.getD_eq_getElem?_getD]
 cases e : W[k]? with
 | none => exact isB_nil
 | some s => exact h s (List.mem_of_getElem? e)
theorem stU_sealed {W : List (List Nat)} {n : Nat} (hl : W.length = n) : stU ((List.range n).map fun k => ((1 : Int),W.getD k [])) = W := by
 unfold stU
 rw [List.map_map]
 apply List.ext_getElem (by simp [hl])
 intro i h1 h2
 simp [List.getD_eq_getElem?_getD,List.getElem?_eq_getElem h2]
theorem stS_sealed {W : List (List Nat)} {n : Nat} : stS ((List.range n).map fun k => ((1 : Int),W.getD k [])) = List.replicate n 1 := by
 unfold stS
 rw [List.map_map]
 apply List.ext_getElem (by simp)
 intro i h1 h2
 simp
theorem stH_sealed {W : List (List Nat)} {n : Nat} : stH ((List.range n).map fun k => ((1 : Int),W.getD k [])) = List.replicate n true := by
 unfold stH
 rw [List.map_map]
 apply List.ext_getElem (by simp)
 intro i h1 h2
 simp
theorem dec_repl {M D : Nat} {ps : List (List Nat)} (h : CodeOk M D ps) : decN M D ps (List.replicate (D + ps.length) true) = true := by
 unfold decN
 rw [decide_eq_true (by simp),Bool.true_and,decide_eq_true_eq]
 exact full_of_data h (by simp) fun i hi => by rw [getD_repl,decide_eq_true (by omega)];rfl
theorem rp_all {M D : Nat} {ps ds : List (List Nat)} {at' : List Pl} {g : Gn} {ss : List (List Nat)} {rd : List Bool} (h : CodeOk M D ps) (hd : ds.length = D) (hb : ∀ u ∈ ds,isB u ∧ u.length = 32) (hS : staL at' g ss rd (D + ps.length) = (List.range (D + ps.length)).map fun k => ((1 : Int),(encN M ps ds).getD k [])) : rpN M D ps at' g ss rd = (1,List.replicate (D + ps.length) 1,encN M ps ds,-1) := by
 have hWl : (encN M ps ds).length = D + ps.length := by rw [encN_length,hd]
 have hl : (List.replicate (D + ps.length) true).length = D + ps.length := by simp
 have hdec := dec_repl h
 have hc := con_enc h hd hb hl hdec (us := encN M ps ds) (fun i _ => rfl)
 have hw := wrd_enc h hd hb hl hdec (us := encN M ps ds) (fun i _ => rfl)
 have ha := con_all hc
 unfold rpN
 rw [hS,stU_sealed hWl,stS_sealed,stH_sealed]
 unfold repU
 have hL : locN M D ps (encN M ps ds) (List.replicate (D + ps.length) true) = (0,12) := by
  rw [locN_eq,if_neg (by rw [ha];decide),if_pos hc]
 have hC : corN M D ps (encN M ps ds) (List.replicate (D + ps.length) true) = (encN M ps ds,0) := by
  rw [corN_eq,if_neg (by rw [ha];decide),if_pos hc,hw]
 rw [hL,hC,if_neg (by decide),if_pos rfl]
end
section
theorem AVle.topX (x : AV) : AVle x .top := fun _ _ _ _ _ _ => by rw [AV.sat];trivial
attribute [local irreducible] Quiet Eff OpOk AWPG ACont ABlock ACalls AGoto
theorem strip_cases {M D : Int} {par : List (List Int)} {ds : List (List Nat)} {at' : List Pl} {g : Gn} (hal : at'.length ≤ 9223372036854775807) (hdl : ds.length ≤ 9223372036854775807) (hds : ∀ u ∈ ds, isB u ∧ u.length ≤ 2000000) :
 ACalls Tryz.prog 43 [cdA M D par,strs ds,pcs at',gnA g] [] (.tup [.top,.top,bV false]) [] ∨ ∃ (m d : Nat) (ps : List (List Nat)),M = m ∧ D = d ∧ par = toZ ps ∧ CodeOk m d ps ∧ ds.length = d ∧ (∀ u ∈ ds,isB u ∧ u.length = 32) ∧ at'.length = d + ps.length ∧ slB at' g (encN m ps ds) (d + ps.length) = true ∧ ACalls Tryz.prog 43 [cdA M D par,strs ds,pcs at',gnA g] [] (.tup [strs (encN m ps ds),.osl 0 (d + ps.length) 0 (d + ps.length),bV true]) [.row (d + ps.length) 1 9 ((slL at' g (encN m ps ds) (d + ps.length)).map sD)] := by
 have hsm := A_small (M := M) (D := D) (par := par)
 have hma : (at'.map pcD).length = at'.length := List.length_map _
 have hmd : (ds.map sD).length = ds.length := List.length_map _
 by_cases hfit : smallB D par = true ∧ ds.length ≤ 24 ∧ at'.length ≤ 32
 ·obtain ⟨f1, f2, f3⟩ := hfit
  have f4 := f1
  unfold smallB at f4
  simp only [Bool.and_eq_true,decide_eq_true_eq] at f4
  rw [f1] at hsm
  by_cases hg : validC M D par = true ∧ (ds.length : Int) = D
  ·obtain ⟨g1, g2⟩ := hg
   obtain ⟨m,d,ps,rfl,rfl,rfl,hok⟩ := ok_valid g1
   have hd := hok.d
   have hw := hok.w
   have hl : ds.length = d := by omega
   have he := A_r8enc hok hl hds
   rw [cdN_A] at he
   cases hU : uniB m ds with
   | false =>
     rw [hU,if_neg (by decide)] at he
     refine .inl (acalls_of_body Tryz.func43 rfl (zU rfl) ?_)
     (repeat' (first
      |(apply yFb;exact rfl;exact rfl)
      |(apply W.qd;(first
      |(exact zW (hsm))|(exact zW (he))|(exact zM)|(exact zN)|(exact jAm)|(exact q_gtr rfl rfl)|(exact jAu)|(exact jBh)|(exact jBa)|(exact jBc)
      |(apply (yDb (u := .d _));exact rfl;exact rfl)))|(apply W.ed;(exact jAc))|(apply yA)|(apply yB)|(refine jAd ?_)|(apply yE)|(apply yH)|(apply yJ)|(apply yP)|(refine jBf ?_)|(refine W.gF _ _ rfl rfl (fun hb => ?_) (fun hb => ?_) <;> ((try simp only [hb,zK]) <;> (try simp only [zL,zI] at hb) <;> (try (exfalso;omega))))
      |(refine W.cond _ rfl (fun hb => ?_) (fun hb => ?_) <;> ((try simp only [hb,zK]) <;> (try simp only [zL,zI] at hb) <;> (try (exfalso;omega))))))
     all_goals first
      |(exfalso;omega)
      |exact ⟨.inl rfl,[],[_,_,bV false],rfl,⟨rfl,rfl,rfl,trivial⟩,AVle.tup ⟨AVle.topX _,AVle.topX _,AVle.of_eq rfl,trivial⟩,rfl⟩
   | true =>
     rw [hU,if_pos rfl] at he
     obtain ⟨u1,u2⟩ := uni_ok hok.f hU (by omega)
     have hn0 : (ds.headD []).length ≤ 2000000 := by
      cases ds with
      | nil => simp at hl;omega
      | cons x t => exact (hds x (by simp)).2
     have hus : ∀ u ∈ ds,isB u ∧ u.length = (ds.headD []).length := fun u hx => ⟨(hds u hx).1,u1 u hx⟩
     have hW := encN_ok hok hl hus u2
     have hWl : (encN m ps ds).length = d + ps.length := by rw [encN_length,hl]
     have hWb : ∀ u ∈ encN m ps ds,isB u ∧ u.length ≤ 9223372036854775807 := fun u hx => ⟨(hW u hx).1,by rw [(hW u hx).2];omega⟩
     by_cases hS : at'.length = d + ps.length ∧ slB at' g (encN m ps ds) (d + ps.length) = true
     ·obtain ⟨s1, s2⟩ := hS
      have h32 : ∀ u ∈ ds,isB u ∧ u.length = 32 := fun u hx => by
       obtain ⟨k,hk,rfl⟩ := List.getElem_of_mem hx
       have h1 := (slB_get s2 (k := k) (by omega)).2
       have e : (encN m ps ds).getD k [] = ds[k] := by
        unfold encN
        rw [List.getD_eq_getElem?_getD,List.getElem?_append_left hk,List.getElem?_eq_getElem hk];rfl
       rw [e] at h1
       exact ⟨(hds _ hx).1,h1⟩
      refine .inr ⟨m,d,ps,rfl,rfl,rfl,hok,hl,h32,s1,s2,?_⟩
      have hsl := A_lsealOk (at' := at') (g := g) (us := encN m ps ds) (by omega) (by omega) hWb (by rw [hWl];exact s2)
      rw [hWl] at hsl
      refine acalls_of_bodyO Tryz.func43 rfl (zU rfl) ?_
      clear hW hWb hus u1 u2 s2 h32
      generalize slL at' g (encN m ps ds) (d + ps.length) = X at *
      generalize encN m ps ds = Wd at *
      (repeat' (first
       |(apply yFb;exact rfl;exact rfl)
       |(apply W.qd;(first
       |(exact zW (hsm))|(exact zW (he))|(exact zM)|(exact zN)|(exact jAm)|(exact q_gtr rfl rfl)|(exact jAu)|(exact jBh)|(exact jBa)|(exact jBc)
       |(apply (yDb (u := .d _));exact rfl;exact rfl)))
       |(apply W.ed;(first
       |(apply (e_callJ (js := []) (hsl));(iterate 5 exact rfl);kernel_rfl;kernel_rfl)
       |(exact jAc)))|(apply yA)|(apply yB)|(refine jAd ?_)|(apply yE)|(apply yH)|(apply yJ)|(refine jAx ?_)|(refine W.gF _ _ rfl rfl (fun hb => ?_) (fun hb => ?_) <;> ((try simp only [hb,zK]) <;> (try simp only [zL,zI] at hb) <;> (try (exfalso;omega))))
       |(refine W.cond _ rfl (fun hb => ?_) (fun hb => ?_) <;> ((try simp only [hb,zK]) <;> (try simp only [zL,zI] at hb) <;> (try (exfalso;omega))))))
      all_goals first
       |(exfalso;omega)
       |exact ⟨.inl rfl,[2],[strs Wd,.osl 2 (d + ps.length) 0 (d + ps.length),bV true],rfl,rfl,⟨rfl,rfl,rfl,trivial⟩,AVle.of_eq rfl,rfl⟩
     ·have hsl := A_lsealBad (at' := at') (g := g) (us := encN m ps ds) (by omega) (by omega) hWb (by
       rw [hWl]
       by_cases h1 : at'.length = d + ps.length
       ·refine .inr ?_
        cases h2 : slB at' g (encN m ps ds) (d + ps.length) with
        | false => rfl
        | true => exact absurd ⟨h1,h2⟩ hS
       ·exact .inl h1)
      refine .inl (acalls_of_body Tryz.func43 rfl (zU rfl) ?_)
      clear hW hWb hus u1 u2 hS
      generalize encN m ps ds = Wd at *
      (repeat' (first
       |(apply yFb;exact rfl;exact rfl)
       |(apply W.qd;(first
       |(exact zW (hsm))|(exact zW (he))|(exact zW (hsl))|(exact zM)|(exact zN)|(exact jAm)|(exact q_gtr rfl rfl)|(exact jAu)|(exact jBh)|(exact jBa)|(exact jBc)
       |(apply (yDb (u := .d _));exact rfl;exact rfl)))|(apply W.ed;(exact jAc))|(apply yA)|(apply yB)|(refine jAd ?_)|(apply yE)|(apply yH)|(apply yJ)|(refine jAx ?_)|(refine W.gF _ _ rfl rfl (fun hb => ?_) (fun hb => ?_) <;> ((try simp only [hb,zK]) <;> (try simp only [zL,zI] at hb) <;> (try (exfalso;omega))))
       |(refine W.cond _ rfl (fun hb => ?_) (fun hb => ?_) <;> ((try simp only [hb,zK]) <;> (try simp only [zL,zI] at hb) <;> (try (exfalso;omega))))))
      all_goals first
       |(exfalso;omega)
       |exact ⟨.inl rfl,[],[_,_,bV false],rfl,⟨rfl,rfl,rfl,trivial⟩,AVle.tup ⟨AVle.topX _,AVle.topX _,AVle.of_eq rfl,trivial⟩,rfl⟩
  ·have he := A_r8enc_bad (M := M) (D := D) (par := par) (us := ds) (by omega) (by omega) hg
   refine .inl (acalls_of_body Tryz.func43 rfl (zU rfl) ?_)
   (repeat' (first
    |(apply yFb;exact rfl;exact rfl)
    |(apply W.qd;(first
    |(exact zW (hsm))|(exact zW (he))|(exact zM)|(exact zN)|(exact jAm)|(exact q_gtr rfl rfl)|(exact jAu)|(exact jBh)|(exact jBa)|(exact jBc)
    |(apply (yDb (u := .d _));exact rfl;exact rfl)))|(apply W.ed;(exact jAc))|(apply yA)|(apply yB)|(refine jAd ?_)|(apply yE)|(apply yH)|(apply yJ)|(apply yP)|(refine jBf ?_)|(refine W.gF _ _ rfl rfl (fun hb => ?_) (fun hb => ?_) <;> ((try simp only [hb,zK]) <;> (try simp only [zL,zI] at hb) <;> (try (exfalso;omega))))
    |(refine W.cond _ rfl (fun hb => ?_) (fun hb => ?_) <;> ((try simp only [hb,zK]) <;> (try simp only [zL,zI] at hb) <;> (try (exfalso;omega))))))
   all_goals first
    |(exfalso;omega)
    |exact ⟨.inl rfl,[],[_,_,bV false],rfl,⟨rfl,rfl,rfl,trivial⟩,AVle.tup ⟨AVle.topX _,AVle.topX _,AVle.of_eq rfl,trivial⟩,rfl⟩
 ·refine .inl (acalls_of_body Tryz.func43 rfl (zU rfl) ?_)
  cases hs : smallB D par with
  | false =>
    rw [hs] at hsm
    (repeat' (first
     |(apply W.qd;(first
     |(exact zW (hsm))|(exact zM)|(exact zN)|(exact jAm)|(exact jBh)
     |(apply (yEb (u := .d _));exact rfl;exact rfl)))|(apply W.ed;(exact jAc))|(refine W.gOff _ _ rfl rfl (by intro h;cases h) ?_)|(apply yA)|(apply yB)|(refine jAd ?_)|(apply yE)|(apply yJ)|(apply yP)
     |(refine jBf ?_)))
    all_goals first
     |(exfalso;omega)
     |exact ⟨.inl rfl,[],[_,_,bV false],rfl,⟨rfl,rfl,rfl,trivial⟩,AVle.tup ⟨AVle.topX _,AVle.topX _,AVle.of_eq rfl,trivial⟩,rfl⟩
  | true =>
    rw [hs] at hsm
    have hfit : ¬ (ds.length ≤ 24 ∧ at'.length ≤ 32) := fun h => hfit ⟨hs,h⟩
    (repeat' (first
     |(apply yFb;exact rfl;exact rfl)
     |(apply W.qd;(first
     |(exact zW (hsm))|(exact zM)|(exact zN)|(exact jAm)|(exact q_gtr rfl rfl)|(exact jBh)|(exact jBc)|(apply (yEb (u := .d _));exact rfl;exact rfl)
     |(apply (yDb (u := .d _));exact rfl;exact rfl)))|(apply W.ed;(exact jAc))|(refine W.gOff _ _ rfl rfl (by intro h;cases h) ?_)|(apply yA)|(apply yB)|(refine jAd ?_)|(apply yE)|(apply yJ)|(apply yP)|(refine jBf ?_)|(refine W.gF _ _ rfl rfl (fun hb => ?_) (fun hb => ?_) <;> ((try simp only [hb,zK]) <;> (try simp only [zL,zI] at hb) <;> (try (exfalso;omega))))
     |(refine W.cond _ rfl (fun hb => ?_) (fun hb => ?_) <;> ((try simp only [hb,zK]) <;> (try simp only [zL,zI] at hb) <;> (try (exfalso;omega))))))
    all_goals first
     |(exfalso;omega)
     |exact ⟨.inl rfl,[],[_,_,bV false],rfl,⟨rfl,rfl,rfl,trivial⟩,AVle.tup ⟨AVle.topX _,AVle.topX _,AVle.of_eq rfl,trivial⟩,rfl⟩
end
section
def xorB (s : List Nat) (i : Nat) : List Nat := s.set i (s.getD i 0 ^^^ 5)
abbrev Sr2 := List (List Nat) × List Bool
section
variable (at' : List Pl) (g : Gn) (W : List (List Nat))
def hur1 (x : Sr2) (h : Hu) : Sr2 :=
 if h.1 < 0 ∨ (W.length : Int) ≤ h.1 then x
 else if h.2.1 = 0 then (x.1,x.2.set h.1.toNat false)
 else if h.2.1 = 1 then (if (sealN (at'.getD h.1.toNat pz0) h.2.2.2.1 (W.getD h.1.toNat [])).2 = 0 then (x.1.set h.1.toNat (sealN (at'.getD h.1.toNat pz0) h.2.2.2.1 (W.getD h.1.toNat [])).1,x.2) else x)
 else if h.2.1 = 2 then (if (sealN h.2.2.1 g (W.getD h.1.toNat [])).2 = 0 then (x.1.set h.1.toNat (sealN h.2.2.1 g (W.getD h.1.toNat [])).1,x.2) else x)
 else if h.2.1 = 3 then (if (x.1.getD h.1.toNat []).length = 64 ∧ 0 ≤ h.2.2.2.2.1 ∧ h.2.2.2.2.1 < 64 then (x.1.set h.1.toNat (xorB (x.1.getD h.1.toNat []) h.2.2.2.2.1.toNat),x.2) else x)
 else (x.1.set h.1.toNat h.2.2.2.2.2,x.2)
def hurN (l : List Hu) (x : Sr2) : Sr2 := l.foldl (hur1 at' g W) x
end
structure SrOk (n : Nat) (x : Sr2) : Prop where
 s : x.1.length = n
 r : x.2.length = n
 b : ∀ s ∈ x.1,isB s ∧ s.length ≤ 9223372036854775807
def HuIn (h : Hu) : Prop := isB h.2.2.2.2.2 ∧ h.2.2.2.2.2.length ≤ 9223372036854775807
theorem xorB_isB {s : List Nat} {i : Nat} (h : isB s) : isB (xorB s i) := fun y hy => by
 unfold xorB at hy
 rcases List.mem_or_eq_of_mem_set hy with h1 | rfl
 ·exact h y h1
 ·refine Nat.xor_lt_two_pow (n := 8) ?_ (by decide)
  rw [List.getD_eq_getElem?_getD]
  cases e : s[i]? with
  | none => decide
  | some v => exact h v (List.mem_of_getElem? e)
theorem xorB_len (s : List Nat) (i : Nat) : (xorB s i).length = s.length := by simp [xorB]
theorem memD {l : List (List Nat)} {Q : List Nat → Prop} (h : ∀ s ∈ l,Q s) (h0 : Q []) (k : Nat) : Q (l.getD k []) := by
 rw [List.getD_eq_getElem?_getD]
 cases e : l[k]? with
 | none => exact h0
 | some v => exact h v (List.mem_of_getElem? e)
theorem seal_in {p : Pl} {g : Gn} {u : List Nat} (hu : isB u) (h : (sealN p g u).2 = 0) : isB (sealN p g u).1 ∧ (sealN p g u).1.length ≤ 9223372036854775807 := by
 obtain ⟨p1,p2,p3,p4⟩ := sealN_ok h
 rw [p4]
 exact ⟨sealL_isB p1 hu,by rw [sealL_length p3];decide⟩
theorem hur1_ok {at' : List Pl} {g : Gn} {W : List (List Nat)} {n : Nat} {x : Sr2} {h : Hu} (hW : ∀ u ∈ W,isB u) (hx : SrOk n x) (hh : HuIn h) : SrOk n (hur1 at' g W x h) := by
 have hs : ∀ (k : Nat) (t : List Nat),isB t ∧ t.length ≤ 9223372036854775807 → SrOk n (x.1.set k t,x.2) := fun k t ht =>
  ⟨by rw [List.length_set];exact hx.s,hx.r,fun s hs => (List.mem_or_eq_of_mem_set hs).elim (hx.b s) (fun e => e ▸ ht)⟩
 unfold hur1
 split
 ·exact hx
 split
 ·exact ⟨hx.s,by rw [List.length_set];exact hx.r,hx.b⟩
 split
 ·split
  ·rename_i e;exact hs _ _ (seal_in (memD hW isB_nil _) e)
  ·exact hx
 split
 ·split
  ·rename_i e;exact hs _ _ (seal_in (memD hW isB_nil _) e)
  ·exact hx
 split
 ·split
  ·rename_i e
   have := memD (Q := fun s => isB s ∧ s.length ≤ 9223372036854775807) hx.b ⟨isB_nil,by decide⟩ h.1.toNat
   exact hs _ _ ⟨xorB_isB this.1,by rw [xorB_len];exact this.2⟩
  ·exact hx
 ·exact hs _ _ hh
theorem hurN_ok {at' : List Pl} {g : Gn} {W : List (List Nat)} {n : Nat} (hW : ∀ u ∈ W, isB u) : ∀ {l : List Hu} {x : Sr2}, SrOk n x → (∀ h ∈ l, HuIn h) → SrOk n (hurN at' g W l x)
 | [],_,hx,_ => hx
 | a :: l,_,hx,hh => hurN_ok hW (l := l) (hur1_ok hW hx (hh a (by simp))) fun b hb => hh b (by simp [hb])
theorem hurN_take {at' : List Pl} {g : Gn} {W : List (List Nat)} {l : List Hu} {x : Sr2} {k : Nat} (hk : k < l.length) : hurN at' g W (l.take (k + 1)) x = hur1 at' g W (hurN at' g W (l.take k) x) l[k] := by
 unfold hurN
 rw [List.take_succ_eq_append_getElem hk,List.foldl_append];rfl
def gdN (at' : List Pl) (g : Gn) (x : Sr2) (n : Nat) : List Bool := stH (staL at' g x.1 x.2 n)
def truT (at' : List Pl) (g : Gn) (W : List (List Nat)) (ss : List (List Nat)) (H : List Bool) (k : Nat) : Bool := (List.range k).all fun i => !(H.getD i false && !decide ((staN (at'.getD i pz0) g (ss.getD i []) (H.getD i false)).2 = W.getD i []))
theorem truT_succ (at' : List Pl) (g : Gn) (W : List (List Nat)) (ss : List (List Nat)) (H : List Bool) (k : Nat) : truT at' g W ss H (k + 1) = (truT at' g W ss H k && !(H.getD k false && !decide ((staN (at'.getD k pz0) g (ss.getD k []) (H.getD k false)).2 = W.getD k []))) := by
 unfold truT;rw [List.range_succ,List.all_append];simp
theorem truT_mono {at' : List Pl} {g : Gn} {W : List (List Nat)} {ss : List (List Nat)} {H : List Bool} {i : Nat} (h : truT at' g W ss H i = false) : ∀ k,i ≤ k → truT at' g W ss H k = false := fun k hk => by
 obtain ⟨d,rfl⟩ := Nat.le.dest hk
 clear hk
 induction d with
 | zero => exact h
 | succ d ih => rw [← Nat.add_assoc,truT_succ,ih,Bool.false_and]
theorem gdN_len (at' : List Pl) (g : Gn) (x : Sr2) (n : Nat) : (gdN at' g x n).length = n := by unfold gdN stH;rw [List.length_map,staL_length]
theorem stS_len (at' : List Pl) (g : Gn) (x : Sr2) (n : Nat) : (stS (staL at' g x.1 x.2 n)).length = n := by unfold stS;rw [List.length_map,staL_length]
theorem sta_read {p : Pl} {g : Gn} {s : List Nat} {r : Bool} (h : (staN p g s r).1 = 1) : r = true := by
 cases r with
 | true => rfl
 | false =>
   have e : (staN p g s false).1 = 2 := rfl
   rw [e] at h
   exact absurd h (by decide)
theorem tru_agree {at' : List Pl} {g : Gn} {W : List (List Nat)} {x : Sr2} {n : Nat} (h : truT at' g W x.1 (gdN at' g x n) n = true) {i : Nat} (hi : (gdN at' g x n).getD i false = true) : (stU (staL at' g x.1 x.2 n)).getD i [] = W.getD i [] := by
 obtain ⟨h1,h2⟩ := stH_iff.1 hi
 unfold truT at h
 rw [List.all_eq_true] at h
 have h3 := h i (List.mem_range.2 h1)
 rw [hi] at h3
 rw [stU_getD h1,sta_read h2]
 simpa using h3
section
variable {M D : Nat} {ps ds : List (List Nat)} {at' : List Pl} {g : Gn} {x : Sr2} (h : CodeOk M D ps) (hd : ds.length = D) (hb : ∀ u ∈ ds, isB u ∧ u.length = 32)
 (ht : truT at' g (encN M ps ds) x.1 (gdN at' g x (D + ps.length)) (D + ps.length) = true)
include h hd hb ht
theorem rp_whole (hn : decN M D ps (gdN at' g x (D + ps.length)) = true) : rpN M D ps at' g x.1 x.2 = (1,stS (staL at' g x.1 x.2 (D + ps.length)),encN M ps ds,-1) := by
 have hl := gdN_len at' g x (D + ps.length)
 have hc := con_enc h hd hb hl hn (fun i hi => tru_agree ht hi)
 have hw := wrd_enc h hd hb hl hn (fun i hi => tru_agree ht hi)
 have ha := con_all hc
 have hL : locN M D ps (stU (staL at' g x.1 x.2 (D + ps.length))) (gdN at' g x (D + ps.length)) = (0,12) := by
  rw [locN_eq,if_neg (by rw [ha];decide),if_pos hc]
 have hC : corN M D ps (stU (staL at' g x.1 x.2 (D + ps.length))) (gdN at' g x (D + ps.length)) = (encN M ps ds,0) := by
  rw [corN_eq,if_neg (by rw [ha];decide),if_pos hc,hw]
 unfold rpN
 show repU M D ps _ _ (gdN at' g x (D + ps.length)) = _
 unfold repU
 rw [hL,hC,if_neg (by decide),if_pos rfl]
end
theorem fix_ok {at' : List Pl} {g : Gn} {W : List (List Nat)} {n : Nat} {S : List Int} (hB : slB at' g W n = true) {k : Nat} (hk : k ≤ n) : fixB at' g S k = true := by
 unfold fixB fixT
 rw [List.all_eq_true]
 intro j hj
 have hj := List.mem_range.1 (List.mem_filter.1 hj).1
 obtain ⟨p1,p2,_,_⟩ := sealN_ok (slB_get hB (show j < n by omega)).1
 rw [p1,p2];rfl
theorem fx_whole {at' : List Pl} {g : Gn} {W V : List (List Nat)} {n : Nat} {S : List Int} {s : Int} (hB : slB at' g W n = true) (hS : S.length = n) : fixN at' g (1,S,V,s) = (fixL at' g (1,S,V,s) n,0) := by
 unfold fixN
 rw [if_neg (by simp),if_neg (by simp)]
 dsimp only
 rw [hS,if_pos (fix_ok hB (Nat.le_refl _))]
end
end Go.Proofs.YtplpgijpmgbaiaaGreatDoor
