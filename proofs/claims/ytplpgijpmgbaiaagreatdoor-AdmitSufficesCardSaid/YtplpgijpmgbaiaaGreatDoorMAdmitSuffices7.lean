import Derived.Test.YtplpgijpmgbaiaaGreatDoorMAdmitSuffices6
/- Joined texts: Ad15 Ad16 Ad17 Ad18 Ad19 Ad20 Ad21 Ad22 Ad23 Ad24 Ad25 Ad27 Ad26. -/
set_option linter.unusedVariables false
set_option linter.unusedSimpArgs false
namespace Go.Proofs.YtplpgijpmgbaiaaGreatDoor
open Go.RowKit
set_option maxHeartbeats 4000000
set_option maxRecDepth 100000
section
structure OneCode (vs : List Sv) : Prop where
 c0 : ∀ k,k < vs.length → 0 ≤ (vs.getD k sv0).2.1 ∧ (vs.getD k sv0).2.1 < 8
 nx : ∀ k,k < vs.length → (vs.getD k sv0).2.2.1 = -1
 inj : ∀ k j,k < vs.length → j < vs.length → (vs.getD k sv0).2.1 = (vs.getD j sv0).2.1 → k = j
section
variable {F : Cd → Int → Int × Int} {cs : List Cd} {vs : List Sv} {b : Nat → Int}
theorem runJ_one (h : OneCode vs) : ∀ n, n ≤ vs.length → (runJ F cs (jobsN vs b n)).2 = 0 → (runJ F cs (jobsN vs b n)).1.length = 8 ∧ (∀ k, k < n → (F (cs.getD (vs.getD k sv0).2.1.toNat cd0) (b k)).2 = 0 ∧ (runJ F cs (jobsN vs b n)).1.getD (vs.getD k sv0).2.1.toNat 0 = (F (cs.getD (vs.getD k sv0).2.1.toNat cd0) (b k)).1) ∧ ∀ c, (∀ k, k < n → (vs.getD k sv0).2.1.toNat ≠ c) → (runJ F cs (jobsN vs b n)).1.getD c 0 = 0
 | 0,_,_=>by
   refine ⟨by simp [jobsN,runJ],fun k hk=>by omega,fun c _=>?_⟩
   show (List.replicate 8 (0 : Int)).getD c 0 = 0
   rw [List.getD_eq_getElem?_getD,List.getElem?_replicate]
   split<;>rfl
 | n + 1,hn,he=>by
   obtain ⟨c0,c8⟩:=h.c0 n (by omega)
   have ej : jobsN vs b (n + 1) = jobsN vs b n ++ [((vs.getD n sv0).2.1,b n)]:=by
    rw [jobsN]
    unfold codesV
    rw [if_neg (by omega),if_pos (h.nx n (by omega))]
    rfl
   rw [ej,runJ_app] at he ⊢
   have h0 : (runJ F cs (jobsN vs b n)).2 = 0:=Classical.byContradiction fun hx=>by
    unfold stepJ at he
    rw [if_pos hx] at he
    exact hx he
   obtain ⟨i1,i2,i3⟩:=runJ_one h n (by omega) h0
   unfold stepJ at he ⊢
   rw [if_neg (by simp [h0])] at he ⊢
   dsimp only at he ⊢
   refine ⟨by rw [List.length_set];exact i1,fun k hk=>?_,fun c hc=>?_⟩
   ·by_cases e : k = n
    ·subst e
     refine ⟨he,?_⟩
     rw [getD_setI,if_pos ⟨rfl,by rw [i1];omega⟩]
    ·obtain ⟨a1, a2⟩ := i2 k (by omega)
     refine ⟨a1,?_⟩
     rw [getD_setI,if_neg,a2]
     rintro ⟨hx,_⟩
     have:=h.c0 k (by omega)
     exact e (h.inj k n (by omega) (by omega) (by omega))
   ·rw [getD_setI, if_neg (fun hx => hc n (by omega) hx.1.symm)]
    exact i3 c fun k hk=>hc k (by omega)
end
abbrev Sk:=(Nat × Int) × Int
def sk0 : Sk:=((0,0),0)
def livS (l : List Sk) : Int:=(l.map (·.2)).sum
def smlT (l : List Sk) (but : Int) : Nat → Int
 | 0=>-1
 | k + 1=>if ((k : Int) ≠ but) ∧ (smlT l but k < 0 ∨ (l.getD k sk0).2 < (l.getD (smlT l but k).toNat sk0).2) then (k : Int) else smlT l but k
def smlN (l : List Sk) (but : Int) : Int:=smlT l but l.length
theorem smlT_spec (l : List Sk) (but : Int) : ∀ k, (smlT l but k = -1 ∧ ∀ j : Nat, j < k → (j : Int) = but) ∨ (∃ i : Nat, smlT l but k = (i : Int) ∧ i < k ∧ (i : Int) ≠ but ∧ ∀ j : Nat, j < k → (j : Int) ≠ but → (l.getD i sk0).2 ≤ (l.getD j sk0).2)
 | 0=>.inl ⟨rfl,fun j hj=>by omega⟩
 | k + 1=>by
   have ih:=smlT_spec l but k
   unfold smlT
   by_cases hk : (k : Int) = but
   ·rw [if_neg (fun h => h.1 hk)]
    rcases ih with ⟨h1,h2⟩ | ⟨i,h1,h2,h3,h4⟩
    ·exact .inl ⟨h1,fun j hj=>by
      by_cases e : j = k
      ·subst e;exact hk
      ·exact h2 j (by omega)⟩
    ·exact .inr ⟨i,h1,by omega,h3,fun j hj hne=>h4 j (by
      have : j ≠ k:=fun e=>hne (by rw [e];exact hk)
      omega) hne⟩
   ·rcases ih with ⟨h1, h2⟩ | ⟨i, h1, h2, h3, h4⟩
    ·rw [if_pos ⟨hk, .inl (by omega)⟩]
     exact .inr ⟨k,rfl,by omega,hk,fun j hj hne=>by
      by_cases e : j = k
      ·rw [e];exact Int.le_refl _
      ·exact absurd (h2 j (by omega)) hne⟩
    ·rw [h1, Int.toNat_natCast]
     by_cases hlt : (l.getD k sk0).2 < (l.getD i sk0).2
     ·rw [if_pos ⟨hk, .inr hlt⟩]
      exact .inr ⟨k,rfl,by omega,hk,fun j hj hne=>by
       by_cases e : j = k
       ·rw [e];exact Int.le_refl _
       ·have:=h4 j (by omega) hne;omega⟩
     ·rw [if_neg (by rintro ⟨_, h | h⟩ <;> omega)]
      exact .inr ⟨i,rfl,by omega,h3,fun j hj hne=>by
       by_cases e : j = k
       ·rw [e];omega
       ·exact h4 j (by omega) hne⟩
theorem sum_ge {x : Int} (hx : 0 ≤ x) : ∀ (l : List Int) (i : Nat), (∀ y ∈ l, 0 ≤ y) → (∀ (j : Nat) (hj : j < l.length), j ≠ i → x ≤ l[j]) → ((l.length : Int) - 1) * x ≤ l.sum
 | [],_,_,_=>by simp;omega
 | y :: t,i,h0,h=>by
   rw [List.sum_cons,List.length_cons]
   have hy:=h0 y (by simp)
   cases i with
   | zero =>
     have key : ∀ t : List Int,(∀ z ∈ t,x ≤ z) → (t.length : Int) * x ≤ t.sum:=by
      intro t
      induction t with
      | nil=>intro _;simp
      | cons z t ih =>
        intro hz
        have h1:=hz z (by simp)
        have h2:=ih fun w hw=>hz w (by simp [hw])
        rw [List.sum_cons,List.length_cons]
        have e : ((t.length + 1 : Nat) : Int) * x = (t.length : Int) * x + x:=by rw [Int.natCast_add,Int.add_mul];simp
        omega
     have h2:=key t fun z hz=>by
      obtain ⟨j,hj,rfl⟩:=List.getElem_of_mem hz
      exact h (j + 1) (by rw [List.length_cons];omega) (by omega)
     have e : ((t.length + 1 : Nat) : Int) - 1 = (t.length : Int):=by omega
     rw [e];omega
   | succ i =>
     have h1:=h 0 (by simp) (by omega)
     have h2:=sum_ge hx t i (fun z hz=>h0 z (by simp [hz])) fun j hj hne=>h (j + 1) (by rw [List.length_cons];omega) (by omega)
     have e : (((t.length + 1 : Nat) : Int) - 1) * x = ((t.length : Int) - 1) * x + x:=by
      have : ((t.length + 1 : Nat) : Int) - 1 = ((t.length : Int) - 1) + 1:=by omega
      rw [this,Int.add_mul];simp
     have e2 : (y :: t)[0] = y:=rfl
     rw [e2] at h1
     omega
theorem livS_nn {l : List Sk} (h : ∀ s ∈ l,0 ≤ s.2) : 0 ≤ livS l:=by
 unfold livS
 induction l with
 | nil=>simp
 | cons a t ih =>
   rw [List.map_cons,List.sum_cons]
   have:=h a (by simp)
   have:=ih fun s hs=>h s (by simp [hs])
   omega
theorem getDs {l : List Sk} {i : Nat} (h : i < l.length) : l.getD i sk0 = l[i]:=by rw [List.getD_eq_getElem?_getD,List.getElem?_eq_getElem h];rfl
theorem merge_ok {l : List Sk} {D n : Int} {i j : Nat} (hD : 1 ≤ D) (hn : 1 ≤ n) (h0 : ∀ s ∈ l, 0 ≤ s.2) (hs : livS l ≤ n) (hl : limN D n - 1 ≤ (l.length : Int)) (hn2 : n ≤ 1099511627776)
 (hi : i < l.length) (hj : j < l.length) (hij : j ≠ i) (mi : ∀ k : Nat,k < l.length → (l.getD i sk0).2 ≤ (l.getD k sk0).2) (mj : ∀ k : Nat,k < l.length → k ≠ i → (l.getD j sk0).2 ≤ (l.getD k sk0).2) : (l.getD i sk0).2 + (l.getD j sk0).2 ≤ D:=by
 refine Classical.byContradiction fun hc=>?_
 have h1:=mi j hj
 have hx : 0 ≤ (l.getD j sk0).2:=by rw [getDs hj];exact h0 _ (List.getElem_mem hj)
 generalize hX : (l.getD j sk0).2 = x at *
 generalize (l.getD i sk0).2 = y at *
 have h2:=sum_ge hx (l.map (·.2)) i (fun z hz=>by
  obtain ⟨s,hs,rfl⟩:=List.mem_map.1 hz
  exact h0 s hs) fun k hk hne=>by
   have hk : k < l.length:=by simpa using hk
   have:=mj k hk hne
   rw [getDs hk] at this
   simpa using this
 rw [List.length_map] at h2
 have h2 : ((l.length : Int) - 1) * x ≤ livS l:=h2
 have hlim : limN D n = 2 + upI n D * 2:=by unfold limN;rw [if_neg (by omega)]
 have hup : n ≤ upI n D * D:=by
  unfold upI
  have:=Int.mul_ediv_add_emod (n + D - 1) D
  have h3:=Int.emod_lt_of_pos (n + D - 1) (show 0 < D by omega)
  rw [Int.mul_comm] at this
  omega
 generalize upI n D = m at *
 have hm : 0 ≤ m:=Classical.byContradiction fun hneg=>by
  have : m * D ≤ 0:=Int.mul_nonpos_of_nonpos_of_nonneg (by omega) (by omega)
  omega
 have h4 : m * 2 * x ≤ ((l.length : Int) - 1) * x:=Int.mul_le_mul_of_nonneg_right (by omega) hx
 have h5 : m * D < m * 2 * x ∨ m = 0:=by
  by_cases e : m = 0
  ·exact .inr e
  ·left
   have : m * (D + 1) ≤ m * (2 * x):=Int.mul_le_mul_of_nonneg_left (by omega) hm
   rw [Int.mul_assoc]
   rw [Int.mul_add] at this
   omega
 rcases h5 with h5 | h5
 ·omega
 ·subst h5;omega
theorem row_fits {g held cnt lim : Int} (hg : 1 ≤ g) (h1 : g * held ≤ cnt) (h2 : cnt ≤ lim - 1) : held + 1 ≤ upI lim g:=by
 unfold upI
 refine Int.le_ediv_of_mul_le (by omega) ?_
 rw [Int.add_mul,Int.mul_comm held]
 omega
end
section
theorem any_take {l : List Us} {q : Int} {k : Nat} (h : k < l.length) : (l.take (k + 1)).any (fun u=>decide (u.1 = q)) = ((l.take k).any (fun u=>decide (u.1 = q)) || decide (l[k].1 = q)):=by
 rw [List.take_succ_eq_append_getElem h,List.any_append];simp
attribute [local irreducible] Quiet Eff OpOk AWPG ACont ABlock ACalls AGoto
theorem A_rused24 {w : SRw} {q : Int} (hw : w.2.2.length ≤ 1000000) : ACalls Tryz.prog 122 [rwA w,iV q] [] (bV (hasG w q)) []:=by
 obtain ⟨c,wd,us⟩:=w
 dsimp only at hw
 refine acalls_of_body Tryz.func122 rfl (zU rfl) ?_
 have hmu : (us.map usD).length = us.length:=List.length_map _
 (repeat' (first
  |(apply W.qd;(exact zN))|(apply W.ed;(exact jAa))|(apply yA)|(apply yB)|(apply (W.regionS 2);exact rfl;kernel_rfl)|(apply yE)
  |(apply yG)))
 refine AWP.loopW (α:=Nat) (fun k=>k ≤ us.length ∧ (us.take k).any (fun u=>decide (u.1 = q)) = false) (fun k=>⟨[(5,iV k),(1,iV q),(2,.opt 0 0)],[.box [iV c,iV wd,uss us]]⟩) (fun k=>us.length - k) 0 ⟨Nat.zero_le _,rfl⟩ ⟨[0],rfl,rfl,rfl,by (repeat (first | exact trivial | refine ⟨rfl,?_⟩))⟩ fun k hk=>?_
 obtain ⟨hk,hka⟩:=hk
 by_cases hkl : k < us.length
 ·have e1 := any_take (q := q) hkl
  rw [hka,Bool.false_or] at e1
  by_cases hq : us[k].1 = q
  ·have hT : hasG (c,wd,us) q = true:=by
    unfold hasG
    exact List.any_eq_true.2 ⟨us[k],List.getElem_mem hkl,decide_eq_true hq⟩
   rw [hT]
   (repeat' (first
    |(apply W.qd;(first
    |(exact zM)|(exact zN)|(exact jAm)|(exact jAg)|(exact jAj)|(exact jAu)|(exact jAt)|(exact jAc)|(exact jB)
    |(exact jA)))|(apply yA)|(apply yB)|(refine jAb ?_)|(apply yE)|(apply yG)|(apply yH)|(apply yJ)|(apply yP)|(apply yN)
    |(refine W.cond _ rfl (fun hb=>?_) (fun hb=>?_)<;>((try simp only [hb,zK])<;>(try simp only [zL,zI] at hb)<;>(try (exfalso;omega))))))
   all_goals first
    |(exfalso;omega)
    |exact Ends.b rfl rfl
  ·rw [decide_eq_false hq] at e1
   (repeat' (first
    |(apply W.qd;(first
    |(exact zM)|(exact zN)|(exact jAm)|(exact jAg)|(exact jAj)|(exact jAu)|(exact jAi)|(exact jAt)|(exact jAc)|(exact jB)
    |(exact jA)))|(apply yA)|(apply yB)|(refine jAb ?_)|(apply yE)|(apply yG)|(apply yH)|(apply yL)
    |(refine W.cond _ rfl (fun hb=>?_) (fun hb=>?_)<;>((try simp only [hb,zK])<;>(try simp only [zL,zI] at hb)<;>(try (exfalso;omega))))))
   all_goals first
    |(exfalso;omega)
    |exact ⟨k + 1,⟨by omega,e1⟩,by omega,[0],rfl,rfl,rfl,iV_eq (by omega),rfl,rfl,trivial⟩
 ·obtain rfl : k = us.length := by omega
  rw [List.take_length] at hka
  have hT : hasG (c,wd,us) q = false:=hka
  rw [hT]
  (repeat' (first
   |(apply W.qd;(first
   |(exact zM)|(exact zN)|(exact jAm)|(exact jAg)|(exact jAj)
   |(exact jAt)))|(apply yA)|(apply yB)|(refine jAb ?_)|(apply yE)|(apply yI)|(apply yJ)|(apply yK)|(apply yM)
   |(refine W.cond _ rfl (fun hb=>?_) (fun hb=>?_)<;>((try simp only [hb,zK])<;>(try simp only [zL,zI] at hb)<;>(try (exfalso;omega))))))
  all_goals first
   |(exfalso;omega)
   |exact Ends.b rfl rfl
theorem A_rwith {w : SRw} {u : Us} (hw : w.2.2.length ≤ 1000000) : ACalls Tryz.prog 123 [rwA w,usA u] [] (rwA (withU w u)) []:=by
 obtain ⟨c,wd,us⟩:=w
 dsimp only at hw
 refine acalls_of_body Tryz.func123 rfl (zU rfl) ?_
 have hmu : (us.map usD).length = us.length:=List.length_map _
 have hlen:=insT_len us u
 have hstep : ∀ k (h : k < us.length),insT us u (k + 1) = if (insT us u k).2 = false ∧ u.1 < us[k].1 then ((insT us u k).1 ++ [u] ++ [us[k]],true) else ((insT us u k).1 ++ [us[k]],(insT us u k).2):=fun k h=>by
  have e : us.getD k usY = us[k]:=by rw [List.getD_eq_getElem?_getD,List.getElem?_eq_getElem h];rfl
  rw [insT,e]
 (repeat' (first
  |(apply W.qd;(exact zN))
  |(apply W.ed;(first
  |(exact jAa)
  |(exact jAp)))|(apply yA)|(apply yB)|(apply (W.regionS 2);exact rfl;kernel_rfl)
  |(apply yE)))
 refine AWP.nilRow 5 3 167 rfl (by omega) ?_
 (repeat' (first
  |(apply W.qd;(exact zN))|(apply yA)|(apply yB)|(apply (W.regionS 4);exact rfl;kernel_rfl)|(apply yE)
  |(apply yG)))
 refine AWP.loopW (α:=Nat) (fun k=>k ≤ us.length) (fun k=>⟨[(7,iV k),(6,bV (insT us u k).2),(2,.opt 0 0),(3,.opt 1 0),(4,.opt 2 0),(5,.osl 3 (insT us u k).1.length 0 (insT us u k).1.length)],[.box [iV c,iV wd,uss us],.box [iV u.1,iV u.2.1,iV u.2.2],.box [iV 0,iV 0,.d (.v (.slice none 0 0))],.row (insT us u k).1.length 3 167 ((insT us u k).1.map usD)]⟩) (fun k=>us.length - k) 0 (Nat.zero_le _) ?wkA fun k hk=>?_
 case wkA=>exact ⟨[0,1,2,3],rfl,rfl,rfl,rfl,rfl,rfl,rfl,rfl,rfl,trivial⟩
 obtain ⟨hl1,_⟩:=hlen k
 by_cases hkl : k < us.length
 ·have e1 := hstep k hkl
  clear hstep hlen
  generalize insT us u k = p at *
  obtain ⟨L,b⟩:=p
  dsimp only at hl1 e1 ⊢
  cases b with
  | true =>
    rw [if_neg (fun h=>by cases h.1)] at e1
    (repeat' (first
     |(apply W.qd;(first
     |(exact zM)|(exact zN)|(exact jAm)|(exact jAg)|(exact jAj)|(exact jBe)|(exact jAi)|(exact jAt)|(exact jAk)|(exact jAl)|(exact jA)
     |(apply (yDb (u:=.d _));exact rfl;exact rfl)))|(apply W.ld;(apply l_app1;(iterate 8 exact rfl);(first | omega | (focus (simp;omega)) | (focus (simp;done)))))|(refine W.gOff _ _ rfl rfl (by intro h;cases h) ?_)|(apply yA)|(apply yB)|(refine jAb ?_)|(refine jAr ?_)|(apply yE)|(refine jAx ?_)|(apply yG)|(apply yH)|(apply yL)|(refine jAy ?_)
     |(refine W.cond _ rfl (fun hb=>?_) (fun hb=>?_)<;>((try simp only [hb,zK])<;>(try simp only [zL,zI] at hb)<;>(try (exfalso;omega))))))
    all_goals first
     |(exfalso;omega)|(refine ⟨k + 1,by omega,by omega,?_⟩;(try dsimp only);rw [e1];dsimp only;rw [List.length_append];exact ⟨[0,1,2,3],rfl,rfl,rfl,iV_eq (by omega),rfl,rfl,rfl,rfl,rfl,trivial⟩)
  | false =>
    by_cases hu : u.1 < us[k].1
    ·rw [if_pos ⟨rfl, hu⟩] at e1
     (repeat' (first
      |(apply yFb;exact rfl;exact rfl)
      |(apply W.qd;(first
      |(exact zM)|(exact zN)|(exact jAm)|(exact jAg)|(exact jAn)|(exact jAj)|(exact jBf)|(exact jBe)|(exact jAi)|(exact jAt)|(exact jAc)|(exact jAk)|(exact jB)|(exact jAl)|(exact jA)
      |(apply (yEb (u:=.d _));exact rfl;exact rfl)))|(apply W.ld;(apply l_app1;(iterate 8 exact rfl);(first | omega | (focus (simp;omega)) | (focus (simp;done)))))|(apply yA)|(apply yB)|(refine jAb ?_)|(refine jAr ?_)|(apply yE)|(refine jAx ?_)|(apply yG)|(apply yH)|(apply yL)
      |(refine W.cond _ rfl (fun hb=>?_) (fun hb=>?_)<;>((try simp only [hb,zK])<;>(try simp only [zL,zI] at hb)<;>(try (exfalso;omega))))))
     all_goals first
      |(exfalso;omega)|(refine ⟨k + 1,by omega,by omega,?_⟩;(try dsimp only);rw [e1];dsimp only;rw [List.length_append,List.length_append];exact ⟨[0,1,2,3],rfl,rfl,rfl,iV_eq (by omega),rfl,rfl,rfl,rfl,rfl,trivial⟩)
    ·rw [if_neg (fun h => hu h.2)] at e1
     (repeat' (first
      |(apply yFb;exact rfl;exact rfl)
      |(apply W.qd;(first
      |(exact zM)|(exact zN)|(exact jAm)|(exact jAg)|(exact jAj)|(exact jBf)|(exact jBe)|(exact jAi)|(exact jAt)|(exact jAc)|(exact jAk)|(exact jB)|(exact jAl)|(exact jA)
      |(apply (yEb (u:=.d _));exact rfl;exact rfl)))|(apply W.ld;(apply l_app1;(iterate 8 exact rfl);(first | omega | (focus (simp;omega)) | (focus (simp;done)))))|(apply yA)|(apply yB)|(refine jAb ?_)|(refine jAr ?_)|(apply yE)|(refine jAx ?_)|(apply yG)|(apply yH)|(apply yL)
      |(refine W.cond _ rfl (fun hb=>?_) (fun hb=>?_)<;>((try simp only [hb,zK])<;>(try simp only [zL,zI] at hb)<;>(try (exfalso;omega))))))
     all_goals first
      |(exfalso;omega)|(refine ⟨k + 1,by omega,by omega,?_⟩;(try dsimp only);rw [e1];dsimp only;rw [List.length_append];exact ⟨[0,1,2,3],rfl,rfl,rfl,iV_eq (by omega),rfl,rfl,rfl,rfl,rfl,trivial⟩)
 ·obtain rfl : k = us.length := by omega
  clear hstep hlen
  unfold withU insN
  dsimp only
  generalize insT us u us.length = p at *
  obtain ⟨L,b⟩:=p
  dsimp only at hl1 ⊢
  cases b with
  | true =>
    rw [if_pos rfl]
    (repeat' (first
     |(apply W.qd;(first
     |(exact zM)|(exact jAm)|(exact jAg)|(exact jAn)|(exact jAj)|(exact jBe)
     |(exact jAt)))|(apply W.ln;(exact jAh))|(apply yA)|(apply yB)|(refine jAb ?_)|(apply yE)|(apply yH)|(apply yI)|(apply yJ)|(apply yK)|(apply yM)|(refine jAy ?_)
     |(refine W.cond _ rfl (fun hb=>?_) (fun hb=>?_)<;>((try simp only [hb,zK])<;>(try simp only [zL,zI] at hb)<;>(try (exfalso;omega))))))
    all_goals first
     |(exfalso;omega)|(refine Ends.cell1 rfl rfl rfl ?_;show AV.agg [iV c,iV wd,AV.frz _ [] (.osl 3 L.length 0 L.length)] = _;rw [frz_rowJ rfl rfl (by simp)];rfl)
  | false =>
    rw [if_neg (by decide)]
    (repeat' (first
     |(apply W.qd;(first
     |(exact zM)|(exact zN)|(exact jAm)|(exact jAg)|(exact jAn)|(exact jAj)|(exact jBe)|(exact jAt)
     |(exact jAl)))|(apply W.ld;(apply l_app1;(iterate 8 exact rfl);(first | omega | (focus (simp;omega)) | (focus (simp;done)))))|(apply W.ln;(exact jAh))|(apply yA)|(apply yB)|(refine jAb ?_)|(apply yE)|(apply yI)|(apply yJ)|(apply yK)|(apply yM)|(refine jAv ?_)
     |(refine W.cond _ rfl (fun hb=>?_) (fun hb=>?_)<;>((try simp only [hb,zK])<;>(try simp only [zL,zI] at hb)<;>(try (exfalso;omega))))))
    all_goals first
     |(exfalso;omega)|(refine Ends.cell1 rfl rfl rfl ?_;show AV.agg [iV c,iV wd,AV.frz _ [] (.osl 3 (L.length + 1) 0 (L ++ [u]).length)] = _;rw [frz_rowJ rfl rfl (by simp)];rfl)
theorem A_rcopied {rows : List SRw} (hl : rows.length ≤ 1000) (hu : ∀ a (h : a < rows.length),rows[a].2.2.length ≤ 1000000) : ACalls Tryz.prog 121 [rws rows] [] (.osl 0 rows.length 0 rows.length) [.row rows.length 3 164 (rows.map rwD)]:=by
 refine acalls_of_bodyO Tryz.func121 rfl (zU rfl) ?_
 have hmr : (rows.map rwD).length = rows.length:=List.length_map _
 have htk : ∀ k,k ≤ rows.length → (rows.take k).length = k:=fun k hk=>by rw [List.length_take];omega
 (repeat' (first
  |(apply W.qd;(exact zN))|(apply yA)|(apply yB)|(apply (W.regionS 2);exact rfl;kernel_rfl)
  |(apply yE)))
 refine AWP.nilRow 3 3 164 rfl (by omega) ?_
 (repeat' (first
  |(apply W.qd;(exact zN))|(apply yB)|(apply (W.regionS 3);exact rfl;kernel_rfl)|(apply yE)
  |(apply yG)))
 refine AWP.loopW (α:=Nat) (fun k=>k ≤ rows.length) (fun k=>⟨[(4,iV k),(0,rws rows),(3,.osl 0 k 0 k)],[.row k 3 164 ((rows.take k).map rwD)]⟩) (fun k=>rows.length - k) 0 (Nat.zero_le _) ⟨[0],rfl,rfl,rfl,by (repeat (first | exact trivial | refine ⟨rfl,?_⟩))⟩ fun k hk=>?_
 have hk1:=htk k hk
 by_cases hkl : k < rows.length
 ·have e1 := List.take_succ_eq_append_getElem hkl
  have hu:=hu k hkl
  generalize hr : rows[k] = r at *
  obtain ⟨c,wd,us⟩:=r
  have hmu : (us.map usD).length = us.length:=List.length_map _
  dsimp only at hu
  have hrow : (rows.map rwD)[k]? = some [.v (.int .i64 c),.v (.int .i64 wd),.sl 3 (us.map usD)]:=by
   rw [List.getElem?_map,List.getElem?_eq_getElem hkl,hr];rfl
  generalize rows.take k = A at *
  (repeat' (first
   |(apply W.qd;(first
   |((apply q_ld_fpts;(iterate 3 exact rfl);exact hrow))|(exact zM)|(exact zN)|(exact jAj)|(exact jAt)
   |(exact jA)))|(apply W.ed;(exact jAp))|(apply W.ln;(exact jAh))|(apply yA)|(apply yB)|(apply (W.regionS 7);exact rfl;kernel_rfl)|(apply yE)|(apply yG)|(apply yH)
   |(refine W.cond _ rfl (fun hb=>?_) (fun hb=>?_)<;>((try simp only [hb,zK])<;>(try simp only [zL,zI] at hb)<;>(try (exfalso;omega))))))
  all_goals try (exfalso;omega)
  refine AWP.nilRow 6 3 167 rfl (by omega) ?_
  (repeat' (first
   |(apply W.ed;(apply e_appE;(iterate 8 exact rfl);(focus (simp;done));(focus (simp;omega))))
   |(apply W.qd;(first
   |(exact zM)|(exact zN)|(exact jAm)
   |(exact jAg)))|(apply yA)|(apply yB)|(apply (W.regionS 8);exact rfl;kernel_rfl)
   |(apply yE)))
  refine AWP.wk ⟨[(4,iV k),(0,rws rows),(3,.osl 0 k 0 k),(5,.opt 1 0),(6,uss us)],[.row k 3 164 (A.map rwD),.box [iV c,iV wd,uss us]]⟩ ⟨[0,1],rfl,rfl,rfl,rfl,rfl,rfl,rfl,(frz_rowJ rfl rfl (by simp)).symm,trivial⟩ ?_
  (repeat' (first
   |(apply W.qd;(first
   |(exact zM)|(exact zN)|(exact jAm)|(exact jAn)|(exact jAi)
   |(exact jAl)))|(apply W.ed;((apply (e_app1F (f:=rwD) ((c,wd,us) : SRw));exact congrArg (AV.osl 0 k 0) hk1.symm;(iterate 7 exact rfl);omega)))|(apply W.ln;(exact jAh))|(apply yB)|(refine jAb ?_)|(apply yE)
   |(apply yL)))
  all_goals first
   |(exfalso;omega)|(refine ⟨k + 1,by omega,by omega,?_⟩;(try dsimp only);rw [e1,← hk1];exact ⟨[0],rfl,rfl,rfl,iV_eq (by omega),rfl,congrArg (AV.osl 0 (A.length + 1) 0) (by simp),trivial⟩)
 ·obtain rfl : k = rows.length := by omega
  rw [List.take_length]
  (repeat' (first
   |(apply W.qd;(first
   |(exact zM)|(exact zN)|(exact jAj)
   |(exact jAt)))|(apply yA)|(apply yB)|(refine jAb ?_)|(apply yE)|(apply yI)|(apply yJ)|(apply yK)|(apply yM)
   |(refine W.cond _ rfl (fun hb=>?_) (fun hb=>?_)<;>((try simp only [hb,zK])<;>(try simp only [zL,zI] at hb)<;>(try (exfalso;omega))))))
  all_goals first
   |(exfalso;omega)
   |exact ⟨.inl rfl,[0],[.osl 0 rows.length 0 rows.length],rfl,rfl,⟨rfl,trivial⟩,AVle.of_eq rfl,rfl⟩
theorem first_grp {q : Int} : ∀ {us : List Us}, us.any (fun u => decide (u.1 = q)) = true → ∃ k, ∃ hk : k < us.length, us[k].1 = q ∧ ∀ j (hj : j < us.length), j < k → us[j].1 ≠ q
 | [],h=>by simp at h
 | x :: t,h=>by
   by_cases hx : x.1 = q
   ·exact ⟨0,by simp,hx,fun j _ hj=>by omega⟩
   ·obtain ⟨k, hk, h1, h2⟩ := first_grp (us := t) (by simpa [hx] using h)
    refine ⟨k + 1,by simp;omega,h1,fun j hj hjk=>?_⟩
    cases j with
    | zero=>exact hx
    | succ j=>exact h2 j (by simpa using hj) (by omega)
theorem A_rfind {rows : List SRw} {a : Nat} {q : Int} (hl : rows.length ≤ 1000) (ha : a < rows.length) (hu : rows[a].2.2.length ≤ 1000000) (hq : hasG rows[a] q = true) : ∃ u : Us,ACalls Tryz.prog 183 [rws rows,.agg [iV a,iV q]] [] (.tup [usA u,iV 0]) []:=by
 obtain ⟨w,hw⟩ : ∃ w,rows[a] = w:=⟨_,rfl⟩
 rw [hw] at hu hq
 obtain ⟨c,wd,us⟩:=w
 obtain ⟨k0,hk0,h1,h2⟩:=first_grp (show us.any (fun u=>decide (u.1 = q)) = true from hq)
 dsimp only at hu
 refine ⟨us[k0],acalls_of_body Tryz.func183 rfl (zU rfl) ?_⟩
 have hmr : (rows.map rwD).length = rows.length:=List.length_map _
 have hmu : (us.map usD).length = us.length:=List.length_map _
 have hrow : (rows.map rwD)[a]? = some [.v (.int .i64 c),.v (.int .i64 wd),.sl 3 (us.map usD)]:=by
  rw [List.getElem?_map,List.getElem?_eq_getElem ha,hw];rfl
 (repeat' (first
  |(apply yFb;exact rfl;exact rfl)
  |(apply W.qd;(first
  |((apply q_ld_fpt;exact rfl;exact rfl;exact hrow;exact rfl))|(exact zM)|(exact zN)|(exact jAm)|(exact jAg)|(exact jAj)|(exact q_geq rfl rfl)|(exact jAt)|(exact jB)|(exact jA)
  |(apply (yEb (u:=.d _));exact rfl;exact rfl)))
  |(apply W.ed;(first
  |(exact jAa)
  |(exact jAp)))|(apply yA)|(apply yB)|(apply (W.regionS 4);exact rfl;kernel_rfl)|(apply yE)|(apply yG)
  |(refine W.cond _ rfl (fun hb=>?_) (fun hb=>?_)<;>((try simp only [hb,zK])<;>(try simp only [zL,zI] at hb)<;>(try (exfalso;omega))))))
 all_goals try (exfalso;omega)
 refine AWP.loopW (α:=Nat) (fun k=>k ≤ k0) (fun k=>⟨[(7,iV k),(6,uss us),(3,.opt 0 0),(4,.opt 1 0),(5,iV 0)],[.box [iV a,iV q],.box [iV 0,iV 0,iV 0]]⟩) (fun k=>k0 - k) 0 (Nat.zero_le _) ⟨[0,1],rfl,rfl,rfl,by (repeat (first | exact trivial | refine ⟨rfl,?_⟩))⟩ fun k hk=>?_
 by_cases hkl : k < k0
 ·have h3 := h2 k (by omega) hkl
  (repeat' (first
   |(apply W.qd;(first
   |(exact zM)|(exact zN)|(exact jAm)|(exact jAg)|(exact jAj)|(exact jAu)|(exact jAi)|(exact jAt)|(exact jAc)|(exact jB)
   |(exact jA)))|(apply yA)|(apply yB)|(refine jAb ?_)|(refine jAr ?_)|(apply yE)|(refine jAx ?_)|(apply yG)|(apply yH)|(apply yL)
   |(refine W.cond _ rfl (fun hb=>?_) (fun hb=>?_)<;>((try simp only [hb,zK])<;>(try simp only [zL,zI] at hb)<;>(try (exfalso;omega))))))
  all_goals first
   |(exfalso;omega)
   |exact ⟨k + 1,by omega,by omega,[0,1],rfl,rfl,rfl,iV_eq (by omega),rfl,rfl,rfl,rfl,trivial⟩
 ·obtain rfl : k = k0 := by omega
  (repeat' (first
   |(apply W.qd;(first
   |(exact zM)|(exact zN)|(exact jAm)|(exact jAg)|(exact jAj)|(exact jAu)|(exact jAt)|(exact jAc)|(exact jAk)|(exact jB)
   |(exact jA)))|(apply W.ln;(exact jAh))|(apply yA)|(apply yB)|(refine jAb ?_)|(refine jAr ?_)|(apply yE)|(refine jAx ?_)|(apply yG)|(apply yH)|(apply yJ)|(apply yP)|(apply yN)
   |(refine W.cond _ rfl (fun hb=>?_) (fun hb=>?_)<;>((try simp only [hb,zK])<;>(try simp only [zL,zI] at hb)<;>(try (exfalso;omega))))))
  all_goals first
   |(exfalso;omega)
   |exact Ends.cell2 rfl rfl rfl rfl rfl
end
section
theorem relL_take {l : List Us} {q : Int} {k : Nat} (h : k < l.length) : relL (l.take (k + 1)) q = relL (l.take k) q ++ if l[k].1 = q then [] else [l[k]]:=by
 unfold relL
 rw [List.take_succ_eq_append_getElem h,List.filter_append]
 congr 1
 by_cases e : l[k].1 = q
 ·rw [if_pos e,List.filter_cons_of_neg (by simp [e])];rfl
 ·rw [if_neg e,List.filter_cons_of_pos (by simp [e])];rfl
theorem fr_cell {B : Nat → Prop} {w : World} {q : Nat} {x x' : Dat} (h3 : (frD (-1))[q]? = some x) (h4 : (rwD freeR)[q]? = some x') {u : Value} (hu : Dat.sat B w x u) : Dat.sat B w x' u:=by
 match q with
 | 0 => obtain rfl : Dat.v (.int .i64 (-1)) = x := by simpa [frD] using h3
        obtain rfl : Dat.v (.int .i64 (-1)) = x':=by simpa [rwD,freeR] using h4
        exact hu
 | 1 => obtain rfl : Dat.v (.int .i64 0) = x := by simpa [frD] using h3
        obtain rfl : Dat.v (.int .i64 0) = x':=by simpa [rwD,freeR] using h4
        exact hu
 | 2 => obtain rfl : Dat.v (.slice none 0 0) = x := by simpa [frD] using h3
        obtain rfl : Dat.sl 3 [] = x':=by simpa [rwD,freeR] using h4
        simp only [Dat.sat] at hu ⊢
        subst hu
        exact ⟨none,0,rfl,Nat.le_refl _,Nat.zero_le _,fun h=>by simp at h⟩
 | q + 3=>simp [frD] at h3
theorem fr_set {rows : List SRw} {a : Nat} : AVle (.d (.sl 3 ((rows.map rwD).set a (frD (-1))))) (rws (rows.set a freeR)):=fun F own κ w u h=>by
 rw [AV.sat] at h ⊢
 refine dat_sl_le (by simp) (fun j e e' h1 h2=>?_) h
 rw [List.map_set] at h2
 by_cases e0 : a = j
 ·subst e0
  have hj : a < (rows.map rwD).length:=by have:=(List.getElem?_eq_some_iff.1 h1).1;rwa [List.length_set] at this
  rw [List.getElem?_set_self hj] at h1 h2
  obtain rfl:=Option.some.inj h1
  obtain rfl:=Option.some.inj h2
  exact ⟨rfl,fun q x x' h3 h4 u hu=>fr_cell h3 h4 hu⟩
 ·rw [List.getElem?_set_ne e0] at h1 h2
  obtain rfl:=Option.some.inj (h1.symm.trans h2)
  refine ⟨rfl,fun q x x' h3 h4 u hu=>?_⟩
  obtain rfl:=Option.some.inj (h3.symm.trans h4)
  exact hu
attribute [local irreducible] Quiet Eff OpOk AWPG ACont ABlock ACalls AGoto
theorem A_rrelease {rows : List SRw} {a : Nat} {q : Int} (hl : rows.length ≤ 1000) (hus : ∀ j (h : j < rows.length),rows[j].2.2.length ≤ 1000000) (ha : a < rows.length) (hq : hasG rows[a] q = true) : ACalls Tryz.prog 119 [rws rows,.agg [iV a,iV q]] [] (.tup [rws (rows.set a (relR rows[a] q)),iV 0]) []:=by
 refine acalls_of_body Tryz.func119 rfl (zU rfl) ?_
 obtain ⟨u0,hfd⟩:=A_rfind hl ha (hus a ha) hq
 have hcp:=A_rcopied hl hus
 have hu:=hus a ha
 have hmr : (rows.map rwD).length = rows.length:=List.length_map _
 unfold relR
 obtain ⟨w,hw⟩ : ∃ w,rows[a] = w:=⟨_,rfl⟩
 rw [hw] at hu ⊢
 clear hq
 obtain ⟨c,wd,us⟩:=w
 dsimp only at hu ⊢
 have hmu : (us.map usD).length = us.length:=List.length_map _
 have hrow : (rows.map rwD)[a]? = some [.v (.int .i64 c),.v (.int .i64 wd),.sl 3 (us.map usD)]:=by
  rw [List.getElem?_map,List.getElem?_eq_getElem ha,hw];rfl
 have hst:=fun k (h : k < us.length)=>relL_take (q:=q) h
 have hle : ∀ k,(relL (us.take k) q).length ≤ k:=fun k=>Nat.le_trans (List.length_filter_le _ _) (by simp;omega)
 (repeat' (first
  |(apply W.qd;(first
  |(exact zW (hfd))|(exact zM)|(exact zN)|(exact jAn)|(exact jBb)
  |(exact yAb rfl rfl)))
  |(apply W.ed;(first
  |(apply (e_callJ (js:=[]) (hcp));(iterate 5 exact rfl);kernel_rfl;kernel_rfl)|(exact jAa)
  |(exact jAp)))|(apply W.ln;(exact jAh))|(apply yA)|(apply yB)|(apply (W.regionS 6);exact rfl;kernel_rfl)|(apply yE)|(apply yH)
  |(refine jAy ?_)))
 all_goals try (exfalso;omega)
 refine AWP.nilRow 9 3 167 rfl (by omega) ?_
 (repeat' (first
  |(apply W.qd;(exact zN))|(apply yB)|(apply (W.regionS 7);exact rfl;kernel_rfl)|(apply yE)
  |(apply yG)))
 refine AWP.loopW (α:=Nat) (fun k=>k ≤ us.length) (fun k=>⟨[(10,iV k),(3,.opt 0 0),(8,.osl 1 rows.length 0 rows.length),(9,.osl 2 (relL (us.take k) q).length 0 (relL (us.take k) q).length)],[.box [iV a,iV q],.row rows.length 3 164 (rows.map rwD),.row (relL (us.take k) q).length 3 167 ((relL (us.take k) q).map usD)]⟩) (fun k=>us.length - k) 0 (Nat.zero_le _) ?wkA fun k hk=>?_
 case wkA=>exact ⟨[0,2,3],rfl,rfl,rfl,rfl,rfl,rfl,rfl,trivial⟩
 have hl1:=hle k
 by_cases hkl : k < us.length
 ·have e1 := hst k hkl
  clear hst hle hcp hfd
  generalize relL (us.take k) q = L at *
  by_cases hk2 : us[k].1 = q
  ·rw [if_pos hk2, List.append_nil] at e1
   (repeat' (first
    |(apply W.qd;(first
    |((apply q_ld_rpt;(iterate 3 exact rfl);exact hrow;exact rfl))
    |((apply q_fld_rptF;(iterate 4 exact rfl)))|(exact zM)|(exact zN)|(exact jAm)|(exact jAg)|(exact jAj)|(exact jBb)|(exact jAi)|(exact jAt)|(exact jAc)|(exact jB)|(exact jA)
    |(exact jAf)))|(apply yA)|(apply yB)|(refine jAb ?_)|(refine jAr ?_)|(apply yE)|(refine jAx ?_)|(apply yG)|(apply yH)|(apply yL)
    |(refine W.cond _ rfl (fun hb=>?_) (fun hb=>?_)<;>((try simp only [hb,zK])<;>(try simp only [zL,zI] at hb)<;>(try (exfalso;omega))))))
   all_goals first
    |(exfalso;omega)|(refine ⟨k + 1,by omega,by omega,?_⟩;(try dsimp only);rw [e1];exact ⟨[0,1,2],rfl,rfl,rfl,iV_eq (by omega),rfl,rfl,rfl,trivial⟩)
  ·rw [if_neg hk2] at e1
   (repeat' (first
    |(apply W.qd;(first
    |((apply q_ld_rpt;(iterate 3 exact rfl);exact hrow;exact rfl))
    |((apply q_fld_rptF;(iterate 4 exact rfl)))|(exact zM)|(exact zN)|(exact jAm)|(exact jAg)|(exact jAj)|(exact jBb)|(exact jAi)|(exact jAt)|(exact jAc)|(exact jAk)|(exact jB)|(exact jAl)|(exact jA)
    |(exact jAf)))|(apply W.ld;(apply l_app1;(iterate 8 exact rfl);(first | omega | (focus (simp;omega)) | (focus (simp;done)))))|(apply yA)|(apply yB)|(refine jAb ?_)|(refine jAr ?_)|(apply yE)|(refine jAx ?_)|(apply yG)|(apply yH)|(apply yL)
    |(refine W.cond _ rfl (fun hb=>?_) (fun hb=>?_)<;>((try simp only [hb,zK])<;>(try simp only [zL,zI] at hb)<;>(try (exfalso;omega))))))
   all_goals first
    |(exfalso;omega)|(refine ⟨k + 1,by omega,by omega,?_⟩;(try dsimp only);rw [e1,List.length_append];exact ⟨[0,1,2],rfl,rfl,rfl,iV_eq (by omega),rfl,rfl,rfl,trivial⟩)
 ·obtain rfl : k = us.length := by omega
  rw [List.take_length]
  rw [List.take_length] at hl1
  clear hst hle hcp hfd
  generalize relL us q = L at *
  have hmL : (L.map usD).length = L.length:=List.length_map _
  refine AWP.wk ⟨[(10,iV us.length),(3,.opt 0 0),(8,.osl 1 rows.length 0 rows.length),(9,uss L)],[.box [iV a,iV q],.row rows.length 3 164 (rows.map rwD)]⟩ ⟨[0,1],rfl,rfl,rfl,rfl,rfl,rfl,(frz_rowJ rfl rfl (by simp)).symm,trivial⟩ ?_
  have hst2 : (rows.map rwD).set a [.v (.int .i64 c),.v (.int .i64 wd),.sl 3 (L.map usD)] = (rows.set a (c,wd,L)).map rwD:=by rw [List.map_set];rfl
  by_cases hL : L = []
  ·subst hL
   rw [if_pos rfl]
   have hst3 : ((rows.map rwD).set a [.v (.int .i64 c),.v (.int .i64 wd),.sl 3 []]).set a (frD (-1)) = (rows.map rwD).set a (frD (-1)):=List.set_set ..
   have hlA : ((rows.map rwD).set a [.v (.int .i64 c),.v (.int .i64 wd),.sl 3 []]).length = rows.length:=by simp
   (repeat' (first
    |(apply W.qd;(first
    |((apply q_ld_rpt;(iterate 3 exact rfl);exact hrow;exact rfl))
    |((apply q_fld_rptF;(iterate 4 exact rfl)))|(exact zM)|(exact zN)|(exact jAm)|(exact jAg)|(exact jAj)|(exact jAu)|(exact jAt)|(apply yZ;exact rfl;exact rfl;kernel_rfl)
    |(exact jAf)))
    |(apply W.en;(first
    |((apply e_st_rptG;(iterate 7 exact rfl);exact hrow;exact rfl;exact rfl))
    |((apply e_st_rpts;(iterate 7 exact rfl);exact congrArg (fun l=>some [_,Ent.row rows.length 3 164 l]) hst3))))|(apply yA)|(apply yB)|(refine jAb ?_)|(apply yE)|(apply yI)|(apply yJ)|(apply yK)|(apply yM)|(refine jAv ?_)
    |(refine W.cond _ rfl (fun hb=>?_) (fun hb=>?_)<;>((try simp only [hb,zK])<;>(try simp only [zL,zI] at hb)<;>(try (exfalso;omega))))))
   all_goals first
    |(exfalso;omega)|(refine ⟨.inl rfl,[],[.osl 1 rows.length 0 rows.length,iV 0],rfl,⟨rfl,rfl,trivial⟩,?_,rfl⟩;show AVle (AV.tup [AV.frz _ [] (.osl 1 rows.length 0 rows.length),iV 0]) _;rw [frz_rowJ rfl rfl (by simp)];exact AVle.tup ⟨fr_set,AVle.refl _,trivial⟩)
  ·rw [if_neg hL]
   have hL1 : 0 < L.length:=List.length_pos_iff.2 hL
   (repeat' (first
    |(apply W.qd;(first
    |((apply q_ld_rpt;(iterate 3 exact rfl);exact hrow;exact rfl))
    |((apply q_fld_rptF;(iterate 4 exact rfl)))|(exact zM)|(exact zN)|(exact jAm)|(exact jAg)|(exact jAj)|(exact jAu)|(exact jAt)
    |(exact jAf)))|(apply W.en;((apply e_st_rptG;(iterate 7 exact rfl);exact hrow;exact hst2;exact rfl)))|(apply yA)|(apply yB)|(refine jAb ?_)|(apply yE)|(apply yH)|(apply yI)|(apply yJ)|(apply yK)|(apply yM)
    |(refine W.cond _ rfl (fun hb=>?_) (fun hb=>?_)<;>((try simp only [hb,zK])<;>(try simp only [zL,zI] at hb)<;>(try (exfalso;omega))))))
   all_goals first
    |(exfalso;omega)|(refine Ends.two rfl rfl ?_;show AV.tup [AV.frz _ [] (.osl 1 rows.length 0 rows.length),iV 0] = _;rw [frz_rowJ rfl rfl (by simp)])
end
section
def AlcTo (rows : List SRw) (c w : Int) (G : Nat) (rows' : List SRw) (a q : Nat) : Prop :=
 (∃ h : a < rows.length,rows[a].1 = c ∧ q < G ∧ hasG rows[a] q = false ∧ (∀ q' : Nat,q' < q → hasG rows[a] q' = true) ∧ (∀ j (hj : j < rows.length),j < a → rows[j].1 = c → ∀ q' : Nat,q' < G → hasG rows[j] q' = true) ∧ rows' = rows.set a (withU rows[a] ((q : Int),0,0))) ∨
 (q = 0 ∧ (∀ j (hj : j < rows.length),rows[j].1 = c → ∀ q' : Nat,q' < G → hasG rows[j] q' = true) ∧ ∃ h : a < rows.length,rows[a].1 = -1 ∧ (∀ j (hj : j < rows.length),j < a → rows[j].1 ≠ -1) ∧ rows' = rows.set a (c,w,[(0,0,0)]))
attribute [local irreducible] Quiet Eff OpOk AWPG ACont ABlock ACalls AGoto
theorem A_ralloc {d r n s l i : Int} {rows rows' : List SRw} {c w : Int} {G a q : Nat} (hl : rows.length ≤ 1000) (hus : ∀ j (h : j < rows.length),rows[j].2.2.length ≤ 1000000) (hc : 0 ≤ c ∧ c < 8) (hw : 1 ≤ w ∧ w ≤ 32) (hG : grpI d r n s l i w = (G : Int)) (hG0 : 0 < G) (hG1 : G ≤ 64) (hwd : ∀ j (h : j < rows.length),rows[j].1 = c → rows[j].2.1 = w) (h : AlcTo rows c w G rows' a q) : ACalls Tryz.prog 68 [cfgA d r n s l i,rws rows,iV c,iV w,.agg [iV 0,iV 0]] [] (.tup [rws rows',.agg [iV a,iV q],iV 0]) []:=by
 refine acalls_of_body Tryz.func68 rfl (zU rfl) ?_
 have hcp:=A_rcopied hl hus
 have hg:=A_rgroups d r n s l i w
 rw [hG] at hg
 have hmr : (rows.map rwD).length = rows.length:=List.length_map _
 obtain ⟨J,hJ,hfull,hend⟩ : ∃ J,J ≤ rows.length ∧ (∀ j (hj : j < rows.length),j < J → rows[j].1 = c → ∀ q' : Nat,q' < G → hasG rows[j] q' = true) ∧ ((J = a ∧ ∃ h : a < rows.length,rows[a].1 = c ∧ q < G ∧ hasG rows[a] q = false ∧ (∀ q' : Nat,q' < q → hasG rows[a] q' = true) ∧ rows' = rows.set a (withU rows[a] ((q : Int),0,0))) ∨ (J = rows.length ∧ q = 0 ∧ ∃ h : a < rows.length,rows[a].1 = -1 ∧ (∀ j (hj : j < rows.length),j < a → rows[j].1 ≠ -1) ∧ rows' = rows.set a (c,w,[(0,0,0)]))):=by
  rcases h with ⟨h0,h1,h2,h3,h4,h5,h6⟩ | ⟨h0,h1,h2⟩
  ·exact ⟨a,by omega,h5,.inl ⟨rfl,h0,h1,h2,h3,h4,h6⟩⟩
  ·exact ⟨rows.length,Nat.le_refl _,fun j hj _=>h1 j hj,.inr ⟨rfl,h0,h2⟩⟩
 (repeat' (first
  |(apply yFb;exact rfl;exact rfl)
  |(apply W.qd;(first
  |(exact zW (hg))|(exact zM)|(exact zN)|(exact jAn)|(exact jAj)|(exact jBf)|(exact q_geq rfl rfl)|(exact jAu)
  |(apply (yDb (u:=.d _));exact rfl;exact rfl)))
  |(apply W.ed;(first
  |(exact jAa)
  |(exact jAp)))|(apply yA)|(apply yB)|(apply (W.regionS 4);exact rfl;kernel_rfl)|(apply yE)|(apply yG)|(apply yH)|(refine W.gF _ _ rfl rfl (fun hb=>?_) (fun hb=>?_)<;>((try simp only [hb,zK])<;>(try simp only [zL,zI] at hb)<;>(try (exfalso;omega))))
  |(refine W.cond _ rfl (fun hb=>?_) (fun hb=>?_)<;>((try simp only [hb,zK])<;>(try simp only [zL,zI] at hb)<;>(try (exfalso;omega))))))
 all_goals try (exfalso;omega)
 refine AWP.loopW (α:=Nat) (fun j=>j ≤ rows.length) (fun j=>⟨[(13,iV j),(1,rws rows),(2,iV c),(3,iV w),(5,.opt 0 0),(9,.opt 1 0),(11,.opt 2 0)],[.box [iV d,iV r,iV n,iV s,iV l,iV i],.box [iV 0,iV 0],.box [iV 0,iV 0]]⟩) (fun j=>rows.length - j) 0 (Nat.zero_le _) ⟨[0,1,2],rfl,rfl,rfl,by (repeat (first | exact trivial | refine ⟨rfl,?_⟩))⟩ fun j hj=>?_
 by_cases hjl : j < rows.length
 ·have hwj := hwd j hjl
  clear hg hcp hfull hend hwd
  by_cases hjc : rows[j].1 = c
  ·have hwj := hwj hjc
   (repeat' (first
    |(apply yFb;exact rfl;exact rfl)
    |(apply W.qd;(first
    |(exact zM)|(exact zN)|(exact jAj)|(exact jAu)|(exact jBb)|(exact jAi)|(exact jAt)|(exact jAc)|(exact jB)|(exact jA)
    |(apply (yEb (u:=.d _));exact rfl;exact rfl)))|(apply yA)|(apply yB)|(refine jAb ?_)|(apply yE)|(apply yG)|(apply yH)|(apply yL)|(refine W.gT _ _ rfl rfl (fun hb=>?_) (fun hb=>?_)<;>((try simp only [hb,zK])<;>(try simp only [zL,zI] at hb)<;>(try (exfalso;omega))))
    |(refine W.cond _ rfl (fun hb=>?_) (fun hb=>?_)<;>((try simp only [hb,zK])<;>(try simp only [zL,zI] at hb)<;>(try (exfalso;omega))))))
   all_goals first
    |(exfalso;omega)
    |exact ⟨j + 1,by omega,by omega,[0,1,2],rfl,rfl,rfl,iV_eq (by omega),rfl,rfl,rfl,rfl,rfl,rfl,trivial⟩
  ·(repeat' (first
   |(apply W.qd;(first
   |(exact zM)|(exact zN)|(exact jAj)|(exact jAu)|(exact jAi)|(exact jAt)|(exact jAc)|(exact jB)|(exact jA)
   |(apply (yDb (u:=.d _));exact rfl;exact rfl)))|(refine W.gOff _ _ rfl rfl (by intro h;cases h) ?_)|(apply yA)|(apply yB)|(refine jAb ?_)|(apply yE)|(apply yG)|(apply yH)|(apply yL)|(refine jAy ?_)|(refine W.gT _ _ rfl rfl (fun hb=>?_) (fun hb=>?_)<;>((try simp only [hb,zK])<;>(try simp only [zL,zI] at hb)<;>(try (exfalso;omega))))
   |(refine W.cond _ rfl (fun hb=>?_) (fun hb=>?_)<;>((try simp only [hb,zK])<;>(try simp only [zL,zI] at hb)<;>(try (exfalso;omega))))))
   all_goals first
    |(exfalso;omega)
    |exact ⟨j + 1,by omega,by omega,[0,1,2],rfl,rfl,rfl,iV_eq (by omega),rfl,rfl,rfl,rfl,rfl,rfl,trivial⟩
 obtain rfl : j = rows.length:=by omega
 have hN : rows.length = (rows.map rwD).length:=by simp
 (repeat' (first
  |(apply W.qd;(first
  |(exact zM)|(exact zN)|(exact jAj)
  |(exact jAt)))|(apply W.ed;(apply (e_callJ (js:=[]) (hcp));(iterate 5 exact rfl);kernel_rfl;kernel_rfl))|(apply yA)|(apply yB)|(apply (W.regionS 10);exact rfl;kernel_rfl)|(apply yE)|(apply yG)|(apply yI)|(apply yK)|(apply yM)
  |(refine W.cond _ rfl (fun hb=>?_) (fun hb=>?_)<;>((try simp only [hb,zK])<;>(try simp only [zL,zI] at hb)<;>(try (exfalso;omega))))))
 all_goals try (exfalso;omega)
 refine AWP.loopW (α:=Nat) (fun j=>j ≤ J) (fun j=>⟨[(15,iV j),(14,.osl 3 rows.length 0 rows.length),(1,rws rows),(2,iV c),(3,iV w),(5,.opt 0 0),(9,.opt 1 0),(11,.opt 2 0)],[.box [iV d,iV r,iV n,iV s,iV l,iV i],.box [iV 0,iV 0],.box [iV 0,iV 0],.row rows.length 3 164 (rows.map rwD)]⟩) (fun j=>J - j) 0 (Nat.zero_le _) ⟨[0,1,2,3],rfl,rfl,rfl,by (repeat (first | exact trivial | refine ⟨rfl,?_⟩))⟩ fun j hj=>?_
 clear hcp hwd
 by_cases hjJ : j < J
 ·have hjl : j < rows.length := by omega
  have hfj:=hfull j hjl hjJ
  clear hfull hend
  by_cases hjc : rows[j].1 = c
  ·have hfj := hfj hjc
   have hud:=fun k : Nat=>A_rused24 (w:=rows[j]) (q:=(k : Int)) (hus j hjl)
   (repeat' (first
    |(apply W.qd;(first
    |(exact zM)|(exact zN)|(exact jAj)|(exact jBb)|(exact jAt)|(exact jAc)|(exact jB)
    |(exact jA)))|(apply yA)|(apply yB)|(apply (W.regionS 14);exact rfl;kernel_rfl)|(apply yE)|(apply yG)|(apply yH)
    |(refine W.cond _ rfl (fun hb=>?_) (fun hb=>?_)<;>((try simp only [hb,zK])<;>(try simp only [zL,zI] at hb)<;>(try (exfalso;omega))))))
   all_goals try (exfalso;omega)
   refine AWP.loopW (α:=Nat) (fun k=>k ≤ G) (fun k=>⟨[(16,iV k),(15,iV j),(14,.osl 3 rows.length 0 rows.length),(1,rws rows),(2,iV c),(3,iV w),(5,.opt 0 0),(9,.opt 1 0),(11,.opt 2 0)],[.box [iV d,iV r,iV n,iV s,iV l,iV i],.box [iV 0,iV 0],.box [iV 0,iV 0],.row rows.length 3 164 (rows.map rwD)]⟩) (fun k=>G - k) 0 (Nat.zero_le _) ⟨[0,1,2,3],rfl,rfl,rfl,by (repeat (first | exact trivial | refine ⟨rfl,?_⟩))⟩ fun k hk=>?_
   by_cases hkl : k < G
   ·have hud := hud k
    rw [hfj k hkl] at hud
    (repeat' (first
     |(apply W.qd;(first
     |(exact zW (hg))|(exact zW (hud))|(exact zM)|(exact zN)|(exact jAn)|(exact jAj)|(exact jBe)|(exact jAi)|(exact jAk)
     |(exact jA)))|(apply yA)|(apply yB)|(refine jAb ?_)|(apply yE)|(apply yG)|(apply yH)|(apply yL)|(refine jAy ?_)
     |(refine W.cond _ rfl (fun hb=>?_) (fun hb=>?_)<;>((try simp only [hb,zK])<;>(try simp only [zL,zI] at hb)<;>(try (exfalso;omega))))))
    all_goals first
     |(exfalso;omega)
     |exact ⟨k + 1,by omega,by omega,[0,1,2,3],rfl,rfl,rfl,iV_eq (by omega),rfl,rfl,rfl,rfl,rfl,rfl,rfl,rfl,trivial⟩
   ·obtain rfl : k = G := by omega
    clear hud
    (repeat' (first
     |(apply W.qd;(first
     |(exact zW (hg))|(exact zM)|(exact zN)|(exact jAn)|(exact jAj)
     |(exact jAi)))|(apply yA)|(apply yB)|(refine jAb ?_)|(apply yE)|(apply yI)|(apply yK)|(apply yL)|(apply yM)
     |(refine W.cond _ rfl (fun hb=>?_) (fun hb=>?_)<;>((try simp only [hb,zK])<;>(try simp only [zL,zI] at hb)<;>(try (exfalso;omega))))))
    all_goals first
     |(exfalso;omega)
     |exact ⟨j + 1,by omega,by omega,[0,1,2,3],rfl,rfl,rfl,iV_eq (by omega),rfl,rfl,rfl,rfl,rfl,rfl,rfl,trivial⟩
  ·(repeat' (first
   |(apply W.qd;(first
   |(exact zM)|(exact zN)|(exact jAj)|(exact jBb)|(exact jAi)|(exact jAt)|(exact jAc)|(exact jB)
   |(exact jA)))|(apply yA)|(apply yB)|(refine jAb ?_)|(apply yE)|(apply yG)|(apply yH)|(apply yI)|(apply yK)|(apply yM)
   |(refine W.cond _ rfl (fun hb=>?_) (fun hb=>?_)<;>((try simp only [hb,zK])<;>(try simp only [zL,zI] at hb)<;>(try (exfalso;omega))))))
   all_goals first
    |(exfalso;omega)
    |exact ⟨j + 1,by omega,by omega,[0,1,2,3],rfl,rfl,rfl,iV_eq (by omega),rfl,rfl,rfl,rfl,rfl,rfl,rfl,trivial⟩
 ·obtain rfl : j = J := by omega
  rcases hend with ⟨rfl,ha,h1,h2,h3,h4,rfl⟩ | ⟨rfl,rfl,ha,h1,h2,rfl⟩
  ·have hud := fun k : Nat => A_rused24 (w := rows[j]) (q := (k : Int)) (hus j ha)
   have hwi:=A_rwith (w:=rows[j]) (u:=((q : Int),0,0)) (hus j ha)
   (repeat' (first
    |(apply W.qd;(first
    |(exact zM)|(exact zN)|(exact jAj)|(exact jBb)|(exact jAt)|(exact jAc)|(exact jB)
    |(exact jA)))|(apply yA)|(apply yB)|(apply (W.regionS 14);exact rfl;kernel_rfl)|(apply yE)|(apply yG)|(apply yH)
    |(refine W.cond _ rfl (fun hb=>?_) (fun hb=>?_)<;>((try simp only [hb,zK])<;>(try simp only [zL,zI] at hb)<;>(try (exfalso;omega))))))
   all_goals try (exfalso;omega)
   refine AWP.loopW (α:=Nat) (fun k=>k ≤ q) (fun k=>⟨[(16,iV k),(15,iV j),(14,.osl 3 rows.length 0 rows.length),(1,rws rows),(2,iV c),(3,iV w),(5,.opt 0 0),(9,.opt 1 0),(11,.opt 2 0)],[.box [iV d,iV r,iV n,iV s,iV l,iV i],.box [iV 0,iV 0],.box [iV 0,iV 0],.row rows.length 3 164 (rows.map rwD)]⟩) (fun k=>q - k) 0 (Nat.zero_le _) ⟨[0,1,2,3],rfl,rfl,rfl,by (repeat (first | exact trivial | refine ⟨rfl,?_⟩))⟩ fun k hk=>?_
   have hud:=hud k
   by_cases hkl : k < q
   ·rw [h4 k hkl] at hud
    clear hwi
    (repeat' (first
     |(apply W.qd;(first
     |(exact zW (hg))|(exact zW (hud))|(exact zM)|(exact zN)|(exact jAn)|(exact jAj)|(exact jBe)|(exact jAi)|(exact jAk)
     |(exact jA)))|(apply yA)|(apply yB)|(refine jAb ?_)|(apply yE)|(apply yG)|(apply yH)|(apply yL)|(refine jAy ?_)
     |(refine W.cond _ rfl (fun hb=>?_) (fun hb=>?_)<;>((try simp only [hb,zK])<;>(try simp only [zL,zI] at hb)<;>(try (exfalso;omega))))))
    all_goals first
     |(exfalso;omega)
     |exact ⟨k + 1,by omega,by omega,[0,1,2,3],rfl,rfl,rfl,iV_eq (by omega),rfl,rfl,rfl,rfl,rfl,rfl,rfl,rfl,trivial⟩
   ·obtain rfl : k = q := by omega
    rw [h3] at hud
    generalize hV : withU rows[j] ((k : Int),0,0) = V at *
    (repeat' (first
     |(apply W.qd;(first
     |(exact zW (hg))|(exact zW (hud))|(exact zW (hwi))
     |((apply q_ld_rptsm;(iterate 4 exact rfl)))|(exact zM)|(exact zN)|(exact jAn)|(exact jAj)|(exact jBe)|(exact jAk)|(apply yZ;exact rfl;exact rfl;kernel_rfl)|(exact jA)
     |(exact jAf)))|(apply W.ln;(exact jAh))|(apply W.en;((apply (e_st_rptM (f:=rwD) V);(iterate 9 exact rfl))))|(apply yA)|(apply yB)|(refine jAb ?_)|(refine jAr ?_)|(apply yE)|(refine jAx ?_)|(apply yG)|(apply yH)|(apply yJ)|(apply yP)|(apply yN)|(refine jAv ?_)
     |(refine W.cond _ rfl (fun hb=>?_) (fun hb=>?_)<;>((try simp only [hb,zK])<;>(try simp only [zL,zI] at hb)<;>(try (exfalso;omega))))))
    all_goals first
     |(exfalso;omega)|(refine ⟨.inl rfl,[],[.osl 3 rows.length 0 rows.length,.agg [iV j,iV k],iV 0],rfl,⟨rfl,⟨2,_,true,rfl,rfl,rfl,rfl⟩,rfl,trivial⟩,AVle.of_eq ?_,rfl⟩;show AV.tup [AV.frz _ [] (.osl 3 rows.length 0 rows.length),.agg [iV j,iV k],iV 0] = _;rw [frz_rowJ rfl rfl (by simp)])
  ·(repeat' (first
   |(apply W.qd;(first
   |(exact zM)|(exact zN)|(exact jAj)
   |(exact jAt)))|(apply yA)|(apply yB)|(apply (W.regionS 21);exact rfl;kernel_rfl)|(apply yE)|(apply yG)|(apply yI)|(apply yK)|(apply yM)
   |(refine W.cond _ rfl (fun hb=>?_) (fun hb=>?_)<;>((try simp only [hb,zK])<;>(try simp only [zL,zI] at hb)<;>(try (exfalso;omega))))))
   all_goals try (exfalso;omega)
   refine AWP.loopW (α:=Nat) (fun k=>k ≤ a) (fun k=>⟨[(18,iV k),(14,.osl 3 rows.length 0 rows.length),(1,rws rows),(2,iV c),(3,iV w),(5,.opt 0 0),(9,.opt 1 0),(11,.opt 2 0)],[.box [iV d,iV r,iV n,iV s,iV l,iV i],.box [iV 0,iV 0],.box [iV 0,iV 0],.row rows.length 3 164 (rows.map rwD)]⟩) (fun k=>a - k) 0 (Nat.zero_le _) ⟨[0,1,2,3],rfl,rfl,rfl,by (repeat (first | exact trivial | refine ⟨rfl,?_⟩))⟩ fun k hk=>?_
   have hkl : k < rows.length:=by omega
   by_cases hka : k < a
   ·have h3 := h2 k hkl hka
    (repeat' (first
     |(apply W.qd;(first
     |(exact zM)|(exact zN)|(exact jAj)|(exact jAu)|(exact jAi)|(exact jAt)|(exact jAc)|(exact jB)
     |(exact jA)))|(apply yA)|(apply yB)|(refine jAb ?_)|(apply yE)|(apply yG)|(apply yH)|(apply yL)
     |(refine W.cond _ rfl (fun hb=>?_) (fun hb=>?_)<;>((try simp only [hb,zK])<;>(try simp only [zL,zI] at hb)<;>(try (exfalso;omega))))))
    all_goals first
     |(exfalso;omega)
     |exact ⟨k + 1,by omega,by omega,[0,1,2,3],rfl,rfl,rfl,iV_eq (by omega),rfl,rfl,rfl,rfl,rfl,rfl,rfl,trivial⟩
   ·obtain rfl : k = a := by omega
    (repeat' (first
     |(apply W.qd;(first
     |(exact zM)|(exact zN)|(exact jAn)|(exact jAj)|(exact jAu)|(exact jAt)|(exact jAc)|(exact jB)|(apply yZ;exact rfl;exact rfl;kernel_rfl)|(exact jAl)|(exact jA)
     |(exact jAf)))|(apply W.ln;(exact jAh))|(apply W.en;((apply (e_st_rptM (f:=rwD) ((c,w,[(0,0,0)]) : SRw));(iterate 9 exact rfl))))|(apply yA)|(apply yB)|(refine jAb ?_)|(apply yE)|(apply yG)|(apply yH)|(apply yJ)|(apply yP)|(apply yN)
     |(refine W.cond _ rfl (fun hb=>?_) (fun hb=>?_)<;>((try simp only [hb,zK])<;>(try simp only [zL,zI] at hb)<;>(try (exfalso;omega))))))
    all_goals first
     |(exfalso;omega)|(refine ⟨.inl rfl,[],[.osl 3 rows.length 0 rows.length,.agg [iV k,iV 0],iV 0],rfl,⟨rfl,⟨2,_,true,rfl,rfl,rfl,rfl⟩,rfl,trivial⟩,AVle.of_eq ?_,rfl⟩;show AV.tup [AV.frz _ [] (.osl 3 rows.length 0 rows.length),.agg [iV k,iV 0],iV 0] = _;rw [frz_rowJ rfl rfl (by simp)];rfl)
end
section
def skD (s : Sk) : List Dat:=[.v (.int .i64 s.1.1),.v (.int .i64 s.1.2),.v (.int .i64 s.2)]
abbrev sks (l : List Sk) : AV:=.d (.sl 3 (l.map skD))
abbrev RwS:=Nat → Nat × List Sk
abbrev rwE (x : Nat × List Sk) : Ent:=.row x.1 3 62 (x.2.map skD)
abbrev osE (R : RwS) (j : Nat) : AV:=.osl (j + 2) (R j).1 0 (R j).2.length
abbrev arL (d r n s l i : Int) (cs : List Cd) (vs : List Sv) (rows : List SRw) : List AV:=[iV d,iV r,iV n,iV s,iV l,iV i,cds cs,svs vs,rws rows,.mp 1,bV false]
abbrev arM (la : List AV) (V : Nat → AV) (R : RwS) (E : List Ent) : List Ent:=.box la :: .mp (.inr [V 0,V 1,V 2,V 3,V 4,V 5,V 6,V 7]) :: rwE (R 0) :: rwE (R 1) :: rwE (R 2) :: rwE (R 3) :: rwE (R 4) :: rwE (R 5) :: rwE (R 6) :: rwE (R 7) :: E
def upd {α : Type} (R : Nat → α) (k : Nat) (x : α) : Nat → α:=fun j=>if j = k then x else R j
theorem lt8 {k : Nat} (h : k < 8) : k = 0 ∨ k = 1 ∨ k = 2 ∨ k = 3 ∨ k = 4 ∨ k = 5 ∨ k = 6 ∨ k = 7:=by omega
theorem get_arM {la : List AV} {V : Nat → AV} {R : RwS} {E : List Ent} {k : Nat} (h : k < 8) : (arM la V R E)[k + 2]? = some (rwE (R k)):=by
 rcases lt8 h with rfl | rfl | rfl | rfl | rfl | rfl | rfl | rfl<;>rfl
theorem set_arM {la : List AV} {V : Nat → AV} {R : RwS} {E : List Ent} {k : Nat} {x : Nat × List Sk} (h : k < 8) : setF (arM la V R E) (k + 2) (rwE x) = some (arM la V (upd R k x) E):=by
 rcases lt8 h with rfl | rfl | rfl | rfl | rfl | rfl | rfl | rfl<;>rfl
theorem get_v8 {V : Nat → AV} {k : Nat} (h : k < 8) : [V 0,V 1,V 2,V 3,V 4,V 5,V 6,V 7][k]? = some (V k):=by
 rcases lt8 h with rfl | rfl | rfl | rfl | rfl | rfl | rfl | rfl<;>rfl
theorem set_v8 {V : Nat → AV} {k : Nat} {x : AV} (h : k < 8) : [V 0,V 1,V 2,V 3,V 4,V 5,V 6,V 7].set k x = [upd V k x 0,upd V k x 1,upd V k x 2,upd V k x 3,upd V k x 4,upd V k x 5,upd V k x 6,upd V k x 7]:=by
 rcases lt8 h with rfl | rfl | rfl | rfl | rfl | rfl | rfl | rfl<;>rfl
theorem upd_osE {R : RwS} {k : Nat} {x : Nat × List Sk} : upd (osE R) k (.osl (k + 2) x.1 0 x.2.length) = osE (upd R k x):=by
 funext j
 by_cases e : j = k
 ·subst e;simp [upd]
 ·simp [upd,e]
theorem upd_self {R : RwS} {k : Nat} {x : Nat × List Sk} : upd R k x k = x:=if_pos rfl
theorem upd_ne {R : RwS} {k j : Nat} {x : Nat × List Sk} (h : j ≠ k) : upd R k x j = R j:=if_neg h
abbrev rws8 : List Nat:=[2,3,4,5,6,7,8,9]
theorem in8 {k : Nat} (h : k < 8) : ∀ i ∈ [k + 2],i ∈ rws8:=fun i hi=>by
 obtain rfl : i = k + 2:=by simpa using hi
 rcases lt8 h with rfl | rfl | rfl | rfl | rfl | rfl | rfl | rfl<;>decide
section
variable {P : Program} {m : Nat} {env : List (Nat × AV)} {dst : Option Tmp} {ty : TypeId} {pos : String} {af : Array Edge} {gd : Option (Nat × Bool)} {la : List AV} {V : Nat → AV} {R : RwS} {E : List Ent} {k : Nat}
theorem k_app1 (v : Sk) (h8 : k < 8) {t : TypeId} {by' : Nat} {z : Value} {x y : Operand} (hx : lookO env x = .osl (k + 2) (R k).1 0 (R k).2.length) (hy : lookO env y = .d (.sl 3 [skD v])) (ht : slInfo P t = some (62, 3, by', z)) (hz : z.cells.size = 3) (hby : Nat.ble by' 1024 = true) (hb : (R k).2.length + 1 ≤ 1000000000) :
 Eff P m ⟨dst,.call ⟨.builtin .append,#[x,y],#[t,t]⟩,ty,pos,af,gd⟩ env (arM la V R E) rws8 (.osl (k + 2) ((R k).1 + 1) 0 ((R k).2 ++ [v]).length) (arM la V (upd R k ((R k).1 + 1,(R k).2 ++ [v])) E) :=
 (e_app1F (f:=skD) v hx (get_arM h8) hy (set_arM (x:=((R k).1 + 1,(R k).2 ++ [v])) h8) ht hz hby rfl hb).wk (in8 h8)
theorem k_ix (h8 : k < 8) {t : TypeId} {by' : Nat} {z : Value} {x y : Operand} {kd : IntKind} {i : Int} {j : Nat} (hx : lookO env x = .osl (k + 2) (R k).1 0 (R k).2.length) (ht : slInfo P t = some (62, 3, by', z)) (hy : lookO env y = .d (.v (.int kd i))) (hij : i = j) (hj : j < (R k).2.length) :
 Quiet P m ⟨dst,.indexAddr t x y,ty,pos,af,gd⟩ env (arM la V R E) rws8 (.rpt (k + 2) (R k).1 j 0) :=
 (q_ix_osl0 hx (get_arM h8) ht hy hij hj).wk (in8 h8)
theorem k_ld (h8 : k < 8) {t : TypeId} {c : Nat} {x : Operand} {j o : Nat} {y : Dat} (hx : lookO env x = .rpt (k + 2) (R k).1 j o) (ht : tyInfo P t = some (false, c)) (hj : j < (R k).2.length) (hy : (skD ((R k).2[j]'hj))[o]? = some y) :
 Quiet P m ⟨dst,.load t x,ty,pos,af,gd⟩ env (arM la V R E) rws8 (.d y) :=
 (q_ld_rptm (f:=skD) hx (get_arM h8) ht hj hy).wk (in8 h8)
theorem k_ldat (h8 : k < 8) {t : TypeId} {x : Operand} {j : Nat} (hx : lookO env x = .rpt (k + 2) (R k).1 j 0) (ht : tyInfo P t = some (true, 2)) (hj : j < (R k).2.length) :
 Quiet P m ⟨dst,.load t x,ty,pos,af,gd⟩ env (arM la V R E) rws8 (.agg [iV ((R k).2[j]'hj).1.1,iV ((R k).2[j]'hj).1.2]) :=
 (q_ld_rptp (c:=skD ((R k).2[j]'hj)) ht hx (get_arM h8) (by rw [List.getElem?_map,List.getElem?_eq_getElem hj];rfl) rfl (Nat.zero_lt_succ _)).wk (in8 h8)
theorem k_fld (h8 : k < 8) {f off o' j o s : Nat} {t : TypeId} {x : Operand} (hx : lookO env x = .rpt (k + 2) (R k).1 j o) (h : fldInfo P s f = some (off, t)) (hn : natF (o + off) = some o') :
 Quiet P m ⟨dst,.fieldAddr s x f,ty,pos,af,gd⟩ env (arM la V R E) rws8 (.rpt (k + 2) (R k).1 j o') :=
 (q_fld_rptF hx (get_arM h8) h hn).wk (in8 h8)
theorem k_nil (h8 : k < 8) {j o : Nat} {x : Operand} (hx : lookO env x = .rpt (k + 2) (R k).1 j o) :
 Quiet P m ⟨dst,.nilCheck x,ty,pos,af,gd⟩ env (arM la V R E) rws8 (.rpt (k + 2) (R k).1 j o) :=
 (q_nil_rpt hx (get_arM h8)).wk (in8 h8)
theorem k_mapM (L : List Sk) (h8 : k < 8) {t : TypeId} {x y v : Operand} {a : Int} {z : Value} {v2 r : Nat} {cells : List (List Dat)} (hx : lookO env x = .mp 1) (hy : lookO env y = iV a) (ha : a = (k : Int)) (hv : lookO env v = .osl 10 v2 0 r) (hc : cells = L.map skD) (hr : r = L.length) (ht : mapI P t = some z) :
 Eff P m ⟨dst,.mapUpdate t x y v,ty,pos,af,gd⟩ env (arM la (osE R) R [.row v2 3 62 cells]) (1 :: 10 :: rws8) (.d (.v undef)) (arM la (osE (upd R k ((R k).1 + 1,L))) (upd R k ((R k).1 + 1,L)) [.row (v2 + 1) 3 62 []]):=by
 subst hc hr
 have e1 : ((arM la (osE R) (upd R k ((R k).1 + 1,L)) [.row v2 3 62 (L.map skD)]).set 10 (.row (v2 + 1) 3 62 [])).set 1 (.mp (.inr [upd (osE R) k (.osl (k + 2) ((R k).1 + 1) 0 L.length) 0,upd (osE R) k (.osl (k + 2) ((R k).1 + 1) 0 L.length) 1,upd (osE R) k (.osl (k + 2) ((R k).1 + 1) 0 L.length) 2,upd (osE R) k (.osl (k + 2) ((R k).1 + 1) 0 L.length) 3,upd (osE R) k (.osl (k + 2) ((R k).1 + 1) 0 L.length) 4,upd (osE R) k (.osl (k + 2) ((R k).1 + 1) 0 L.length) 5,upd (osE R) k (.osl (k + 2) ((R k).1 + 1) 0 L.length) 6,upd (osE R) k (.osl (k + 2) ((R k).1 + 1) 0 L.length) 7])) = arM la (osE (upd R k ((R k).1 + 1,L))) (upd R k ((R k).1 + 1,L)) [.row (v2 + 1) 3 62 []]:=by
  rw [upd_osE (R:=R) (k:=k) (x:=((R k).1 + 1,L))];rfl
 refine Eff.wk (e_mapsetM (P:=P) (m:=m) (p:=k + 2) (q:=10) hx rfl hy ha hv (get_arM h8) rfl (by omega) (by omega) (by omega) (set_arM (x:=((R k).1 + 1,L)) h8) (set_v8 (V:=osE R) h8) e1 ht) fun i hi=>?_
 simp only [List.mem_cons,List.not_mem_nil,or_false] at hi
 rcases hi with rfl | rfl | rfl
 ·simp
 ·exact List.mem_cons_of_mem _ (List.mem_cons_of_mem _ (in8 h8 _ (List.mem_singleton.2 rfl)))
 ·simp
theorem k_slc (h8 : k < 8) {t : TypeId} {by' : Nat} {z : Value} {x : Operand} {lo hi : Option Operand} (va vb : Nat) (hx : lookO env x = .osl (k + 2) (R k).1 0 (R k).2.length) (ht : slInfo P t = some (62, 3, by', z)) (h1 : bnd env lo 0 va) (h2 : bnd env hi (R k).2.length vb) (hab : va ≤ vb) (hbn : vb ≤ (R k).2.length) :
 Quiet P m ⟨dst,.slice t x lo hi none,ty,pos,af,gd⟩ env (arM la V R E) rws8 (.osl (k + 2) (R k).1 (0 + va) (vb - va)) :=
 (q_slc_osl va vb ht hx (get_arM h8) h1 h2 hab hbn).wk (in8 h8)
theorem k_len (h8 : k < 8) {t : TypeId} {x : Operand} (hx : lookO env x = .osl (k + 2) (R k).1 0 (R k).2.length) (ht : isSl P t = true) :
 Quiet P m ⟨dst,.call ⟨.builtin .len,#[x],#[t]⟩,ty,pos,af,gd⟩ env (arM la V R E) rws8 (iV (R k).2.length) :=
 (q_len_osl ht hx (get_arM h8)).wk (in8 h8)
end
attribute [local irreducible] Quiet Eff OpOk AWPG ACont ABlock ACalls AGoto
theorem A_smallest {L : List Sk} {but : Int} (hl : L.length ≤ 1000000) : ACalls Tryz.prog 65 [sks L,iV but] [] (iV (smlN L but)) []:=by
 refine acalls_of_body Tryz.func65 rfl (zU rfl) ?_
 have hml : (L.map skD).length = L.length:=List.length_map _
 have hsp:=smlT_spec L but
 have hst : ∀ k (h : k < L.length),smlT L but (k + 1) = if ((k : Int) ≠ but) ∧ (smlT L but k < 0 ∨ L[k].2 < (L.getD (smlT L but k).toNat sk0).2) then (k : Int) else smlT L but k:=fun k h=>by
  rw [smlT,getDs h]
 (repeat' (first
  |(apply W.qd;(first
  |(exact zM)|(exact zN)
  |(exact jAt)))|(apply yA)|(apply yB)|(apply (W.regionS 3);exact rfl;kernel_rfl)|(apply yE)
  |(apply yG)))
 refine AWP.loopW (α:=Nat) (fun k=>k ≤ L.length) (fun k=>⟨[(10,iV k),(9,iV L.length),(8,sks L),(0,sks L),(1,iV but),(5,iV (smlT L but k))],[]⟩) (fun k=>L.length - k) 0 (Nat.zero_le _) ?wkA fun k hk=>?_
 case wkA=>exact ⟨[],rfl,rfl,rfl,rfl,iV_eq (by omega),rfl,rfl,rfl,rfl,trivial⟩
 by_cases hkl : k < L.length
 ·have e1 := hst k hkl
  have h1:=hsp k
  clear hst hsp
  generalize smlT L but k = o at *
  by_cases hkb : (k : Int) = but
  ·rw [if_neg (fun h => h.1 hkb)] at e1
   clear h1
   (repeat' (first
    |(apply W.qd;(first
    |(exact zM)|(exact zN)|(exact jAj)|(exact jBb)|(exact jAi)|(exact jAk)|(exact jA)
    |(apply (yDb (u:=.d _));exact rfl;exact rfl)))|(apply W.ed;(exact jAp))|(apply W.ln;(exact jAh))|(refine W.gOff _ _ rfl rfl (by intro h;cases h) ?_)|(apply yA)|(apply yB)|(refine jAb ?_)|(refine jAr ?_)|(apply yE)|(refine jAx ?_)|(apply yG)|(apply yH)|(apply yL)|(refine jAy ?_)|(refine W.gT _ _ rfl rfl (fun hb=>?_) (fun hb=>?_)<;>((try simp only [hb,zK])<;>(try simp only [zL,zI] at hb)<;>(try (exfalso;omega))))
    |(refine W.cond _ rfl (fun hb=>?_) (fun hb=>?_)<;>((try simp only [hb,zK])<;>(try simp only [zL,zI] at hb)<;>(try (exfalso;omega))))))
   all_goals first
    |(exfalso;omega)|(refine ⟨k + 1,by omega,by omega,?_⟩;(try dsimp only);rw [e1];exact ⟨[],rfl,rfl,rfl,iV_eq (by omega),rfl,rfl,rfl,rfl,rfl,trivial⟩)
  ·rcases h1 with ⟨rfl, _⟩ | ⟨q, rfl, hq, _, _⟩
   ·rw [if_pos ⟨hkb, .inl (by decide)⟩] at e1
    (repeat' (first
     |(apply yFb;exact rfl;exact rfl)
     |(apply W.qd;(first
     |(exact zM)|(exact zN)|(exact jAj)|(exact jBb)|(exact jAi)|(exact jAk)|(exact jA)
     |(apply (yEb (u:=.d _));exact rfl;exact rfl)))|(apply W.ed;(exact jAp))|(apply W.ln;(exact jAh))|(refine W.gOff _ _ rfl rfl (by intro h;cases h) ?_)|(apply yA)|(apply yB)|(refine jAb ?_)|(refine jAr ?_)|(apply yE)|(refine jAx ?_)|(apply yG)|(apply yH)|(apply yL)|(refine jAv ?_)|(refine W.gT _ _ rfl rfl (fun hb=>?_) (fun hb=>?_)<;>((try simp only [hb,zK])<;>(try simp only [zL,zI] at hb)<;>(try (exfalso;omega))))
     |(refine W.cond _ rfl (fun hb=>?_) (fun hb=>?_)<;>((try simp only [hb,zK])<;>(try simp only [zL,zI] at hb)<;>(try (exfalso;omega))))))
    all_goals first
     |(exfalso;omega)|(refine ⟨k + 1,by omega,by omega,?_⟩;(try dsimp only);rw [e1];exact ⟨[],rfl,rfl,rfl,iV_eq (by omega),rfl,rfl,rfl,rfl,rfl,trivial⟩)
   ·have hqL : q < L.length := by omega
    rw [Int.toNat_natCast,getDs hqL] at e1
    by_cases hlt : L[k].2 < L[q].2
    ·rw [if_pos ⟨hkb, .inr hlt⟩] at e1
     (repeat' (first
      |(apply yFb;exact rfl;exact rfl)
      |(apply W.qd;(first
      |(exact zM)|(exact zN)|(exact jAm)|(exact jAg)|(exact jAj)|(exact jBb)|(exact jAi)|(exact jAc)|(exact jAk)|(exact jB)|(exact jA)|(apply (yEb (u:=.d _));exact rfl;exact rfl)
      |(apply (yDb (u:=.d _));exact rfl;exact rfl)))|(apply W.ed;(exact jAp))|(apply W.ln;(exact jAh))|(apply yA)|(apply yB)|(refine jAb ?_)|(refine jAr ?_)|(apply yE)|(refine jAx ?_)|(apply yG)|(apply yH)|(apply yL)|(refine W.gT _ _ rfl rfl (fun hb=>?_) (fun hb=>?_)<;>((try simp only [hb,zK])<;>(try simp only [zL,zI] at hb)<;>(try (exfalso;omega))))
      |(refine W.cond _ rfl (fun hb=>?_) (fun hb=>?_)<;>((try simp only [hb,zK])<;>(try simp only [zL,zI] at hb)<;>(try (exfalso;omega))))))
     all_goals first
      |(exfalso;omega)|(refine ⟨k + 1,by omega,by omega,?_⟩;(try dsimp only);rw [e1];exact ⟨[],rfl,rfl,rfl,iV_eq (by omega),rfl,rfl,rfl,rfl,rfl,trivial⟩)
    ·rw [if_neg (by rintro ⟨_, h | h⟩ <;> omega)] at e1
     (repeat' (first
      |(apply yFb;exact rfl;exact rfl)
      |(apply W.qd;(first
      |(exact zM)|(exact zN)|(exact jAm)|(exact jAg)|(exact jAj)|(exact jBb)|(exact jAi)|(exact jAc)|(exact jAk)|(exact jB)|(exact jA)|(apply (yEb (u:=.d _));exact rfl;exact rfl)
      |(apply (yDb (u:=.d _));exact rfl;exact rfl)))|(apply W.ed;(exact jAp))|(apply W.ln;(exact jAh))|(apply yA)|(apply yB)|(refine jAb ?_)|(refine jAr ?_)|(apply yE)|(refine jAx ?_)|(apply yG)|(apply yH)|(apply yL)|(refine W.gT _ _ rfl rfl (fun hb=>?_) (fun hb=>?_)<;>((try simp only [hb,zK])<;>(try simp only [zL,zI] at hb)<;>(try (exfalso;omega))))
      |(refine W.cond _ rfl (fun hb=>?_) (fun hb=>?_)<;>((try simp only [hb,zK])<;>(try simp only [zL,zI] at hb)<;>(try (exfalso;omega))))))
     all_goals first
      |(exfalso;omega)|(refine ⟨k + 1,by omega,by omega,?_⟩;(try dsimp only);rw [e1];exact ⟨[],rfl,rfl,rfl,iV_eq (by omega),rfl,rfl,rfl,rfl,rfl,trivial⟩)
 ·obtain rfl : k = L.length := by omega
  clear hst hsp
  (repeat' (first
   |(apply W.qd;(first
   |(exact zM)|(exact zN)
   |(exact jAj)))|(apply yA)|(apply yB)|(refine jAb ?_)|(apply yE)|(apply yI)|(apply yJ)|(apply yK)|(apply yM)
   |(refine W.cond _ rfl (fun hb=>?_) (fun hb=>?_)<;>((try simp only [hb,zK])<;>(try simp only [zL,zI] at hb)<;>(try (exfalso;omega))))))
  all_goals first
   |(exfalso;omega)
   |exact Ends.i rfl rfl
theorem A_arcode {d r n s l i : Int} {cs : List Cd} {vs : List Sv} {rows : List SRw} {R : RwS} {k q : Nat} (hk : k < vs.length) (hq : q < cs.length) (hc : vs[k].2.1 = (q : Int)) : ACalls Tryz.prog 24 [.opt 0 0,iV k] (arM (arL d r n s l i cs vs rows) (osE R) R []) (cdA1 cs[q]) (arM (arL d r n s l i cs vs rows) (osE R) R []):=by
 refine acalls_of_bodyO Tryz.func24 rfl (zU rfl) ?_
 have hmc : (cs.map cdD).length = cs.length:=List.length_map _
 have hmv : (vs.map svD).length = vs.length:=List.length_map _
 (repeat' (first
  |(apply W.qd;(first
  |(exact zM)|(exact jAm)|(exact jAg)|(exact jAc)|(exact jAk)|(exact jB)|(exact q_nil_opt rfl)
  |(exact jA)))|(apply W.ed;(exact jAp))|(apply W.ln;(exact jAh))|(apply yA)|(apply yB)|(refine jAb ?_)|(refine jAr ?_)|(apply yE)|(refine jAx ?_)
  |(apply yJ)))
 all_goals first
  |(exfalso;omega)
  |exact ⟨.inl rfl,[0,1,2,3,4,5,6,7,8,9],[cdA1 cs[q]],rfl,rfl,⟨⟨10,_,true,rfl,rfl,rfl,rfl⟩,trivial⟩,AVle.of_eq rfl,rfl⟩
end
section
attribute [local irreducible] Quiet Eff OpOk AWPG ACont ABlock ACalls AGoto
theorem A_sallocate {d r n s l i live : Int} {cs : List Cd} {vs : List Sv} {rows rows' : List SRw} {R : RwS} {k q a b G : Nat} (hk : k < vs.length) (hk8 : k < 8) (hq : q < cs.length) (hc : vs[k].2.1 = (q : Int)) (hR : (R k).2.length ≤ 1000000)
 (hl : rows.length ≤ 1000) (hus : ∀ j (h : j < rows.length),rows[j].2.2.length ≤ 1000000) (hq8 : q < 8) (hw : 1 ≤ cs[q].2.2.1 + (cs[q].2.2.2.1.length : Int) ∧ cs[q].2.2.1 + (cs[q].2.2.2.1.length : Int) ≤ 32) (hG : grpI d r n s l i (cs[q].2.2.1 + (cs[q].2.2.2.1.length : Int)) = (G : Int)) (hG0 : 0 < G) (hG1 : G ≤ 64)
 (hwd : ∀ j (h : j < rows.length),rows[j].1 = vs[k].2.1 → rows[j].2.1 = cs[q].2.2.1 + (cs[q].2.2.2.1.length : Int)) (h : AlcTo rows vs[k].2.1 (cs[q].2.2.1 + (cs[q].2.2.2.1.length : Int)) G rows' a b) :
 ACalls Tryz.prog 27 [.opt 0 0,iV k,iV live] (arM (arL d r n s l i cs vs rows) (osE R) R []) (.tup []) (arM (arL d r n s l i cs vs rows') (osE (upd R k ((R k).1 + 1,(R k).2 ++ [((a,(b : Int)),live)]))) (upd R k ((R k).1 + 1,(R k).2 ++ [((a,(b : Int)),live)])) []):=by
 refine acalls_of_bodyO Tryz.func27 rfl (zU rfl) ?_
 have hmv : (vs.map svD).length = vs.length:=List.length_map _
 have hmp : (cs[q].2.2.2.1.map rD).length = cs[q].2.2.2.1.length:=List.length_map _
 have hcd:=A_arcode (d:=d) (r:=r) (n:=n) (s:=s) (l:=l) (i:=i) (rows:=rows) (R:=R) hk hq hc
 have hal:=A_ralloc hl hus (by omega) hw hG hG0 hG1 hwd h
 rw [← hmp] at hal
 generalize hX : ((R k).1 + 1,(R k).2 ++ [((a,(b : Int)),live)]) = X at *
 (repeat' (first
  |(apply W.qd;(first
  |(exact zW (hal))
  |((apply q_lkupA;(iterate 4 exact rfl);exact get_v8 (V:=osE R) hk8;exact rfl))|(exact zM)|(exact zN)|(exact jAm)|(exact jAg)|(exact jAn)|(exact jBb)|(exact jAi)|(exact yAb rfl rfl)|(exact jAt)|(exact jAc)|(exact jB)|(apply yZ;exact rfl;exact rfl;kernel_rfl)|(exact q_nil_opt rfl)|(exact jAl)
  |(exact jA)))
  |(apply W.ed;(first
  |((apply (e_callA hcd);exact rfl;exact rfl;kernel_rfl))
  |((apply (k_app1 (((a,(b : Int)),live) : Sk) hk8);(iterate 5 exact rfl);omega))
  |(exact jAp)))|(apply W.ln;(exact jAh))|(apply W.en;((apply e_mapsetA;(iterate 5 exact rfl);exact set_v8 (V:=osE R) hk8;exact rfl;exact rfl)))|(apply yA)|(apply yB)|(refine jAb ?_)|(refine jAr ?_)|(apply yE)|(refine jAx ?_)|(apply yH)
  |(refine jAy ?_)))
 all_goals try (exfalso;omega)
 subst hX
 refine ⟨.inr rfl,[0,1,2,3,4,5,6,7,8,9],[],rfl,rfl,trivial,AVle.of_eq rfl,?_⟩
 show selOwn (arM _ (upd (osE R) k (.osl (k + 2) ((R k).1 + 1) 0 ((R k).2 ++ [((a,(b : Int)),live)]).length)) (upd R k ((R k).1 + 1,(R k).2 ++ [((a,(b : Int)),live)])) [_,_]) _ = _
 rw [upd_osE (R:=R) (k:=k) (x:=((R k).1 + 1,(R k).2 ++ [((a,(b : Int)),live)]))]
 rfl
end
section
attribute [local irreducible] Quiet Eff OpOk AWPG ACont ABlock ACalls AGoto
theorem A_srelease {d r n s l i : Int} {cs : List Cd} {vs : List Sv} {rows : List SRw} {R : RwS} {k j a : Nat} (hk8 : k < 8) (hj : j < (R k).2.length) (hR : (R k).2.length ≤ 1000000) (hl : rows.length ≤ 1000) (hus : ∀ j (h : j < rows.length), rows[j].2.2.length ≤ 1000000) (ha : a < rows.length) (ha1 : ((R k).2[j]'hj).1.1 = (a : Int)) (hq : hasG rows[a] ((R k).2[j]'hj).1.2 = true) :
 ACalls Tryz.prog 66 [.opt 0 0,iV k,iV j] (arM (arL d r n s l i cs vs rows) (osE R) R []) (.tup []) (arM (arL d r n s l i cs vs (rows.set a (relR rows[a] ((R k).2[j]'hj).1.2))) (osE (upd R k ((R k).1 + 1,(R k).2.take j ++ (R k).2.drop (j + 1)))) (upd R k ((R k).1 + 1,(R k).2.take j ++ (R k).2.drop (j + 1))) []):=by
 refine acalls_of_bodyO Tryz.func66 rfl (zU rfl) ?_
 have hrl:=A_rrelease hl hus ha hq
 rw [← ha1] at hrl
 generalize relR rows[a] ((R k).2[j]'hj).1.2 = rr at *
 have hp1 : (((R k).2.map skD).drop (0 + 0)).take (j - 0) = ((R k).2.take j).map skD:=by simp [List.map_take]
 have hp2 : (((R k).2.map skD).drop (0 + (j + 1))).take ((R k).2.length - (j + 1)) = ((R k).2.drop (j + 1)).map skD:=by
  rw [List.map_drop,Nat.zero_add,List.take_of_length_le (by simp)]
 (repeat' (first
  |(apply W.ed;(apply e_lit0F;(iterate 5 exact rfl)))
  |(apply W.qd;(first
  |((apply q_lkupA;(iterate 4 exact rfl);exact get_v8 (V:=osE R) hk8;exact rfl))
  |((apply (k_ix hk8);(iterate 4 exact rfl);exact hj))
  |((apply (k_ldat hk8);exact rfl;exact rfl;exact hj))
  |((apply (k_fld hk8);(iterate 3 exact rfl)))|(exact zW (hrl))
  |((apply (k_slc hk8 0 j);(iterate 3 exact rfl);exact ⟨_,_,rfl,rfl⟩;omega;omega))
  |((apply (k_slc hk8 (j + 1) (R k).2.length);exact rfl;exact rfl;exact ⟨_,_,rfl,by omega⟩;exact rfl;omega;omega))|(exact zM)|(exact zN)|(exact jAm)|(exact jAg)|(exact jAu)|(exact jAi)|(exact yAb rfl rfl)
  |(exact q_nil_opt rfl)))
  |(apply W.ed;(first
  |((apply e_appRO;(iterate 3 exact rfl);exact get_arM hk8;exact hp1;(iterate 6 exact rfl);(focus (simp;omega))))
  |((apply e_appRO;(iterate 3 exact rfl);exact get_arM hk8;exact hp2;(iterate 4 exact rfl);(focus (simp;omega));exact rfl;(focus (simp;omega))))))|(apply W.ln;(exact jAh))|(apply W.en;((apply (k_mapM ((R k).2.take j ++ (R k).2.drop (j + 1)) hk8);(iterate 4 exact rfl);(focus (simp;done));(focus (simp;done));exact rfl)))|(apply yA)|(apply yB)|(refine jAb ?_)|(refine jAr ?_)|(apply yE)|(refine jAx ?_)
  |(refine jAv ?_)))
 all_goals try (exfalso;omega)
 exact ⟨.inr rfl,[0,1,2,3,4,5,6,7,8,9],[],rfl,rfl,trivial,AVle.of_eq rfl,rfl⟩
end
section
theorem k_sml {m : Nat} {env : List (Nat × AV)} {dst : Option Tmp} {ty : TypeId} {pos : String} {af : Array Edge} {gd : Option (Nat × Bool)} {la : List AV} {V : Nat → AV} {R : RwS} {E : List Ent} {k : Nat} {fo : Operand} {args : Array Operand} {ts : Array TypeId} {but z : Int} (h8 : k < 8) (hl : (R k).2.length ≤ 1000000) (hz : smlN (R k).2 but = z) (hfo : lookO env fo = .fn 65 []) (ha : args.toList.map (lookO env) = [.osl (k + 2) (R k).1 0 (R k).2.length, iV but]) :
 Quiet Tryz.prog m ⟨dst,.call ⟨.value fo,args,ts⟩,ty,pos,af,gd⟩ env (arM la V R E) rws8 (iV z):=by
 subst hz
 refine (q_callF (js:=[k + 2]) (A_smallest (but:=but) hl) hfo (fun own' hh=>?_) rfl (by kernel_rfl)).wk (in8 h8)
 rw [ha]
 show [AV.frz own' [] (.osl (k + 2) (R k).1 0 (R k).2.length),iV but] = _
 rw [frz_rowJ ((hh (k + 2) (by simp)).trans (get_arM h8)) rfl (by simp)]
theorem q_mxv {P : Program} {m : Nat} {env : List (Nat × AV)} {own : List Ent} {dst : Option Tmp} {ty : TypeId} {pos : String} {af : Array Edge} {gd : Option (Nat × Bool)} {x y : Operand} {ts : Array TypeId} {a b v : Int} (hx : lookO env x = iV a) (hy : lookO env y = iV b) (h : mxI a b = v) :
 Quiet P m ⟨dst,.call ⟨.builtin .max,#[x,y],ts⟩,ty,pos,af,gd⟩ env own [] (iV v):=by subst h;exact q_max hx hy
section
variable {d r n s l i : Int} {cs : List Cd} {vs : List Sv} {rows rows1 rows2 rows3 : List SRw} {R R1 R2 R3 : RwS} {k q : Nat} {lm : Int}
attribute [local irreducible] Quiet Eff OpOk AWPG ACont ABlock ACalls AGoto
theorem A_scol0 (hk : k < vs.length) (hk8 : k < 8) (hq : q < cs.length) (hc : vs[k].2.1 = (q : Int)) (hlm : ((R k).2.length : Int) < lm) :
 ACalls Tryz.prog 25 [.opt 0 0,iV k,iV lm] (arM (arL d r n s l i cs vs rows) (osE R) R []) (bV true) (arM (arL d r n s l i cs vs rows) (osE R) R []):=by
 refine acalls_of_bodyO Tryz.func25 rfl (zU rfl) ?_
 have hcd:=A_arcode (d:=d) (r:=r) (n:=n) (s:=s) (l:=l) (i:=i) (rows:=rows) (R:=R) hk hq hc
 (repeat' (first
  |(apply W.qd;(first
  |(exact zM)|(exact zN)
  |(exact q_field rfl rfl rfl rfl)))|(apply W.ed;((apply (e_callA hcd);exact rfl;exact rfl;kernel_rfl)))|(apply yA)|(apply yB)|(apply (W.regionS 3);exact rfl;kernel_rfl)|(apply yE)
  |(apply yG)))
 all_goals try (exfalso;omega)
 refine AWP.loopW (α:=Nat) (fun _=>True) (fun _=>⟨[(7,iV cs[q].2.2.1),(0,.opt 0 0),(1,iV k),(2,iV lm),(6,bV false)],arM (arL d r n s l i cs vs rows) (osE R) R []⟩) (fun _=>0) 0 trivial ⟨[0,1,2,3,4,5,6,7,8,9],rfl,rfl,rfl,by (repeat (first | exact trivial | refine ⟨rfl,?_⟩))⟩ fun _ _=>?_
 (repeat' (first
  |(apply W.qd;(first
  |((apply q_lkupA;(iterate 4 exact rfl);exact get_v8 (V:=osE R) hk8;exact rfl))
  |((apply (k_len hk8);exact rfl;exact rfl))|(exact zM)|(exact zN)|(exact jAm)|(exact jAg)|(exact q_geq rfl rfl)|(exact q_nil_opt rfl)
  |(apply (yDb (u:=.d _));exact rfl;exact rfl)))|(refine W.gOff _ _ rfl rfl (by intro h;cases h) ?_)|(apply yA)|(apply yB)|(refine jAb ?_)|(apply yE)|(apply yI)|(apply yJ)|(apply yK)|(apply yM)|(refine jAy ?_)
  |(refine W.gT _ _ rfl rfl (fun hb=>?_) (fun hb=>?_)<;>((try simp only [hb,zK])<;>(try simp only [zL,zI] at hb)<;>(try (exfalso;omega))))))
 all_goals first
  |(exfalso;omega)
  |exact ⟨.inl rfl,[0,1,2,3,4,5,6,7,8,9],[bV true],rfl,rfl,⟨rfl,trivial⟩,AVle.of_eq rfl,rfl⟩
theorem A_scol1 {j : Nat} (hk : k < vs.length) (hk8 : k < 8) (hq : q < cs.length) (hc : vs[k].2.1 = (q : Int)) (hR : (R k).2.length ≤ 1000000) (hlm : lm ≤ ((R k).2.length : Int)) (hj : j < (R k).2.length) (hs : smlN (R k).2 (-1) = (j : Int)) (h0 : ((R k).2[j]'hj).2 = 0) (hlm1 : ((R1 k).2.length : Int) < lm)
 (hr1 : ACalls Tryz.prog 66 [.opt 0 0,iV k,iV j] (arM (arL d r n s l i cs vs rows) (osE R) R []) (.tup []) (arM (arL d r n s l i cs vs rows1) (osE R1) R1 [])) :
 ACalls Tryz.prog 25 [.opt 0 0,iV k,iV lm] (arM (arL d r n s l i cs vs rows) (osE R) R []) (bV true) (arM (arL d r n s l i cs vs rows1) (osE R1) R1 []):=by
 refine acalls_of_bodyO Tryz.func25 rfl (zU rfl) ?_
 have hcd:=A_arcode (d:=d) (r:=r) (n:=n) (s:=s) (l:=l) (i:=i) (rows:=rows) (R:=R) hk hq hc
 (repeat' (first
  |(apply W.qd;(first
  |(exact zM)|(exact zN)
  |(exact q_field rfl rfl rfl rfl)))|(apply W.ed;((apply (e_callA hcd);exact rfl;exact rfl;kernel_rfl)))|(apply yA)|(apply yB)|(apply (W.regionS 3);exact rfl;kernel_rfl)|(apply yE)
  |(apply yG)))
 all_goals try (exfalso;omega)
 refine AWP.loopW (α:=List SRw × RwS) (fun x=>x = (rows,R) ∨ x = (rows1,R1)) (fun x=>⟨[(7,iV cs[q].2.2.1),(0,.opt 0 0),(1,iV k),(2,iV lm),(6,bV false)],arM (arL d r n s l i cs vs x.1) (osE x.2) x.2 []⟩) (fun x=>if ((x.2 k).2.length : Int) < lm then 0 else 1) (rows,R) (.inl rfl) ⟨[0,1,2,3,4,5,6,7,8,9],rfl,rfl,rfl,by (repeat (first | exact trivial | refine ⟨rfl,?_⟩))⟩ fun x hx=>?_
 rcases hx with rfl | rfl
 ·dsimp only
  rw [if_neg (by omega)]
  (repeat' (first
   |(apply yFb;exact rfl;exact rfl)
   |(apply W.qd;(first
   |((apply q_lkupA;(iterate 4 exact rfl);exact get_v8 (V:=osE R) hk8;exact rfl))
   |((apply (k_len hk8);exact rfl;exact rfl))
   |((apply (k_sml hk8 hR hs);exact rfl;exact rfl))
   |((apply (k_ix hk8);(iterate 4 exact rfl);omega))
   |((apply (k_fld hk8);(iterate 3 exact rfl)))
   |((apply (k_ld hk8);(iterate 3 exact rfl);omega))|(exact zM)|(exact zN)|(exact jAm)|(exact jAg)|(exact q_geq rfl rfl)|(exact jAu)|(exact jBe)|(exact q_nil_opt rfl)
   |(apply (yEb (u:=.d _));exact rfl;exact rfl)))|(apply W.ed;((apply (e_callA hr1);exact rfl;exact rfl;kernel_rfl)))|(apply yA)|(apply yB)|(refine jAb ?_)|(apply yE)|(apply yG)|(apply yH)|(apply yI)|(apply yK)|(apply yM)|(refine jAv ?_)|(refine W.gT _ _ rfl rfl (fun hb=>?_) (fun hb=>?_)<;>((try simp only [hb,zK])<;>(try simp only [zL,zI] at hb)<;>(try (exfalso;omega))))
   |(refine W.cond _ rfl (fun hb=>?_) (fun hb=>?_)<;>((try simp only [hb,zK])<;>(try simp only [zL,zI] at hb)<;>(try (exfalso;omega))))))
  all_goals first
   |(exfalso;omega)
   |exact ⟨(rows1,R1),.inr rfl,by (dsimp only;rw [if_pos hlm1];omega),[0,1,2,3,4,5,6,7,8,9],rfl,rfl,rfl,rfl,rfl,rfl,rfl,rfl,trivial⟩
 ·dsimp only
  (repeat' (first
   |(apply W.qd;(first
   |((apply q_lkupA;(iterate 4 exact rfl);exact get_v8 (V:=osE R1) hk8;exact rfl))
   |((apply (k_len hk8);exact rfl;exact rfl))|(exact zM)|(exact zN)|(exact jAm)|(exact jAg)|(exact q_geq rfl rfl)|(exact q_nil_opt rfl)
   |(apply (yDb (u:=.d _));exact rfl;exact rfl)))|(refine W.gOff _ _ rfl rfl (by intro h;cases h) ?_)|(apply yA)|(apply yB)|(refine jAb ?_)|(apply yE)|(apply yI)|(apply yJ)|(apply yK)|(apply yM)|(refine jAy ?_)
   |(refine W.gT _ _ rfl rfl (fun hb=>?_) (fun hb=>?_)<;>((try simp only [hb,zK])<;>(try simp only [zL,zI] at hb)<;>(try (exfalso;omega))))))
  all_goals first
   |(exfalso;omega)
   |exact ⟨.inl rfl,[0,1,2,3,4,5,6,7,8,9],[bV true],rfl,rfl,⟨rfl,trivial⟩,AVle.of_eq rfl,rfl⟩
theorem A_scol2 {j j2 mx mn : Nat} (hk : k < vs.length) (hk8 : k < 8) (hq : q < cs.length) (hc : vs[k].2.1 = (q : Int)) (hR : (R k).2.length ≤ 1000000) (hlm : lm ≤ ((R k).2.length : Int)) (hj : j < (R k).2.length) (hs : smlN (R k).2 (-1) = (j : Int)) (h0 : ((R k).2[j]'hj).2 ≠ 0) (hj2 : j2 < (R k).2.length) (hs2 : smlN (R k).2 (j : Int) = (j2 : Int)) (hle : ((R k).2[j]'hj).2 + ((R k).2[j2]'hj2).2 ≤ cs[q].2.2.1) (hb : (0 ≤ ((R k).2[j]'hj).2 ∧ ((R k).2[j]'hj).2 ≤ 1099511627776) ∧ 0 ≤ ((R k).2[j2]'hj2).2 ∧ ((R k).2[j2]'hj2).2 ≤ 1099511627776) (hmx : mxI (j : Int) (j2 : Int) = (mx : Int)) (hmn : (if (j2 : Int) < (j : Int) then (j2 : Int) else (j : Int)) = (mn : Int)) (hlm1 : ((R3 k).2.length : Int) < lm)
 (hal : ACalls Tryz.prog 27 [.opt 0 0,iV k,iV (((R k).2[j]'hj).2 + ((R k).2[j2]'hj2).2)] (arM (arL d r n s l i cs vs rows) (osE R) R []) (.tup []) (arM (arL d r n s l i cs vs rows1) (osE R1) R1 []))
 (hr1 : ACalls Tryz.prog 66 [.opt 0 0,iV k,iV mx] (arM (arL d r n s l i cs vs rows1) (osE R1) R1 []) (.tup []) (arM (arL d r n s l i cs vs rows2) (osE R2) R2 []))
 (hr2 : ACalls Tryz.prog 66 [.opt 0 0,iV k,iV mn] (arM (arL d r n s l i cs vs rows2) (osE R2) R2 []) (.tup []) (arM (arL d r n s l i cs vs rows3) (osE R3) R3 [])) :
 ACalls Tryz.prog 25 [.opt 0 0,iV k,iV lm] (arM (arL d r n s l i cs vs rows) (osE R) R []) (bV true) (arM (arL d r n s l i cs vs rows3) (osE R3) R3 []):=by
 refine acalls_of_bodyO Tryz.func25 rfl (zU rfl) ?_
 have hcd:=A_arcode (d:=d) (r:=r) (n:=n) (s:=s) (l:=l) (i:=i) (rows:=rows) (R:=R) hk hq hc
 (repeat' (first
  |(apply W.qd;(first
  |(exact zM)|(exact zN)
  |(exact q_field rfl rfl rfl rfl)))|(apply W.ed;((apply (e_callA hcd);exact rfl;exact rfl;kernel_rfl)))|(apply yA)|(apply yB)|(apply (W.regionS 3);exact rfl;kernel_rfl)|(apply yE)
  |(apply yG)))
 all_goals try (exfalso;omega)
 refine AWP.loopW (α:=List SRw × RwS) (fun x=>x = (rows,R) ∨ x = (rows3,R3)) (fun x=>⟨[(7,iV cs[q].2.2.1),(0,.opt 0 0),(1,iV k),(2,iV lm),(6,bV false)],arM (arL d r n s l i cs vs x.1) (osE x.2) x.2 []⟩) (fun x=>if ((x.2 k).2.length : Int) < lm then 0 else 1) (rows,R) (.inl rfl) ⟨[0,1,2,3,4,5,6,7,8,9],rfl,rfl,rfl,by (repeat (first | exact trivial | refine ⟨rfl,?_⟩))⟩ fun x hx=>?_
 rcases hx with rfl | rfl
 ·dsimp only
  rw [if_neg (by omega)]
  (repeat' (first
   |(apply yFb;exact rfl;exact rfl)
   |(apply W.qd;(first
   |((apply q_lkupA;(iterate 4 exact rfl);exact get_v8 (V:=osE R) hk8;exact rfl))
   |((apply (k_len hk8);exact rfl;exact rfl))
   |((apply (k_sml hk8 hR hs);exact rfl;exact rfl))
   |((apply (k_sml hk8 hR hs2);exact rfl;exact rfl))
   |((apply q_mxv;exact rfl;exact rfl;exact hmx))
   |((apply q_minV;exact rfl;exact rfl;exact hmn))
   |((apply (k_ix hk8);(iterate 4 exact rfl);omega))
   |((apply (k_fld hk8);(iterate 3 exact rfl)))
   |((apply (k_ld hk8);(iterate 3 exact rfl);omega))|(exact zM)|(exact zN)|(exact jAm)|(exact jAg)|(exact jAj)|(exact jBf)|(exact q_geq rfl rfl)|(exact jAu)|(exact jBe)|(exact jAi)|(exact q_nil_opt rfl)|(apply (yEb (u:=.d _));exact rfl;exact rfl)
   |(apply (yDb (u:=.d _));exact rfl;exact rfl)))
   |(apply W.ed;(first
   |((apply (e_callA hal);exact rfl;exact rfl;kernel_rfl))
   |((apply (e_callA hr1);exact rfl;exact rfl;kernel_rfl))
   |((apply (e_callA hr2);exact rfl;exact rfl;kernel_rfl))))|(apply yA)|(apply yB)|(refine jAb ?_)|(refine jAr ?_)|(apply yE)|(refine jAx ?_)|(apply yG)|(apply yH)|(apply yL)|(refine jAv ?_)|(refine W.gT _ _ rfl rfl (fun hb=>?_) (fun hb=>?_)<;>((try simp only [hb,zK])<;>(try simp only [zL,zI] at hb)<;>(try (exfalso;omega))))
   |(refine W.cond _ rfl (fun hb=>?_) (fun hb=>?_)<;>((try simp only [hb,zK])<;>(try simp only [zL,zI] at hb)<;>(try (exfalso;omega))))))
  all_goals first
   |(exfalso;omega)
   |exact ⟨(rows3,R3),.inr rfl,by (dsimp only;rw [if_pos hlm1];omega),[0,1,2,3,4,5,6,7,8,9],rfl,rfl,rfl,rfl,rfl,rfl,rfl,rfl,trivial⟩
 ·dsimp only
  (repeat' (first
   |(apply W.qd;(first
   |((apply q_lkupA;(iterate 4 exact rfl);exact get_v8 (V:=osE R3) hk8;exact rfl))
   |((apply (k_len hk8);exact rfl;exact rfl))|(exact zM)|(exact zN)|(exact jAm)|(exact jAg)|(exact q_geq rfl rfl)|(exact q_nil_opt rfl)
   |(apply (yDb (u:=.d _));exact rfl;exact rfl)))|(refine W.gOff _ _ rfl rfl (by intro h;cases h) ?_)|(apply yA)|(apply yB)|(refine jAb ?_)|(apply yE)|(apply yI)|(apply yJ)|(apply yK)|(apply yM)|(refine jAy ?_)
   |(refine W.gT _ _ rfl rfl (fun hb=>?_) (fun hb=>?_)<;>((try simp only [hb,zK])<;>(try simp only [zL,zI] at hb)<;>(try (exfalso;omega))))))
  all_goals first
   |(exfalso;omega)
   |exact ⟨.inl rfl,[0,1,2,3,4,5,6,7,8,9],[bV true],rfl,rfl,⟨rfl,trivial⟩,AVle.of_eq rfl,rfl⟩
end
end
section
theorem mem_strTo {rows : List SRw} {c : Int} {a : Nat} {q : Int} : ∀ n, n ≤ rows.length → (a, q) ∈ strTo rows c n → ∃ ha : a < rows.length, rows[a].1 = c ∧ hasG rows[a] q = true
 | 0,_,h=>by simp [strTo] at h
 | n + 1,hn,h=>by
   rw [strTo_rowS,List.mem_append] at h
   rcases h with h | h
   ·exact mem_strTo n (by omega) h
   ·unfold rowS at h
    rw [getDr (show n < rows.length by omega)] at h
    split at h
    ·rename_i hc
     obtain ⟨u,hu,he⟩:=List.mem_map.1 h
     obtain ⟨rfl,rfl⟩:=Prod.mk.inj he
     exact ⟨by omega,hc,hasG_iff.2 (List.mem_map.2 ⟨u,hu,rfl⟩)⟩
    ·cases h
theorem strTo_lenB {rows : List SRw} {c : Int} {B : Nat} (h : ∀ x ∈ rows, x.2.2.length ≤ B) : ∀ n, n ≤ rows.length → (strTo rows c n).length ≤ B * n
 | 0,_=>by simp [strTo]
 | n + 1,hn=>by
   have ih:=strTo_lenB (c:=c) h n (by omega)
   rw [strTo_rowS,List.length_append,Nat.mul_succ]
   have h1:=h _ (List.getElem_mem (show n < rows.length by omega))
   unfold rowS
   rw [getDr (show n < rows.length by omega)]
   split
   ·rw [List.length_map];omega
   ·simp;omega
theorem good_len {W : Int → Int} {G : Int → Nat} {r : SRw} (hG : ∀ c,G c ≤ 64) (h : RwGood W G r) : r.2.2.length ≤ 64:=by
 rcases h with h | ⟨_,_,_,h1,h2⟩
 ·rw [h.2];simp
 ·have:=nodup_le ((r.2.2.map (·.1)).map Int.toNat) (List.range (G r.1)) (by
   rw [List.nodup_iff_pairwise_ne] at h1 ⊢
   rw [List.pairwise_map]
   refine List.Pairwise.imp_of_mem (fun {a b} ha hb hne he=>hne ?_) h1
   obtain ⟨u,hu,rfl⟩:=List.mem_map.1 ha
   obtain ⟨v,hv,rfl⟩:=List.mem_map.1 hb
   have:=h2 u hu
   have:=h2 v hv
   omega) fun q hq=>by
    obtain ⟨x,hx,rfl⟩:=List.mem_map.1 hq
    obtain ⟨u,hu,rfl⟩:=List.mem_map.1 hx
    have:=h2 u hu
    exact List.mem_range.2 (by omega)
  simp at this
  have:=hG r.1
  omega
def cdK (vs : List Sv) (k : Nat) : Int:=(vs.getD k sv0).2.1
structure SimC (vs : List Sv) (W : Int → Int) (G : Int → Nat) (need : List Int) (N : Nat) (M : Nat → Int) : Prop where
 one : OneCode vs
 vl : vs.length ≤ 8
 nn : ∀ c,0 ≤ need.getD c 0
 sum : sumH need (fun _=>0) 8 + 1 ≤ (N : Int)
 fit : ∀ k,k < vs.length → 0 < M k → 0 < G (cdK vs k) ∧ need.getD (cdK vs k).toNat 0 = upI (M k) (G (cdK vs k) : Int)
 gle : ∀ c,G c ≤ 64
structure SimI (vs : List Sv) (W : Int → Int) (G : Int → Nat) (need : List Int) (N : Nat) (rows : List SRw) (R : RwS) : Prop where
 len : rows.length = N
 good : ∀ x ∈ rows,RwGood W G x
 held : ∀ c : Nat,(heldN rows (c : Int) : Int) ≤ need.getD c 0
 perm : ∀ k,k < vs.length → ((R k).2.map (·.1)).Perm (strN rows (cdK vs k))
 liv : ∀ k,∀ x ∈ (R k).2,0 ≤ x.2 ∧ x.2 ≤ 64
section
variable {vs : List Sv} {W : Int → Int} {G : Int → Nat} {need : List Int} {N : Nat} {M : Nat → Int} {rows : List SRw} {R : RwS} {k : Nat}
theorem SimI.us (h : SimI vs W G need N rows R) (hC : SimC vs W G need N M) : ∀ x ∈ rows,x.2.2.length ≤ 64:=fun x hx=>good_len hC.gle (h.good x hx)
theorem SimI.cnt (h : SimI vs W G need N rows R) (hC : SimC vs W G need N M) (hk : k < vs.length) : (R k).2.length ≤ 64 * N:=by
 have h1:=(h.perm k hk).length_eq
 rw [List.length_map] at h1
 rw [h1,← h.len]
 exact strTo_lenB (h.us hC) _ (Nat.le_refl _)
theorem sim_alloc (hC : SimC vs W G need N M) (h : SimI vs W G need N rows R) (hk : k < vs.length) (hcnt : ((R k).2.length : Int) + 1 ≤ M k) {v : Int} (hv : 0 ≤ v ∧ v ≤ 64) :
 ∃ rows' a q,AlcTo rows (cdK vs k) (W (cdK vs k)) (G (cdK vs k)) rows' a q ∧ SimI vs W G need N rows' (upd R k ((R k).1 + 1,(R k).2 ++ [((a,(q : Int)),v)])):=by
 obtain ⟨c0,c8⟩:=hC.one.c0 k hk
 obtain ⟨g0,gn⟩:=hC.fit k hk (by omega)
 change 0 ≤ cdK vs k at c0
 change cdK vs k < 8 at c8
 have hpk:=h.perm k hk
 have hne : ∀ j,j < vs.length → j ≠ k → cdK vs j ≠ cdK vs k:=fun j hj hjk he=>hjk (hC.one.inj j k hj hk he)
 have hpos : ∀ j,j < vs.length → 0 ≤ cdK vs j:=fun j hj=>(hC.one.c0 j hj).1
 generalize hc : cdK vs k = c at *
 have fin : ∀ (rows' : List SRw) (a : Nat) (q : Nat),rows'.length = rows.length → (∀ x ∈ rows',RwGood W G x) → (∀ c : Nat,(heldN rows' (c : Int) : Int) ≤ need.getD c 0) → (strN rows' c).Perm ((a,(q : Int)) :: strN rows c) → (∀ c',0 ≤ c' → c' ≠ c → (strN rows' c').Perm (strN rows c')) → SimI vs W G need N rows' (upd R k ((R k).1 + 1,(R k).2 ++ [((a,(q : Int)),v)])):=fun rows' a q h1 h2 h3 h4 h5=>by
  refine ⟨h1.trans h.len,h2,h3,fun j hj=>?_,fun j x hx=>?_⟩
  ·by_cases e : j = k
   ·subst e
    rw [upd_self,hc]
    refine List.Perm.trans ?_ h4.symm
    rw [List.map_append]
    exact List.perm_append_comm.trans (List.Perm.cons _ hpk)
   ·rw [upd_ne e]
    exact (h.perm j hj).trans (h5 _ (hpos j hj) (hne j hj e)).symm
  ·by_cases e : j = k
   ·subst e
    rw [upd_self] at hx
    rcases List.mem_append.1 hx with hx | hx
    ·exact h.liv j x hx
    ·obtain rfl : x = ((a, (q : Int)), v) := by simpa using hx
     exact hv
   ·rw [upd_ne e] at hx
    exact h.liv j x hx
 rcases alc_cases rows c (G c) with ⟨i,hi,q,h1,h2,h3,h4,h5⟩ | ⟨hfull,⟨i,hi,h1,h2⟩ | hnone⟩
 ·obtain ⟨g1, g2, g3, g4⟩ := alc_one h.good hi h1 c0 h2 h3 0 0
  exact ⟨_,i,q,.inl ⟨hi,h1,h2,h3,h4,fun j hj hji hjc q' hq'=>h5 j hji hjc q' hq',rfl⟩,fin _ _ _ (by rw [List.length_set]) g1 (fun c'=>by rw [g4];exact h.held c') g2 fun c' _ hne'=>g3 c' hne'⟩
 ·obtain ⟨g1, g2, g3, g4, g5⟩ := alc_two (w := W c) h.good hi h1 ⟨c0, c8⟩ rfl g0 0 0
  refine ⟨_,i,0,.inr ⟨rfl,hfull,hi,h1,fun j hj hji=>h2 j hji,rfl⟩,fin _ _ _ (by rw [List.length_set]) g1 (fun c'=>?_) g2 fun c' h0 hne'=>g3 c' h0 hne'⟩
  by_cases e : (c' : Int) = c
  ·rw [e, g4]
   have hf:=full_rows (c:=c) (g:=G c) (fun j hj hjc=>full_len (hfull j hj hjc)) rows.length (Nat.le_refl _)
   have h6:=hpk.length_eq
   rw [List.length_map] at h6
   have hf : G c * heldN rows c ≤ (strN rows c).length:=hf
   rw [← h6] at hf
   have:=row_fits (g:=(G c : Int)) (held:=(heldN rows c : Int)) (cnt:=((R k).2.length : Int)) (lim:=M k) (by omega) (by exact_mod_cast hf) (by omega)
   have e2 : c' = c.toNat:=by omega
   rw [e2,gn]
   push_cast
   omega
  ·rw [g5 _ (by omega) e];exact h.held c'
 ·exfalso
  have hall : ∀ j (hj : j < rows.length),0 ≤ rows[j].1 ∧ rows[j].1 < 8:=fun j hj=>by
   rcases h.good _ (List.getElem_mem hj) with hh | hh
   ·exact absurd hh.1 (hnone j hj)
   ·exact ⟨hh.1,hh.2.1⟩
  have h1:=held_all hall rows.length (Nat.le_refl _)
  have h2:=sumC_le (f:=fun c=>heldT rows (c : Int) rows.length) (need:=need) (h:=fun _=>0) (fun c=>h.held c) 8
  rw [h1,h.len] at h2
  have:=hC.sum
  omega
theorem sim_rel (h : SimI vs W G need N rows R) (hC : SimC vs W G need N M) (hk : k < vs.length) {j : Nat} (hj : j < (R k).2.length) :
 ∃ ha : (R k).2[j].1.1 < rows.length,hasG rows[(R k).2[j].1.1] (R k).2[j].1.2 = true ∧ SimI vs W G need N (rows.set (R k).2[j].1.1 (relR rows[(R k).2[j].1.1] (R k).2[j].1.2)) (upd R k ((R k).1 + 1,(R k).2.take j ++ (R k).2.drop (j + 1))):=by
 have hpk:=h.perm k hk
 have hm : (R k).2[j].1 ∈ strN rows (cdK vs k):=hpk.mem_iff.1 (List.mem_map.2 ⟨_,List.getElem_mem hj,rfl⟩)
 have hsp : (R k).2 = (R k).2.take j ++ (R k).2[j] :: (R k).2.drop (j + 1):=by
  rw [← List.drop_eq_getElem_cons hj,List.take_append_drop]
 obtain ⟨ha,h1,h2⟩:=mem_strTo (a:=(R k).2[j].1.1) (q:=(R k).2[j].1.2) rows.length (Nat.le_refl _) hm
 refine ⟨ha,h2,?_⟩
 obtain ⟨g1,g2,g3,g4⟩:=rel_one h.good ha h2
 rw [h1] at g2 g3
 have hne : ∀ j,j < vs.length → j ≠ k → cdK vs j ≠ cdK vs k:=fun j hj hjk he=>hjk (hC.one.inj j k hj hk he)
 have hsub : ∀ x ∈ (R k).2.take j ++ (R k).2.drop (j + 1),x ∈ (R k).2:=fun x hx=>by
  rcases List.mem_append.1 hx with hx | hx
  ·exact List.mem_of_mem_take hx
  ·exact List.mem_of_mem_drop hx
 refine ⟨by rw [List.length_set];exact h.len,g1,fun c=>Int.le_trans (Int.ofNat_le.2 (g4 _ (by omega))) (h.held c),fun j' hj'=>?_,fun j' x hx=>?_⟩
 ·by_cases e : j' = k
  ·subst e
   rw [upd_self]
   have h3:=hpk.trans g2
   have h4 : ((R j').2.map (·.1)).Perm ((R j').2[j].1 :: ((R j').2.take j ++ (R j').2.drop (j + 1)).map (·.1)):=by
    have : ((R j').2.map (·.1)) = ((R j').2.take j).map (·.1) ++ (R j').2[j].1 :: ((R j').2.drop (j + 1)).map (·.1):=by
     rw [← List.map_cons,← List.map_append,← hsp]
    rw [this,List.map_append]
    exact List.perm_middle
   exact List.Perm.cons_inv (h4.symm.trans h3)
  ·rw [upd_ne e]
   exact (h.perm j' hj').trans (g3 _ (hC.one.c0 j' hj').1 (hne j' hj' e))
 ·by_cases e : j' = k
  ·subst e
   rw [upd_self] at hx
   exact h.liv j' x (hsub x hx)
  ·rw [upd_ne e] at hx
   exact h.liv j' x hx
theorem livS_app (a b : List Sk) : livS (a ++ b) = livS a + livS b:=by unfold livS;rw [List.map_append,List.sum_append]
theorem livS_one (x : Sk) : livS [x] = x.2:=by unfold livS;simp
theorem livS_cut {l : List Sk} {j : Nat} (hj : j < l.length) : livS l = livS (l.take j ++ l.drop (j + 1)) + l[j].2:=by
 have hsp : l = l.take j ++ ([l[j]] ++ l.drop (j + 1)):=by
  rw [List.singleton_append,← List.drop_eq_getElem_cons hj,List.take_append_drop]
 have : livS l = livS (l.take j) + (l[j].2 + livS (l.drop (j + 1))):=by
  conv=>lhs;rw [hsp]
  rw [livS_app,livS_app,livS_one]
 rw [this,livS_app];omega
end
end
section
def wdC (cs : List Cd) (c : Int) : Int:=(cs.getD c.toNat cd0).2.2.1 + ((cs.getD c.toNat cd0).2.2.2.1.length : Int)
def gpC (d r n s l i : Int) (cs : List Cd) (c : Int) : Nat:=(grpI d r n s l i (wdC cs c)).toNat
def daK (cs : List Cd) (vs : List Sv) (k : Nat) : Int:=(cs.getD (cdK vs k).toNat cd0).2.2.1
def mxK (cs : List Cd) (vs : List Sv) (b : Nat → Int) (k : Nat) : Int:=limN (daK cs vs k) (b k)
structure SimP (d r n s l i : Int) (cs : List Cd) (vs : List Sv) (b : Nat → Int) (need : List Int) (N : Nat) : Prop where
 C : SimC vs (wdC cs) (gpC d r n s l i cs) need N (mxK cs vs b)
 cq : ∀ k,k < vs.length → ∃ q : Nat,cdK vs k = (q : Int) ∧ q < cs.length ∧ q < 8
 wd : ∀ k,k < vs.length → 1 ≤ wdC cs (cdK vs k) ∧ wdC cs (cdK vs k) ≤ 32
 da : ∀ k,k < vs.length → 1 ≤ daK cs vs k ∧ daK cs vs k ≤ 32
 bb : ∀ k,0 ≤ b k ∧ b k ≤ 68719476704
 N : N ≤ 40
abbrev SimJ (d r n s l i : Int) (cs : List Cd) (vs : List Sv) (need : List Int) (N : Nat) (rows : List SRw) (R : RwS) : Prop:=SimI vs (wdC cs) (gpC d r n s l i cs) need N rows R
theorem lim_ge {D n : Int} (hD : 1 ≤ D) (h1 : 1 ≤ n) (h2 : n ≤ 1099511627776) : 4 ≤ limN D n:=by
 unfold limN
 rw [if_neg (by omega)]
 have : 1 ≤ upI n D:=by
  unfold upI
  exact Int.le_ediv_of_mul_le (by omega) (by omega)
 omega
section
variable {d r n s l i : Int} {cs : List Cd} {vs : List Sv} {b : Nat → Int} {need : List Int} {N : Nat} {rows : List SRw} {R : RwS} {k : Nat}
theorem SimP.at (hP : SimP d r n s l i cs vs b need N) (hk : k < vs.length) : ∃ q : Nat,∃ hq : q < cs.length,q < 8 ∧ vs[k].2.1 = (q : Int) ∧ cdK vs k = (q : Int) ∧ cs.getD (cdK vs k).toNat cd0 = cs[q]:=by
 obtain ⟨q,h1,h2,h3⟩:=hP.cq k hk
 refine ⟨q,h2,h3,?_,h1,?_⟩
 ·unfold cdK at h1;rwa [getDv hk] at h1
 ·rw [h1,Int.toNat_natCast,getDc h2]
theorem P_alloc (hP : SimP d r n s l i cs vs b need N) (h : SimJ d r n s l i cs vs need N rows R) (hk : k < vs.length) (hcnt : ((R k).2.length : Int) + 1 ≤ mxK cs vs b k) {v : Int} (hv : 0 ≤ v ∧ v ≤ 64) :
 ∃ rows' x,ACalls Tryz.prog 27 [.opt 0 0,iV k,iV v] (arM (arL d r n s l i cs vs rows) (osE R) R []) (.tup []) (arM (arL d r n s l i cs vs rows') (osE (upd R k ((R k).1 + 1,(R k).2 ++ [(x,v)]))) (upd R k ((R k).1 + 1,(R k).2 ++ [(x,v)])) []) ∧ SimJ d r n s l i cs vs need N rows' (upd R k ((R k).1 + 1,(R k).2 ++ [(x,v)])):=by
 obtain ⟨rows',a,q0,h1,h2⟩:=sim_alloc hP.C h hk hcnt hv
 obtain ⟨q,hq,hq8,hc,hcd,hget⟩:=hP.at hk
 have hN:=hP.N
 have hl:=h.len
 have hus:=h.us hP.C
 have hw:=hP.wd k hk
 have hcn:=h.cnt hP.C hk
 obtain ⟨g0,_⟩:=hP.C.fit k hk (by omega)
 have hg64:=hP.C.gle (cdK vs k)
 have hgd:=h.good
 have ew : wdC cs (cdK vs k) = cs[q].2.2.1 + (cs[q].2.2.2.1.length : Int):=by unfold wdC;rw [hget]
 have eg : grpI d r n s l i (cs[q].2.2.1 + (cs[q].2.2.2.1.length : Int)) = (gpC d r n s l i cs (cdK vs k) : Int):=by
  unfold gpC;rw [ew];exact (Int.toNat_of_nonneg grpI_nn).symm
 have ec : vs[k].2.1 = cdK vs k:=by rw [hc,hcd]
 refine ⟨rows',(a,(q0 : Int)),A_sallocate (live:=v) hk (by have:=hP.C.vl;omega) hq hc (by omega) (by omega) (fun j hj=>by have:=hus _ (List.getElem_mem hj);omega) hq8 (by rw [← ew];exact hw) eg g0 hg64 (fun j hj hjc=>?_) (by rw [ec,← ew];exact h1),h2⟩
 rw [← ew]
 rcases hgd _ (List.getElem_mem hj) with hh | hh
 ·omega
 ·rw [hh.2.2.1,hjc,ec]
theorem P_rel (hP : SimP d r n s l i cs vs b need N) (h : SimJ d r n s l i cs vs need N rows R) (hk : k < vs.length) {j : Nat} (hj : j < (R k).2.length) :
 ∃ rows',ACalls Tryz.prog 66 [.opt 0 0,iV k,iV j] (arM (arL d r n s l i cs vs rows) (osE R) R []) (.tup []) (arM (arL d r n s l i cs vs rows') (osE (upd R k ((R k).1 + 1,(R k).2.take j ++ (R k).2.drop (j + 1)))) (upd R k ((R k).1 + 1,(R k).2.take j ++ (R k).2.drop (j + 1))) []) ∧ SimJ d r n s l i cs vs need N rows' (upd R k ((R k).1 + 1,(R k).2.take j ++ (R k).2.drop (j + 1))):=by
 obtain ⟨ha,h1,h2⟩:=sim_rel h hP.C hk hj
 have hN:=hP.N
 have hl:=h.len
 have hus:=h.us hP.C
 have hcn:=h.cnt hP.C hk
 exact ⟨_,A_srelease (by have:=hP.C.vl;omega) hj (by omega) (by omega) (fun j hj=>by have:=hus _ (List.getElem_mem hj);omega) ha rfl h1,h2⟩
theorem cut_len {l : List Sk} {j : Nat} (hj : j < l.length) : (l.take j ++ l.drop (j + 1)).length = l.length - 1:=by simp;omega
theorem P_collect (hP : SimP d r n s l i cs vs b need N) (h : SimJ d r n s l i cs vs need N rows R) (hk : k < vs.length) (hb : 1 ≤ b k) (hs : livS (R k).2 ≤ b k) (hcnt : ((R k).2.length : Int) ≤ mxK cs vs b k - 1) :
 ∃ rows' R',ACalls Tryz.prog 25 [.opt 0 0,iV k,iV (mxK cs vs b k - 1)] (arM (arL d r n s l i cs vs rows) (osE R) R []) (bV true) (arM (arL d r n s l i cs vs rows') (osE R') R' []) ∧ SimJ d r n s l i cs vs need N rows' R' ∧ (∀ j,j ≠ k → R' j = R j) ∧ livS (R' k).2 = livS (R k).2 ∧ ((R' k).2.length : Int) < mxK cs vs b k - 1:=by
 obtain ⟨q,hq,hq8,hc,hcd,hget⟩:=hP.at hk
 have hk8 : k < 8:=by have:=hP.C.vl;omega
 have hN:=hP.N
 have hcn:=h.cnt hP.C hk
 have hda:=hP.da k hk
 have hbb:=hP.bb k
 have hM : 4 ≤ mxK cs vs b k:=lim_ge hda.1 hb (by omega)
 have hliv:=h.liv k
 by_cases hlt : ((R k).2.length : Int) < mxK cs vs b k - 1
 ·exact ⟨rows,R,A_scol0 hk hk8 hq hc hlt,h,fun _ _=>rfl,rfl,hlt⟩
 have hlen : ((R k).2.length : Int) = mxK cs vs b k - 1:=by omega
 rcases smlT_spec (R k).2 (-1) (R k).2.length with ⟨_,hx⟩ | ⟨i1,e1,hi1,_,m1⟩
 ·have := hx 0 (by omega)
  omega
 by_cases h0 : (R k).2[i1].2 = 0
 ·obtain ⟨rows1, c1, s1⟩ := P_rel hP h hk hi1
  have hl1 : (((upd R k ((R k).1 + 1,(R k).2.take i1 ++ (R k).2.drop (i1 + 1))) k).2.length : Int) < mxK cs vs b k - 1:=by
   rw [upd_self,cut_len hi1];omega
  refine ⟨rows1,_,A_scol1 hk hk8 hq hc (by omega) (by omega) hi1 e1 h0 hl1 c1,s1,fun j hj=>upd_ne hj,?_,hl1⟩
  have:=livS_cut hi1
  rw [upd_self]
  dsimp only
  omega
 rcases smlT_spec (R k).2 (i1 : Int) (R k).2.length with ⟨_,hx⟩ | ⟨i2,e2,hi2,hne,m2⟩
 ·have := hx 0 (by omega)
  have:=hx 1 (by omega)
  omega
 have hne : i2 ≠ i1:=fun e=>hne (by rw [e])
 have hle:=merge_ok (l:=(R k).2) (D:=daK cs vs k) (n:=b k) (i:=i1) (j:=i2) hda.1 hb (fun x hx=>(hliv x hx).1) hs (by rw [hlen];exact Int.le_refl _) (by omega) hi1 hi2 hne (fun j hj=>m1 j hj (by omega)) (fun j hj hji=>m2 j hj (by omega))
 rw [getDs hi1,getDs hi2] at hle
 have b1:=hliv _ (List.getElem_mem hi1)
 have b2:=hliv _ (List.getElem_mem hi2)
 obtain ⟨rows1,x,c1,s1⟩:=P_alloc (v:=(R k).2[i1].2 + (R k).2[i2].2) hP h hk (by omega) (by omega)
 generalize hv : (R k).2[i1].2 + (R k).2[i2].2 = v at *
 generalize hR1 : upd R k ((R k).1 + 1,(R k).2 ++ [(x,v)]) = R1 at *
 have eR1 : (R1 k).2 = (R k).2 ++ [(x,v)]:=by rw [← hR1,upd_self]
 obtain ⟨mx,mn,hmx,hmn,hlt2,hmxl,hsum⟩ : ∃ mx mn : Nat,mxI (i1 : Int) (i2 : Int) = (mx : Int) ∧ (if (i2 : Int) < (i1 : Int) then (i2 : Int) else (i1 : Int)) = (mn : Int) ∧ ∃ hlt : mn < mx,∃ hm : mx < (R k).2.length,(R k).2[mx].2 + ((R k).2[mn]'(by omega)).2 = v:=by
  rcases Nat.lt_or_ge i1 i2 with hh | hh
  ·exact ⟨i2,i1,by unfold mxI;rw [if_pos (by omega)],by rw [if_neg (by omega)],hh,hi2,by rw [← hv];omega⟩
  ·exact ⟨i1,i2,by unfold mxI;rw [if_neg (by omega)],by rw [if_pos (by omega)],by omega,hi1,hv⟩
 have hj1 : mx < (R1 k).2.length:=by rw [eR1,List.length_append];omega
 obtain ⟨rows2,c2,s2⟩:=P_rel hP s1 hk hj1
 generalize hR2 : upd R1 k ((R1 k).1 + 1,(R1 k).2.take mx ++ (R1 k).2.drop (mx + 1)) = R2 at *
 have eR2 : (R2 k).2 = (R1 k).2.take mx ++ (R1 k).2.drop (mx + 1):=by rw [← hR2,upd_self]
 have l2 : (R2 k).2.length = (R k).2.length:=by rw [eR2,cut_len hj1,eR1];simp
 have hj2 : mn < (R2 k).2.length:=by omega
 obtain ⟨rows3,c3,s3⟩:=P_rel hP s2 hk hj2
 generalize hR3 : upd R2 k ((R2 k).1 + 1,(R2 k).2.take mn ++ (R2 k).2.drop (mn + 1)) = R3 at *
 have eR3 : (R3 k).2 = (R2 k).2.take mn ++ (R2 k).2.drop (mn + 1):=by rw [← hR3,upd_self]
 have l3 : ((R3 k).2.length : Int) < mxK cs vs b k - 1:=by rw [eR3,cut_len hj2];omega
 have hle' : (R k).2[i1].2 + (R k).2[i2].2 ≤ cs[q].2.2.1:=by unfold daK at hle;rw [hget] at hle;omega
 refine ⟨rows3,R3,A_scol2 hk hk8 hq hc (by omega) (by omega) hi1 e1 h0 hi2 e2 hle' (by omega) hmx hmn l3 (by rw [hv];exact c1) c2 c3,s3,fun j hj=>?_,?_,l3⟩
 ·rw [← hR3,upd_ne hj,← hR2,upd_ne hj,← hR1,upd_ne hj]
 ·have t1 : livS (R1 k).2 = livS (R k).2 + v := by rw [eR1, livS_app, livS_one]
  have t2:=livS_cut hj1
  rw [← eR2] at t2
  have t3:=livS_cut hj2
  rw [← eR3] at t3
  have t4 : (R1 k).2[mx] = (R k).2[mx]:=by
   have : (R1 k).2[mx]? = some (R k).2[mx]:=by rw [eR1,List.getElem?_append_left hmxl,List.getElem?_eq_getElem hmxl]
   rw [List.getElem?_eq_getElem hj1] at this
   exact Option.some.inj this
  have t5 : (R2 k).2[mn] = (R k).2[mn]'(by omega):=by
   have : (R2 k).2[mn]? = some ((R k).2[mn]'(by omega)):=by
    rw [eR2,List.getElem?_append_left (by rw [List.length_take];omega),List.getElem?_take,if_pos hlt2,eR1,List.getElem?_append_left (by omega),List.getElem?_eq_getElem (by omega)]
   rw [List.getElem?_eq_getElem hj2] at this
   exact Option.some.inj this
  rw [t4] at t2
  rw [t5] at t3
  omega
end
end
section
abbrev needP (d r n s l i : Int) (cs : List Cd) (vs : List Sv) (ts : List Tn) (us : List Ue) : List Int:=(runJ (codN d r n s l i) cs (jobsN vs (blkF ts us) vs.length)).1
theorem one_of_valid {cs : List Cd} {vs : List Sv} (hV : validB cs vs = true) (hx : ∀ k, (h : k < vs.length) → vs[k].2.2.1 = -1) : OneCode vs where
 c0:=fun k hk=>by
  rw [getDv hk]
  have h1:=keeps_has ((valid_iff.1 hV).v k hk).kp
  have:=(valid_iff.1 hV).cl
  omega
 nx:=fun k hk=>by rw [getDv hk];exact hx k hk
 inj:=fun k j hk hj he=>by
  rw [getDv hk,getDv hj] at he
  have h1:=((valid_iff.1 hV).v k hk).us
  have h2:=((valid_iff.1 hV).v j hj).us
  rw [he,h2] at h1
  omega
theorem strTo_free (N : Nat) {c : Int} (hc : 0 ≤ c) : ∀ j, j ≤ N → strTo (List.replicate N freeR) c j = []
 | 0,_=>by simp [strTo]
 | j + 1,hj=>by
   rw [strTo_rowS,strTo_free N hc j (by omega),emp_get (show j < N by omega)]
   unfold rowS
   rw [if_neg (show ¬ freeR.1 = c from fun h=>by have : (-1 : Int) = c:=h;omega)];rfl
theorem code_wd {cs : List Cd} (hV : ∀ q (h : q < cs.length),chkD cs[q] = true) {q : Nat} (hq : q < cs.length) : (1 ≤ cs[q].2.2.1 ∧ cs[q].2.2.1 ≤ 32) ∧ 1 ≤ cs[q].2.2.1 + (cs[q].2.2.2.1.length : Int) ∧ cs[q].2.2.1 + (cs[q].2.2.2.1.length : Int) ≤ 32:=by
 have hv:=chk_valid (hV q hq)
 unfold validC at hv
 simp only [Bool.and_eq_true,decide_eq_true_eq] at hv
 omega
theorem sim_start {d r n s l i : Int} {cs : List Cd} {vs : List Sv} {ts : List Tn} {us : List Ue} (hn : n ≤ 40) (he : admN d r n s l i cs vs ts us (empR d r n s l i) = 0) (hx : ∀ k, (h : k < vs.length) → vs[k].2.2.1 = -1) :
 SimP d r n s l i cs vs (blkF ts us) (needP d r n s l i cs vs ts us) n.toNat ∧ SimJ d r n s l i cs vs (needP d r n s l i cs vs ts us) n.toNat (empR d r n s l i) (fun _=>(0,[])):=by
 obtain ⟨hv,hf⟩:=adm_val he
 have hv':=hv
 unfold val31 at hv'
 simp only [Bool.and_eq_true] at hv'
 obtain ⟨⟨v1,v2⟩,v3⟩:=hv'
 have hok : OkC d r n s l i:=by
  unfold validR at v1
  simp only [Bool.and_eq_true,decide_eq_true_eq] at v1
  exact Classical.byContradiction fun hn=>by
   have:=v1.1.1
   rw [chk13_no hn] at this
   omega
 have h1:=one_of_valid v2 hx
 have hV:=valid_iff.1 v2
 have hn1:=hok.2.2.1
 have hcq : ∀ k,k < vs.length → ∃ q : Nat,cdK vs k = (q : Int) ∧ q < cs.length ∧ q < 8:=fun k hk=>by
  have h1:=keeps_has (hV.v k hk).kp
  have:=hV.cl
  unfold cdK
  rw [getDv hk]
  exact ⟨vs[k].2.1.toNat,by omega,by omega,by omega⟩
 have hwd : ∀ k,k < vs.length → (1 ≤ daK cs vs k ∧ daK cs vs k ≤ 32) ∧ 1 ≤ wdC cs (cdK vs k) ∧ wdC cs (cdK vs k) ≤ 32:=fun k hk=>by
  obtain ⟨q,e,hq,_⟩:=hcq k hk
  have:=code_wd (fun q h=>(hV.c q h).2) hq
  rw [← getDc hq,← Int.toNat_natCast q,← e] at this
  exact this
 have hnn : ∀ c,0 ≤ (needP d r n s l i cs vs ts us).getD c 0:=fun c=>(runJ_bd (codN_bd d r n s l i) _ c).1
 have hbl:=fun k : Nat=>blkN_bd (k:=(k : Int)) v3
 unfold fitT totN at hf
 have hrun : (runJ (codN d r n s l i) cs (jobsN vs (blkF ts us) vs.length)).2 = 0:=Classical.byContradiction fun hne=>by
  rw [if_pos hne] at hf
  simp only [Bool.and_eq_true,decide_eq_true_eq] at hf
  exact hne hf.1
 rw [if_neg (by simp [hrun])] at hf
 simp only [Bool.and_eq_true,decide_eq_true_eq] at hf
 obtain ⟨_,r2,_⟩:=runJ_one h1 vs.length (Nat.le_refl _) hrun
 have e0 : heldF (empR d r n s l i) = fun _=>0:=funext fun c=>emp_held c
 rw [e0] at hf
 refine ⟨⟨⟨h1,hV.vl,hnn,(by have h9 : sumH (needP d r n s l i cs vs ts us) (fun _=>0) 8 < n:=hf.2;clear hf;omega),fun k hk hM=>?_,fun c=>?_⟩,hcq,fun k hk=>(hwd k hk).2,fun k hk=>(hwd k hk).1,fun k=>hbl k,by omega⟩,⟨?_,fun x hx=>?_,fun c=>?_,fun k hk=>?_,fun k x hx=>by cases hx⟩⟩
 ·obtain ⟨a1, a2⟩ := r2 k hk
  have hb1 : 1 ≤ blkF ts us k:=Classical.byContradiction fun hneg=>by
   unfold mxK limN at hM
   rw [if_pos (.inl (by omega))] at hM
   omega
  change (codN d r n s l i (cs.getD (cdK vs k).toNat cd0) (blkF ts us k)).2 = 0 at a1
  change (needP d r n s l i cs vs ts us).getD (cdK vs k).toNat 0 = (codN d r n s l i (cs.getD (cdK vs k).toNat cd0) (blkF ts us k)).1 at a2
  rw [a2]
  unfold codN at a1 ⊢
  split at a1
  ·simp at a1
  ·rename_i c1
   rw [if_neg c1]
   split at a1
   ·omega
   ·rename_i c2
    rw [if_neg c2]
    split at a1
    ·exact absurd a1 (by decide)
    ·rename_i c3
     rw [if_neg c3]
     have hg : grpI d r n s l i (wdC cs (cdK vs k)) ≠ 0:=fun h=>c3 (.inl h)
     have hg0:=grpI_nn (d:=d) (r:=r) (n:=n) (s:=s) (l:=l) (i:=i) (w:=wdC cs (cdK vs k))
     have eg : (gpC d r n s l i cs (cdK vs k) : Int) = grpI d r n s l i (wdC cs (cdK vs k)):=Int.toNat_of_nonneg hg0
     exact ⟨by omega,by rw [eg];rfl⟩
 ·have := grpI_le d r n s l i (wdC cs c)
  unfold gpC
  omega
 ·unfold empR;rw [if_pos hok,List.length_replicate]
 ·unfold empR at hx
  rw [if_pos hok] at hx
  obtain rfl:=List.eq_of_mem_replicate hx
  exact .inl ⟨rfl,rfl⟩
 ·have := emp_held (d := d) (r := r) (n := n) (s := s) (l := l) (i := i) c
  unfold heldF at this
  rw [this]
  exact hnn c
 ·obtain ⟨q, e, _, _⟩ := hcq k hk
  have : strN (empR d r n s l i) (cdK vs k) = []:=by
   unfold strN empR
   rw [if_pos hok,List.length_replicate]
   exact strTo_free _ (by omega) _ (Nat.le_refl _)
  rw [this]
  exact List.Perm.refl _
end
section
theorem livS_take {l : List Sk} {j : Nat} (h : j < l.length) : livS (l.take (j + 1)) = livS (l.take j) + l[j].2:=by
 rw [List.take_succ_eq_append_getElem h,livS_app,livS_one]
theorem livS_bd {l : List Sk} (h : ∀ x ∈ l, 0 ≤ x.2 ∧ x.2 ≤ 64) : ∀ j, j ≤ l.length → 0 ≤ livS (l.take j) ∧ livS (l.take j) ≤ 64 * (j : Int)
 | 0,_=>by simp [livS]
 | j + 1,hj=>by
   have ih:=livS_bd h j (by omega)
   have:=h _ (List.getElem_mem (show j < l.length by omega))
   rw [livS_take (by omega)]
   omega
theorem livS_set {l : List Sk} {j : Nat} (hj : j < l.length) (y : Sk) : livS (l.set j y) = livS l - l[j].2 + y.2:=by
 have hj2 : j < (l.set j y).length:=by rw [List.length_set];exact hj
 have h1:=livS_cut hj
 have h2:=livS_cut hj2
 rw [List.take_set_of_le (Nat.le_refl j),List.drop_set_of_lt (show j < j + 1 by omega),List.getElem_set_self] at h2
 omega
section
variable {P : Program} {m : Nat} {env : List (Nat × AV)} {own : List Ent} {dst : Option Tmp} {ty : TypeId} {pos : String} {af : Array Edge} {gd : Option (Nat × Bool)} {la : List AV} {V : Nat → AV} {R : RwS} {E : List Ent} {k : Nat}
theorem q_min3 {x y z : Operand} {ts : Array TypeId} {a b c v : Int} (hx : lookO env x = iV a) (hy : lookO env y = iV b) (hz : lookO env z = iV c) (h : (if c < (if b < a then b else a) then c else (if b < a then b else a)) = v) :
 Quiet P m ⟨dst,.call ⟨.builtin .min,#[x,y,z],ts⟩,ty,pos,af,gd⟩ env own [] (iV v) :=
 Quiet.val fun F own' κ ac w hs _ hsame _=>by
  subst h
  have h1:=hs x (by simp [Op.operands,Call.operands]);rw [hx,sat_v] at h1
  have h2:=hs y (by simp [Op.operands,Call.operands]);rw [hy,sat_v] at h2
  have h3:=hs z (by simp [Op.operands,Call.operands]);rw [hz,sat_v] at h3
  refine ⟨.int .i64 (if c < (if b < a then b else a) then c else (if b < a then b else a)),?_,sat_v.2 rfl⟩
  rw [exec_builtin]
  simp only [builtin]
  refine exec_v ?_
  by_cases e1 : b < a<;>simp [h1,h2,h3,Builtin.min_,Builtin.min2,e1]
  all_goals (try (split<;>rfl))
theorem k_lds (h8 : k < 8) {t : TypeId} {x : Operand} {j : Nat} (hx : lookO env x = .rpt (k + 2) (R k).1 j 0) (ht : tyInfo P t = some (true, 3)) (hj : j < (R k).2.length) :
 Quiet P m ⟨dst,.load t x,ty,pos,af,gd⟩ env (arM la V R E) rws8 (.agg [iV ((R k).2[j]'hj).1.1,iV ((R k).2[j]'hj).1.2,iV ((R k).2[j]'hj).2]) :=
 (q_ld_rptp (c:=skD ((R k).2[j]'hj)) ht hx (get_arM h8) (by rw [List.getElem?_map,List.getElem?_eq_getElem hj];rfl) rfl (Nat.zero_lt_succ _)).wk (in8 h8)
theorem k_st (h8 : k < 8) {t : TypeId} {kx : Nat} {x y : Operand} {j : Nat} {v : Int} (hx : lookO env x = .rpt (k + 2) (R k).1 j 2) (ht : tyInfo P t = some (false, kx)) (hk1 : kx = 1) (hy : lookO env y = iV v) (hj : j < (R k).2.length) :
 Eff P m ⟨dst,.store t x y,ty,pos,af,gd⟩ env (arM la V R E) rws8 (.d (.v undef)) (arM la V (upd R k ((R k).1,(R k).2.set j (((R k).2[j]'hj).1,v))) E) :=
 (e_st_rptG hx (get_arM h8) ht hk1 (by rw [hy];rfl) rfl rfl (by rw [List.getElem?_map,List.getElem?_eq_getElem hj];rfl) (show _ = ((R k).2.set j (((R k).2[j]'hj).1,v)).map skD by rw [List.map_set];rfl) (setF_spec (set_arM (x:=((R k).1,(R k).2.set j (((R k).2[j]'hj).1,v))) h8)).symm).wk (in8 h8)
theorem osE_same {L : List Sk} (h : L.length = (R k).2.length) : osE (upd R k ((R k).1,L)) = osE R:=by
 funext j
 by_cases e : j = k
 ·subst e;simp [upd,h]
 ·simp [upd,e]
end
structure SimQ (d r n s l i : Int) (cs : List Cd) (vs : List Sv) (b : Nat → Int) (need : List Int) (N : Nat) (rows : List SRw) (R : RwS) : Prop where
 J : SimJ d r n s l i cs vs need N rows R
 sm : ∀ k,k < vs.length → livS (R k).2 ≤ b k
 ct : ∀ k,k < vs.length → (R k).2 = [] ∨ ((R k).2.length : Int) ≤ mxK cs vs b k - 1
section
variable {d r n s l i : Int} {cs : List Cd} {vs : List Sv} {b : Nat → Int} {need : List Int} {N : Nat} {rows : List SRw} {R : RwS} {k : Nat}
theorem Q_drop (hQ : SimQ d r n s l i cs vs b need N rows R) {j : Nat} (hj : j < (R k).2.length) : SimQ d r n s l i cs vs b need N rows (upd R k ((R k).1,(R k).2.set j ((R k).2[j].1,mxI 0 ((R k).2[j].2 - 1)))):=by
 have hl:=hQ.J.liv k _ (List.getElem_mem hj)
 have hm : 0 ≤ mxI 0 ((R k).2[j].2 - 1) ∧ mxI 0 ((R k).2[j].2 - 1) ≤ (R k).2[j].2:=by unfold mxI;split<;>omega
 refine ⟨⟨hQ.J.len,hQ.J.good,hQ.J.held,fun k' hk'=>?_,fun k' x hx=>?_⟩,fun k' hk'=>?_,fun k' hk'=>?_⟩
 ·by_cases e : k' = k
  ·subst e
   rw [upd_self,List.map_set]
   have : ((R k').2.map (·.1)).set j (R k').2[j].1 = (R k').2.map (·.1):=by
    have hj2 : j < ((R k').2.map (·.1)).length:=by rw [List.length_map];exact hj
    have:=List.set_getElem_self hj2
    rwa [List.getElem_map] at this
   dsimp only
   rw [this]
   exact hQ.J.perm k' hk'
  ·rw [upd_ne e];exact hQ.J.perm k' hk'
 ·by_cases e : k' = k
  ·subst e
   rw [upd_self] at hx
   rcases List.mem_or_eq_of_mem_set hx with hx | rfl
   ·exact hQ.J.liv k' x hx
   ·dsimp only;omega
  ·rw [upd_ne e] at hx;exact hQ.J.liv k' x hx
 ·by_cases e : k' = k
  ·subst e
   rw [upd_self]
   have:=hQ.sm k' hk'
   dsimp only
   rw [livS_set hj]
   dsimp only
   omega
  ·rw [upd_ne e];exact hQ.sm k' hk'
 ·by_cases e : k' = k
  ·subst e
   rw [upd_self]
   dsimp only
   rw [List.length_set]
   rcases hQ.ct k' hk' with h | h
   ·rw [h] at hj;simp at hj
   ·exact .inr h
  ·rw [upd_ne e];exact hQ.ct k' hk'
theorem Q_add (hP : SimP d r n s l i cs vs b need N) (hQ : SimQ d r n s l i cs vs b need N rows R) (hk : k < vs.length) {v : Int} (hv : 1 ≤ v) (hd : v ≤ daK cs vs k) (hb : v ≤ b k - livS (R k).2) :
 ∃ rows1 R1 rows2 R2, ACalls Tryz.prog 25 [.opt 0 0, iV k, iV (mxK cs vs b k - 1)] (arM (arL d r n s l i cs vs rows) (osE R) R []) (bV true) (arM (arL d r n s l i cs vs rows1) (osE R1) R1 []) ∧
  ACalls Tryz.prog 27 [.opt 0 0,iV k,iV v] (arM (arL d r n s l i cs vs rows1) (osE R1) R1 []) (.tup []) (arM (arL d r n s l i cs vs rows2) (osE R2) R2 []) ∧ SimQ d r n s l i cs vs b need N rows2 R2:=by
 have hda:=hP.da k hk
 have hbb:=hP.bb k
 have hl0:=livS_nn (l:=(R k).2) (fun x hx=>(hQ.J.liv k x hx).1)
 have hM : 4 ≤ mxK cs vs b k:=lim_ge hda.1 (by omega) (by omega)
 obtain ⟨rows1,R1,c1,J1,o1,e1,l1⟩:=P_collect hP hQ.J hk (by omega) (hQ.sm k hk) (by
  rcases hQ.ct k hk with h | h
  ·rw [h];simp;omega
  ·exact h)
 obtain ⟨rows2,x,c2,J2⟩:=P_alloc hP J1 hk (v:=v) (by omega) (by omega)
 refine ⟨rows1,R1,rows2,_,c1,c2,J2,fun k' hk'=>?_,fun k' hk'=>?_⟩
 ·by_cases e : k' = k
  ·subst e
   rw [upd_self]
   dsimp only
   rw [livS_app,livS_one,e1]
   dsimp only
   omega
  ·rw [upd_ne e,o1 _ e];exact hQ.sm k' hk'
 ·by_cases e : k' = k
  ·subst e
   rw [upd_self]
   right
   dsimp only
   rw [List.length_append]
   simp
   omega
  ·rw [upd_ne e,o1 _ e];exact hQ.ct k' hk'
end
end
section
abbrev Wr:=Int × Int × Int
def wrD (w : Wr) : List Dat:=[.v (.int .i64 w.1),.v (.int .i64 w.2.1),.v (.int .i64 w.2.2)]
attribute [local irreducible] Quiet Eff OpOk AWPG ACont ABlock ACalls AGoto
theorem A_s31valid {d r n s l i : Int} {cs : List Cd} {vs : List Sv} (hL : LibIn cs vs) : ACalls Tryz.prog 22 [cfgA d r n s l i,lib cs vs] [] (bV (decide (0 < (empR d r n s l i).length) && validB cs vs)) []:=by
 refine acalls_of_body Tryz.func22 rfl (zU rfl) ?_
 have hem:=A_empty31 (d:=d) (r:=r) (n:=n) (s:=s) (l:=l) (i:=i)
 have hv:=A_rvalid30G hL
 have hme : ((empR d r n s l i).map rwD).length = (empR d r n s l i).length:=List.length_map _
 generalize empR d r n s l i = rows at *
 by_cases h : 0 < rows.length
 ·rw [decide_eq_true h, Bool.true_and]
  (repeat' (first
   |(apply yFb;exact rfl;exact rfl)
   |(apply W.qd;(first
   |(exact zW (hem))|(exact zW (hv))|(exact zM)|(exact zN)|(exact jAn)|(exact jBf)|(exact jAt)
   |(apply (yEb (u:=.d _));exact rfl;exact rfl)))|(apply W.ed;(exact jAa))|(apply yA)|(apply yB)|(refine jAb ?_)|(apply yE)|(apply yJ)
   |(refine W.gT _ _ rfl rfl (fun hb=>?_) (fun hb=>?_)<;>((try simp only [hb,zK])<;>(try simp only [zL,zI] at hb)<;>(try (exfalso;omega))))))
  all_goals first
   |(exfalso;omega)
   |exact Ends.b rfl rfl
 ·rw [decide_eq_false h, Bool.false_and]
  (repeat' (first
   |(apply W.qd;(first
   |(exact zW (hem))|(exact zM)|(exact zN)|(exact jAn)|(exact jBf)|(exact jAt)
   |(apply (yDb (u:=.d _));exact rfl;exact rfl)))|(apply W.ed;(exact jAa))|(refine W.gOff _ _ rfl rfl (by intro h;cases h) ?_)|(apply yA)|(apply yB)|(refine jAb ?_)|(apply yE)|(apply yJ)
   |(refine W.gT _ _ rfl rfl (fun hb=>?_) (fun hb=>?_)<;>((try simp only [hb,zK])<;>(try simp only [zL,zI] at hb)<;>(try (exfalso;omega))))))
  all_goals first
   |(exfalso;omega)
   |exact Ends.b rfl rfl
theorem A_suffices {d r n s l i : Int} {cs : List Cd} {vs : List Sv} {ts : List Tn} {us : List Ue} {ws : List Wr} (hL : LibIn cs vs) (htl : ts.length ≤ 9223372036854775807) (hul : us.length ≤ 9223372036854775807) (hwl : ws.length ≤ 9223372036854775807) : ACalls Tryz.prog 7 [cfgA d r n s l i,lib cs vs,tns ts,ues us,.d (.sl 3 (ws.map wrD))] [] (bV true) []:=by
 refine acalls_of_body Tryz.func7 rfl (zU rfl) ?_
 have hsa:=A_sanity31
 have hem:=A_empty31 (d:=d) (r:=r) (n:=n) (s:=s) (l:=l) (i:=i)
 have hva:=A_s31valid (d:=d) (r:=r) (n:=n) (s:=s) (l:=l) (i:=i) hL
 have hmw : (ws.map wrD).length = ws.length:=List.length_map _
 have hmv : (vs.map svD).length = vs.length:=List.length_map _
 have hvl:=hL.vl
 by_cases h40 : n ≤ 40 ∧ ws.length ≤ 150
 case neg =>
  (repeat' (first
   |(apply yFb;exact rfl;exact rfl)
   |(apply W.qd;(first
   |(exact zW (hsa))|(exact zM)|(exact zN)|(exact jAm)|(exact jAg)|(exact jBf)|(exact jAt)|(apply (yEb (u:=.d _));exact rfl;exact rfl)
   |(apply (yDb (u:=.d _));exact rfl;exact rfl)))|(apply W.ed;(exact jAa))|(refine W.gOff _ _ rfl rfl (by intro h;cases h) ?_)|(apply yA)|(apply yB)|(refine jAb ?_)|(refine jAr ?_)|(apply yE)|(refine jAx ?_)|(apply yJ)|(apply yP)|(refine jAv ?_)
   |(refine W.gF _ _ rfl rfl (fun hb=>?_) (fun hb=>?_)<;>((try simp only [hb,zK])<;>(try simp only [zL,zI] at hb)<;>(try (exfalso;omega))))))
  all_goals first
   |(exfalso;omega)
   |exact Ends.b rfl rfl
 have hI2 : In31 cs vs ts us (empR d r n s l i):=⟨hL,htl,hul,by have:=emp_len d r n s l i;omega,emp_used d r n s l i⟩
 have f1:=A_admit (d:=d) (r:=r) (n:=n) (s:=s) (l:=l) (i:=i) hI2
 by_cases h2 : (decide (0 < (empR d r n s l i).length) && validB cs vs) = true
 case neg =>
  rw [Bool.not_eq_true] at h2
  rw [h2] at hva
  (repeat' (first
   |(apply yFb;exact rfl;exact rfl)
   |(apply W.qd;(first
   |(exact zW (hsa))|(exact zW (hva))|(exact zM)|(exact zN)|(exact jAm)|(exact jAg)|(exact jAn)|(exact jBf)|(exact jBe)|(exact jAt)|(apply (yEb (u:=.d _));exact rfl;exact rfl)
   |(apply (yDb (u:=.d _));exact rfl;exact rfl)))|(apply W.ed;(exact jAa))|(refine W.gOff _ _ rfl rfl (by intro h;cases h) ?_)|(apply yA)|(apply yB)|(refine jAb ?_)|(refine jAr ?_)|(apply yE)|(refine jAx ?_)|(apply yJ)|(apply yP)|(refine jAv ?_)
   |(refine W.gF _ _ rfl rfl (fun hb=>?_) (fun hb=>?_)<;>((try simp only [hb,zK])<;>(try simp only [zL,zI] at hb)<;>(try (exfalso;omega))))))
  all_goals first
   |(exfalso;omega)
   |exact Ends.b rfl rfl
 rw [h2] at hva
 by_cases h3 : admN d r n s l i cs vs ts us (empR d r n s l i) = 0
 case neg =>
  generalize admN d r n s l i cs vs ts us (empR d r n s l i) = e at *
  (repeat' (first
   |(apply yFb;exact rfl;exact rfl)
   |(apply W.qd;(first
   |(exact zW (hsa))|(exact zW (hva))|(exact zW (hem))|(exact zW (f1))|(exact zM)|(exact zN)|(exact jAm)|(exact jAg)|(exact jAn)|(exact jBf)|(exact jBb)|(exact jBe)|(exact jAt)
   |(apply (yDb (u:=.d _));exact rfl;exact rfl)))|(apply W.ed;(exact jAa))|(apply yA)|(apply yB)|(refine jAb ?_)|(refine jAr ?_)|(apply yE)|(refine jAx ?_)|(apply yJ)|(apply yP)|(refine W.gF _ _ rfl rfl (fun hb=>?_) (fun hb=>?_)<;>((try simp only [hb,zK])<;>(try simp only [zL,zI] at hb)<;>(try (exfalso;omega))))
   |(refine W.cond _ rfl (fun hb=>?_) (fun hb=>?_)<;>((try simp only [hb,zK])<;>(try simp only [zL,zI] at hb)<;>(try (exfalso;omega))))))
  all_goals first
   |(exfalso;omega)
   |exact Ends.b rfl rfl
 rw [h3] at f1
 (repeat' (first
  |(apply yFb;exact rfl;exact rfl)
  |(apply W.qd;(first
  |(exact zW (hsa))|(exact zW (hva))|(exact zW (hem))|(exact zW (f1))|(exact zM)|(exact zN)|(exact jAm)|(exact jAg)|(exact jAn)|(exact jBf)|(exact jBb)|(exact jBe)|(exact jAt)
  |(apply (yDb (u:=.d _));exact rfl;exact rfl)))|(apply W.ed;(exact jAa))|(apply yA)|(apply yB)|(apply (W.regionS 4);exact rfl;kernel_rfl)|(apply (W.regionDS 4);exact rfl;exact rfl;kernel_rfl)|(apply yE)|(refine jAx ?_)|(apply yG)|(apply yH)|(refine jAy ?_)
  |(refine W.gF _ _ rfl rfl (fun hb=>?_) (fun hb=>?_)<;>((try simp only [hb,zK])<;>(try simp only [zL,zI] at hb)<;>(try (exfalso;omega))))))
 all_goals (try (exfalso;omega))
 refine AWP.loopW (α:=Nat) (fun k=>k ≤ vs.length ∧ ∀ j (h : j < vs.length),j < k → vs[j].2.2.1 = -1) (fun k=>⟨[(55,iV k),(54,iV vs.length),(53,svs vs),(2,tns ts),(3,ues us),(4,.d (.sl 3 (ws.map wrD))),(5,.opt 0 0),(6,.opt 1 0)],[.box [iV d,iV r,iV n,iV s,iV l,iV i],.box [cds cs,svs vs]]⟩) (fun k=>vs.length - k) 0 ⟨Nat.zero_le _,fun j _ hj=>by omega⟩ ?wkA fun k hk=>?_
 case wkA=>exact ⟨[0,1],rfl,rfl,rfl,rfl,iV_eq (by omega),rfl,rfl,rfl,rfl,rfl,rfl,trivial⟩
 obtain ⟨hk,hkx⟩:=hk
 by_cases hkl : k < vs.length
 ·by_cases hx : vs[k].2.2.1 = -1
  ·(repeat' (first
   |(apply W.qd;(first
   |(exact zM)|(exact jAm)|(exact jAg)|(exact jAj)|(exact jBb)|(exact jAi)|(exact jAk)
   |(exact jA)))|(apply W.ed;(exact jAp))|(apply W.ln;(exact jAh))|(apply yA)|(apply yB)|(refine jAb ?_)|(apply yE)|(apply yG)|(apply yH)|(apply yL)
   |(refine W.cond _ rfl (fun hb=>?_) (fun hb=>?_)<;>((try simp only [hb,zK])<;>(try simp only [zL,zI] at hb)<;>(try (exfalso;omega))))))
   all_goals first
    |(exfalso;omega)
    |exact ⟨k + 1,⟨by omega,fun j h hj=>by
    by_cases e : j = k
    ·subst e;exact hx
    ·exact hkx j h (by omega)⟩,by omega,[0,1],rfl,rfl,rfl,iV_eq (by omega),rfl,rfl,rfl,rfl,rfl,rfl,rfl,trivial⟩
  ·(repeat' (first
   |(apply W.qd;(first
   |(exact zW (hsa))|(exact zN)|(exact jAm)|(exact jAg)|(exact jAj)|(exact jBb)|(exact jAk)
   |(exact jA)))|(apply W.ed;(exact jAp))|(apply W.ln;(exact jAh))|(apply yA)|(apply yB)|(refine jAb ?_)|(apply yE)|(apply yG)|(apply yH)|(apply yJ)|(apply yP)|(apply yN)
   |(refine W.cond _ rfl (fun hb=>?_) (fun hb=>?_)<;>((try simp only [hb,zK])<;>(try simp only [zL,zI] at hb)<;>(try (exfalso;omega))))))
   all_goals first
    |(exfalso;omega)
    |exact Ends.b rfl rfl
 obtain rfl : k = vs.length:=by omega
 have hten : tenB vs.length ts us = true:=by
  have hv31:=(adm_val h3).1
  unfold val31 at hv31
  rw [Bool.and_eq_true] at hv31
  exact hv31.2
 obtain ⟨hP,hJ0⟩:=sim_start h40.1 h3 (fun k hk=>hkx k hk hk)
 clear hva f1 hkx
 (repeat' (first
  |(apply W.ed;(apply e_mkmap;exact rfl;exact rfl))
  |(apply W.qd;(first
  |(exact zW (hem))|(exact zM)|(exact zN)|(exact jAn)|(exact jAj)|(exact jAt)
  |(apply yZ;exact rfl;exact rfl;kernel_rfl)))|(apply W.ed;(exact jAa))|(apply yA)|(apply yB)|(apply (W.regionS 11);exact rfl;kernel_rfl)|(apply (W.regionDS 11);exact rfl;exact rfl;kernel_rfl)|(apply yE)|(refine jAx ?_)|(apply yG)|(apply yI)|(apply yK)|(apply yM)
  |(refine W.cond _ rfl (fun hb=>?_) (fun hb=>?_)<;>((try simp only [hb,zK])<;>(try simp only [zL,zI] at hb)<;>(try (exfalso;omega))))))
 refine AWP.mqRows 2 8 3 62 (by decide) rfl rfl ?_
 refine AWP.loopW (α:=Nat × List SRw × RwS) (fun x=>x.1 ≤ ws.length ∧ SimQ d r n s l i cs vs (blkF ts us) (needP d r n s l i cs vs ts us) n.toNat x.2.1 x.2.2) (fun x=>⟨[(73,iV x.1),(72,iV ws.length),(71,.d (.sl 3 (ws.map wrD))),(13,.opt 0 0),(2,tns ts),(3,ues us),(6,.opt 10 0)],arM (arL d r n s l i cs vs x.2.1) (osE x.2.2) x.2.2 [.box [cds cs,svs vs]]⟩) (fun x=>ws.length - x.1) (0,empR d r n s l i,fun _=>(0,[])) ⟨Nat.zero_le _,hJ0,fun k hk=>(hP.bb k).1,fun _ _=>.inl rfl⟩ ?wkB fun x hx=>?_
 case wkB=>exact ⟨[3,2,4,5,6,7,8,9,10,11,1],rfl,rfl,rfl,rfl,iV_eq (by omega),rfl,rfl,rfl,rfl,rfl,trivial⟩
 obtain ⟨k,rows,R⟩:=x
 obtain ⟨hk,hQ⟩:=hx
 dsimp only at hk hQ ⊢
 by_cases hkl : k < ws.length
 case neg =>
  obtain rfl : k = ws.length:=by omega
  (repeat' (first
   |(apply W.qd;(first
   |(exact zW (hsa))|(exact zN)
   |(exact jAj)))|(apply yA)|(apply yB)|(refine jAb ?_)|(apply yE)|(apply yI)|(apply yJ)|(apply yK)|(apply yM)
   |(refine W.cond _ rfl (fun hb=>?_) (fun hb=>?_)<;>((try simp only [hb,zK])<;>(try simp only [zL,zI] at hb)<;>(try (exfalso;omega))))))
  all_goals first
   |(exfalso;omega)
   |exact Ends.b rfl rfl
 by_cases hc : 0 ≤ ws[k].1 ∧ ws[k].1 < (vs.length : Int)
 case neg =>
  (repeat' (first
   |(apply yFb;exact rfl;exact rfl)
   |(apply W.qd;(first
   |(exact zM)|(exact jAm)|(exact jAg)|(exact jAj)|(exact q_geq rfl rfl)|(exact jAi)|(exact jAt)|(exact jAk)|(exact jA)|(apply (yEb (u:=.d _));exact rfl;exact rfl)
   |(apply (yDb (u:=.d _));exact rfl;exact rfl)))|(apply W.ed;(exact jAp))|(apply W.ln;(exact jAh))|(refine W.gOff _ _ rfl rfl (by intro h;cases h) ?_)|(apply yA)|(apply yB)|(refine jAb ?_)|(apply yE)|(apply yG)|(apply yH)|(apply yI)|(apply yK)|(apply yM)|(refine jAv ?_)|(refine W.gF _ _ rfl rfl (fun hb=>?_) (fun hb=>?_)<;>((try simp only [hb,zK])<;>(try simp only [zL,zI] at hb)<;>(try (exfalso;omega))))
   |(refine W.cond _ rfl (fun hb=>?_) (fun hb=>?_)<;>((try simp only [hb,zK])<;>(try simp only [zL,zI] at hb)<;>(try (exfalso;omega))))))
  all_goals first
   |(exfalso;omega)
   |exact ⟨(k + 1,rows,R),⟨by omega,hQ⟩,by (dsimp only;omega),[0,1,2,3,4,5,6,7,8,9,10],rfl,rfl,rfl,iV_eq (by omega),rfl,rfl,rfl,rfl,rfl,rfl,trivial⟩
 obtain ⟨kk,hkk⟩ : ∃ kk : Nat,ws[k].1 = (kk : Int):=⟨_,(Int.toNat_of_nonneg hc.1).symm⟩
 have hkv : kk < vs.length:=by omega
 have hk8 : kk < 8:=by have:=hP.C.vl;omega
 have hrb:=A_rblocks (k:=ws[k].1) hten hul
 (repeat' (first
  |(apply yFb;exact rfl;exact rfl)
  |(apply W.qd;(first
  |(exact zW (hrb))
  |((apply q_lkupA;(iterate 3 exact rfl);exact hkk;exact get_v8 (V:=osE R) hk8;exact rfl))
  |((apply (k_len hk8);exact rfl;exact rfl))|(exact zM)|(exact zN)|(exact jAm)|(exact jAg)|(exact jAj)|(exact q_geq rfl rfl)|(exact jAt)|(exact jAk)|(exact q_nil_opt rfl)|(exact jA)
  |(apply (yDb (u:=.d _));exact rfl;exact rfl)))|(apply W.ed;(exact jAp))|(apply W.ln;(exact jAh))|(apply yA)|(apply yB)|(apply (W.regionS 17);exact rfl;kernel_rfl)|(apply (W.regionDS 17);exact rfl;exact rfl;kernel_rfl)|(apply yE)|(refine jAx ?_)|(apply yG)|(apply yH)|(refine W.gF _ _ rfl rfl (fun hb=>?_) (fun hb=>?_)<;>((try simp only [hb,zK])<;>(try simp only [zL,zI] at hb)<;>(try (exfalso;omega))))
  |(refine W.cond _ rfl (fun hb=>?_) (fun hb=>?_)<;>((try simp only [hb,zK])<;>(try simp only [zL,zI] at hb)<;>(try (exfalso;omega))))))
 all_goals try (exfalso;omega)
 have hlb:=livS_bd (hQ.J.liv kk)
 have hlt:=fun j (h : j < (R kk).2.length)=>livS_take h
 have hL64:=hQ.J.liv kk
 have hcn:=hQ.J.cnt hP.C hkv
 have hNN:=hP.N
 have hbl:=blkN_bd (k:=ws[k].1) hten
 refine AWP.loopW (α:=Nat) (fun j=>j ≤ (R kk).2.length) (fun j=>⟨[(101,iV j),(100,iV (R kk).2.length),(99,.osl (kk + 2) (R kk).1 0 (R kk).2.length),(17,iV (livS ((R kk).2.take j))),(16,iV (blkN ts us ws[k].1)),(15,.opt 11 0),(73,iV k),(72,iV ws.length),(71,.d (.sl 3 (ws.map wrD))),(13,.opt 0 0),(2,tns ts),(3,ues us),(6,.opt 10 0)],arM (arL d r n s l i cs vs rows) (osE R) R [.box [cds cs,svs vs],.box [iV ws[k].1,iV ws[k].2.1,iV ws[k].2.2]]⟩) (fun j=>(R kk).2.length - j) 0 (Nat.zero_le _) ?wkC fun j hj=>?_
 case wkC=>exact ⟨[0,1,2,3,4,5,6,7,8,9,10,11],rfl,rfl,rfl,rfl,rfl,(by rcases lt8 hk8 with rfl | rfl | rfl | rfl | rfl | rfl | rfl | rfl<;>rfl),iV_eq (by simp [livS]),rfl,rfl,rfl,rfl,rfl,rfl,rfl,rfl,rfl,trivial⟩
 have hlb:=hlb j hj
 by_cases hjl : j < (R kk).2.length
 ·have e1 := hlt j hjl
  have hx:=hL64 _ (List.getElem_mem hjl)
  generalize livS ((R kk).2.take j) = lv at *
  (repeat' (first
   |(apply W.qd;(first
   |((apply (k_ix hk8);(iterate 4 exact rfl);omega))
   |((apply (k_lds hk8);exact rfl;exact rfl;omega))|(exact zM)|(exact zN)|(exact jAm)|(exact jAg)|(exact jAj)
   |(exact jAi)))|(apply W.ed;(exact jAp))|(apply W.ln;(exact jAh))|(apply yA)|(apply yB)|(refine jAb ?_)|(apply yE)|(apply yG)|(apply yH)|(apply yL)
   |(refine W.cond _ rfl (fun hb=>?_) (fun hb=>?_)<;>((try simp only [hb,zK])<;>(try simp only [zL,zI] at hb)<;>(try (exfalso;omega))))))
  all_goals first
   |(exfalso;omega)|(refine ⟨j + 1,by omega,by omega,?_⟩;(try dsimp only);rw [e1];exact ⟨[0,1,2,3,4,5,6,7,8,9,10,11],rfl,rfl,rfl,iV_eq (by omega),rfl,(by rcases lt8 hk8 with rfl | rfl | rfl | rfl | rfl | rfl | rfl | rfl<;>rfl),rfl,rfl,rfl,rfl,rfl,rfl,rfl,rfl,rfl,rfl,trivial⟩)
 obtain rfl : j = (R kk).2.length:=by omega
 rw [List.take_length]
 rw [List.take_length] at hlb
 clear hlt
 generalize hlv : livS (R kk).2 = lv at *
 by_cases had : ws[k].2.1 ≤ 0
 ·by_cases hn : 0 < (R kk).2.length
  case neg =>
   (repeat' (first
    |(apply W.qd;(first
    |((apply q_lkupA;(iterate 3 exact rfl);exact hkk;exact get_v8 (V:=osE R) hk8;exact rfl))
    |((apply (k_len hk8);exact rfl;exact rfl))|(exact zM)|(exact zN)|(exact jAm)|(exact jAg)|(exact jAj)|(exact q_leq rfl rfl)|(exact jBf)|(exact jAi)
    |(exact q_nil_opt rfl)))|(apply yA)|(apply yB)|(refine jAb ?_)|(refine jAr ?_)|(apply yE)|(refine jAx ?_)|(apply yH)|(apply yI)|(apply yK)|(apply yM)
    |(refine W.cond _ rfl (fun hb=>?_) (fun hb=>?_)<;>((try simp only [hb,zK])<;>(try simp only [zL,zI] at hb)<;>(try (exfalso;omega))))))
   all_goals first
    |(exfalso;omega)
    |exact ⟨(k + 1,rows,R),⟨by omega,hQ⟩,by (dsimp only;omega),[0,1,2,3,4,5,6,7,8,9,10],rfl,rfl,rfl,iV_eq (by omega),rfl,rfl,rfl,rfl,rfl,rfl,trivial⟩
  obtain ⟨pk,hpk⟩ : ∃ pk : Nat,mxI 0 ws[k].2.2 = (pk : Int):=⟨(mxI 0 ws[k].2.2).toNat,by unfold mxI;split<;>omega⟩
  have hmod : ((pk : Int) % ((R kk).2.length : Int)) = ((pk % (R kk).2.length : Nat) : Int):=(Int.natCast_emod _ _).symm
  have hj : pk % (R kk).2.length < (R kk).2.length:=Nat.mod_lt _ hn
  generalize pk % (R kk).2.length = j at *
  have hx:=hL64 _ (List.getElem_mem hj)
  have hQ2:=Q_drop hQ hj
  (repeat' (first
   |(apply W.qd;(first
   |((apply q_lkupA;(iterate 3 exact rfl);exact hkk;exact get_v8 (V:=osE R) hk8;exact rfl))
   |((apply (k_len hk8);exact rfl;exact rfl))
   |((apply q_mxv;exact rfl;exact rfl;exact hpk))
   |((apply (k_ix hk8);(iterate 3 exact rfl);exact hmod;omega))
   |((apply (k_nil hk8);exact rfl))
   |((apply (k_fld hk8);(iterate 3 exact rfl)))
   |((apply (k_ld hk8);(iterate 3 exact rfl);omega))
   |((apply q_mxv;(iterate 3 exact rfl)))|(exact zM)|(exact zN)|(exact jAm)|(exact jAg)|(exact jAj)|(exact q_leq rfl rfl)|(exact jBf)|(exact jAi)|(exact q_sub rfl rfl (by omega))|(apply q_rem;exact rfl;exact rfl;omega;omega)
   |(exact q_nil_opt rfl)))|(apply W.en;((apply (k_st hk8);(iterate 4 exact rfl);omega)))|(apply yA)|(apply yB)|(refine jAb ?_)|(refine jAr ?_)|(apply yE)|(refine jAx ?_)|(apply yI)|(apply yK)|(apply yM)
   |(refine W.cond _ rfl (fun hb=>?_) (fun hb=>?_)<;>((try simp only [hb,zK])<;>(try simp only [zL,zI] at hb)<;>(try (exfalso;omega))))))
  all_goals first
   |(exfalso;omega)|(refine ⟨(k + 1,rows,upd R kk ((R kk).1,(R kk).2.set j ((R kk).2[j].1,mxI 0 ((R kk).2[j].2 - 1)))),⟨by omega,hQ2⟩,by (dsimp only;omega),?_⟩;dsimp only;rw [osE_same (by rw [List.length_set])];exact ⟨[0,1,2,3,4,5,6,7,8,9,10],rfl,rfl,rfl,iV_eq (by omega),rfl,rfl,rfl,rfl,rfl,rfl,trivial⟩)
 ·obtain ⟨q, hq, hq8, hcv, hcdK, hget⟩ := hP.at hkv
  have hda:=hP.da kk hkv
  have hcd:=A_arcode (d:=d) (r:=r) (n:=n) (s:=s) (l:=l) (i:=i) (rows:=rows) (R:=R) hkv hq hcv
  have hlim:=A_rlimit (c:=cs[q]) (x:=blkN ts us ws[k].1)
  have hlb2:=limN_le (D:=cs[q].2.2.1) (n:=blkN ts us ws[k].1) (by omega) (by omega)
  have hdq : daK cs vs kk = cs[q].2.2.1:=by unfold daK;rw [hget]
  have eM : mxK cs vs (blkF ts us) kk = limN cs[q].2.2.1 (blkN ts us ws[k].1):=by unfold mxK;rw [hdq,hkk];rfl
  have eB : blkF ts us kk = blkN ts us ws[k].1:=by rw [hkk];rfl
  obtain ⟨v,hv⟩ : ∃ v,(if blkN ts us ws[k].1 - lv < (if cs[q].2.2.1 < ws[k].2.1 then cs[q].2.2.1 else ws[k].2.1) then blkN ts us ws[k].1 - lv else (if cs[q].2.2.1 < ws[k].2.1 then cs[q].2.2.1 else ws[k].2.1)) = v:=⟨_,rfl⟩
  have hvd : v ≤ cs[q].2.2.1 ∧ v ≤ blkN ts us ws[k].1 - lv:=by
   rw [← hv]
   split<;>split<;>omega
  rw [← hkk] at hcd
  by_cases hv1 : v < 1
  ·(repeat' (first
   |(apply W.qd;(first
   |((apply q_min3;(iterate 3 exact rfl);exact hv))|(exact zM)|(exact zN)|(exact jAm)|(exact jAg)|(exact jAj)|(exact q_leq rfl rfl)|(exact jAi)|(exact q_sub rfl rfl (by omega))
   |(exact q_field rfl rfl rfl rfl)))|(apply W.ed;(apply (e_callJ (js:=[0,1,2,3,4,5,6,7,8,9]) (hcd));(iterate 5 exact rfl);kernel_rfl;kernel_rfl))|(apply yA)|(apply yB)|(refine jAb ?_)|(refine jAr ?_)|(apply yE)|(refine jAx ?_)|(apply yH)|(apply yI)|(apply yK)|(apply yM)
   |(refine W.cond _ rfl (fun hb=>?_) (fun hb=>?_)<;>((try simp only [hb,zK])<;>(try simp only [zL,zI] at hb)<;>(try (exfalso;omega))))))
   all_goals first
    |(exfalso;omega)
    |exact ⟨(k + 1,rows,R),⟨by omega,hQ⟩,by (dsimp only;omega),[0,1,2,3,4,5,6,7,8,9,10],rfl,rfl,rfl,iV_eq (by omega),rfl,rfl,rfl,rfl,rfl,rfl,trivial⟩
  ·obtain ⟨rows1, R1, rows2, R2, c1, c2, hQ2⟩ := Q_add hP hQ hkv (v := v) (by omega) (by rw [hdq]; omega) (by rw [eB, hlv]; omega)
   rw [eM,← hkk] at c1
   rw [← hkk] at c2
   have hlm4 : 0 ≤ limN cs[q].2.2.1 (blkN ts us ws[k].1):=by have:=lim_ge (D:=cs[q].2.2.1) (n:=blkN ts us ws[k].1) (by omega) (by omega) (by omega);omega
   generalize limN cs[q].2.2.1 (blkN ts us ws[k].1) = lm at *
   (repeat' (first
    |(apply yFb;exact rfl;exact rfl)
    |(apply W.qd;(first
    |((apply q_min3;(iterate 3 exact rfl);exact hv))|(exact zW (hlim))|(exact zM)|(exact zN)|(exact jAm)|(exact jAg)|(exact jAj)|(exact q_leq rfl rfl)|(exact jBe)|(exact jAi)|(exact q_sub rfl rfl (by omega))|(exact q_field rfl rfl rfl rfl)|(exact q_nil_opt rfl)
    |(apply (yDb (u:=.d _));exact rfl;exact rfl)))
    |(apply W.ed;(first
    |(apply (e_callJ (js:=[0,1,2,3,4,5,6,7,8,9]) (hcd));(iterate 5 exact rfl);kernel_rfl;kernel_rfl)|(apply (e_callJ (js:=[0,1,2,3,4,5,6,7,8,9]) (c1));(iterate 5 exact rfl);kernel_rfl;kernel_rfl)
    |(apply (e_callJ (js:=[0,1,2,3,4,5,6,7,8,9]) (c2));(iterate 5 exact rfl);kernel_rfl;kernel_rfl)))|(apply yA)|(apply yB)|(refine jAb ?_)|(refine jAr ?_)|(apply yE)|(refine jAx ?_)|(apply yH)|(apply yI)|(apply yK)|(apply yL)|(apply yM)|(refine jAy ?_)
    |(refine W.cond _ rfl (fun hb=>?_) (fun hb=>?_)<;>((try simp only [hb,zK])<;>(try simp only [zL,zI] at hb)<;>(try (exfalso;omega))))))
   all_goals first
    |(exfalso;omega)
    |exact ⟨(k + 1,rows2,R2),⟨by omega,hQ2⟩,by (dsimp only;omega),[0,1,2,3,4,5,6,7,8,9,10],rfl,rfl,rfl,iV_eq (by omega),rfl,rfl,rfl,rfl,rfl,rfl,trivial⟩
end
end Go.Proofs.YtplpgijpmgbaiaaGreatDoor
