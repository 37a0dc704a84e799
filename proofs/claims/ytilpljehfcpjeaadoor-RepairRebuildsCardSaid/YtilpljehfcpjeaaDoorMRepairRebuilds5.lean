import Derived.Test.YtilpljehfcpjeaaDoorMRepairRebuilds4
/- Joined texts: La4 La5 La6 Rf1 Rf2 Fd9 Rp1 Rp2 Rp3 Rp4 Rp5 Rp6. -/
set_option linter.unusedVariables false
set_option linter.unusedSimpArgs false
section
/- The rows of a span, and what they leave of a row: plain law. -/
namespace Go.Proofs.YtilpljehfcpjeaaDoor
open Go.RowKit
set_option linter.unusedSectionVars false
theorem addV_get (M f : Nat) (T l : List Nat) : ∀ k, k ≤ T.length → ∀ i, i < T.length → (addV M f T l k).getD i 0 = if i < k then T.getD i 0 ^^^ mu M f (l.getD i 0) else T.getD i 0
  | 0, _, i, _ => by rw [if_neg (by omega)]; rfl
  | k + 1, hk, i, hi => by
    have ih := addV_get M f T l k (by omega)
    rw [addV, set_getD _ _ _ _ (by rw [addV_length]; exact hi)]
    by_cases e : i = k
    · subst e
      rw [if_pos rfl, if_pos (by omega), ih i hi, if_neg (by omega)]
    · rw [if_neg e, ih i hi]
      by_cases h : i < k
      · rw [if_pos h, if_pos (by omega)]
      · rw [if_neg h, if_neg (by omega)]
abbrev Rd := Nat × List Nat × List Nat
section
variable {M D n : Nat} {s : List Nat × List Nat} {r : Rd}
theorem subR_1 (hs : SubOk M D n s) (hr : RedRow M D n r) {x : Nat} (hx : x < D) : (subR M s r).1.getD x 0 = s.1.getD x 0 ^^^ mu M (s.1.getD r.1 0) (r.2.1.getD x 0) := by
  unfold subR
  by_cases e : s.1.getD r.1 0 = 0
  · rw [if_pos e, e, zero_mu, Nat.xor_zero]
  · rw [if_neg e]
    show (addV M _ s.1 r.2.1 r.2.1.length).getD x 0 = _
    rw [addV_get _ _ _ _ _ (by rw [hs.l1, hr.l1]; exact Nat.le_refl _) x (by rw [hs.l1]; exact hx), if_pos (by rw [hr.l1]; exact hx)]
theorem subR_2 (hs : SubOk M D n s) (hr : RedRow M D n r) {q : Nat} (hq : q < n) : (subR M s r).2.getD q 0 = s.2.getD q 0 ^^^ mu M (s.1.getD r.1 0) (r.2.2.getD q 0) := by
  unfold subR
  by_cases e : s.1.getD r.1 0 = 0
  · rw [if_pos e, e, zero_mu, Nat.xor_zero]
  · rw [if_neg e]
    show (addV M _ s.2 r.2.2 r.2.2.length).getD q 0 = _
    rw [addV_get _ _ _ _ _ (by rw [hs.l2, hr.l2]; exact Nat.le_refl _) q (by rw [hs.l2]; exact hq), if_pos (by rw [hr.l2]; exact hq)]
end
structure Rw (M D n : Nat) (W : Nat → Nat → Nat) (r : Rd) : Prop where
  ok : RedRow M D n r
  comb : ∀ x, x < D → r.2.1.getD x 0 = sg (fun q => mu M (r.2.2.getD q 0) (W q x)) n
  lead : r.2.1.getD r.1 0 = 1
def Tri (rows : List Rd) : Prop := rows.Pairwise fun a b => b.2.1.getD a.1 0 = 0
def RS (rows : List Rd) : (Nat → Nat) → Prop := fun s => ∃ r, r ∈ rows ∧ s = fun x => r.2.1.getD x 0
section
variable {M D n : Nat} {W : Nat → Nat → Nat} {rows : List Rd}
theorem RS_vc (h : ∀ r ∈ rows, Rw M D n W r) : ∀ s, RS rows s → Vc M D s := fun s ⟨r, hr, e⟩ x hx => by rw [e]; exact getD_lt (h r hr).ok.e1 _
theorem tri_zero (hM : FldM M) : ∀ {rows : List Rd}, (∀ r ∈ rows, Rw M D n W r) → Tri rows → ∀ {v : Nat → Nat}, Sp M D (RS rows) v → (∀ r ∈ rows, v r.1 = 0) → ∀ x, x < D → v x = 0
  | [], _, _, v, hv, _ => by
    cases hv with
    | zero h => exact h
    | step _ hs _ _ => obtain ⟨r, hr, _⟩ := hs; simp at hr
  | r :: rows, h, ht, v, hv, h0 => by
    have hr := h r (by simp)
    obtain ⟨t1, t2⟩ := List.pairwise_cons.1 ht
    have hv2 : Sp M D (fun s => s = (fun x => r.2.1.getD x 0) ∨ RS rows s) v := hv.mono fun s ⟨a, ha, e⟩ => by
      rcases List.mem_cons.1 ha with rfl | ha
      · exact .inl e
      · exact .inr ⟨a, ha, e⟩
    obtain ⟨c, u, hc, hu, e⟩ := hv2.split
    have hcz : c = 0 := by
      have e1 := e r.1 hr.ok.c
      rw [h0 r (by simp), hr.lead, mu_one hM hc, hu.vanish hr.ok.c (fun s ⟨a, ha, e⟩ => by rw [e]; exact t1 a ha), Nat.zero_xor] at e1
      exact e1.symm
    subst hcz
    have e2 : ∀ x, x < D → v x = u x := fun x hx => by rw [e x hx, zero_mu, Nat.xor_zero]
    intro x hx
    rw [e2 x hx]
    exact tri_zero hM (fun a ha => h a (by simp [ha])) t2 hu (fun a ha => by rw [← e2 a.1 (h a (by simp [ha])).ok.c]; exact h0 a (by simp [ha])) x hx
structure Rst (M D n : Nat) (W : Nat → Nat → Nat) (row : Nat → Nat) (s : List Nat × List Nat) : Prop where
  ok : SubOk M D n s
  sum : ∀ x, x < D → s.1.getD x 0 = row x ^^^ sg (fun q => mu M (s.2.getD q 0) (W q x)) n
theorem fold_rst (hM : FldM M) (hW : ∀ q, Vc M D (W q)) {row : Nat → Nat} : ∀ (rows : List Rd), (∀ r ∈ rows, Rw M D n W r) → ∀ s, Rst M D n W row s → Rst M D n W row (rows.foldl (subR M) s)
  | [], _, s, h => h
  | r :: rows, hr, s, h => by
    refine fold_rst hM hW rows (fun a ha => hr a (by simp [ha])) _ ⟨sub_ok hM h.ok (hr r (by simp)).ok, fun x hx => ?_⟩
    have hr1 := hr r (by simp)
    rw [subR_1 h.ok hr1.ok hx, h.sum x hx, hr1.comb x hx, Nat.xor_assoc, sg_mu, ← sg_xor]
    congr 1
    refine sg_congr n fun q hq => ?_
    rw [subR_2 h.ok hr1.ok hq, xor_mu, mu_assoc hM (getD_lt h.ok.e1 _) (getD_lt hr1.ok.e2 _) (hW q x hx)]
theorem fold_keep {c : Nat} (hc : c < D) (hM : FldM M) : ∀ (rows : List Rd), (∀ r ∈ rows, RedRow M D n r ∧ r.2.1.getD c 0 = 0) → ∀ s, SubOk M D n s → (rows.foldl (subR M) s).1.getD c 0 = s.1.getD c 0
  | [], _, s, _ => rfl
  | r :: rows, hr, s, h => by
    obtain ⟨h1, h2⟩ := hr r (by simp)
    show (rows.foldl (subR M) (subR M s r)).1.getD c 0 = _
    rw [fold_keep hc hM rows (fun a ha => hr a (by simp [ha])) _ (sub_ok hM h h1), subR_1 h h1 hc, h2, mu_zero, Nat.xor_zero]
theorem fold_zero (hM : FldM M) : ∀ (rows : List Rd), (∀ r ∈ rows, Rw M D n W r) → Tri rows → ∀ s, SubOk M D n s → ∀ r ∈ rows, (rows.foldl (subR M) s).1.getD r.1 0 = 0
  | [], _, _, _, _, r, hr => by simp at hr
  | a :: rows, h, ht, s, hs, r, hr => by
    obtain ⟨t1, t2⟩ := List.pairwise_cons.1 ht
    have ha := h a (by simp)
    show (rows.foldl (subR M) (subR M s a)).1.getD r.1 0 = 0
    rcases List.mem_cons.1 hr with rfl | hr
    · rw [fold_keep ha.ok.c hM rows (fun b hb => ⟨(h b (by simp [hb])).ok, t1 b hb⟩) _ (sub_ok hM hs ha.ok), subR_1 hs ha.ok ha.ok.c, ha.lead, mu_one hM (getD_lt hs.e1 _), Nat.xor_self]
    · exact fold_zero hM rows (fun b hb => h b (by simp [hb])) t2 _ (sub_ok hM hs ha.ok) r hr
theorem fold_span (hM : FldM M) {all : List Rd} (hall : ∀ r ∈ all, Rw M D n W r) : ∀ (rows : List Rd), (∀ r ∈ rows, r ∈ all) → ∀ s, SubOk M D n s → Sp M D (RS all) (fun x => s.1.getD x 0 ^^^ (rows.foldl (subR M) s).1.getD x 0)
  | [], _, s, _ => .zero fun x hx => by simp
  | r :: rows, hr, s, hs => by
    have h1 := hall r (hr r (by simp))
    have ih := fold_span hM hall rows (fun a ha => hr a (by simp [ha])) _ (sub_ok hM hs h1.ok)
    refine .step ih ⟨r, hr r (by simp), rfl⟩ (c := s.1.getD r.1 0) (getD_lt hs.e1 _) fun x hx => ?_
    show s.1.getD x 0 ^^^ (rows.foldl (subR M) (subR M s r)).1.getD x 0 = _
    rw [subR_1 hs h1.ok hx]
    generalize s.1.getD x 0 = a
    generalize (rows.foldl (subR M) (subR M s r)).1.getD x 0 = b
    generalize mu M (s.1.getD r.1 0) (r.2.1.getD x 0) = c
    rw [Nat.xor_assoc a c b, Nat.xor_comm c b, ← Nat.xor_assoc, xor_self_cancel]
end
theorem findNZ_lt {l : List Nat} (h : findNZ l < l.length) : l.getD (findNZ l) 0 ≠ 0 := by
  have := List.findIdx_getElem (xs := l) (p := fun x => x != 0) (w := h)
  rw [List.getD_eq_getElem?_getD, List.getElem?_eq_getElem h]
  have h3 : ¬ (l[List.findIdx (fun x => x != 0) l]'h = 0) := by simpa using this
  exact h3
theorem findNZ_ge {l : List Nat} (h : ¬ findNZ l < l.length) (x : Nat) : l.getD x 0 = 0 := by
  rw [List.getD_eq_getElem?_getD]
  by_cases hx : x < l.length
  · rw [List.getElem?_eq_getElem hx]
    have h2 : findNZ l = l.length := by
      have := List.findIdx_le_length (xs := l) (p := fun x => x != 0)
      unfold findNZ at *; omega
    have := List.findIdx_eq_length.1 h2 l[x] (List.getElem_mem hx)
    simpa using this
  · rw [List.getElem?_eq_none (by omega)]; rfl
theorem row_getD {M R D u : Nat} {gen : List Nat} (h : MxOk M R D gen) (hu : u < R) {x : Nat} (hx : x < D) : ((gen.drop (u * D)).take D).getD x 0 = U D gen u x := by
  rw [List.getD_eq_getElem?_getD, List.getElem?_take_of_lt hx, List.getElem?_drop]
  unfold U gt
  rw [List.getD_eq_getElem?_getD]
structure SpTo (M D : Nat) (gen B : List Nat) (k : Nat) (rows : List Rd) : Prop where
  rw : ∀ r ∈ rows, Rw M D B.length (fun q => U D gen (B.getD q 0)) r
  tri : Tri rows
  all : ∀ q, q < k → Sp M D (RS rows) (U D gen (B.getD q 0))
theorem span_to {M R D : Nat} {gen B : List Nat} (hM : FldM M) (hg : MxOk M R D gen) (hB : ∀ u ∈ B, u < R) : ∀ k, k ≤ B.length → SpTo M D gen B k (spanAt M D B.length gen B k)
  | 0, _ => ⟨fun r hr => by simp [spanAt] at hr, List.Pairwise.nil, fun q hq => by omega⟩
  | k + 1, hk => by
    have ih := span_to hM hg hB k (by omega)
    have hok := span_ok (n := B.length) hM hg hB k (by omega)
    rw [spanAt]
    generalize spanAt M D B.length gen B k = rows at ih hok
    have hbk : B.getD k 0 < R := hB _ (getD_mem (by omega))
    obtain ⟨p1, p2⟩ := pick_row hg hbk
    have hW : ∀ q, Vc M D (U D gen (B.getD q 0)) := fun q => U_vc hg _
    have hs0 : SubOk M D B.length ((gen.drop (B.getD k 0 * D)).take D, List.replicate B.length 0) := ⟨p1, List.length_replicate, p2, fun x hx => by rw [List.eq_of_mem_replicate hx]; exact Nat.two_pow_pos M⟩
    have hr0 : Rst M D B.length (fun q => U D gen (B.getD q 0)) (U D gen (B.getD k 0)) ((gen.drop (B.getD k 0 * D)).take D, List.replicate B.length 0) := ⟨hs0, fun x hx => by
      rw [row_getD hg hbk hx, sg_congr B.length (fun q hq => show mu M ((List.replicate B.length 0).getD q 0) _ = 0 by
        rw [List.getD_eq_getElem?_getD, List.getElem?_replicate, if_pos hq]; exact zero_mu _), sg_zero, Nat.xor_zero]⟩
    have hr := fold_rst hM hW rows ih.rw _ hr0
    have hz := fold_zero hM rows ih.rw ih.tri _ hs0
    have hsp := fold_span hM ih.rw rows (fun _ h => h) _ hs0
    unfold spanStep
    dsimp only
    change Rst M D B.length _ _ (redV M B.length ((gen.drop (B.getD k 0 * D)).take D) rows) at hr
    change ∀ r ∈ rows, (redV M B.length ((gen.drop (B.getD k 0 * D)).take D) rows).1.getD r.1 0 = 0 at hz
    change Sp M D (RS rows) (fun x => ((gen.drop (B.getD k 0 * D)).take D).getD x 0 ^^^ (redV M B.length ((gen.drop (B.getD k 0 * D)).take D) rows).1.getD x 0) at hsp
    generalize redV M B.length ((gen.drop (B.getD k 0 * D)).take D) rows = s at *
    have hsp2 : Sp M D (RS rows) (fun x => U D gen (B.getD k 0) x ^^^ s.1.getD x 0) := hsp.congr fun x hx => by rw [row_getD hg hbk hx]
    have h1 := hr.ok
    have hc : ∀ x, x < D → s.1.getD x 0 = sg (fun q => mu M ((s.2.set k (s.2.getD k 0 ^^^ 1)).getD q 0) (U D gen (B.getD q 0) x)) B.length := fun x hx => by
      rw [hr.sum x hx, Nat.xor_comm]
      have e1 : U D gen (B.getD k 0) x = sg (fun q => if q = k then U D gen (B.getD k 0) x else 0) B.length := by
        rw [sg_one (k := k) B.length (fun q _ hne => if_neg hne), if_pos (by omega), if_pos rfl]
      rw [e1, ← sg_xor]
      refine sg_congr _ fun q hq => ?_
      rw [set_getD _ _ _ _ (by rw [h1.l2]; exact hq)]
      by_cases e : q = k
      · subst e
        rw [if_pos rfl, if_pos rfl, xor_mu, one_mu hM (hW q x hx)]
      · rw [if_neg e, if_neg e, Nat.xor_zero]
    have hcl : ∀ x ∈ s.2.set k (s.2.getD k 0 ^^^ 1), x < 2 ^ M := fun x hx => by
      rcases List.mem_or_eq_of_mem_set hx with hx | rfl
      · exact h1.e2 x hx
      · exact xor_lt' (getD_lt h1.e2 _) (one_lt hM)
    have hcn : (s.2.set k (s.2.getD k 0 ^^^ 1)).length = B.length := by rw [List.length_set]; exact h1.l2
    generalize s.2.set k (s.2.getD k 0 ^^^ 1) = c at *
    by_cases hf : findNZ s.1 < D
    · rw [if_pos hf]
      have hne := findNZ_lt (l := s.1) (by rw [h1.l1]; exact hf)
      generalize findNZ s.1 = col at *
      have hxl := getD_lt h1.e1 col
      obtain ⟨v1, v2⟩ := inv_mu hM hne hxl
      have hvl : invN M (s.1.getD col 0) < 2 ^ M := invN_lt _
      generalize invN M (s.1.getD col 0) = f at *
      have hrep : ∀ m i, (List.replicate m 0).getD i 0 = 0 := fun m i => by
        rw [List.getD_eq_getElem?_getD, List.getElem?_replicate]; split <;> rfl
      have hnr : ∀ x, x < D → (addV M f (List.replicate D 0) s.1 D).getD x 0 = mu M f (s.1.getD x 0) := fun x hx => by
        rw [addV_get _ _ _ _ _ (by simp) x (by simpa using hx), if_pos hx, hrep, Nat.zero_xor]
      have hnc : ∀ q, q < B.length → (addV M f (List.replicate B.length 0) c B.length).getD q 0 = mu M f (c.getD q 0) := fun q hq => by
        rw [addV_get _ _ _ _ _ (by simp) q (by simpa using hq), if_pos hq, hrep, Nat.zero_xor]
      have hz0 : ∀ m, ∀ x ∈ List.replicate m 0, x < 2 ^ M := fun m x hx => by rw [List.eq_of_mem_replicate hx]; exact Nat.two_pow_pos M
      have hok1 : RedRow M D B.length (col, addV M f (List.replicate D 0) s.1 D, addV M f (List.replicate B.length 0) c B.length) :=
        ⟨hf, by rw [addV_length, List.length_replicate], by rw [addV_length, List.length_replicate], addV_lt hM hvl (hz0 _) _, addV_lt hM hvl (hz0 _) _⟩
      have hrw1 : Rw M D B.length (fun q => U D gen (B.getD q 0)) (col, addV M f (List.replicate D 0) s.1 D, addV M f (List.replicate B.length 0) c B.length) := by
        refine ⟨hok1, fun x hx => ?_, ?_⟩
        · show (addV M f (List.replicate D 0) s.1 D).getD x 0 = _
          rw [hnr x hx, hc x hx, sg_mu]
          refine sg_congr _ fun q hq => ?_
          show _ = mu M ((addV M f (List.replicate B.length 0) c B.length).getD q 0) _
          rw [hnc q hq, mu_assoc hM hvl (getD_lt hcl _) (hW q x hx)]
        · show (addV M f (List.replicate D 0) s.1 D).getD col 0 = 1
          rw [hnr col hf]; exact v1
      have hmono : ∀ t, RS rows t → RS (rows ++ [(col, addV M f (List.replicate D 0) s.1 D, addV M f (List.replicate B.length 0) c B.length)]) t := fun t ⟨r, hr, e⟩ => ⟨r, by simp [hr], e⟩
      have hrwA : ∀ r ∈ rows ++ [(col, addV M f (List.replicate D 0) s.1 D, addV M f (List.replicate B.length 0) c B.length)], Rw M D B.length (fun q => U D gen (B.getD q 0)) r := fun r hr => by
        rcases List.mem_append.1 hr with hr | hr
        · exact ih.rw r hr
        · rw [List.mem_singleton.1 hr]; exact hrw1
      refine ⟨hrwA, ?_, fun q hq => ?_⟩
      · refine List.pairwise_append.2 ⟨ih.tri, List.pairwise_singleton _ _, fun a ha b hb => ?_⟩
        rw [List.mem_singleton.1 hb]
        show (addV M f (List.replicate D 0) s.1 D).getD a.1 0 = 0
        rw [hnr _ (ih.rw a ha).ok.c, hz a ha, mu_zero]
      · by_cases hqk : q < k
        · exact (ih.all q hqk).mono hmono
        · have : q = k := by omega
          subst this
          refine .step (hsp2.mono hmono) ⟨_, List.mem_append_right _ (List.mem_singleton.2 rfl), rfl⟩ (c := s.1.getD col 0) hxl fun x hx => ?_
          show U D gen (B.getD q 0) x = (U D gen (B.getD q 0) x ^^^ s.1.getD x 0) ^^^ mu M (s.1.getD col 0) ((addV M f (List.replicate D 0) s.1 D).getD x 0)
          rw [hnr x hx, ← mu_assoc hM hxl hvl (getD_lt h1.e1 _), v2, one_mu hM (getD_lt h1.e1 _), xor_self_cancel]
    · rw [if_neg hf]
      refine ⟨ih.rw, ih.tri, fun q hq => ?_⟩
      by_cases hqk : q < k
      · exact ih.all q hqk
      · have : q = k := by omega
        subst this
        exact hsp2.congr fun x hx => by rw [findNZ_ge (l := s.1) (by rw [h1.l1]; exact hf), Nat.xor_zero]
end Go.Proofs.YtilpljehfcpjeaaDoor
end
section
/- What can be recovered: plain law. -/
namespace Go.Proofs.YtilpljehfcpjeaaDoor
open Go.RowKit
set_option linter.unusedSectionVars false
def PS (D : Nat) (gen : List Nat) (hv : List Bool) : (Nat → Nat) → Prop := fun s => ∃ u, hv.getD u false = true ∧ s = U D gen u
theorem U_all {M D : Nat} {ps : List (List Nat)} (h : CodeOk M D ps) (u : Nat) : Vc M D (U D (genN D ps) u) := U_vc (gen_ok h) u
section
variable {M D : Nat} {ps : List (List Nat)} {hv : List Bool} (h : CodeOk M D ps) (hl : hv.length = D + ps.length)
include h hl
theorem hv_lt {u : Nat} (hu : hv.getD u false = true) : u < D + ps.length := by
  by_cases e : u < hv.length
  · omega
  · rw [List.getD_eq_getElem?_getD, List.getElem?_eq_none (by omega)] at hu; cases hu
theorem sp_BP {v : Nat → Nat} : Sp M D (BS D (genN D ps) (basisN M D ps hv)) v ↔ Sp M D (PS D (genN D ps) hv) v := by
  obtain ⟨T, S, hb⟩ := basis_to h hl
  constructor
  · exact Sp.mono fun s ⟨q, hq, e⟩ => ⟨_, hb.mem q hq, e⟩
  · exact Sp.trans h.f (fun s ⟨q, _, e⟩ => by rw [e]; exact U_all h _) fun s ⟨u, hu, e⟩ => by rw [e]; exact hb.present h.f (U_all h) hu
theorem red_left {u : Nat} (hu : u < D + ps.length) :
    Rst M D (basisN M D ps hv).length (fun q => U D (genN D ps) ((basisN M D ps hv).getD q 0)) (U D (genN D ps) u) (redV M (basisN M D ps hv).length (((genN D ps).drop (u * D)).take D) (spanN M D ps hv)) ∧
    ((redV M (basisN M D ps hv).length (((genN D ps).drop (u * D)).take D) (spanN M D ps hv)).1.all (fun x => decide (x = 0)) = true ↔ Sp M D (PS D (genN D ps) hv) (U D (genN D ps) u)) := by
  have hg := gen_ok h
  have hM := h.f
  have hsp := span_to hM hg (basis_lt hl) (basisN M D ps hv).length (Nat.le_refl _)
  have hW : ∀ q, Vc M D (U D (genN D ps) ((basisN M D ps hv).getD q 0)) := fun q => U_all h _
  obtain ⟨p1, p2⟩ := pick_row hg hu
  have hs0 : SubOk M D (basisN M D ps hv).length (((genN D ps).drop (u * D)).take D, List.replicate (basisN M D ps hv).length 0) := ⟨p1, List.length_replicate, p2, fun x hx => by rw [List.eq_of_mem_replicate hx]; exact Nat.two_pow_pos M⟩
  have hr0 : Rst M D (basisN M D ps hv).length (fun q => U D (genN D ps) ((basisN M D ps hv).getD q 0)) (U D (genN D ps) u) (((genN D ps).drop (u * D)).take D, List.replicate (basisN M D ps hv).length 0) := ⟨hs0, fun x hx => by
    rw [row_getD hg hu hx, sg_congr (basisN M D ps hv).length (fun q hq => show mu M ((List.replicate (basisN M D ps hv).length 0).getD q 0) _ = 0 by
      rw [List.getD_eq_getElem?_getD, List.getElem?_replicate, if_pos hq]; exact zero_mu _), sg_zero, Nat.xor_zero]⟩
  have hr := fold_rst hM hW (spanN M D ps hv) hsp.rw _ hr0
  have hz := fold_zero hM (spanN M D ps hv) hsp.rw hsp.tri _ hs0
  have hfs := fold_span hM hsp.rw (spanN M D ps hv) (fun _ h => h) _ hs0
  refine ⟨hr, ?_⟩
  rw [← sp_BP h hl]
  have hbs : ∀ s, BS D (genN D ps) (basisN M D ps hv) s → Vc M D s := fun s ⟨q, _, e⟩ => by rw [e]; exact U_all h _
  constructor
  · intro h0
    rw [List.all_eq_true] at h0
    have hsum := Sp.sum (M := M) (D := D) hM hbs (c := fun q => (redV M (basisN M D ps hv).length (((genN D ps).drop (u * D)).take D) (spanN M D ps hv)).2.getD q 0) (w := fun q => U D (genN D ps) ((basisN M D ps hv).getD q 0)) (basisN M D ps hv).length (fun q hq => ⟨getD_lt hr.ok.e2 _, Sp.of hM hbs ⟨q, hq, rfl⟩⟩)
    refine hsum.congr fun x hx => ?_
    have h1 := hr.sum x hx
    have h2 : (List.foldl (subR M) (((genN D ps).drop (u * D)).take D, List.replicate (basisN M D ps hv).length 0) (spanN M D ps hv)).1.getD x 0 = 0 := by
      have hx2 : x < (redV M (basisN M D ps hv).length (((genN D ps).drop (u * D)).take D) (spanN M D ps hv)).1.length := by
        have := hr.ok.l1; unfold redV; omega
      have := h0 _ (List.getElem_mem hx2)
      rw [List.getD_eq_getElem?_getD]
      have e : (redV M (basisN M D ps hv).length (((genN D ps).drop (u * D)).take D) (spanN M D ps hv)).1[x]? = some ((redV M (basisN M D ps hv).length (((genN D ps).drop (u * D)).take D) (spanN M D ps hv)).1[x]) := List.getElem?_eq_getElem hx2
      unfold redV at e this
      rw [e]
      simpa using this
    rw [h2] at h1
    exact eq_of_xor h1.symm
  · intro hs
    have hv2 : Sp M D (RS (spanN M D ps hv)) (U D (genN D ps) u) := Sp.trans hM (RS_vc hsp.rw) (fun s ⟨q, hq, e⟩ => by rw [e]; exact hsp.all q hq) hs
    have hrest : Sp M D (RS (spanN M D ps hv)) (fun x => (redV M (basisN M D ps hv).length (((genN D ps).drop (u * D)).take D) (spanN M D ps hv)).1.getD x 0) := (hv2.add hfs).congr fun x hx => by
      show _ = U D (genN D ps) u x ^^^ ((((genN D ps).drop (u * D)).take D).getD x 0 ^^^ _)
      rw [row_getD hg hu hx, ← Nat.xor_assoc, Nat.xor_self, Nat.zero_xor]
      rfl
    have h0 := tri_zero hM hsp.rw hsp.tri hrest hz
    rw [List.all_eq_true]
    intro y hy
    obtain ⟨x, hx, rfl⟩ := List.getElem_of_mem hy
    have hxD : x < D := by have := hr.ok.l1; unfold redV at hx; omega
    have := h0 x hxD
    rw [List.getD_eq_getElem?_getD, List.getElem?_eq_getElem hx] at this
    simpa using this
theorem comb_iff {u : Nat} (hu : u < D + ps.length) : (combN M D ps hv u).isSome = true ↔ Sp M D (PS D (genN D ps) hv) (U D (genN D ps) u) := by
  rw [← (red_left h hl hu).2]
  unfold combN termsN
  dsimp only
  split
  · rename_i e; simp [e]
  · rename_i e; simp [e]
theorem comb_some {u : Nat} (hu : u < D + ps.length) {l : List (Nat × Nat)} (hc : combN M D ps hv u = some l) : ∃ K : List Nat, K.length = (basisN M D ps hv).length ∧ (∀ x ∈ K, x < 2 ^ M) ∧ l = tmsAt (basisN M D ps hv) K (basisN M D ps hv).length ∧
    ∀ x, x < D → U D (genN D ps) u x = sg (fun q => mu M (K.getD q 0) (U D (genN D ps) ((basisN M D ps hv).getD q 0) x)) (basisN M D ps hv).length := by
  obtain ⟨hr, _⟩ := red_left h hl hu
  unfold combN termsN at hc
  dsimp only at hc
  generalize redV M (basisN M D ps hv).length (((genN D ps).drop (u * D)).take D) (spanN M D ps hv) = s at *
  split at hc
  · rename_i e
    refine ⟨s.2, hr.ok.l2, hr.ok.e2, (Option.some.inj hc).symm, fun x hx => ?_⟩
    have h1 := hr.sum x hx
    have hx2 : x < s.1.length := by have := hr.ok.l1; omega
    have h2 : s.1.getD x 0 = 0 := by
      rw [List.getD_eq_getElem?_getD, List.getElem?_eq_getElem hx2]
      rw [List.all_eq_true] at e
      simpa using e _ (List.getElem_mem hx2)
    rw [h2] at h1
    exact eq_of_xor h1.symm
  · cases hc
end
def eu' (q : Nat) : Nat → Nat := fun x => if x = q then 1 else 0
theorem Iso.sp {M D : Nat} {T S : (Nat → Nat) → Nat → Nat} (h : Iso M D T S) {A A' : (Nat → Nat) → Prop} (hA : ∀ s, A s → Vc M D s ∧ A' (T s)) {v : Nat → Nat} (hv : Sp M D A v) : Sp M D A' (T v) := by
  induction hv with
  | zero h0 => exact .zero fun x hx => h.zero h0 x hx
  | step h1 hs hc h2 ih =>
    rename_i u s v c
    obtain ⟨a1, a2⟩ := hA _ hs
    refine .step ih a2 hc fun x hx => ?_
    rw [h.congr _ _ h2 x hx, h.add u (fun k => mu M c (s k)) x hx, h.smul c s hc a1 x hx]
end Go.Proofs.YtilpljehfcpjeaaDoor
end
section
/- Texts as lists of a field's elements; what a sound sum of units is: plain law. -/
namespace Go.Proofs.YtilpljehfcpjeaaDoor
open Go.RowKit
set_option linter.unusedSectionVars false
theorem gt_id {D : Nat} : ∀ n, n ≤ D → ∀ r c, r < D → c < D → gt D (idAt D n) r c = if r < n ∧ r = c then 1 else 0
  | 0, _, r, c, _, _ => by
    rw [if_neg (by omega)]
    unfold gt idAt
    rw [List.getD_eq_getElem?_getD, List.getElem?_replicate]
    split <;> rfl
  | n + 1, hn, r, c, hr, hc => by
    rw [idAt, gt_set (R := D) (by rw [idAt_length]) (by omega) (by omega) hc, gt_id n (by omega) r c hr hc]
    by_cases h : r = n ∧ c = n
    · rw [if_pos h, if_pos (by omega)]
    · rw [if_neg h]
      by_cases h2 : r < n ∧ r = c
      · rw [if_pos h2, if_pos (by omega)]
      · rw [if_neg h2, if_neg (by omega)]
theorem U_data {D : Nat} {ps : List (List Nat)} {u x : Nat} (hu : u < D) (hx : x < D) : U D (genN D ps) u x = eu' u x := by
  have h := gt_id D (Nat.le_refl _) u x hu hx
  unfold U gt genN
  unfold gt at h
  rw [List.getD_eq_getElem?_getD] at h ⊢
  rw [List.getElem?_append_left (by rw [idAt_length]; exact idx_lt hu hx), h]
  unfold eu'
  by_cases e : u = x
  · subst e; rw [if_pos ⟨hu, rfl⟩, if_pos rfl]
  · rw [if_neg (by omega), if_neg (fun e2 => e e2.symm)]
theorem flat_get {D x : Nat} (hx : x < D) : ∀ {ps : List (List Nat)} (_ : ∀ r ∈ ps, r.length = D) (i : Nat), i < ps.length → ps.flatten.getD (i * D + x) 0 = (ps.getD i []).getD x 0
  | [], _, i, h => by simp at h
  | r :: ps, hr, i, h => by
    have h0 := hr r (by simp)
    rw [List.flatten_cons, List.getD_eq_getElem?_getD]
    cases i with
    | zero => rw [List.getElem?_append_left (by omega), Nat.zero_mul, Nat.zero_add, ← List.getD_eq_getElem?_getD]; rfl
    | succ i =>
      have e : (i + 1) * D + x - r.length = i * D + x := by rw [Nat.add_mul]; omega
      rw [List.getElem?_append_right (by rw [Nat.add_mul]; omega), e, ← List.getD_eq_getElem?_getD, flat_get hx (fun s hs => hr s (by simp [hs])) i (by simpa using h)]
      rfl
theorem U_par {M D : Nat} {ps : List (List Nat)} (h : CodeOk M D ps) {i x : Nat} (hi : i < ps.length) (hx : x < D) : U D (genN D ps) (D + i) x = (ps.getD i []).getD x 0 := by
  rw [← flat_get hx (fun r hr => (h.row r hr).1) i hi]
  unfold U gt genN
  have e : (D + i) * D + x - (idAt D D).length = i * D + x := by rw [idAt_length, Nat.add_mul]; omega
  rw [List.getD_eq_getElem?_getD, List.getElem?_append_right (by rw [idAt_length, Nat.add_mul]; omega), e, ← List.getD_eq_getElem?_getD]
theorem U_ne {M D : Nat} {ps : List (List Nat)} (h : CodeOk M D ps) {u : Nat} (hu : u < D + ps.length) : ∃ x, x < D ∧ U D (genN D ps) u x ≠ 0 := by
  by_cases hd : u < D
  · exact ⟨u, hd, by rw [U_data hd hd]; simp [eu']⟩
  · obtain ⟨i, rfl⟩ : ∃ i, u = D + i := ⟨u - D, by omega⟩
    have hi : i < ps.length := by omega
    obtain ⟨h1, h2, y, h3, h4⟩ := h.row _ (List.getElem_mem hi)
    obtain ⟨x, hx, rfl⟩ := List.getElem_of_mem h3
    refine ⟨x, by omega, ?_⟩
    rw [U_par h hi (by omega), List.getD_eq_getElem?_getD (l := ps), List.getElem?_eq_getElem hi, Option.getD_some, List.getD_eq_getElem?_getD, List.getElem?_eq_getElem hx]
    exact h4
def wd (M : Nat) (l : List Nat) (j : Nat) : Nat := if M = 8 then l.getD j 0 else 256 * l.getD (2 * j) 0 + l.getD (2 * j + 1) 0
theorem isB_getW {l : List Nat} (h : isB l) (j : Nat) : l.getD j 0 < 256 := by
  rw [List.getD_eq_getElem?_getD]
  by_cases hj : j < l.length
  · rw [List.getElem?_eq_getElem hj]; exact h _ (List.getElem_mem hj)
  · rw [List.getElem?_eq_none (by omega)]; show 0 < 256; omega
theorem wd_lt {M : Nat} (hM : FldM M) {l : List Nat} (h : isB l) (j : Nat) : wd M l j < 2 ^ M := by
  unfold wd
  rcases hM with rfl | rfl
  · rw [if_pos rfl]; exact isB_getW h j
  · rw [if_neg (by decide)]
    have := isB_getW h (2 * j)
    have := isB_getW h (2 * j + 1)
    show _ < 65536
    omega
theorem xorL_getW (a b : List Nat) (hl : a.length = b.length) (j : Nat) : (xorL a b).getD j 0 = a.getD j 0 ^^^ b.getD j 0 := by
  rw [List.getD_eq_getElem?_getD, List.getD_eq_getElem?_getD, List.getD_eq_getElem?_getD, xorL_get?]
  by_cases hj : j < a.length
  · rw [List.getElem?_eq_getElem hj, List.getElem?_eq_getElem (show j < b.length by omega)]; rfl
  · rw [List.getElem?_eq_none (show a.length ≤ j by omega), List.getElem?_eq_none (show b.length ≤ j by omega)]; rfl
theorem wd_xor (M : Nat) {a b : List Nat} (ha : isB a) (hb : isB b) (hl : a.length = b.length) (j : Nat) : wd M (xorL a b) j = wd M a j ^^^ wd M b j := by
  unfold wd
  split
  · exact xorL_getW a b hl j
  · rw [xorL_getW a b hl, xorL_getW a b hl, join_xor (isB_getW ha _) (isB_getW hb _)]
theorem scale16_getD (c : Nat) : ∀ (l : List Nat), l.length % 2 = 0 → ∀ j, 256 * (scale16 c l).getD (2 * j) 0 + (scale16 c l).getD (2 * j + 1) 0 = mu 16 c (256 * l.getD (2 * j) 0 + l.getD (2 * j + 1) 0)
  | [], _, j => by simp [scale16, mu_zero]
  | [_], h, _ => by simp at h
  | a :: b :: l, h, j => by
    simp only [scale16]
    cases j with
    | zero =>
      show 256 * (Gf.mul 16 (modN 16) c (256 * a + b) / 256) + Gf.mul 16 (modN 16) c (256 * a + b) % 256 = Gf.mul 16 (modN 16) c (256 * a + b)
      omega
    | succ j =>
      have ih := scale16_getD c l (by rw [List.length_cons, List.length_cons] at h; omega) j
      have e1 : 2 * (j + 1) = 2 * j + 1 + 1 := by omega
      rw [e1]
      simpa using ih
theorem wd_scale {M c : Nat} (hM : FldM M) {l : List Nat} (he : FitM M l.length) (j : Nat) : wd M (scaleM M c l) j = mu M c (wd M l j) := by
  unfold wd scaleM
  rcases hM with rfl | rfl
  · rw [if_pos rfl, if_pos rfl, if_pos rfl]
    unfold scale8
    rw [List.getD_eq_getElem?_getD, List.getD_eq_getElem?_getD, List.getElem?_map]
    cases l[j]? with
    | none => exact (mu_zero c).symm
    | some x => rfl
  · rw [if_neg (by decide), if_neg (by decide), if_neg (by decide)]
    exact scale16_getD c l (he rfl) j
theorem wd_zero (M n j : Nat) : wd M (List.replicate n 0) j = 0 := by
  have h : ∀ i, (List.replicate n 0).getD i 0 = 0 := fun i => by
    rw [List.getD_eq_getElem?_getD, List.getElem?_replicate]; split <;> rfl
  unfold wd
  rw [h, h, h]
  split <;> rfl
theorem wd_ext {M : Nat} (hM : FldM M) {a b : List Nat} (ha : isB a) (hb : isB b) (hl : a.length = b.length) (he : FitM M a.length) (h : ∀ j, wd M a j = wd M b j) : a = b := by
  apply List.ext_getElem hl
  intro k h1 h2
  have key : a.getD k 0 = b.getD k 0 := by
    rcases hM with rfl | rfl
    · exact h k
    · have h3 := h (k / 2)
      unfold wd at h3
      rw [if_neg (by decide), if_neg (by decide)] at h3
      have a1 := isB_getW ha (2 * (k / 2))
      have a2 := isB_getW ha (2 * (k / 2) + 1)
      have b1 := isB_getW hb (2 * (k / 2))
      have b2 := isB_getW hb (2 * (k / 2) + 1)
      by_cases e : k % 2 = 0
      · have : k = 2 * (k / 2) := by omega
        rw [this]; omega
      · have : k = 2 * (k / 2) + 1 := by omega
        rw [this]; omega
  rw [List.getD_eq_getElem?_getD, List.getD_eq_getElem?_getD, List.getElem?_eq_getElem h1, List.getElem?_eq_getElem h2] at key
  exact key
def lx {α : Type} (f : α → Nat) : List α → Nat
  | [] => 0
  | a :: l => f a ^^^ lx f l
theorem lx_append {α : Type} (f : α → Nat) : ∀ l l' : List α, lx f (l ++ l') = lx f l ^^^ lx f l'
  | [], l' => by simp [lx]
  | a :: l, l' => by rw [List.cons_append, lx, lx, lx_append f l l', Nat.xor_assoc]
theorem lx_congr {α : Type} {f g : α → Nat} : ∀ {l : List α}, (∀ a ∈ l, f a = g a) → lx f l = lx g l
  | [], _ => rfl
  | a :: l, h => by rw [lx, lx, h a (by simp), lx_congr fun b hb => h b (by simp [hb])]
theorem wd_comb {M n : Nat} (hM : FldM M) (he : FitM M n) {α : Type} (c : α → Nat) (f : α → List Nat) (j : Nat) : ∀ (l : List α) (acc : List Nat), (∀ a ∈ l, c a < 2 ^ M ∧ isB (f a) ∧ (f a).length = n) → isB acc → acc.length = n →
    wd M (combM M n (l.map c) (l.map f) acc) j = wd M acc j ^^^ lx (fun a => mu M (c a) (wd M (f a) j)) l
  | [], acc, _, _, _ => by simp [combM, lx]
  | a :: l, acc, h, h1, h2 => by
    obtain ⟨g1, g2, g3⟩ := h a (by simp)
    have hs : (scaleM M (c a) (f a)).length = n := by rw [scaleM_length hM (by rw [g3]; exact he)]; exact g3
    have hb := isB_scaleM (l := f a) hM g1
    rw [List.map_cons, List.map_cons, combM, wd_comb hM he c f j l _ (fun b hb => h b (by simp [hb])) (isB_xor h1 hb) (by rw [xorL_length _ _ (by omega)]; exact h2), wd_xor M h1 hb (by omega), wd_scale hM (by rw [g3]; exact he), lx, Nat.xor_assoc]
theorem comb_idx {M n : Nat} (cs : List Nat) (us : List (List Nat)) (acc : List Nat) (h : cs.length = us.length) : combM M n cs us acc = combM M n ((List.range cs.length).map fun q => cs.getD q 0) ((List.range cs.length).map fun q => us.getD q []) acc := by
  have e1 : (List.range cs.length).map (fun q => cs.getD q 0) = cs := by
    apply List.ext_getElem (by simp)
    intro i h1 h2
    simp [List.getD_eq_getElem?_getD, h2]
  have e2 : (List.range cs.length).map (fun q => us.getD q []) = us := by
    apply List.ext_getElem (by simp [h])
    intro i h1 h2
    simp [List.getD_eq_getElem?_getD, h2]
  rw [e1, e2]
theorem lx_range (f : Nat → Nat) : ∀ n, lx f (List.range n) = sg f n
  | 0 => rfl
  | n + 1 => by rw [List.range_succ, lx_append, lx_range f n]; simp [lx, sg]
theorem mem_isB {us : List (List Nat)} {n : Nat} (hu : ∀ u ∈ us, isB u ∧ u.length = n) {q : Nat} (hq : q < us.length) : isB (us.getD q []) ∧ (us.getD q []).length = n := by
  rw [List.getD_eq_getElem?_getD, List.getElem?_eq_getElem hq]
  exact hu _ (List.getElem_mem hq)
section
variable {M D n : Nat} {ps us : List (List Nat)} (h : CodeOk M D ps) (hl : us.length = D) (hu : ∀ u ∈ us, isB u ∧ u.length = n) (he : FitM M n)
include h hl hu he
theorem wd_enc {u : Nat} (hlt : u < D + ps.length) (j : Nat) : wd M ((encN M ps us).getD u []) j = sg (fun x => mu M (U D (genN D ps) u x) (wd M (us.getD x []) j)) D := by
  have hM := h.f
  by_cases hd : u < D
  · rw [sg_congr D (fun x hx => show _ = if x = u then wd M (us.getD u []) j else 0 by
      rw [U_data hd hx]
      unfold eu'
      by_cases e : x = u
      · subst e
        rw [if_pos rfl, if_pos rfl, one_mu hM (wd_lt hM (mem_isB hu (by omega)).1 j)]
      · rw [if_neg e, if_neg e, zero_mu]), sg_one (k := u) D (fun x _ hne => if_neg hne), if_pos hd, if_pos rfl]
    congr 1
    unfold encN
    rw [List.getD_eq_getElem?_getD, List.getElem?_append_left (by omega), ← List.getD_eq_getElem?_getD]
  · obtain ⟨i, rfl⟩ : ∃ i, u = D + i := ⟨u - D, by omega⟩
    have hi : i < ps.length := by omega
    have h1 := h.d
    have hn : (us.headD []).length = n := headD_len (fun u hx => (hu u hx).2) (by omega)
    have e0 : (encN M ps us).getD (D + i) [] = combM M n ps[i] us (List.replicate n 0) := by
      unfold encN
      rw [List.getD_eq_getElem?_getD, List.getElem?_append_right (by omega), show D + i - us.length = i by omega, List.getElem?_map, List.getElem?_eq_getElem hi, hn]
      rfl
    obtain ⟨r1, r2, _⟩ := h.row _ (List.getElem_mem hi)
    rw [e0, comb_idx _ _ _ (by omega), wd_comb hM he _ _ j (List.range ps[i].length) _ (fun q hq => ⟨getD_lt r2 _, mem_isB hu (by have := List.mem_range.1 hq; omega)⟩) (isB_zero n) (by simp), wd_zero, Nat.zero_xor, r1, lx_range]
    refine sg_congr D fun x hx => ?_
    rw [U_par h hi hx, List.getD_eq_getElem?_getD (l := ps), List.getElem?_eq_getElem hi]
    rfl
end
def Sound (M D : Nat) (ps : List (List Nat)) (u : Nat) (l : List (Nat × Nat)) : Prop := ∀ x, x < D → lx (fun t => mu M t.2 (U D (genN D ps) t.1 x)) l = U D (genN D ps) u x
theorem lx_sg {M D : Nat} {G : Nat → Nat → Nat} {w : Nat → Nat} (hM : FldM M) (hG : ∀ u, Vc M D (G u)) (hw : ∀ x, x < D → w x < 2 ^ M) : ∀ l : List (Nat × Nat), (∀ t ∈ l, t.2 < 2 ^ M) → lx (fun t => mu M t.2 (sg (fun x => mu M (G t.1 x) (w x)) D)) l = sg (fun x => mu M (lx (fun t => mu M t.2 (G t.1 x)) l) (w x)) D
  | [], _ => by
    rw [sg_congr D (fun x _ => show mu M (lx _ []) (w x) = 0 from zero_mu _), sg_zero]; rfl
  | t :: l, h => by
    rw [lx, lx_sg hM hG hw l (fun s hs => h s (by simp [hs])), sg_mu, ← sg_xor]
    refine sg_congr D fun x hx => ?_
    rw [lx, xor_mu, mu_assoc hM (h t (by simp)) (hG _ x hx) (hw x hx)]
section
variable {M D n : Nat} {ps us : List (List Nat)} (h : CodeOk M D ps) (hl : us.length = D) (hu : ∀ u ∈ us, isB u ∧ u.length = n) (he : FitM M n)
include h hl hu he
theorem sum_sound {u : Nat} (hlt : u < D + ps.length) {l : List (Nat × Nat)} (hs : Sound M D ps u l) {vs : List (List Nat)} (ht : ∀ t ∈ l, t.2 < 2 ^ M ∧ t.1 < D + ps.length ∧ vs.getD t.1 [] = (encN M ps us).getD t.1 []) : sumN M n vs l = (encN M ps us).getD u [] := by
  have hM := h.f
  have hst : ∀ k, k < D + ps.length → isB ((encN M ps us).getD k []) ∧ ((encN M ps us).getD k []).length = n := fun k hk => mem_isB (encN_ok h hl hu he) (by rw [encN_length]; omega)
  have hcl : ∀ t ∈ l, t.2 < 2 ^ M ∧ isB (vs.getD t.1 []) ∧ (vs.getD t.1 []).length = n := fun t htm => by
    obtain ⟨h1, h2, h3⟩ := ht t htm
    rw [h3]; exact ⟨h1, hst _ h2⟩
  obtain ⟨c1, c2⟩ := combM_ok hM he (l.map (·.2)) (l.map fun t => vs.getD t.1 []) (List.replicate n 0) (fun c hc => by
    obtain ⟨t, htm, rfl⟩ := List.mem_map.1 hc; exact (ht t htm).1) (fun v hv => by
    obtain ⟨t, htm, rfl⟩ := List.mem_map.1 hv; exact (hcl t htm).2.2) (isB_zero n) (by simp)
  obtain ⟨s1, s2⟩ := hst u hlt
  refine wd_ext hM c1 s1 (by rw [s2]; exact c2) (by rw [show (sumN M n vs l).length = n from c2]; exact he) fun j => ?_
  unfold sumN
  rw [wd_comb hM he (fun t : Nat × Nat => t.2) (fun t => vs.getD t.1 []) j l _ hcl (isB_zero n) (by simp), wd_zero, Nat.zero_xor]
  rw [lx_congr (g := fun t => mu M t.2 (sg (fun x => mu M (U D (genN D ps) t.1 x) (wd M (us.getD x []) j)) D)) fun t htm => by
    obtain ⟨h1, h2, h3⟩ := ht t htm
    rw [h3, wd_enc h hl hu he h2]]
  rw [lx_sg (G := fun u => U D (genN D ps) u) hM (U_all h) (fun x hx => wd_lt hM (mem_isB hu (by omega)).1 j) l (fun t htm => (ht t htm).1), wd_enc h hl hu he hlt]
  exact sg_congr D fun x hx => by rw [hs x hx]
end
theorem lx_tms (M : Nat) (B K : List Nat) (G : Nat → Nat) : ∀ n, lx (fun t => mu M t.2 (G t.1)) (tmsAt B K n) = sg (fun q => mu M (K.getD q 0) (G (B.getD q 0))) n
  | 0 => rfl
  | n + 1 => by
    rw [tmsAt_succ, sg]
    split
    · rename_i e
      rw [e, zero_mu, Nat.xor_zero]; exact lx_tms M B K G n
    · rw [lx_append, lx_tms M B K G n]
      simp [lx]
structure CombOk (M D : Nat) (ps : List (List Nat)) (hv : List Bool) (u : Nat) (l : List (Nat × Nat)) : Prop where
  snd : Sound M D ps u l
  lt : ∀ t ∈ l, t.2 < 2 ^ M ∧ t.2 ≠ 0
  pres : ∀ t ∈ l, hv.getD t.1 false = true
  inc : l.Pairwise fun a b => a.1 < b.1
  le : l.length ≤ (basisN M D ps hv).length
theorem comb_ok {M D : Nat} {ps : List (List Nat)} {hv : List Bool} (h : CodeOk M D ps) (hl : hv.length = D + ps.length) {u : Nat} (hu : u < D + ps.length) {l : List (Nat × Nat)} (hc : combN M D ps hv u = some l) : CombOk M D ps hv u l := by
  obtain ⟨K, k1, k2, rfl, k4⟩ := comb_some h hl hu hc
  obtain ⟨T, S, hb⟩ := basis_to h hl
  have hmem : ∀ t ∈ tmsAt (basisN M D ps hv) K (basisN M D ps hv).length, ∃ q, q < (basisN M D ps hv).length ∧ K.getD q 0 ≠ 0 ∧ t = ((basisN M D ps hv).getD q 0, K.getD q 0) := fun t ht => by
    unfold tmsAt at ht
    obtain ⟨q, hq, rfl⟩ := List.mem_map.1 ht
    obtain ⟨q1, q2⟩ := List.mem_filter.1 hq
    exact ⟨q, List.mem_range.1 q1, by simpa using q2, rfl⟩
  refine ⟨fun x hx => ?_, fun t ht => ?_, fun t ht => ?_, ?_, tmsAt_length _ _ _⟩
  · rw [lx_tms M (basisN M D ps hv) K (fun u => U D (genN D ps) u x), k4 x hx]
  · obtain ⟨q, q1, q2, rfl⟩ := hmem t ht
    exact ⟨getD_lt k2 _, q2⟩
  · obtain ⟨q, q1, q2, rfl⟩ := hmem t ht
    exact hb.mem q q1
  · unfold tmsAt
    rw [List.pairwise_map]
    refine (List.Pairwise.filter _ List.pairwise_lt_range).imp_of_mem fun {a b} ha hb2 hab => ?_
    have hb3 := List.mem_range.1 (List.mem_filter.1 hb2).1
    exact hb.inc a b hab hb3
theorem CombOk.pos {M D : Nat} {ps : List (List Nat)} {hv : List Bool} (h : CodeOk M D ps) {u : Nat} (hu : u < D + ps.length) {l : List (Nat × Nat)} (hc : CombOk M D ps hv u l) : 0 < l.length := by
  cases l with
  | nil =>
    obtain ⟨x, hx, hne⟩ := U_ne h hu
    exact absurd (hc.snd x hx).symm hne
  | cons a l => simp
end Go.Proofs.YtilpljehfcpjeaaDoor
end
section
/- The reference of layer 8 over the machine of abstract values: Valid, Width, Row, SameInts, SameTexts. -/
namespace Go.Proofs.YtilpljehfcpjeaaDoor
open Go.RowKit
set_option maxHeartbeats 4000000
set_option maxRecDepth 100000
attribute [local irreducible] Quiet Eff OpOk AWPG ACont ABlock ACalls AGoto
def someB (r : List Int) (j : Nat) : Bool := !((r.take j).all fun x => decide (x = 0))
theorem someB_succ (r : List Int) (j : Nat) (h : j < r.length) : someB r (j + 1) = (someB r j || decide (r[j] ≠ 0)) := by
  unfold someB
  rw [List.take_succ_eq_append_getElem h, List.all_append]
  simp [Bool.not_and]
theorem A_r8valid {M D : Int} {par : List (List Int)} (hD : D ≤ 1000000) (hP : par.length ≤ 1000000) : ACalls Tryd.prog 28 [cdA M D par] [] (bV (validC M D par)) [] := by
  refine acalls_of_bodyO Tryd.func28 rfl (Nat.le_of_ble_eq_true rfl) ?_
  have hmp : (par.map rD).length = par.length := List.length_map _
  have h0 : allF M [0] = decide (M = 8 ∨ M = 16) := by
    unfold allF
    by_cases h : M = 8 ∨ M = 16
    · rw [decide_eq_true h]
      rcases h with rfl | rfl <;> rfl
    · rw [decide_eq_false h]; rfl
  by_cases hg : (M = 8 ∨ M = 16) ∧ 1 ≤ D ∧ D + par.length ≤ 32
  · obtain ⟨g1, g2, g3⟩ := hg
    have hv : validC M D par = par.all (rowOk M D) := by
      unfold validC
      rw [h0, decide_eq_true g1, decide_eq_true g2, decide_eq_true (show par.length ≤ 32 by omega), decide_eq_true (show D ≤ 32 - (par.length : Int) by omega)]
      rfl
    rw [hv]
    have hbad : ∀ k (h : k < par.length), rowOk M D par[k] = false → par.all (rowOk M D) = false := fun k h e => List.all_eq_false.2 ⟨par[k], List.getElem_mem h, by rw [e]; decide⟩
    have hall : (∀ r ∈ par, rowOk M D r = true) → par.all (rowOk M D) = true := fun h => List.all_eq_true.2 h
    generalize par.all (rowOk M D) = V at *
    clear hv h0
    (repeat' (first
  | (apply W.gOn; exact rfl; exact rfl)
  | (apply W.qd; (first
    | (apply q_mv; (first|exact vD|exact vO|exact vP|exact vA|exact vF|exact vR|exact vN|exact vY|exact vT|exact vM|exact vX))|(apply q_as; (first|exact vD|exact vO|exact vP|exact vA|exact vF|exact vR|exact vN|exact vY|exact vT|exact vM|exact vX))|(apply q_fld_optF; exact rfl; exact rfl; exact rfl)|(apply q_ld_box; exact rfl; exact rfl; exact rfl; exact rfl)|(apply q_lss; exact rfl; exact rfl)|(apply q_gtr; exact rfl; exact rfl)|(apply q_neq; exact rfl; exact rfl)|(apply q_add; exact rfl; exact rfl; omega)|(apply q_len_sl; exact rfl; exact rfl)|(apply (q_pickT (u := .d _)); exact rfl; exact rfl)
    | (apply (q_pickF (u := .d _)); exact rfl; exact rfl)))|(apply W.ed; (apply e_boxF; exact rfl; exact rfl; exact rfl; kernel_rfl; kernel_rfl))|(refine W.gOff _ _ rfl rfl (by intro h; cases h) ?_)|(apply AWP.seq)|(apply ACont_normal)|(apply W.region; kernel_rfl)|(apply Walk.nil)|(apply AWP.block)|(apply AWP.skip)|(refine W.gT _ _ rfl rfl (fun hb => ?_) (fun hb => ?_) <;> ((try simp only [hb, Bool.not_true, Bool.not_false]) <;> (try simp only [decide_eq_true_eq, decide_eq_false_iff_not, Bool.not_eq_true', Bool.not_eq_false', Int.not_lt, Int.not_le, List.length_map, not_true_eq_false] at hb) <;> (try (exfalso; omega))))|(refine W.gF _ _ rfl rfl (fun hb => ?_) (fun hb => ?_) <;> ((try simp only [hb, Bool.not_true, Bool.not_false]) <;> (try simp only [decide_eq_true_eq, decide_eq_false_iff_not, Bool.not_eq_true', Bool.not_eq_false', Int.not_lt, Int.not_le, List.length_map, not_true_eq_false] at hb) <;> (try (exfalso; omega))))
  | (refine W.cond _ rfl (fun hb => ?_) (fun hb => ?_) <;> ((try simp only [hb, Bool.not_true, Bool.not_false]) <;> (try simp only [decide_eq_true_eq, decide_eq_false_iff_not, Bool.not_eq_true', Bool.not_eq_false', Int.not_lt, Int.not_le, List.length_map, not_true_eq_false] at hb) <;> (try (exfalso; omega))))))
    all_goals
      refine AWP.loopW (α := Nat) (fun k => k ≤ par.length ∧ ∀ r ∈ par.take k, rowOk M D r = true) (fun k => ⟨[(3, iV k), (1, .opt 0 0)], [.box [.d .any, iV M, iV D, rowsA par, .d .any]]⟩) (fun k => par.length - k) 0 ⟨by omega, by simp⟩ ⟨[0], rfl, rfl, rfl, by (repeat (first | exact trivial | refine ⟨rfl, ?_⟩))⟩ fun k hk => ?_
      by_cases hkl : k < par.length
      · have hbk := hbad k hkl
        by_cases hrl : (par[k].length : Int) = D
        · have hro : rowOk M D par[k] = (par[k].all (fun x => allF M [x]) && !(par[k].all fun x => decide (x = 0))) := by
            unfold rowOk; rw [decide_eq_true hrl, Bool.true_and]
          (repeat' (first
  | (apply W.qd; (first
    | (apply q_mv; (first|exact vD|exact vO|exact vP|exact vA|exact vF|exact vR|exact vN|exact vY|exact vT|exact vM|exact vX))|(apply q_as; (first|exact vD|exact vO|exact vP|exact vA|exact vF|exact vR|exact vN|exact vY|exact vT|exact vM|exact vX))|(apply q_fld_optF; exact rfl; exact rfl; exact rfl)|(apply q_ld_box; exact rfl; exact rfl; exact rfl; exact rfl)|(apply q_lss; exact rfl; exact rfl)|(apply q_neq; exact rfl; exact rfl)|(apply q_len_sl; exact rfl; exact rfl)|(apply q_ld_map; exact rfl; exact rfl; exact rfl; (first | omega | (focus (simp; done))))
    | (apply q_ix_slF; exact rfl; exact rfl; exact rfl; exact rfl; (first | (with_reducible exact rfl) | exact natI_spec rfl | assumption | exact (Int.toNat_of_nonneg (by omega)).symm); (first | omega | (focus (simp only [List.length_map]; omega)) | (focus (simp; done)) | (focus (simp; omega))))))|(apply AWP.seq)|(apply ACont_normal)|(apply W.region; kernel_rfl)|(apply W.regionD; exact rfl; kernel_rfl)|(apply Walk.nil)|(apply W.chk; kernel_rfl)|(apply AWP.block)|(apply AWP.skip)
  | (refine W.cond _ rfl (fun hb => ?_) (fun hb => ?_) <;> ((try simp only [hb, Bool.not_true, Bool.not_false]) <;> (try simp only [decide_eq_true_eq, decide_eq_false_iff_not, Bool.not_eq_true', Bool.not_eq_false', Int.not_lt, Int.not_le, List.length_map, not_true_eq_false] at hb) <;> (try (exfalso; omega))))))
          refine AWP.loopW (α := Nat) (fun j => j ≤ par[k].length ∧ ∀ x ∈ par[k].take j, allF M [x] = true) (fun j => ⟨[(5, iV j), (4, bV (someB par[k] j)), (3, iV k), (1, .opt 0 0)], [.box [.d .any, iV M, iV D, rowsA par, .d .any]]⟩) (fun j => par[k].length - j) 0 ⟨by omega, by simp⟩ ⟨[0], rfl, rfl, rfl, by (repeat (first | exact trivial | refine ⟨rfl, ?_⟩))⟩ fun j hj => ?_
          by_cases hjl : j < par[k].length
          · have hx := A_rfvalid M (par[k][j])
            have hss := someB_succ par[k] j hjl
            cases hf : allF M [par[k][j]] <;> rw [hf] at hx
            · have hV : V = false := hbk (by
                rw [hro, List.all_eq_false.2 ⟨par[k][j], List.getElem_mem _, by rw [hf]; decide⟩]; rfl)
              subst hV
              (repeat' (first
  | (apply W.qd; (first
    | (apply (q_callC (hx)); exact rfl; exact rfl; kernel_rfl; kernel_rfl; kernel_rfl)|(apply q_mv; (first|exact vD|exact vO|exact vP|exact vA|exact vF|exact vR|exact vN|exact vY|exact vT|exact vM|exact vX))|(apply q_as; (first|exact vD|exact vO|exact vP|exact vA|exact vF|exact vR|exact vN|exact vY|exact vT|exact vM|exact vX))|(apply q_fld_optF; exact rfl; exact rfl; exact rfl)|(apply q_ld_box; exact rfl; exact rfl; exact rfl; exact rfl)|(apply q_lss; exact rfl; exact rfl)|(apply q_not; exact rfl)|(apply q_ld_map; exact rfl; exact rfl; exact rfl; (first | omega | (focus (simp; done))))
    | (apply q_ix_slF; exact rfl; exact rfl; exact rfl; exact rfl; (first | (with_reducible exact rfl) | exact natI_spec rfl | assumption | exact (Int.toNat_of_nonneg (by omega)).symm); (first | omega | (focus (simp only [List.length_map]; omega)) | (focus (simp; done)) | (focus (simp; omega))))))|(apply AWP.seq)|(apply ACont_normal)|(apply W.region; kernel_rfl)|(apply W.regionD; exact rfl; kernel_rfl)|(apply Walk.nil)|(apply W.chk; kernel_rfl)|(apply AWP.block)|(apply AWP.skip)|(apply AWP.ret)|(apply ACont_ret)|(apply ABlock_ret)|(apply W.condT; exact rfl)
  | (refine W.cond _ rfl (fun hb => ?_) (fun hb => ?_) <;> ((try simp only [hb, Bool.not_true, Bool.not_false]) <;> (try simp only [decide_eq_true_eq, decide_eq_false_iff_not, Bool.not_eq_true', Bool.not_eq_false', Int.not_lt, Int.not_le, List.length_map, not_true_eq_false] at hb) <;> (try (exfalso; omega))))))
              all_goals exact ⟨.inl rfl, [], [bV false], rfl, rfl, ⟨rfl, trivial⟩, AVle.of_eq rfl, rfl⟩
            · have hj2 : ∀ x ∈ par[k].take (j + 1), allF M [x] = true := fun x hx2 => by
                rw [List.take_succ_eq_append_getElem hjl] at hx2
                rcases List.mem_append.1 hx2 with h | h
                · exact hj.2 x h
                · rw [List.mem_singleton.1 h]; exact hf
              generalize someB par[k] j = s at *
              replace hss := Lib.hid hss
              cases s
              · (repeat' (first
  | (apply W.gOn; exact rfl; exact rfl)
  | (apply W.qd; (first
    | (apply (q_callC (hx)); exact rfl; exact rfl; kernel_rfl; kernel_rfl; kernel_rfl)|(apply q_mv; (first|exact vD|exact vO|exact vP|exact vA|exact vF|exact vR|exact vN|exact vY|exact vT|exact vM|exact vX))|(apply q_as; (first|exact vD|exact vO|exact vP|exact vA|exact vF|exact vR|exact vN|exact vY|exact vT|exact vM|exact vX))|(apply q_fld_optF; exact rfl; exact rfl; exact rfl)|(apply q_ld_box; exact rfl; exact rfl; exact rfl; exact rfl)|(apply q_lss; exact rfl; exact rfl)|(apply q_neq; exact rfl; exact rfl)|(apply q_not; exact rfl)|(apply q_add; exact rfl; exact rfl; omega)|(apply q_ld_map; exact rfl; exact rfl; exact rfl; (first | omega | (focus (simp; done))))|(apply q_ix_slF; exact rfl; exact rfl; exact rfl; exact rfl; (first | (with_reducible exact rfl) | exact natI_spec rfl | assumption | exact (Int.toNat_of_nonneg (by omega)).symm); (first | omega | (focus (simp only [List.length_map]; omega)) | (focus (simp; done)) | (focus (simp; omega))))
    | (apply (q_pickF (u := .d _)); exact rfl; exact rfl)))|(apply AWP.seq)|(apply ACont_normal)|(apply W.region; kernel_rfl)|(apply W.regionD; exact rfl; kernel_rfl)|(apply Walk.nil)|(apply W.chk; kernel_rfl)|(apply AWP.block)|(apply AWP.skip)|(apply ABlock_normal)|(apply W.condF; exact rfl)
  | (refine W.cond _ rfl (fun hb => ?_) (fun hb => ?_) <;> ((try simp only [hb, Bool.not_true, Bool.not_false]) <;> (try simp only [decide_eq_true_eq, decide_eq_false_iff_not, Bool.not_eq_true', Bool.not_eq_false', Int.not_lt, Int.not_le, List.length_map, not_true_eq_false] at hb) <;> (try (exfalso; omega))))))
                refine ⟨j + 1, ⟨by omega, hj2⟩, by omega, [0], rfl, rfl, rfl, iV_eq (by omega), ?_, rfl, rfl, trivial⟩
                rw [hss.out]
                exact congrArg bV (show (false || decide (par[k][j] ≠ 0)) = !decide (par[k][j] = 0) by simp)
              · (repeat' (first
  | (apply W.qd; (first
    | (apply (q_callC (hx)); exact rfl; exact rfl; kernel_rfl; kernel_rfl; kernel_rfl)|(apply q_mv; (first|exact vD|exact vO|exact vP|exact vA|exact vF|exact vR|exact vN|exact vY|exact vT|exact vM|exact vX))|(apply q_as; (first|exact vD|exact vO|exact vP|exact vA|exact vF|exact vR|exact vN|exact vY|exact vT|exact vM|exact vX))|(apply q_fld_optF; exact rfl; exact rfl; exact rfl)|(apply q_ld_box; exact rfl; exact rfl; exact rfl; exact rfl)|(apply q_lss; exact rfl; exact rfl)|(apply q_not; exact rfl)|(apply q_add; exact rfl; exact rfl; omega)|(apply q_ld_map; exact rfl; exact rfl; exact rfl; (first | omega | (focus (simp; done))))|(apply q_ix_slF; exact rfl; exact rfl; exact rfl; exact rfl; (first | (with_reducible exact rfl) | exact natI_spec rfl | assumption | exact (Int.toNat_of_nonneg (by omega)).symm); (first | omega | (focus (simp only [List.length_map]; omega)) | (focus (simp; done)) | (focus (simp; omega))))
    | (apply (q_pickT (u := .d _)); exact rfl; exact rfl)))|(refine W.gOff _ _ rfl rfl (by intro h; cases h) ?_)|(apply AWP.seq)|(apply ACont_normal)|(apply W.region; kernel_rfl)|(apply W.regionD; exact rfl; kernel_rfl)|(apply Walk.nil)|(apply W.chk; kernel_rfl)|(apply AWP.block)|(apply AWP.skip)|(apply ABlock_normal)|(apply W.condF; exact rfl)
  | (refine W.cond _ rfl (fun hb => ?_) (fun hb => ?_) <;> ((try simp only [hb, Bool.not_true, Bool.not_false]) <;> (try simp only [decide_eq_true_eq, decide_eq_false_iff_not, Bool.not_eq_true', Bool.not_eq_false', Int.not_lt, Int.not_le, List.length_map, not_true_eq_false] at hb) <;> (try (exfalso; omega))))))
                refine ⟨j + 1, ⟨by omega, hj2⟩, by omega, [0], rfl, rfl, rfl, iV_eq (by omega), ?_, rfl, rfl, trivial⟩
                rw [hss.out]
                rfl
          · have hfull : par[k].take j = par[k] := List.take_of_length_le (by omega)
            have hsv : someB par[k] j = !(par[k].all fun x => decide (x = 0)) := by unfold someB; rw [hfull]
            have hav : par[k].all (fun x => allF M [x]) = true := List.all_eq_true.2 fun x hx => hj.2 x (by rw [hfull]; exact hx)
            rw [hav, ← hsv, Bool.true_and] at hro
            generalize someB par[k] j = s at *
            cases s
            · have hV : V = false := hbk hro
              subst hV
              (repeat' (first
  | (apply W.qd; (first
    | (apply q_mv; (first|exact vD|exact vO|exact vP|exact vA|exact vF|exact vR|exact vN|exact vY|exact vT|exact vM|exact vX))|(apply q_as; (first|exact vD|exact vO|exact vP|exact vA|exact vF|exact vR|exact vN|exact vY|exact vT|exact vM|exact vX))|(apply q_fld_optF; exact rfl; exact rfl; exact rfl)|(apply q_ld_box; exact rfl; exact rfl; exact rfl; exact rfl)|(apply q_lss; exact rfl; exact rfl)
    | (apply q_not; exact rfl)))|(apply AWP.seq)|(apply ACont_normal)|(apply W.region; kernel_rfl)|(apply Walk.nil)|(apply AWP.exit)|(apply AWP.ret)|(apply ACont_exit)|(apply ACont_ret)|(apply ABlock_exit)|(apply ABlock_ret)|(apply W.condT; exact rfl)
  | (refine W.cond _ rfl (fun hb => ?_) (fun hb => ?_) <;> ((try simp only [hb, Bool.not_true, Bool.not_false]) <;> (try simp only [decide_eq_true_eq, decide_eq_false_iff_not, Bool.not_eq_true', Bool.not_eq_false', Int.not_lt, Int.not_le, List.length_map, not_true_eq_false] at hb) <;> (try (exfalso; omega))))))
              all_goals exact ⟨.inl rfl, [], [bV false], rfl, rfl, ⟨rfl, trivial⟩, AVle.of_eq rfl, rfl⟩
            · (repeat' (first
  | (apply W.qd; (first
    | (apply q_mv; (first|exact vD|exact vO|exact vP|exact vA|exact vF|exact vR|exact vN|exact vY|exact vT|exact vM|exact vX))|(apply q_as; (first|exact vD|exact vO|exact vP|exact vA|exact vF|exact vR|exact vN|exact vY|exact vT|exact vM|exact vX))|(apply q_fld_optF; exact rfl; exact rfl; exact rfl)|(apply q_ld_box; exact rfl; exact rfl; exact rfl; exact rfl)|(apply q_lss; exact rfl; exact rfl)|(apply q_not; exact rfl)
    | (apply q_add; exact rfl; exact rfl; omega)))|(apply AWP.seq)|(apply ACont_normal)|(apply W.region; kernel_rfl)|(apply Walk.nil)|(apply AWP.skip)|(apply AWP.exit)|(apply ACont_exit)|(apply ABlock_normal)|(apply ABlock_exit)|(apply W.condF; exact rfl)
  | (refine W.cond _ rfl (fun hb => ?_) (fun hb => ?_) <;> ((try simp only [hb, Bool.not_true, Bool.not_false]) <;> (try simp only [decide_eq_true_eq, decide_eq_false_iff_not, Bool.not_eq_true', Bool.not_eq_false', Int.not_lt, Int.not_le, List.length_map, not_true_eq_false] at hb) <;> (try (exfalso; omega))))))
              refine ⟨k + 1, ⟨by omega, fun r hr => ?_⟩, by omega, [0], rfl, rfl, rfl, iV_eq (by omega), rfl, trivial⟩
              rw [List.take_succ_eq_append_getElem hkl] at hr
              rcases List.mem_append.1 hr with h | h
              · exact hk.2 r h
              · rw [List.mem_singleton.1 h]; exact hro
        · have hV : V = false := hbk (by unfold rowOk; rw [decide_eq_false hrl]; rfl)
          subst hV
          (repeat' (first
  | (apply W.qd; (first
    | (apply q_mv; (first|exact vD|exact vO|exact vP|exact vA|exact vF|exact vR|exact vN|exact vY|exact vT|exact vM|exact vX))|(apply q_as; (first|exact vD|exact vO|exact vP|exact vA|exact vF|exact vR|exact vN|exact vY|exact vT|exact vM|exact vX))|(apply q_fld_optF; exact rfl; exact rfl; exact rfl)|(apply q_ld_box; exact rfl; exact rfl; exact rfl; exact rfl)|(apply q_lss; exact rfl; exact rfl)|(apply q_neq; exact rfl; exact rfl)|(apply q_len_sl; exact rfl; exact rfl)|(apply q_ld_map; exact rfl; exact rfl; exact rfl; (first | omega | (focus (simp; done))))
    | (apply q_ix_slF; exact rfl; exact rfl; exact rfl; exact rfl; (first | (with_reducible exact rfl) | exact natI_spec rfl | assumption | exact (Int.toNat_of_nonneg (by omega)).symm); (first | omega | (focus (simp only [List.length_map]; omega)) | (focus (simp; done)) | (focus (simp; omega))))))|(apply AWP.seq)|(apply ACont_normal)|(apply W.region; kernel_rfl)|(apply W.regionD; exact rfl; kernel_rfl)|(apply Walk.nil)|(apply W.chk; kernel_rfl)|(apply AWP.block)|(apply AWP.skip)|(apply AWP.ret)|(apply ACont_ret)|(apply ABlock_ret)
  | (refine W.cond _ rfl (fun hb => ?_) (fun hb => ?_) <;> ((try simp only [hb, Bool.not_true, Bool.not_false]) <;> (try simp only [decide_eq_true_eq, decide_eq_false_iff_not, Bool.not_eq_true', Bool.not_eq_false', Int.not_lt, Int.not_le, List.length_map, not_true_eq_false] at hb) <;> (try (exfalso; omega))))))
          all_goals exact ⟨.inl rfl, [], [bV false], rfl, rfl, ⟨rfl, trivial⟩, AVle.of_eq rfl, rfl⟩
      · have hV : V = true := hall fun r hr => hk.2 r (by rwa [List.take_of_length_le (by omega)])
        subst hV
        (repeat' (first
  | (apply W.qd; (first
    | (apply q_mv; (first|exact vD|exact vO|exact vP|exact vA|exact vF|exact vR|exact vN|exact vY|exact vT|exact vM|exact vX))|(apply q_as; (first|exact vD|exact vO|exact vP|exact vA|exact vF|exact vR|exact vN|exact vY|exact vT|exact vM|exact vX))|(apply q_fld_optF; exact rfl; exact rfl; exact rfl)|(apply q_ld_box; exact rfl; exact rfl; exact rfl; exact rfl)|(apply q_lss; exact rfl; exact rfl)
    | (apply q_len_sl; exact rfl; exact rfl)))|(apply AWP.seq)|(apply ACont_normal)|(apply W.region; kernel_rfl)|(apply Walk.nil)|(apply AWP.exit)|(apply AWP.ret)|(apply ACont_exit)|(apply ABlock_exit)
  | (refine W.cond _ rfl (fun hb => ?_) (fun hb => ?_) <;> ((try simp only [hb, Bool.not_true, Bool.not_false]) <;> (try simp only [decide_eq_true_eq, decide_eq_false_iff_not, Bool.not_eq_true', Bool.not_eq_false', Int.not_lt, Int.not_le, List.length_map, not_true_eq_false] at hb) <;> (try (exfalso; omega))))))
        exact ⟨.inl rfl, [], [bV true], rfl, rfl, ⟨rfl, trivial⟩, AVle.of_eq rfl, rfl⟩
  · have hv : validC M D par = false := by
      rw [Bool.eq_false_iff]
      intro h
      unfold validC at h
      rw [h0] at h
      simp only [Bool.and_eq_true, decide_eq_true_eq] at h
      exact hg ⟨h.1.1.1.1, h.1.1.1.2, by omega⟩
    rw [hv]
    clear hv h0
    (repeat' (first
  | (apply W.gOn; exact rfl; exact rfl)
  | (apply W.qd; (first
    | (apply q_mv; (first|exact vD|exact vO|exact vP|exact vA|exact vF|exact vR|exact vN|exact vY|exact vT|exact vM|exact vX))|(apply q_as; (first|exact vD|exact vO|exact vP|exact vA|exact vF|exact vR|exact vN|exact vY|exact vT|exact vM|exact vX))|(apply q_fld_optF; exact rfl; exact rfl; exact rfl)|(apply q_ld_box; exact rfl; exact rfl; exact rfl; exact rfl)|(apply q_lss; exact rfl; exact rfl)|(apply q_gtr; exact rfl; exact rfl)|(apply q_neq; exact rfl; exact rfl)|(apply q_add; exact rfl; exact rfl; omega)|(apply q_len_sl; exact rfl; exact rfl)|(apply (q_pickT (u := .d _)); exact rfl; exact rfl)
    | (apply (q_pickF (u := .d _)); exact rfl; exact rfl)))|(apply W.ed; (apply e_boxF; exact rfl; exact rfl; exact rfl; kernel_rfl; kernel_rfl))|(refine W.gOff _ _ rfl rfl (by intro h; cases h) ?_)|(apply AWP.seq)|(apply ACont_normal)|(apply W.region; kernel_rfl)|(apply Walk.nil)|(apply AWP.ret)|(apply ACont_ret)|(apply W.condT; exact rfl)|(refine W.gT _ _ rfl rfl (fun hb => ?_) (fun hb => ?_) <;> ((try simp only [hb, Bool.not_true, Bool.not_false]) <;> (try simp only [decide_eq_true_eq, decide_eq_false_iff_not, Bool.not_eq_true', Bool.not_eq_false', Int.not_lt, Int.not_le, List.length_map, not_true_eq_false] at hb) <;> (try (exfalso; omega))))|(refine W.gF _ _ rfl rfl (fun hb => ?_) (fun hb => ?_) <;> ((try simp only [hb, Bool.not_true, Bool.not_false]) <;> (try simp only [decide_eq_true_eq, decide_eq_false_iff_not, Bool.not_eq_true', Bool.not_eq_false', Int.not_lt, Int.not_le, List.length_map, not_true_eq_false] at hb) <;> (try (exfalso; omega))))
  | (refine W.cond _ rfl (fun hb => ?_) (fun hb => ?_) <;> ((try simp only [hb, Bool.not_true, Bool.not_false]) <;> (try simp only [decide_eq_true_eq, decide_eq_false_iff_not, Bool.not_eq_true', Bool.not_eq_false', Int.not_lt, Int.not_le, List.length_map, not_true_eq_false] at hb) <;> (try (exfalso; omega))))))
    all_goals exact ⟨.inl rfl, [], [bV false], rfl, rfl, ⟨rfl, trivial⟩, AVle.of_eq rfl, rfl⟩
theorem A_same_ints {a b : List Int} (ha : a.length ≤ 1000000) (hb : b.length ≤ 1000000) : ACalls Tryd.prog 12 [ints a, ints b] [] (bV (decide (a = b))) [] := by
  refine acalls_of_bodyO Tryd.func12 rfl (Nat.le_of_ble_eq_true rfl) ?_
  have hma : (a.map iD).length = a.length := List.length_map _
  have hmb : (b.map iD).length = b.length := List.length_map _
  by_cases hl : a.length = b.length
  · (repeat' (first
  | (apply W.qd; (first
    | (apply q_mv; (first|exact vD|exact vO|exact vP|exact vA|exact vF|exact vR|exact vN|exact vY|exact vT|exact vM|exact vX))|(apply q_as; (first|exact vD|exact vO|exact vP|exact vA|exact vF|exact vR|exact vN|exact vY|exact vT|exact vM|exact vX))|(apply q_neq; exact rfl; exact rfl)
    | (apply q_len_sl; exact rfl; exact rfl)))|(apply AWP.seq)|(apply ACont_normal)|(apply W.region; kernel_rfl)|(apply Walk.nil)|(apply AWP.block)|(apply AWP.skip)
  | (refine W.cond _ rfl (fun hb => ?_) (fun hb => ?_) <;> ((try simp only [hb, Bool.not_true, Bool.not_false]) <;> (try simp only [decide_eq_true_eq, decide_eq_false_iff_not, Bool.not_eq_true', Bool.not_eq_false', Int.not_lt, Int.not_le, List.length_map, not_true_eq_false] at hb) <;> (try (exfalso; omega))))))
    refine AWP.loopW (α := Nat) (fun k => k ≤ a.length ∧ a.take k = b.take k) (fun k => ⟨[(5, iV k), (0, ints a), (1, ints b)], []⟩) (fun k => a.length - k) 0 ⟨by omega, by simp⟩ ⟨[], rfl, rfl, rfl, by (repeat (first | exact trivial | refine ⟨rfl, ?_⟩))⟩ fun k hk => ?_
    by_cases hka : k < a.length
    · by_cases he : a[k] = b[k]'(by omega)
      · (repeat' (first
  | (apply W.qd; (first
    | (apply q_mv; (first|exact vD|exact vO|exact vP|exact vA|exact vF|exact vR|exact vN|exact vY|exact vT|exact vM|exact vX))|(apply q_as; (first|exact vD|exact vO|exact vP|exact vA|exact vF|exact vR|exact vN|exact vY|exact vT|exact vM|exact vX))|(apply q_lss; exact rfl; exact rfl)|(apply q_neq; exact rfl; exact rfl)|(apply q_add; exact rfl; exact rfl; omega)|(apply q_len_sl; exact rfl; exact rfl)|(apply q_ld_map; exact rfl; exact rfl; exact rfl; (first | omega | (focus (simp; done))))
    | (apply q_ix_slF; exact rfl; exact rfl; exact rfl; exact rfl; (first | (with_reducible exact rfl) | exact natI_spec rfl | assumption | exact (Int.toNat_of_nonneg (by omega)).symm); (first | omega | (focus (simp only [List.length_map]; omega)) | (focus (simp; done)) | (focus (simp; omega))))))|(apply AWP.seq)|(apply ACont_normal)|(apply W.region; kernel_rfl)|(apply W.regionD; exact rfl; kernel_rfl)|(apply Walk.nil)|(apply W.chk; kernel_rfl)|(apply AWP.block)|(apply AWP.skip)|(apply ABlock_normal)
  | (refine W.cond _ rfl (fun hb => ?_) (fun hb => ?_) <;> ((try simp only [hb, Bool.not_true, Bool.not_false]) <;> (try simp only [decide_eq_true_eq, decide_eq_false_iff_not, Bool.not_eq_true', Bool.not_eq_false', Int.not_lt, Int.not_le, List.length_map, not_true_eq_false] at hb) <;> (try (exfalso; omega))))))
        exact ⟨k + 1, ⟨by omega, by rw [List.take_succ_eq_append_getElem hka, List.take_succ_eq_append_getElem (show k < b.length by omega), hk.2, he]⟩, by omega, [], rfl, rfl, rfl, iV_eq (by omega), rfl, rfl, trivial⟩
      · have hne : a ≠ b := fun e => he (by subst e; rfl)
        rw [decide_eq_false hne]
        (repeat' (first
  | (apply W.qd; (first
    | (apply q_mv; (first|exact vD|exact vO|exact vP|exact vA|exact vF|exact vR|exact vN|exact vY|exact vT|exact vM|exact vX))|(apply q_as; (first|exact vD|exact vO|exact vP|exact vA|exact vF|exact vR|exact vN|exact vY|exact vT|exact vM|exact vX))|(apply q_lss; exact rfl; exact rfl)|(apply q_neq; exact rfl; exact rfl)|(apply q_len_sl; exact rfl; exact rfl)|(apply q_ld_map; exact rfl; exact rfl; exact rfl; (first | omega | (focus (simp; done))))
    | (apply q_ix_slF; exact rfl; exact rfl; exact rfl; exact rfl; (first | (with_reducible exact rfl) | exact natI_spec rfl | assumption | exact (Int.toNat_of_nonneg (by omega)).symm); (first | omega | (focus (simp only [List.length_map]; omega)) | (focus (simp; done)) | (focus (simp; omega))))))|(apply AWP.seq)|(apply ACont_normal)|(apply W.region; kernel_rfl)|(apply W.regionD; exact rfl; kernel_rfl)|(apply Walk.nil)|(apply W.chk; kernel_rfl)|(apply AWP.block)|(apply AWP.skip)|(apply AWP.ret)|(apply ACont_ret)|(apply ABlock_ret)
  | (refine W.cond _ rfl (fun hb => ?_) (fun hb => ?_) <;> ((try simp only [hb, Bool.not_true, Bool.not_false]) <;> (try simp only [decide_eq_true_eq, decide_eq_false_iff_not, Bool.not_eq_true', Bool.not_eq_false', Int.not_lt, Int.not_le, List.length_map, not_true_eq_false] at hb) <;> (try (exfalso; omega))))))
        exact ⟨.inl rfl, [], [bV false], rfl, rfl, ⟨rfl, trivial⟩, AVle.of_eq rfl, rfl⟩
    · have he : a = b := by
        have := hk.2
        rwa [List.take_of_length_le (by omega), List.take_of_length_le (by omega)] at this
      rw [decide_eq_true he]
      (repeat' (first
  | (apply W.qd; (first
    | (apply q_mv; (first|exact vD|exact vO|exact vP|exact vA|exact vF|exact vR|exact vN|exact vY|exact vT|exact vM|exact vX))|(apply q_as; (first|exact vD|exact vO|exact vP|exact vA|exact vF|exact vR|exact vN|exact vY|exact vT|exact vM|exact vX))|(apply q_lss; exact rfl; exact rfl)
    | (apply q_len_sl; exact rfl; exact rfl)))|(apply AWP.seq)|(apply ACont_normal)|(apply W.region; kernel_rfl)|(apply Walk.nil)|(apply AWP.exit)|(apply AWP.ret)|(apply ACont_exit)|(apply ABlock_exit)
  | (refine W.cond _ rfl (fun hb => ?_) (fun hb => ?_) <;> ((try simp only [hb, Bool.not_true, Bool.not_false]) <;> (try simp only [decide_eq_true_eq, decide_eq_false_iff_not, Bool.not_eq_true', Bool.not_eq_false', Int.not_lt, Int.not_le, List.length_map, not_true_eq_false] at hb) <;> (try (exfalso; omega))))))
      exact ⟨.inl rfl, [], [bV true], rfl, rfl, ⟨rfl, trivial⟩, AVle.of_eq rfl, rfl⟩
  · have hne : a ≠ b := fun e => hl (by rw [e])
    rw [decide_eq_false hne]
    (repeat' (first
  | (apply W.qd; (first
    | (apply q_mv; (first|exact vD|exact vO|exact vP|exact vA|exact vF|exact vR|exact vN|exact vY|exact vT|exact vM|exact vX))|(apply q_as; (first|exact vD|exact vO|exact vP|exact vA|exact vF|exact vR|exact vN|exact vY|exact vT|exact vM|exact vX))|(apply q_neq; exact rfl; exact rfl)
    | (apply q_len_sl; exact rfl; exact rfl)))|(apply AWP.seq)|(apply ACont_normal)|(apply W.region; kernel_rfl)|(apply Walk.nil)|(apply AWP.ret)|(apply ACont_ret)
  | (refine W.cond _ rfl (fun hb => ?_) (fun hb => ?_) <;> ((try simp only [hb, Bool.not_true, Bool.not_false]) <;> (try simp only [decide_eq_true_eq, decide_eq_false_iff_not, Bool.not_eq_true', Bool.not_eq_false', Int.not_lt, Int.not_le, List.length_map, not_true_eq_false] at hb) <;> (try (exfalso; omega))))))
    exact ⟨.inl rfl, [], [bV false], rfl, rfl, ⟨rfl, trivial⟩, AVle.of_eq rfl, rfl⟩
end Go.Proofs.YtilpljehfcpjeaaDoor
end
section
/- The reference of layer 8: Generator, Encode. -/
namespace Go.Proofs.YtilpljehfcpjeaaDoor
open Go.RowKit
set_option linter.unusedSectionVars false
set_option maxHeartbeats 4000000
set_option maxRecDepth 100000
theorem ACalls.leR {P : Program} {f : FuncId} {args : List AV} {r r' : AV} {own own' : List Ent} (h : ACalls P f args own r own') (hle : AVle r r') : ACalls P f args own r' own' := fun F κ w vs ho hs =>
  (h F κ w vs ho hs).mono fun e w' ⟨v, κ', h1, h2, h3, h4⟩ => ⟨v, κ', h1, hle _ _ _ _ _ h2, h3, h4⟩
attribute [local irreducible] Quiet Eff OpOk AWPG ACont ABlock ACalls AGoto
theorem A_r8enc_bad {M D : Int} {par : List (List Int)} {us : List (List Nat)} (hD : D ≤ 1000000) (hP : par.length ≤ 1000000) (h : ¬ (validC M D par = true ∧ (us.length : Int) = D)) : ACalls Tryd.prog 15 [cdA M D par, strs us] [] (.tup [strs [], iV 1]) [] := by
  refine acalls_of_bodyO Tryd.func15 rfl (Nat.le_of_ble_eq_true rfl) ?_
  have h0 := A_r8valid (M := M) hD hP
  have hml : (us.map sD).length = us.length := List.length_map _
  cases hv : validC M D par <;> rw [hv] at h0
  · (repeat' (first
  | (apply W.qd; (first
    | (apply (q_callC (h0)); exact rfl; exact rfl; kernel_rfl; kernel_rfl; kernel_rfl)|(apply q_mv; (first|exact vD|exact vO|exact vP|exact vA|exact vF|exact vR|exact vN|exact vY|exact vT|exact vM|exact vX))|(apply q_as; (first|exact vD|exact vO|exact vP|exact vA|exact vF|exact vR|exact vN|exact vY|exact vT|exact vM|exact vX))|(apply q_ld_boxF; exact rfl; exact rfl; exact rfl; exact rfl)|(apply q_not; exact rfl)
    | (apply (q_pickT (u := .d _)); exact rfl; exact rfl)))|(apply W.ed; (apply e_boxF; exact rfl; exact rfl; exact rfl; kernel_rfl; kernel_rfl))|(refine W.gOff _ _ rfl rfl (by intro h; cases h) ?_)|(apply AWP.seq)|(apply ACont_normal)|(apply W.region; kernel_rfl)|(apply Walk.nil)|(apply AWP.ret)|(apply ACont_ret)
  | (apply W.condT; exact rfl)))
    all_goals exact EndsO.bad2 rfl rfl rfl rfl
  · have hne : ¬ (us.length : Int) = D := fun e => h ⟨hv, e⟩
    (repeat' (first
  | (apply W.gOn; exact rfl; exact rfl)
  | (apply W.qd; (first
    | (apply (q_callC (h0)); exact rfl; exact rfl; kernel_rfl; kernel_rfl; kernel_rfl)|(apply q_mv; (first|exact vD|exact vO|exact vP|exact vA|exact vF|exact vR|exact vN|exact vY|exact vT|exact vM|exact vX))|(apply q_as; (first|exact vD|exact vO|exact vP|exact vA|exact vF|exact vR|exact vN|exact vY|exact vT|exact vM|exact vX))|(apply q_fld_optF; exact rfl; exact rfl; exact rfl)|(apply q_ld_box; exact rfl; exact rfl; exact rfl; exact rfl)|(apply q_ld_boxF; exact rfl; exact rfl; exact rfl; exact rfl)|(apply q_neq; exact rfl; exact rfl)|(apply q_not; exact rfl)|(apply q_len_sl; exact rfl; exact rfl)
    | (apply (q_pickF (u := .d _)); exact rfl; exact rfl)))|(apply W.ed; (apply e_boxF; exact rfl; exact rfl; exact rfl; kernel_rfl; kernel_rfl))|(apply AWP.seq)|(apply ACont_normal)|(apply W.region; kernel_rfl)|(apply Walk.nil)|(apply AWP.ret)|(apply ACont_ret)
  | (refine W.cond _ rfl (fun hb => ?_) (fun hb => ?_) <;> ((try simp only [hb, Bool.not_true, Bool.not_false]) <;> (try simp only [decide_eq_true_eq, decide_eq_false_iff_not, Bool.not_eq_true', Bool.not_eq_false', Int.not_lt, Int.not_le, List.length_map, not_true_eq_false] at hb) <;> (try (exfalso; omega))))))
    all_goals exact EndsO.bad2 rfl rfl rfl rfl
theorem A_r8enc {M D : Nat} {ps us : List (List Nat)} (h : CodeOk M D ps) (hl : us.length = D) (hu : ∀ u ∈ us, isB u ∧ u.length ≤ 64) : ACalls Tryd.prog 15 [cdN M D ps, strs us] [] (if uniB M us then .tup [strs (encN M ps us), iV 0] else .tup [strs [], iV 1]) [] := by
  refine acalls_of_bodyO Tryd.func15 rfl (Nat.le_of_ble_eq_true rfl) ?_
  have h1 := h.d
  have h2 := h.w
  have hpl : (toZ ps).length = ps.length := List.length_map _
  have h0 := A_r8valid (M := M) (D := D) (par := toZ ps) (by omega) (by omega)
  rw [valid_ok h, ← cdN_A] at h0
  have hml : (us.map sD).length = us.length := List.length_map _
  have hmp : (ps.map rnD).length = ps.length := List.length_map _
  have hd : us.headD [] = us[0]'(by omega) := by cases us with | nil => simp at hl; omega | cons a t => rfl
  have hM := h.f
  have hq : ∀ k (h : k < us.length), uniQ M us us[k] = decide ((us[k].length = (us[0]'(by omega)).length ∧ (M = 8 ∨ us[k].length % 2 = 0))) := fun k hk => by
    unfold uniQ
    rw [hd, Bool.eq_iff_iff]
    simp only [Bool.and_eq_true, Bool.or_eq_true, decide_eq_true_eq]
    omega
  have hB : ∀ k (h : k < us.length), uniQ M us us[k] = false → uniB M us = false := fun k hk e => List.all_eq_false.2 ⟨us[k], List.getElem_mem hk, by rw [e]; decide⟩
  have hT : (∀ u ∈ us, uniQ M us u = true) → uniB M us = true := fun h => List.all_eq_true.2 h
  have hlen : ∀ k (h : k < us.length), us[k].length ≤ 64 := fun k hk => (hu _ (List.getElem_mem hk)).2
  have hlen0 := hlen 0 (by omega)
  have hok : uniB M us = true → ∀ u ∈ us, isB u ∧ u.length = (us.headD []).length := fun e u hx => ⟨(hu u hx).1, (uni_ok hM e (by omega)).1 u hx⟩
  have hfit : uniB M us = true → FitM M (us.headD []).length := fun e => (uni_ok hM e (by omega)).2
  (repeat' (first
  | (apply W.gOn; exact rfl; exact rfl)|(apply W.ed; (apply e_lit0F; exact rfl; exact rfl; exact rfl; exact rfl; exact rfl))
  | (apply W.qd; (first
    | (apply (q_callC (h0)); exact rfl; exact rfl; kernel_rfl; kernel_rfl; kernel_rfl)|(apply q_mv; (first|exact vD|exact vO|exact vP|exact vA|exact vF|exact vR|exact vN|exact vY|exact vT|exact vM|exact vX))|(apply q_as; (first|exact vD|exact vO|exact vP|exact vA|exact vF|exact vR|exact vN|exact vY|exact vT|exact vM|exact vX))|(apply q_fld_optF; exact rfl; exact rfl; exact rfl)|(apply q_ld_box; exact rfl; exact rfl; exact rfl; exact rfl)|(apply q_ld_boxF; exact rfl; exact rfl; exact rfl; exact rfl)|(apply q_neq; exact rfl; exact rfl)|(apply q_not; exact rfl)|(apply q_len_sl; exact rfl; exact rfl)
    | (apply (q_pickF (u := .d _)); exact rfl; exact rfl)))
  | (apply W.ed; (first
    | (apply e_boxF; exact rfl; exact rfl; exact rfl; kernel_rfl; kernel_rfl)
    | (apply e_appF; exact rfl; exact rfl; exact rfl; exact rfl; exact rfl; exact rfl; exact rfl; exact rfl; (first | rfl | simp); (first | exact Nat.zero_lt_one | (focus (simp; done)) | omega); (first | (focus (simp; done)) | (focus (simp; omega)) | omega))))|(apply AWP.seq)|(apply ACont_normal)|(apply W.region; kernel_rfl)|(apply Walk.nil)|(apply AWP.block)|(apply AWP.skip)
  | (refine W.cond _ rfl (fun hb => ?_) (fun hb => ?_) <;> ((try simp only [hb, Bool.not_true, Bool.not_false]) <;> (try simp only [decide_eq_true_eq, decide_eq_false_iff_not, Bool.not_eq_true', Bool.not_eq_false', Int.not_lt, Int.not_le, List.length_map, not_true_eq_false] at hb) <;> (try (exfalso; omega))))))
  refine AWP.loopW (α := Nat) (fun k => k ≤ us.length ∧ ∀ u ∈ us.take k, uniQ M us u = true) (fun k => ⟨[(8, iV k), (7, .osl 1 1 0 us.length), (1, strs us), (2, .opt 0 0)], [.box [.d .any, iV M, iV D, rowsN ps, .d .any], .row 1 1 9 (us.map sD)]⟩) (fun k => us.length - k) 0 ⟨by omega, by simp⟩ ?wk0 fun k hk => ?_
  case wk0 => exact ⟨[0, 1], rfl, rfl, rfl, rfl, congrArg (AV.osl 1 1 0) (by simp), rfl, rfl, trivial⟩
  by_cases hkl : k < us.length
  · have q1 := hq k hkl
    have q2 := hlen k hkl
    by_cases hgood : us[k].length = (us[0]'(by omega)).length ∧ (M = 8 ∨ us[k].length % 2 = 0)
    · rw [decide_eq_true hgood] at q1
      (repeat' (first
  | (apply W.gOn; exact rfl; exact rfl)
  | (apply W.qd; (first
    | (apply q_mv; (first|exact vD|exact vO|exact vP|exact vA|exact vF|exact vR|exact vN|exact vY|exact vT|exact vM|exact vX))|(apply q_as; (first|exact vD|exact vO|exact vP|exact vA|exact vF|exact vR|exact vN|exact vY|exact vT|exact vM|exact vX))|(apply q_fld_optF; exact rfl; exact rfl; exact rfl)|(apply q_ld_box; exact rfl; exact rfl; exact rfl; exact rfl)|(apply q_lss; exact rfl; exact rfl)|(apply q_eql; exact rfl; exact rfl)|(apply q_neq; exact rfl; exact rfl)|(apply q_add; exact rfl; exact rfl; omega)|(apply q_rem; exact rfl; exact rfl; omega; omega)|(apply q_len_sl; exact rfl; exact rfl)|(apply q_len_bs; exact rfl; exact rfl)|(apply q_ld_map; exact rfl; exact rfl; exact rfl; (first | omega | (focus (simp; done))))|(apply q_ix_slF; exact rfl; exact rfl; exact rfl; exact rfl; (first | (with_reducible exact rfl) | exact natI_spec rfl | assumption | exact (Int.toNat_of_nonneg (by omega)).symm); (first | omega | (focus (simp only [List.length_map]; omega)) | (focus (simp; done)) | (focus (simp; omega))))|(apply (q_pickT (u := .d _)); exact rfl; exact rfl)
    | (apply (q_pickF (u := .d _)); exact rfl; exact rfl)))|(refine W.gOff _ _ rfl rfl (by intro h; cases h) ?_)|(apply AWP.seq)|(apply ACont_normal)|(apply W.region; kernel_rfl)|(apply W.regionD; exact rfl; kernel_rfl)|(apply Walk.nil)|(apply W.chk; kernel_rfl)|(apply AWP.block)|(apply AWP.skip)|(apply ABlock_normal)|(apply W.condF; exact rfl)|(refine W.gT _ _ rfl rfl (fun hb => ?_) (fun hb => ?_) <;> ((try simp only [hb, Bool.not_true, Bool.not_false]) <;> (try simp only [decide_eq_true_eq, decide_eq_false_iff_not, Bool.not_eq_true', Bool.not_eq_false', Int.not_lt, Int.not_le, List.length_map, not_true_eq_false] at hb) <;> (try (exfalso; omega))))|(refine W.gF _ _ rfl rfl (fun hb => ?_) (fun hb => ?_) <;> ((try simp only [hb, Bool.not_true, Bool.not_false]) <;> (try simp only [decide_eq_true_eq, decide_eq_false_iff_not, Bool.not_eq_true', Bool.not_eq_false', Int.not_lt, Int.not_le, List.length_map, not_true_eq_false] at hb) <;> (try (exfalso; omega))))
  | (refine W.cond _ rfl (fun hb => ?_) (fun hb => ?_) <;> ((try simp only [hb, Bool.not_true, Bool.not_false]) <;> (try simp only [decide_eq_true_eq, decide_eq_false_iff_not, Bool.not_eq_true', Bool.not_eq_false', Int.not_lt, Int.not_le, List.length_map, not_true_eq_false] at hb) <;> (try (exfalso; omega))))))
      all_goals
        refine ⟨k + 1, ⟨by omega, fun u hx => ?_⟩, by omega, [0, 1], rfl, rfl, rfl, iV_eq (by omega), rfl, rfl, rfl, trivial⟩
        rw [List.take_succ_eq_append_getElem hkl] at hx
        rcases List.mem_append.1 hx with hx | hx
        · exact hk.2 u hx
        · rw [List.mem_singleton.1 hx]; exact q1
    · rw [decide_eq_false hgood] at q1
      rw [hB k hkl q1]
      have hM2 : M = 8 ∨ M = 16 := hM
      (repeat' (first
  | (apply W.gOn; exact rfl; exact rfl)
  | (apply W.qd; (first
    | (apply q_mv; (first|exact vD|exact vO|exact vP|exact vA|exact vF|exact vR|exact vN|exact vY|exact vT|exact vM|exact vX))|(apply q_as; (first|exact vD|exact vO|exact vP|exact vA|exact vF|exact vR|exact vN|exact vY|exact vT|exact vM|exact vX))|(apply q_fld_optF; exact rfl; exact rfl; exact rfl)|(apply q_ld_box; exact rfl; exact rfl; exact rfl; exact rfl)|(apply q_lss; exact rfl; exact rfl)|(apply q_eql; exact rfl; exact rfl)|(apply q_neq; exact rfl; exact rfl)|(apply q_rem; exact rfl; exact rfl; omega; omega)|(apply q_len_sl; exact rfl; exact rfl)|(apply q_len_bs; exact rfl; exact rfl)|(apply q_ld_map; exact rfl; exact rfl; exact rfl; (first | omega | (focus (simp; done))))|(apply q_ix_slF; exact rfl; exact rfl; exact rfl; exact rfl; (first | (with_reducible exact rfl) | exact natI_spec rfl | assumption | exact (Int.toNat_of_nonneg (by omega)).symm); (first | omega | (focus (simp only [List.length_map]; omega)) | (focus (simp; done)) | (focus (simp; omega))))|(apply (q_pickT (u := .d _)); exact rfl; exact rfl)
    | (apply (q_pickF (u := .d _)); exact rfl; exact rfl)))|(refine W.gOff _ _ rfl rfl (by intro h; cases h) ?_)|(apply AWP.seq)|(apply ACont_normal)|(apply W.region; kernel_rfl)|(apply W.regionD; exact rfl; kernel_rfl)|(apply Walk.nil)|(apply W.chk; kernel_rfl)|(apply AWP.block)|(apply AWP.skip)|(apply AWP.ret)|(apply ACont_ret)|(apply ABlock_ret)|(apply W.condT; exact rfl)|(refine W.gT _ _ rfl rfl (fun hb => ?_) (fun hb => ?_) <;> ((try simp only [hb, Bool.not_true, Bool.not_false]) <;> (try simp only [decide_eq_true_eq, decide_eq_false_iff_not, Bool.not_eq_true', Bool.not_eq_false', Int.not_lt, Int.not_le, List.length_map, not_true_eq_false] at hb) <;> (try (exfalso; omega))))|(refine W.gF _ _ rfl rfl (fun hb => ?_) (fun hb => ?_) <;> ((try simp only [hb, Bool.not_true, Bool.not_false]) <;> (try simp only [decide_eq_true_eq, decide_eq_false_iff_not, Bool.not_eq_true', Bool.not_eq_false', Int.not_lt, Int.not_le, List.length_map, not_true_eq_false] at hb) <;> (try (exfalso; omega))))
  | (refine W.cond _ rfl (fun hb => ?_) (fun hb => ?_) <;> ((try simp only [hb, Bool.not_true, Bool.not_false]) <;> (try simp only [decide_eq_true_eq, decide_eq_false_iff_not, Bool.not_eq_true', Bool.not_eq_false', Int.not_lt, Int.not_le, List.length_map, not_true_eq_false] at hb) <;> (try (exfalso; omega))))))
      all_goals exact EndsO.bad2 rfl rfl rfl rfl
  · have hU := hT fun u hx => hk.2 u (by rwa [List.take_of_length_le (by omega)])
    rw [hU, if_pos rfl]
    have hn := hok hU
    have he := hfit hU
    have hn64 : (us.headD []).length ≤ 64 := by rw [hd]; exact hlen0
    have hen : encN M ps us = us ++ ps.map fun r => combM M (us.headD []).length r us (List.replicate (us.headD []).length 0) := rfl
    rw [hen]
    clear hq hB hT hlen hlen0 hok hfit hen hd
    generalize (us.headD []).length = n at *
    (repeat' (first
  | (apply W.qd; (first
    | (apply q_mv; (first|exact vD|exact vO|exact vP|exact vA|exact vF|exact vR|exact vN|exact vY|exact vT|exact vM|exact vX))|(apply q_as; (first|exact vD|exact vO|exact vP|exact vA|exact vF|exact vR|exact vN|exact vY|exact vT|exact vM|exact vX))|(apply q_lss; exact rfl; exact rfl)
    | (apply q_len_sl; exact rfl; exact rfl)))|(apply AWP.seq)|(apply ACont_normal)|(apply W.region; kernel_rfl)|(apply Walk.nil)|(apply AWP.block)|(apply AWP.exit)|(apply ACont_exit)|(apply ABlock_exit)
  | (refine W.cond _ rfl (fun hb => ?_) (fun hb => ?_) <;> ((try simp only [hb, Bool.not_true, Bool.not_false]) <;> (try simp only [decide_eq_true_eq, decide_eq_false_iff_not, Bool.not_eq_true', Bool.not_eq_false', Int.not_lt, Int.not_le, List.length_map, not_true_eq_false] at hb) <;> (try (exfalso; omega))))))
    refine AWP.loopW (α := Nat) (fun k => k ≤ ps.length) (fun k => ⟨[(9, iV k), (1, strs us), (7, .osl 1 (k + 1) 0 (us ++ (ps.take k).map fun r => combM M n r us (List.replicate n 0)).length), (2, .opt 0 0)], [.box [.d .any, iV M, iV D, rowsN ps, .d .any], .row (k + 1) 1 9 ((us ++ (ps.take k).map fun r => combM M n r us (List.replicate n 0)).map sD)]⟩) (fun k => ps.length - k) 0 (by omega) ?wk1 fun k hk => ?_
    case wk1 =>
      rw [show (us ++ (ps.take 0).map fun r => combM M n r us (List.replicate n 0)) = us by simp]
      exact ⟨[0, 1], rfl, rfl, rfl, by (repeat (first | exact trivial | refine ⟨rfl, ?_⟩))⟩
    by_cases hkl : k < ps.length
    · have hr := h.row ps[k] (List.getElem_mem _)
      have hcomb := A_rcombine (cs := ps[k]) (us := us) hM he (by rw [hr.1, hl]) (by omega) hr.2.1 hn (by omega) (by omega)
      have h5 : (ps.take (k + 1)).map (fun r => combM M n r us (List.replicate n 0)) = (ps.take k).map (fun r => combM M n r us (List.replicate n 0)) ++ [combM M n ps[k] us (List.replicate n 0)] := by
        rw [← List.take_append_getElem hkl, List.map_append]; rfl
      have h6 : us ++ (ps.take (k + 1)).map (fun r => combM M n r us (List.replicate n 0)) = (us ++ (ps.take k).map (fun r => combM M n r us (List.replicate n 0))) ++ [combM M n ps[k] us (List.replicate n 0)] := by rw [h5, List.append_assoc]
      have hl2 : (us ++ (ps.take k).map (fun r => combM M n r us (List.replicate n 0))).length ≤ 1024 := by simp; omega
      clear h5
      replace h6 := Lib.hid h6
      generalize combM M n ps[k] us (List.replicate n 0) = R at *
      generalize us ++ (ps.take k).map (fun r => combM M n r us (List.replicate n 0)) = A at *
      clear hr
      (repeat' (first
  | (apply W.qd; (first
    | (apply (q_callC (hcomb)); exact rfl; exact rfl; kernel_rfl; kernel_rfl; kernel_rfl)|(apply q_mv; (first|exact vD|exact vO|exact vP|exact vA|exact vF|exact vR|exact vN|exact vY|exact vT|exact vM|exact vX))|(apply q_as; (first|exact vD|exact vO|exact vP|exact vA|exact vF|exact vR|exact vN|exact vY|exact vT|exact vM|exact vX))|(apply q_fld_optF; exact rfl; exact rfl; exact rfl)|(apply q_ld_box; exact rfl; exact rfl; exact rfl; exact rfl)|(apply q_lss; exact rfl; exact rfl)|(apply q_add; exact rfl; exact rfl; omega)|(apply q_extract; exact rfl; exact rfl)|(apply q_len_sl; exact rfl; exact rfl)|(apply q_ld_map; exact rfl; exact rfl; exact rfl; (first | omega | (focus (simp; done))))|(apply q_litF; exact rfl; exact rfl; exact rfl; exact rfl; exact rfl; kernel_rfl; kernel_rfl; exact rfl)
    | (apply q_ix_slF; exact rfl; exact rfl; exact rfl; exact rfl; (first | (with_reducible exact rfl) | exact natI_spec rfl | assumption | exact (Int.toNat_of_nonneg (by omega)).symm); (first | omega | (focus (simp only [List.length_map]; omega)) | (focus (simp; done)) | (focus (simp; omega))))))|(apply W.ld; (apply l_app1; exact rfl; exact rfl; exact rfl; exact rfl; exact rfl; exact rfl; exact rfl; exact rfl; (first | omega | (focus (simp; omega)) | (focus (simp; done)))))|(apply AWP.seq)|(apply ACont_normal)|(apply W.region; kernel_rfl)|(apply W.regionD; exact rfl; kernel_rfl)|(apply Walk.nil)|(apply W.chk; kernel_rfl)|(apply AWP.block)|(apply AWP.skip)|(apply ABlock_normal)
  | (refine W.cond _ rfl (fun hb => ?_) (fun hb => ?_) <;> ((try simp only [hb, Bool.not_true, Bool.not_false]) <;> (try simp only [decide_eq_true_eq, decide_eq_false_iff_not, Bool.not_eq_true', Bool.not_eq_false', Int.not_lt, Int.not_le, List.length_map, not_true_eq_false] at hb) <;> (try (exfalso; omega))))))
      refine ⟨k + 1, by omega, by omega, ?_⟩
      rw [h6.out]
      exact ⟨[0, 1], rfl, rfl, rfl, iV_eq (by omega), rfl, congrArg (AV.osl 1 (k + 1 + 1) 0) (by simp), rfl, trivial⟩
    · have e : k = ps.length := by omega
      subst e
      rw [List.take_length]
      have hl2 : (us ++ ps.map fun r => combM M n r us (List.replicate n 0)).length ≤ 1024 := by simp; omega
      generalize us ++ ps.map (fun r => combM M n r us (List.replicate n 0)) = A at *
      (repeat' (first
  | (apply W.qd; (first
    | (apply q_mv; (first|exact vD|exact vO|exact vP|exact vA|exact vF|exact vR|exact vN|exact vY|exact vT|exact vM|exact vX))|(apply q_as; (first|exact vD|exact vO|exact vP|exact vA|exact vF|exact vR|exact vN|exact vY|exact vT|exact vM|exact vX))|(apply q_fld_optF; exact rfl; exact rfl; exact rfl)|(apply q_ld_box; exact rfl; exact rfl; exact rfl; exact rfl)|(apply q_lss; exact rfl; exact rfl)
    | (apply q_len_sl; exact rfl; exact rfl)))|(apply AWP.seq)|(apply ACont_normal)|(apply W.region; kernel_rfl)|(apply Walk.nil)|(apply AWP.exit)|(apply AWP.ret)|(apply ACont_exit)|(apply ABlock_exit)
  | (refine W.cond _ rfl (fun hb => ?_) (fun hb => ?_) <;> ((try simp only [hb, Bool.not_true, Bool.not_false]) <;> (try simp only [decide_eq_true_eq, decide_eq_false_iff_not, Bool.not_eq_true', Bool.not_eq_false', Int.not_lt, Int.not_le, List.length_map, not_true_eq_false] at hb) <;> (try (exfalso; omega))))))
      refine ⟨.inl rfl, [], [.osl 1 (ps.length + 1) 0 A.length, iV 0], rfl, rfl, ⟨rfl, rfl, trivial⟩, AVle.tup2 (AVle.of_eq (frz_rowJ rfl rfl (by simp))) (AVle.of_eq rfl), rfl⟩
end Go.Proofs.YtilpljehfcpjeaaDoor
end
section
/- Sums of multiples of units that do not fit: package field and its reference. -/
namespace Go.Proofs.YtilpljehfcpjeaaDoor
open Go.RowKit
set_option maxHeartbeats 4000000
set_option maxRecDepth 100000
def fitC (M : Nat) (cs : List Int) (us : List (List Nat)) : Prop := 0 < cs.length ∧ (∀ x ∈ cs, inF M x = true) ∧ FitM M (us.headD []).length ∧ ∀ u ∈ us, u.length = (us.headD []).length
instance decFit (M n : Nat) : Decidable (FitM M n) := by unfold FitM; infer_instance
instance decFitC (M : Nat) (cs : List Int) (us : List (List Nat)) : Decidable (fitC M cs us) := by unfold fitC; infer_instance
attribute [local irreducible] Quiet Eff OpOk AWPG ACont ABlock ACalls AGoto
end Go.Proofs.YtilpljehfcpjeaaDoor
end
section
/- Repair: checks, their terms, plans: plain law. -/
namespace Go.Proofs.YtilpljehfcpjeaaDoor
open Go.RowKit
set_option linter.unusedSectionVars false
def coefN (row : List Nat) (D k : Nat) : Nat := if k < D then row.getD k 0 else 1
def dataC (D : Nat) (row : List Nat) (n : Nat) : List Nat := (List.range n).filter fun j => row.getD j 0 != 0
theorem dataC_succ (D : Nat) (row : List Nat) (n : Nat) : dataC D row (n + 1) = if row.getD n 0 = 0 then dataC D row n else dataC D row n ++ [n] := by
  unfold dataC
  rw [List.range_succ, List.filter_append]
  by_cases h : row.getD n 0 = 0
  · rw [if_pos h]; simp only [List.filter_cons, h]; simp
  · have h2 : (row.getD n 0 != 0) = true := by simpa using h
    rw [if_neg h]; simp only [List.filter_cons, h2, if_true, List.filter_nil]
theorem dataC_length (D : Nat) (row : List Nat) (n : Nat) : (dataC D row n).length ≤ n := Nat.le_trans (List.length_filter_le _ _) (by simp)
def checkN (D i : Nat) (row : List Nat) : List Nat := dataC D row D ++ [D + i]
theorem checkN_length (D i : Nat) (row : List Nat) : (checkN D i row).length ≤ D + 1 := by
  have := dataC_length D row D
  simp [checkN]; omega
theorem mem_dataC {D j n : Nat} {row : List Nat} : j ∈ dataC D row n ↔ j < n ∧ row.getD j 0 ≠ 0 := by
  unfold dataC
  rw [List.mem_filter, List.mem_range, bne_iff_ne]
theorem check_inc (D i : Nat) (row : List Nat) : (checkN D i row).Pairwise (· < ·) := by
  unfold checkN
  refine List.pairwise_append.2 ⟨List.Pairwise.filter _ List.pairwise_lt_range, List.pairwise_singleton _ _, fun a ha b hb => ?_⟩
  have := (mem_dataC.1 ha).1
  rw [List.mem_singleton.1 hb]; omega
def ctermsN (M D : Nat) (row l : List Nat) (u : Nat) : List (Nat × Nat) := (l.filter fun k => k != u).map fun k => (k, mu M (coefN row D k) (invN M (coefN row D u)))
section
variable {M D : Nat} {ps : List (List Nat)} (h : CodeOk M D ps)
include h
theorem coef_ok {i k : Nat} (hi : i < ps.length) (hk : k ∈ checkN D i (ps.getD i [])) : k < D + ps.length ∧ coefN (ps.getD i []) D k < 2 ^ M ∧ coefN (ps.getD i []) D k ≠ 0 := by
  have hr := h.row _ (List.getElem_mem hi)
  have e : ps.getD i [] = ps[i] := by rw [List.getD_eq_getElem?_getD, List.getElem?_eq_getElem hi]; rfl
  rw [e] at hk ⊢
  unfold checkN at hk
  rcases List.mem_append.1 hk with hk | hk
  · obtain ⟨h1, h2⟩ := mem_dataC.1 hk
    unfold coefN
    rw [if_pos h1]
    exact ⟨by omega, getD_lt hr.2.1 _, h2⟩
  · rw [List.mem_singleton.1 hk]
    unfold coefN
    rw [if_neg (by omega)]
    exact ⟨by omega, one_lt h.f, by decide⟩
theorem check_zero {i x : Nat} (hi : i < ps.length) (hx : x < D) : lx (fun k => mu M (coefN (ps.getD i []) D k) (U D (genN D ps) k x)) (checkN D i (ps.getD i [])) = 0 := by
  have hM := h.f
  have hr := h.row _ (List.getElem_mem hi)
  have e : ps.getD i [] = ps[i] := by rw [List.getD_eq_getElem?_getD, List.getElem?_eq_getElem hi]; rfl
  have hu : ∀ k, U D (genN D ps) k x < 2 ^ M := fun k => U_all h k x hx
  unfold checkN
  rw [lx_append]
  have e1 : lx (fun k => mu M (coefN (ps.getD i []) D k) (U D (genN D ps) k x)) [D + i] = (ps.getD i []).getD x 0 := by
    show mu M (coefN (ps.getD i []) D (D + i)) (U D (genN D ps) (D + i) x) ^^^ 0 = _
    unfold coefN
    rw [if_neg (by omega), one_mu hM (hu _), Nat.xor_zero, U_par h hi hx]
  have e2 : ∀ n, n ≤ D → lx (fun k => mu M (coefN (ps.getD i []) D k) (U D (genN D ps) k x)) (dataC D (ps.getD i []) n) = if x < n then (ps.getD i []).getD x 0 else 0 := by
    intro n
    induction n with
    | zero => intro _; rfl
    | succ n ih =>
      intro hn
      rw [dataC_succ]
      have hUn := U_data (ps := ps) (show n < D by omega) hx
      by_cases hz : (ps.getD i []).getD n 0 = 0
      · rw [if_pos hz, ih (by omega)]
        by_cases hxn : x = n
        · subst hxn; rw [if_neg (by omega), if_pos (by omega), hz]
        · by_cases hlt : x < n
          · rw [if_pos hlt, if_pos (by omega)]
          · rw [if_neg hlt, if_neg (by omega)]
      · rw [if_neg hz, lx_append, ih (by omega)]
        show _ ^^^ (mu M (coefN (ps.getD i []) D n) (U D (genN D ps) n x) ^^^ 0) = _
        rw [Nat.xor_zero, hUn]
        unfold coefN eu'
        rw [if_pos (show n < D by omega)]
        by_cases hxn : x = n
        · subst hxn
          rw [if_neg (by omega), if_pos rfl, if_pos (by omega), Nat.zero_xor]
          exact mu_one hM (by rw [e]; exact getD_lt hr.2.1 _)
        · rw [if_neg hxn, mu_zero, Nat.xor_zero]
          by_cases hlt : x < n
          · rw [if_pos hlt, if_pos (by omega)]
          · rw [if_neg hlt, if_neg (by omega)]
  rw [e1, e2 D (Nat.le_refl _), if_pos hx, Nat.xor_self]
omit h in
theorem lx_out {f : Nat → Nat} {u : Nat} : ∀ {l : List Nat}, l.Nodup → u ∈ l → lx f l = f u ^^^ lx f (l.filter fun k => k != u)
  | [], _, h => by simp at h
  | a :: l, hn, h => by
    obtain ⟨h1, h2⟩ := List.nodup_cons.1 hn
    by_cases e : a = u
    · subst e
      have e3 : (a :: l).filter (fun k => k != a) = l := by
        rw [List.filter_cons_of_neg (by simp)]
        refine List.filter_eq_self.2 fun b hb => ?_
        have : b ≠ a := fun e2 => h1 (e2 ▸ hb)
        simpa using this
      rw [e3]; rfl
    · have h3 : u ∈ l := by
        rcases List.mem_cons.1 h with h | h
        · exact absurd h.symm e
        · exact h
      rw [List.filter_cons_of_pos (by simpa using e), lx, lx, lx_out h2 h3, ← Nat.xor_assoc, ← Nat.xor_assoc, Nat.xor_comm (f a) (f u)]
omit h in
theorem lx_map {α β : Type} (f : β → Nat) (g : α → β) : ∀ l : List α, lx f (l.map g) = lx (fun a => f (g a)) l
  | [] => rfl
  | a :: l => by rw [List.map_cons, lx, lx, lx_map f g l]
omit h in
theorem lx_mu {M : Nat} {α : Type} (c : Nat) (f : α → Nat) : ∀ l : List α, lx (fun a => mu M c (f a)) l = mu M c (lx f l)
  | [] => (mu_zero c).symm
  | a :: l => by rw [lx, lx, lx_mu c f l, mu_xor]
theorem cterms_sound {i u : Nat} (hi : i < ps.length) (hu : u ∈ checkN D i (ps.getD i [])) : Sound M D ps u (ctermsN M D (ps.getD i []) (checkN D i (ps.getD i [])) u) := fun x hx => by
  have hM := h.f
  have hz := check_zero h hi hx
  have hnd : (checkN D i (ps.getD i [])).Nodup := (check_inc D i (ps.getD i [])).imp fun {a b} hab => by omega
  rw [lx_out hnd hu] at hz
  obtain ⟨c1, c2, c3⟩ := coef_ok h hi hu
  obtain ⟨v1, v2⟩ := inv_mu hM c3 c2
  have hvl : invN M (coefN (ps.getD i []) D u) < 2 ^ M := invN_lt _
  have hUl : ∀ k, U D (genN D ps) k x < 2 ^ M := fun k => U_all h k x hx
  have e := eq_of_xor hz
  unfold ctermsN
  rw [lx_map]
  have e2 : lx (fun k => mu M (mu M (coefN (ps.getD i []) D k) (invN M (coefN (ps.getD i []) D u))) (U D (genN D ps) k x)) ((checkN D i (ps.getD i [])).filter fun k => k != u) = mu M (invN M (coefN (ps.getD i []) D u)) (lx (fun k => mu M (coefN (ps.getD i []) D k) (U D (genN D ps) k x)) ((checkN D i (ps.getD i [])).filter fun k => k != u)) := by
    rw [← lx_mu]
    refine lx_congr fun k hk => ?_
    obtain ⟨d1, d2, d3⟩ := coef_ok h hi (List.mem_filter.1 hk).1
    rw [mu_comm hM d2 hvl, mu_assoc hM hvl d2 (hUl k)]
  exact e2.trans (by rw [← e, ← mu_assoc hM hvl c2 (hUl u), v1, one_mu hM (hUl u)])
theorem cterms_ok {i u : Nat} (hi : i < ps.length) (hu : u ∈ checkN D i (ps.getD i [])) : (∀ t ∈ ctermsN M D (ps.getD i []) (checkN D i (ps.getD i [])) u, t.2 < 2 ^ M ∧ t.2 ≠ 0 ∧ t.1 ≠ u ∧ t.1 ∈ checkN D i (ps.getD i [])) ∧ (ctermsN M D (ps.getD i []) (checkN D i (ps.getD i [])) u).Pairwise fun a b => a.1 < b.1 := by
  have hM := h.f
  refine ⟨fun t ht => ?_, ?_⟩
  · obtain ⟨k, hk, rfl⟩ := List.mem_map.1 ht
    obtain ⟨k1, k2⟩ := List.mem_filter.1 hk
    obtain ⟨c1, c2, c3⟩ := coef_ok h hi hu
    obtain ⟨d1, d2, d3⟩ := coef_ok h hi k1
    obtain ⟨v1, v2⟩ := inv_mu hM c3 c2
    refine ⟨mu_lt hM d2 _, fun e => ?_, by simpa using k2, k1⟩
    have hvl : invN M (coefN (ps.getD i []) D u) < 2 ^ M := invN_lt _
    have hv0 := mu_eq_zero hM d2 hvl d3 e
    rw [hv0, zero_mu] at v1
    cases v1
  · unfold ctermsN
    rw [List.pairwise_map]
    exact (check_inc D i (ps.getD i [])).filter _
theorem sound_sp {hv : List Bool} {u : Nat} {l : List (Nat × Nat)} (hs : Sound M D ps u l) (hl : ∀ t ∈ l, t.2 < 2 ^ M ∧ hv.getD t.1 false = true) : Sp M D (PS D (genN D ps) hv) (U D (genN D ps) u) := by
  have key : ∀ l : List (Nat × Nat), (∀ t ∈ l, t.2 < 2 ^ M ∧ hv.getD t.1 false = true) → Sp M D (PS D (genN D ps) hv) (fun x => lx (fun t : Nat × Nat => mu M t.2 (U D (genN D ps) t.1 x)) l) := by
    intro l
    induction l with
    | nil => intro _; exact .zero fun x _ => rfl
    | cons t l ih =>
      intro hl
      obtain ⟨h1, h2⟩ := hl t (by simp)
      refine .step (ih fun s hs => hl s (by simp [hs])) ⟨t.1, h2, rfl⟩ (c := t.2) h1 fun x hx => ?_
      exact Nat.xor_comm _ _
  exact (key l hl).congr fun x hx => (hs x hx).symm
end
def lexL : List Nat → List Nat → Bool
  | x :: xs, y :: ys => decide (x < y) || (decide (x = y) && lexL xs ys)
  | [], _ :: _ => true
  | _, [] => false
def ltT (a b : List (Nat × Nat)) : Bool := decide (a.length < b.length) || (decide (a.length = b.length) && lexL (a.map (·.1)) (b.map (·.1)))
def minT (a : List (Nat × Nat)) (l : List (List (Nat × Nat))) : List (Nat × Nat) := l.foldl (fun m x => if ltT x m then x else m) a
theorem minT_spec : ∀ (l : List (List (Nat × Nat))) (a : List (Nat × Nat)), (minT a l = a ∨ minT a l ∈ l) ∧ (minT a l).length ≤ a.length ∧ ∀ x ∈ l, (minT a l).length ≤ x.length
  | [], a => ⟨.inl rfl, Nat.le_refl _, fun x h => by simp at h⟩
  | b :: l, a => by
    have hlt : ltT b a = false → a.length ≤ b.length := fun e => by
      unfold ltT at e
      simp only [Bool.or_eq_false_iff, decide_eq_false_iff_not] at e
      omega
    have hlt2 : ltT b a = true → b.length ≤ a.length := fun e => by
      unfold ltT at e
      simp only [Bool.or_eq_true, Bool.and_eq_true, decide_eq_true_eq] at e
      omega
    obtain ⟨h1, h2, h3⟩ := minT_spec l (if ltT b a then b else a)
    change (minT a (b :: l) = _ ∨ minT a (b :: l) ∈ l) at h1
    change (minT a (b :: l)).length ≤ _ at h2
    change ∀ x ∈ l, (minT a (b :: l)).length ≤ _ at h3
    cases e : ltT b a
    · rw [e] at h1 h2
      have := hlt e
      refine ⟨h1.imp id fun h => by simp [h], h2, fun x hx => ?_⟩
      rcases List.mem_cons.1 hx with rfl | hx
      · exact Nat.le_trans h2 this
      · exact h3 x hx
    · rw [e] at h1 h2
      have := hlt2 e
      refine ⟨.inr (by rcases h1 with h1 | h1
                       · rw [h1]; simp
                       · simp [h1]), Nat.le_trans h2 this, fun x hx => ?_⟩
      rcases List.mem_cons.1 hx with rfl | hx
      · exact h2
      · exact h3 x hx
def bestN : List (List (Nat × Nat)) → Option (List (Nat × Nat))
  | [] => none
  | a :: l => some (minT a l)
def chkI (D : Nat) (ps : List (List Nat)) (u n : Nat) : List Nat := (List.range n).filter fun i => (checkN D i (ps.getD i [])).contains u
def fullC (oth : List Bool) (l : List Nat) (u : Nat) : Bool := l.all fun k => k == u || oth.getD k false
def candN (M D : Nat) (ps : List (List Nat)) (oth : List Bool) (u : Nat) : List (List (Nat × Nat)) :=
  (combN M D ps oth u).toList ++ ((chkI D ps u ps.length).filter fun i => fullC oth (checkN D i (ps.getD i [])) u).map fun i => ctermsN M D (ps.getD i []) (checkN D i (ps.getD i [])) u
def planN (M D : Nat) (ps : List (List Nat)) (hv : List Bool) (u : Nat) : Option (List (Nat × Nat)) := bestN (candN M D ps (hv.set u false) u)
structure PlanOk (M D : Nat) (ps : List (List Nat)) (oth : List Bool) (u : Nat) (l : List (Nat × Nat)) : Prop where
  snd : Sound M D ps u l
  lt : ∀ t ∈ l, t.2 < 2 ^ M ∧ t.2 ≠ 0
  pres : ∀ t ∈ l, oth.getD t.1 false = true
  inc : l.Pairwise fun a b => a.1 < b.1
section
variable {M D : Nat} {ps : List (List Nat)} (h : CodeOk M D ps)
include h
theorem cand_ok {oth : List Bool} (hl : oth.length = D + ps.length) {u : Nat} (hu : u < D + ps.length) {l : List (Nat × Nat)} (hm : l ∈ candN M D ps oth u) : PlanOk M D ps oth u l := by
  unfold candN at hm
  rcases List.mem_append.1 hm with hm | hm
  · have hc : combN M D ps oth u = some l := by
      cases hc : combN M D ps oth u with
      | none => rw [hc] at hm; simp at hm
      | some x => rw [hc] at hm; simp at hm; rw [hm]
    have := comb_ok h hl hu hc
    exact ⟨this.snd, this.lt, this.pres, this.inc⟩
  · obtain ⟨i, hi, rfl⟩ := List.mem_map.1 hm
    obtain ⟨h1, h2⟩ := List.mem_filter.1 hi
    obtain ⟨h3, h4⟩ := List.mem_filter.1 h1
    have h5 := List.mem_range.1 h3
    have h6 : u ∈ checkN D i (ps.getD i []) := by simpa using h4
    obtain ⟨q1, q2⟩ := cterms_ok h h5 h6
    refine ⟨cterms_sound h h5 h6, fun t ht => ⟨(q1 t ht).1, (q1 t ht).2.1⟩, fun t ht => ?_, q2⟩
    unfold fullC at h2
    have := (List.all_eq_true.1 h2) t.1 (q1 t ht).2.2.2
    simp only [Bool.or_eq_true, beq_iff_eq] at this
    exact this.resolve_left (q1 t ht).2.2.1
theorem plan_some {hv : List Bool} {u : Nat} {l : List (Nat × Nat)} (hp : planN M D ps hv u = some l) : l ∈ candN M D ps (hv.set u false) u ∧ ∀ x ∈ candN M D ps (hv.set u false) u, l.length ≤ x.length := by
  unfold planN at hp
  generalize candN M D ps (hv.set u false) u = c at *
  cases c with
  | nil => cases hp
  | cons a c =>
    obtain rfl := Option.some.inj hp
    obtain ⟨h1, h2, h3⟩ := minT_spec c a
    refine ⟨?_, fun x hx => ?_⟩
    · rcases h1 with h1 | h1
      · rw [h1]; simp
      · simp [h1]
    · rcases List.mem_cons.1 hx with rfl | hx
      · exact h2
      · exact h3 x hx
theorem plan_iff {hv : List Bool} (hl : hv.length = D + ps.length) {u : Nat} (hu : u < D + ps.length) : (planN M D ps hv u).isSome = (combN M D ps (hv.set u false) u).isSome := by
  have hl2 : (hv.set u false).length = D + ps.length := by rw [List.length_set]; exact hl
  cases hc : combN M D ps (hv.set u false) u with
  | some x =>
    unfold planN candN
    rw [hc]
    rfl
  | none =>
    cases hp : planN M D ps hv u with
    | none => rfl
    | some l =>
      have hk := cand_ok h hl2 hu (plan_some h hp).1
      have := (comb_iff h hl2 hu).2 (sound_sp h hk.snd fun t ht => ⟨(hk.lt t ht).1, hk.pres t ht⟩)
      rw [hc] at this; cases this
theorem plan_le {hv : List Bool} (hl : hv.length = D + ps.length) {u : Nat} (hu : u < D + ps.length) {l : List (Nat × Nat)} (hp : planN M D ps hv u = some l) : l.length ≤ D ∧ 0 < l.length ∧ PlanOk M D ps (hv.set u false) u l := by
  have hl2 : (hv.set u false).length = D + ps.length := by rw [List.length_set]; exact hl
  obtain ⟨h1, h2⟩ := plan_some h hp
  have hk := cand_ok h hl2 hu h1
  have he := plan_iff h hl hu
  rw [hp] at he
  obtain ⟨x, hx⟩ := Option.isSome_iff_exists.1 he.symm
  have hco := comb_ok h hl2 hu hx
  have h3 := h2 x (by unfold candN; rw [hx]; simp)
  refine ⟨Nat.le_trans h3 (Nat.le_trans hco.le (basis_len h hl2)), ?_, hk⟩
  cases l with
  | nil =>
    obtain ⟨x, hx, hne⟩ := U_ne h hu
    exact absurd (hk.snd x hx).symm hne
  | cons a l => simp
end
end Go.Proofs.YtilpljehfcpjeaaDoor
end
section
/- Package repair over the machine of abstract values: comparisons, the least of lists of terms. -/
namespace Go.Proofs.YtilpljehfcpjeaaDoor
open Go.RowKit
set_option maxHeartbeats 4000000
set_option maxRecDepth 100000
def cmpI (x y : Int) : Int := if x < y then -1 else if y < x then 1 else 0
def cmpL : List Nat → List Nat → Int
  | x :: xs, y :: ys => if x < y then -1 else if y < x then 1 else cmpL xs ys
  | [], [] => 0
  | [], _ :: _ => -1
  | _ :: _, [] => 1
theorem cmpL_lt : ∀ a b : List Nat, decide (cmpL a b < 0) = lexL a b
  | x :: xs, y :: ys => by
    rw [cmpL, lexL, ← cmpL_lt xs ys]
    by_cases h1 : x < y
    · rw [if_pos h1, decide_eq_true h1]; rfl
    · rw [if_neg h1, decide_eq_false h1]
      by_cases h2 : y < x
      · rw [if_pos h2, decide_eq_false (show ¬ x = y by omega)]; rfl
      · rw [if_neg h2, decide_eq_true (show x = y by omega)]; simp
  | [], [] => rfl
  | [], _ :: _ => rfl
  | _ :: _, [] => rfl
theorem cmpL_drop : ∀ (k : Nat) (a b : List Nat), a.take k = b.take k → k ≤ a.length → k ≤ b.length → cmpL a b = cmpL (a.drop k) (b.drop k)
  | 0, _, _, _, _, _ => rfl
  | k + 1, x :: xs, y :: ys, h, h1, h2 => by
    simp only [List.take_succ_cons, List.cons.injEq] at h
    obtain ⟨rfl, h⟩ := h
    rw [cmpL, if_neg (Nat.lt_irrefl _), if_neg (Nat.lt_irrefl _), cmpL_drop k xs ys h (by simpa using h1) (by simpa using h2)]
    rfl
  | k + 1, [], _, _, h1, _ => by simp at h1
  | k + 1, _ :: _, [], _, _, h2 => by simp at h2
def cmpT (a b : List (Nat × Nat)) : Int := if cmpI a.length b.length ≠ 0 then cmpI a.length b.length else cmpL (a.map (·.1)) (b.map (·.1))
theorem cmpT_lt (a b : List (Nat × Nat)) : decide (cmpT a b < 0) = ltT a b := by
  unfold cmpT ltT
  rw [← cmpL_lt]
  unfold cmpI
  by_cases h1 : a.length < b.length
  · rw [if_pos (show (a.length : Int) < b.length by omega), decide_eq_true h1]; rfl
  · rw [if_neg (show ¬ (a.length : Int) < b.length by omega), decide_eq_false h1]
    by_cases h2 : b.length < a.length
    · rw [if_pos (show (b.length : Int) < a.length by omega), decide_eq_false (show ¬ a.length = b.length by omega)]; rfl
    · rw [if_neg (show ¬ (b.length : Int) < a.length by omega), decide_eq_true (show a.length = b.length by omega)]; simp
def tlD (l : List (Nat × Nat)) : List Dat := [.sl 2 (l.map tmD)]
abbrev tlsA (l : List (List (Nat × Nat))) : AV := .d (.sl 1 (l.map tlD))
attribute [local irreducible] Quiet Eff OpOk AWPG ACont ABlock ACalls AGoto
theorem A_isNaN (x : Int) : ACalls Tryd.prog 63 [iV x] [] (bV false) [] := by
  refine acalls_of_bodyO Tryd.func63 rfl (Nat.le_of_ble_eq_true rfl) ?_
  (repeat' (first
  | (apply W.qd; (first
    | (apply q_mv; (first|exact vD|exact vO|exact vP|exact vA|exact vF|exact vR|exact vN|exact vY|exact vT|exact vM|exact vX))|(apply q_as; (first|exact vD|exact vO|exact vP|exact vA|exact vF|exact vR|exact vN|exact vY|exact vT|exact vM|exact vX))
    | (apply q_neq; exact rfl; exact rfl)))|(apply AWP.seq)|(apply ACont_normal)|(apply W.region; kernel_rfl)|(apply Walk.nil)
  | (apply AWP.ret)))
  all_goals exact ⟨.inl rfl, [], [bV (!decide (x = x))], rfl, rfl, ⟨rfl, trivial⟩, AVle.of_eq (congrArg bV (show (!decide (x = x)) = false by simp)), rfl⟩
theorem A_cmp (x y : Int) : ACalls Tryd.prog 35 [iV x, iV y] [] (iV (cmpI x y)) [] := by
  refine acalls_of_bodyO Tryd.func35 rfl (Nat.le_of_ble_eq_true rfl) ?_
  have h1 := A_isNaN x
  have h2 := A_isNaN y
  unfold cmpI
  by_cases hxy : x < y
  · rw [if_pos hxy]
    (repeat' (first
  | (apply W.qd; (first
    | (apply (q_callC (h1)); exact rfl; exact rfl; kernel_rfl; kernel_rfl; kernel_rfl)|(apply (q_callC (h2)); exact rfl; exact rfl; kernel_rfl; kernel_rfl; kernel_rfl)|(apply q_mv; (first|exact vD|exact vO|exact vP|exact vA|exact vF|exact vR|exact vN|exact vY|exact vT|exact vM|exact vX))|(apply q_as; (first|exact vD|exact vO|exact vP|exact vA|exact vF|exact vR|exact vN|exact vY|exact vT|exact vM|exact vX))
    | (apply q_lss; exact rfl; exact rfl)))|(apply AWP.seq)|(apply ACont_normal)|(apply W.region; kernel_rfl)|(apply Walk.nil)|(apply AWP.skip)|(apply AWP.ret)|(apply ACont_ret)|(apply W.condF; exact rfl)
  | (refine W.cond _ rfl (fun hb => ?_) (fun hb => ?_) <;> ((try simp only [hb, Bool.not_true, Bool.not_false]) <;> (try simp only [decide_eq_true_eq, decide_eq_false_iff_not, Bool.not_eq_true', Bool.not_eq_false', Int.not_lt, Int.not_le, List.length_map, not_true_eq_false] at hb) <;> (try (exfalso; omega))))))
    all_goals exact ⟨.inl rfl, [], [iV (-1)], rfl, rfl, ⟨rfl, trivial⟩, AVle.of_eq rfl, rfl⟩
  · rw [if_neg hxy]
    by_cases hyx : y < x
    · rw [if_pos hyx]
      (repeat' (first
  | (apply W.qd; (first
    | (apply (q_callC (h1)); exact rfl; exact rfl; kernel_rfl; kernel_rfl; kernel_rfl)|(apply (q_callC (h2)); exact rfl; exact rfl; kernel_rfl; kernel_rfl; kernel_rfl)|(apply q_mv; (first|exact vD|exact vO|exact vP|exact vA|exact vF|exact vR|exact vN|exact vY|exact vT|exact vM|exact vX))|(apply q_as; (first|exact vD|exact vO|exact vP|exact vA|exact vF|exact vR|exact vN|exact vY|exact vT|exact vM|exact vX))|(apply q_lss; exact rfl; exact rfl)
    | (apply q_gtr; exact rfl; exact rfl)))|(apply AWP.seq)|(apply ACont_normal)|(apply W.region; kernel_rfl)|(apply Walk.nil)|(apply AWP.skip)|(apply AWP.ret)|(apply ACont_ret)|(apply W.condF; exact rfl)
  | (refine W.cond _ rfl (fun hb => ?_) (fun hb => ?_) <;> ((try simp only [hb, Bool.not_true, Bool.not_false]) <;> (try simp only [decide_eq_true_eq, decide_eq_false_iff_not, Bool.not_eq_true', Bool.not_eq_false', Int.not_lt, Int.not_le, List.length_map, not_true_eq_false] at hb) <;> (try (exfalso; omega))))))
      all_goals exact ⟨.inl rfl, [], [iV 1], rfl, rfl, ⟨rfl, trivial⟩, AVle.of_eq rfl, rfl⟩
    · rw [if_neg hyx]
      (repeat' (first
  | (apply W.qd; (first
    | (apply (q_callC (h1)); exact rfl; exact rfl; kernel_rfl; kernel_rfl; kernel_rfl)|(apply (q_callC (h2)); exact rfl; exact rfl; kernel_rfl; kernel_rfl; kernel_rfl)|(apply q_mv; (first|exact vD|exact vO|exact vP|exact vA|exact vF|exact vR|exact vN|exact vY|exact vT|exact vM|exact vX))|(apply q_as; (first|exact vD|exact vO|exact vP|exact vA|exact vF|exact vR|exact vN|exact vY|exact vT|exact vM|exact vX))|(apply q_lss; exact rfl; exact rfl)
    | (apply q_gtr; exact rfl; exact rfl)))|(apply AWP.seq)|(apply ACont_normal)|(apply W.region; kernel_rfl)|(apply Walk.nil)|(apply AWP.skip)|(apply AWP.ret)|(apply W.condF; exact rfl)
  | (refine W.cond _ rfl (fun hb => ?_) (fun hb => ?_) <;> ((try simp only [hb, Bool.not_true, Bool.not_false]) <;> (try simp only [decide_eq_true_eq, decide_eq_false_iff_not, Bool.not_eq_true', Bool.not_eq_false', Int.not_lt, Int.not_le, List.length_map, not_true_eq_false] at hb) <;> (try (exfalso; omega))))))
      all_goals exact ⟨.inl rfl, [], [iV 0], rfl, rfl, ⟨rfl, trivial⟩, AVle.of_eq rfl, rfl⟩
def orI : List Int → Int
  | [] => 0
  | x :: l => if x ≠ 0 then x else orI l
theorem orI_drop : ∀ (k : Nat) (l : List Int), (∀ x ∈ l.take k, x = 0) → orI l = orI (l.drop k)
  | 0, _, _ => rfl
  | k + 1, [], _ => rfl
  | k + 1, x :: l, h => by
    rw [orI, if_neg (by simpa using h x (by simp)), orI_drop k l fun y hy => h y (by simp [hy])]
    rfl
theorem A_or (l : List Int) (hl : l.length ≤ 1000000) : ACalls Tryd.prog 38 [ints l] [] (iV (orI l)) [] := by
  refine acalls_of_bodyO Tryd.func38 rfl (Nat.le_of_ble_eq_true rfl) ?_
  have hml : (l.map iD).length = l.length := List.length_map _
  (repeat' (first
  | (apply W.qd; (first
    | (apply q_mv; (first|exact vD|exact vO|exact vP|exact vA|exact vF|exact vR|exact vN|exact vY|exact vT|exact vM|exact vX))|(apply q_as; (first|exact vD|exact vO|exact vP|exact vA|exact vF|exact vR|exact vN|exact vY|exact vT|exact vM|exact vX))
    | (apply q_len_sl; exact rfl; exact rfl)))|(apply AWP.seq)|(apply ACont_normal)|(apply W.region; kernel_rfl)|(apply Walk.nil)
  | (apply AWP.block)))
  refine AWP.loopW (α := Nat) (fun k => k ≤ l.length ∧ ∀ x ∈ l.take k, x = 0) (fun k => ⟨[(8, iV k), (7, iV l.length), (6, ints l), (3, iV 0)], []⟩) (fun k => l.length - k) 0 ⟨by omega, by simp⟩ ⟨[], rfl, rfl, rfl, rfl, iV_eq (by simp), rfl, rfl, trivial⟩ fun k hk => ?_
  by_cases hkl : k < l.length
  · have ho : orI l = if l[k] ≠ 0 then l[k] else orI (l.drop (k + 1)) := by
      rw [orI_drop k l hk.2, List.drop_eq_getElem_cons hkl]
      rfl
    by_cases hz : l[k] = 0
    · (repeat' (first
  | (apply W.qd; (first
    | (apply q_mv; (first|exact vD|exact vO|exact vP|exact vA|exact vF|exact vR|exact vN|exact vY|exact vT|exact vM|exact vX))|(apply q_as; (first|exact vD|exact vO|exact vP|exact vA|exact vF|exact vR|exact vN|exact vY|exact vT|exact vM|exact vX))|(apply q_lss; exact rfl; exact rfl)|(apply q_neq; exact rfl; exact rfl)|(apply q_add; exact rfl; exact rfl; omega)|(apply q_ld_map; exact rfl; exact rfl; exact rfl; (first | omega | (focus (simp; done))))
    | (apply q_ix_slF; exact rfl; exact rfl; exact rfl; exact rfl; (first | (with_reducible exact rfl) | exact natI_spec rfl | assumption | exact (Int.toNat_of_nonneg (by omega)).symm); (first | omega | (focus (simp only [List.length_map]; omega)) | (focus (simp; done)) | (focus (simp; omega))))))|(apply AWP.seq)|(apply ACont_normal)|(apply W.region; kernel_rfl)|(apply Walk.nil)|(apply AWP.block)|(apply AWP.skip)|(apply ABlock_normal)
  | (refine W.cond _ rfl (fun hb => ?_) (fun hb => ?_) <;> ((try simp only [hb, Bool.not_true, Bool.not_false]) <;> (try simp only [decide_eq_true_eq, decide_eq_false_iff_not, Bool.not_eq_true', Bool.not_eq_false', Int.not_lt, Int.not_le, List.length_map, not_true_eq_false] at hb) <;> (try (exfalso; omega))))))
      refine ⟨k + 1, ⟨by omega, fun x hx => ?_⟩, by omega, [], rfl, rfl, rfl, iV_eq (by omega), rfl, rfl, rfl, trivial⟩
      rw [List.take_succ_eq_append_getElem hkl] at hx
      rcases List.mem_append.1 hx with hx | hx
      · exact hk.2 x hx
      · rw [List.mem_singleton.1 hx]; exact hz
    · rw [if_pos hz] at ho
      rw [ho]
      (repeat' (first
  | (apply W.qd; (first
    | (apply q_mv; (first|exact vD|exact vO|exact vP|exact vA|exact vF|exact vR|exact vN|exact vY|exact vT|exact vM|exact vX))|(apply q_as; (first|exact vD|exact vO|exact vP|exact vA|exact vF|exact vR|exact vN|exact vY|exact vT|exact vM|exact vX))|(apply q_lss; exact rfl; exact rfl)|(apply q_neq; exact rfl; exact rfl)|(apply q_ld_map; exact rfl; exact rfl; exact rfl; (first | omega | (focus (simp; done))))
    | (apply q_ix_slF; exact rfl; exact rfl; exact rfl; exact rfl; (first | (with_reducible exact rfl) | exact natI_spec rfl | assumption | exact (Int.toNat_of_nonneg (by omega)).symm); (first | omega | (focus (simp only [List.length_map]; omega)) | (focus (simp; done)) | (focus (simp; omega))))))|(apply AWP.seq)|(apply ACont_normal)|(apply W.region; kernel_rfl)|(apply Walk.nil)|(apply AWP.block)|(apply AWP.skip)|(apply AWP.ret)|(apply ACont_ret)|(apply ABlock_ret)
  | (refine W.cond _ rfl (fun hb => ?_) (fun hb => ?_) <;> ((try simp only [hb, Bool.not_true, Bool.not_false]) <;> (try simp only [decide_eq_true_eq, decide_eq_false_iff_not, Bool.not_eq_true', Bool.not_eq_false', Int.not_lt, Int.not_le, List.length_map, not_true_eq_false] at hb) <;> (try (exfalso; omega))))))
      exact ⟨.inl rfl, [], [iV l[k]], rfl, rfl, ⟨rfl, trivial⟩, AVle.of_eq rfl, rfl⟩
  · have ho : orI l = 0 := by
      rw [orI_drop k l hk.2, List.drop_eq_nil_of_le (by omega)]; rfl
    rw [ho]
    (repeat' (first
  | (apply W.qd; (first
    | (apply q_mv; (first|exact vD|exact vO|exact vP|exact vA|exact vF|exact vR|exact vN|exact vY|exact vT|exact vM|exact vX))|(apply q_as; (first|exact vD|exact vO|exact vP|exact vA|exact vF|exact vR|exact vN|exact vY|exact vT|exact vM|exact vX))
    | (apply q_lss; exact rfl; exact rfl)))|(apply AWP.seq)|(apply ACont_normal)|(apply W.region; kernel_rfl)|(apply Walk.nil)|(apply AWP.exit)|(apply AWP.ret)|(apply ACont_exit)|(apply ABlock_exit)
  | (refine W.cond _ rfl (fun hb => ?_) (fun hb => ?_) <;> ((try simp only [hb, Bool.not_true, Bool.not_false]) <;> (try simp only [decide_eq_true_eq, decide_eq_false_iff_not, Bool.not_eq_true', Bool.not_eq_false', Int.not_lt, Int.not_le, List.length_map, not_true_eq_false] at hb) <;> (try (exfalso; omega))))))
    exact ⟨.inl rfl, [], [iV 0], rfl, rfl, ⟨rfl, trivial⟩, AVle.of_eq rfl, rfl⟩
theorem A_first (a b : Nat × Nat) : ACalls Tryd.prog 34 [.agg [iV a.1, iV a.2], .agg [iV b.1, iV b.2]] [] (iV (cmpI a.1 b.1)) [] := by
  refine acalls_of_bodyO Tryd.func34 rfl (Nat.le_of_ble_eq_true rfl) ?_
  have h := A_cmp a.1 b.1
  (repeat' (first
  | (apply W.qd; (first
    | (apply (q_callC (h)); exact rfl; exact rfl; kernel_rfl; kernel_rfl; kernel_rfl)|(apply q_as; (first|exact vD|exact vO|exact vP|exact vA|exact vF|exact vR|exact vN|exact vY|exact vT|exact vM|exact vX))|(apply q_fld_optF; exact rfl; exact rfl; exact rfl)
    | (apply q_ld_box; exact rfl; exact rfl; exact rfl; exact rfl)))|(apply W.ed; (apply e_boxF; exact rfl; exact rfl; exact rfl; kernel_rfl; kernel_rfl))|(apply AWP.seq)|(apply ACont_normal)|(apply W.region; kernel_rfl)|(apply Walk.nil)
  | (apply AWP.ret)))
  exact ⟨.inl rfl, [], [iV (cmpI a.1 b.1)], rfl, rfl, ⟨rfl, trivial⟩, AVle.of_eq rfl, rfl⟩
theorem A_cmpFunc (a b : List (Nat × Nat)) (ha : a.length ≤ 1000000) (hb0 : b.length ≤ 1000000) : ACalls Tryd.prog 39 [tmsA a, tmsA b, .fn 34 []] [] (iV (cmpL (a.map (·.1)) (b.map (·.1)))) [] := by
  refine acalls_of_bodyO Tryd.func39 rfl (Nat.le_of_ble_eq_true rfl) ?_
  have hma : (a.map tmD).length = a.length := List.length_map _
  have hmb : (b.map tmD).length = b.length := List.length_map _
  have hla : (a.map (·.1)).length = a.length := List.length_map _
  have hlb : (b.map (·.1)).length = b.length := List.length_map _
  (repeat' (first
  | (apply W.qd; (first
    | (apply q_mv; (first|exact vD|exact vO|exact vP|exact vA|exact vF|exact vR|exact vN|exact vY|exact vT|exact vM|exact vX))|(apply q_as; (first|exact vD|exact vO|exact vP|exact vA|exact vF|exact vR|exact vN|exact vY|exact vT|exact vM|exact vX))
    | (apply q_len_sl; exact rfl; exact rfl)))|(apply AWP.seq)|(apply ACont_normal)|(apply W.region; kernel_rfl)|(apply Walk.nil)
  | (apply AWP.block)))
  refine AWP.loopW (α := Nat) (fun k => k ≤ a.length ∧ k ≤ b.length ∧ (a.map (·.1)).take k = (b.map (·.1)).take k) (fun k => ⟨[(13, iV k), (12, iV a.length), (11, tmsA a), (0, tmsA a), (1, tmsA b), (2, .fn 34 [])], []⟩) (fun k => a.length - k) 0 ⟨by omega, by omega, rfl⟩ ⟨[], rfl, rfl, rfl, rfl, iV_eq (by simp), rfl, rfl, rfl, rfl, trivial⟩ fun k hk => ?_
  obtain ⟨hk1, hk2, hk3⟩ := hk
  have hd := cmpL_drop k _ _ hk3 (by omega) (by omega)
  by_cases hka : k < a.length
  · have ea : (a.map (·.1)).drop k = a[k].1 :: (a.map (·.1)).drop (k + 1) := by
      rw [List.drop_eq_getElem_cons (by omega)]; simp
    by_cases hkb : k < b.length
    · have eb : (b.map (·.1)).drop k = b[k].1 :: (b.map (·.1)).drop (k + 1) := by
        rw [List.drop_eq_getElem_cons (by omega)]; simp
      rw [ea, eb, cmpL] at hd
      have hf := A_first a[k] b[k]
      unfold cmpI at hf
      by_cases h1 : a[k].1 < b[k].1
      · rw [if_pos h1] at hd
        rw [if_pos (show (a[k].1 : Int) < b[k].1 by omega)] at hf
        rw [hd]
        (repeat' (first
  | (apply W.qd; (first
    | (apply (q_callC (hf)); exact rfl; exact rfl; kernel_rfl; kernel_rfl; kernel_rfl)|(apply q_mv; (first|exact vD|exact vO|exact vP|exact vA|exact vF|exact vR|exact vN|exact vY|exact vT|exact vM|exact vX))|(apply q_as; (first|exact vD|exact vO|exact vP|exact vA|exact vF|exact vR|exact vN|exact vY|exact vT|exact vM|exact vX))|(apply q_ld_boxF; exact rfl; exact rfl; exact rfl; exact rfl)|(apply q_lss; exact rfl; exact rfl)|(apply q_geq; exact rfl; exact rfl)|(apply q_neq; exact rfl; exact rfl)|(apply q_len_sl; exact rfl; exact rfl)|(apply q_ld_maps; exact rfl; exact rfl; exact rfl; (first | omega | (focus (simp; done))))
    | (apply q_ix_slF; exact rfl; exact rfl; exact rfl; exact rfl; (first | (with_reducible exact rfl) | exact natI_spec rfl | assumption | exact (Int.toNat_of_nonneg (by omega)).symm); (first | omega | (focus (simp only [List.length_map]; omega)) | (focus (simp; done)) | (focus (simp; omega))))))|(apply W.ed; (apply e_allocF; exact rfl; exact rfl; exact rfl; kernel_rfl))|(apply W.ln; (apply l_st_box; exact rfl; exact rfl; exact rfl; exact rfl; exact rfl; exact rfl; kernel_rfl; kernel_rfl; kernel_rfl))|(apply AWP.seq)|(apply ACont_normal)|(apply W.region; kernel_rfl)|(apply Walk.nil)|(apply AWP.block)|(apply AWP.skip)|(apply AWP.ret)|(apply ACont_ret)|(apply ABlock_ret)|(apply W.condT; exact rfl)
  | (refine W.cond _ rfl (fun hb => ?_) (fun hb => ?_) <;> ((try simp only [hb, Bool.not_true, Bool.not_false]) <;> (try simp only [decide_eq_true_eq, decide_eq_false_iff_not, Bool.not_eq_true', Bool.not_eq_false', Int.not_lt, Int.not_le, List.length_map, not_true_eq_false] at hb) <;> (try (exfalso; omega))))))
        exact ⟨.inl rfl, [], [iV (-1)], rfl, rfl, ⟨rfl, trivial⟩, AVle.of_eq rfl, rfl⟩
      · rw [if_neg h1] at hd
        rw [if_neg (show ¬ (a[k].1 : Int) < b[k].1 by omega)] at hf
        by_cases h2 : b[k].1 < a[k].1
        · rw [if_pos h2] at hd
          rw [if_pos (show (b[k].1 : Int) < a[k].1 by omega)] at hf
          rw [hd]
          (repeat' (first
  | (apply W.qd; (first
    | (apply (q_callC (hf)); exact rfl; exact rfl; kernel_rfl; kernel_rfl; kernel_rfl)|(apply q_mv; (first|exact vD|exact vO|exact vP|exact vA|exact vF|exact vR|exact vN|exact vY|exact vT|exact vM|exact vX))|(apply q_as; (first|exact vD|exact vO|exact vP|exact vA|exact vF|exact vR|exact vN|exact vY|exact vT|exact vM|exact vX))|(apply q_ld_boxF; exact rfl; exact rfl; exact rfl; exact rfl)|(apply q_lss; exact rfl; exact rfl)|(apply q_geq; exact rfl; exact rfl)|(apply q_neq; exact rfl; exact rfl)|(apply q_len_sl; exact rfl; exact rfl)|(apply q_ld_maps; exact rfl; exact rfl; exact rfl; (first | omega | (focus (simp; done))))
    | (apply q_ix_slF; exact rfl; exact rfl; exact rfl; exact rfl; (first | (with_reducible exact rfl) | exact natI_spec rfl | assumption | exact (Int.toNat_of_nonneg (by omega)).symm); (first | omega | (focus (simp only [List.length_map]; omega)) | (focus (simp; done)) | (focus (simp; omega))))))|(apply W.ed; (apply e_allocF; exact rfl; exact rfl; exact rfl; kernel_rfl))|(apply W.ln; (apply l_st_box; exact rfl; exact rfl; exact rfl; exact rfl; exact rfl; exact rfl; kernel_rfl; kernel_rfl; kernel_rfl))|(apply AWP.seq)|(apply ACont_normal)|(apply W.region; kernel_rfl)|(apply Walk.nil)|(apply AWP.block)|(apply AWP.skip)|(apply AWP.ret)|(apply ACont_ret)|(apply ABlock_ret)|(apply W.condT; exact rfl)
  | (refine W.cond _ rfl (fun hb => ?_) (fun hb => ?_) <;> ((try simp only [hb, Bool.not_true, Bool.not_false]) <;> (try simp only [decide_eq_true_eq, decide_eq_false_iff_not, Bool.not_eq_true', Bool.not_eq_false', Int.not_lt, Int.not_le, List.length_map, not_true_eq_false] at hb) <;> (try (exfalso; omega))))))
          exact ⟨.inl rfl, [], [iV 1], rfl, rfl, ⟨rfl, trivial⟩, AVle.of_eq rfl, rfl⟩
        · rw [if_neg (show ¬ (b[k].1 : Int) < a[k].1 by omega)] at hf
          (repeat' (first
  | (apply W.qd; (first
    | (apply (q_callC (hf)); exact rfl; exact rfl; kernel_rfl; kernel_rfl; kernel_rfl)|(apply q_mv; (first|exact vD|exact vO|exact vP|exact vA|exact vF|exact vR|exact vN|exact vY|exact vT|exact vM|exact vX))|(apply q_as; (first|exact vD|exact vO|exact vP|exact vA|exact vF|exact vR|exact vN|exact vY|exact vT|exact vM|exact vX))|(apply q_ld_boxF; exact rfl; exact rfl; exact rfl; exact rfl)|(apply q_lss; exact rfl; exact rfl)|(apply q_geq; exact rfl; exact rfl)|(apply q_neq; exact rfl; exact rfl)|(apply q_add; exact rfl; exact rfl; omega)|(apply q_len_sl; exact rfl; exact rfl)|(apply q_ld_maps; exact rfl; exact rfl; exact rfl; (first | omega | (focus (simp; done))))
    | (apply q_ix_slF; exact rfl; exact rfl; exact rfl; exact rfl; (first | (with_reducible exact rfl) | exact natI_spec rfl | assumption | exact (Int.toNat_of_nonneg (by omega)).symm); (first | omega | (focus (simp only [List.length_map]; omega)) | (focus (simp; done)) | (focus (simp; omega))))))|(apply W.ed; (apply e_allocF; exact rfl; exact rfl; exact rfl; kernel_rfl))|(apply W.ln; (apply l_st_box; exact rfl; exact rfl; exact rfl; exact rfl; exact rfl; exact rfl; kernel_rfl; kernel_rfl; kernel_rfl))|(apply AWP.seq)|(apply ACont_normal)|(apply W.region; kernel_rfl)|(apply Walk.nil)|(apply AWP.block)|(apply AWP.skip)|(apply ABlock_normal)|(apply W.condF; exact rfl)
  | (refine W.cond _ rfl (fun hb => ?_) (fun hb => ?_) <;> ((try simp only [hb, Bool.not_true, Bool.not_false]) <;> (try simp only [decide_eq_true_eq, decide_eq_false_iff_not, Bool.not_eq_true', Bool.not_eq_false', Int.not_lt, Int.not_le, List.length_map, not_true_eq_false] at hb) <;> (try (exfalso; omega))))))
          refine ⟨k + 1, ⟨by omega, by omega, ?_⟩, by omega, [], rfl, rfl, rfl, iV_eq (by omega), rfl, rfl, rfl, rfl, rfl, trivial⟩
          rw [List.take_succ_eq_append_getElem (by omega), List.take_succ_eq_append_getElem (by omega), hk3]
          congr 2
          simp only [List.getElem_map]
          omega
    · have eb : (b.map (·.1)).drop k = [] := List.drop_eq_nil_of_le (by omega)
      rw [ea, eb] at hd
      rw [hd]
      (repeat' (first
  | (apply W.qd; (first
    | (apply q_mv; (first|exact vD|exact vO|exact vP|exact vA|exact vF|exact vR|exact vN|exact vY|exact vT|exact vM|exact vX))|(apply q_as; (first|exact vD|exact vO|exact vP|exact vA|exact vF|exact vR|exact vN|exact vY|exact vT|exact vM|exact vX))|(apply q_lss; exact rfl; exact rfl)|(apply q_geq; exact rfl; exact rfl)|(apply q_len_sl; exact rfl; exact rfl)|(apply q_ld_maps; exact rfl; exact rfl; exact rfl; (first | omega | (focus (simp; done))))
    | (apply q_ix_slF; exact rfl; exact rfl; exact rfl; exact rfl; (first | (with_reducible exact rfl) | exact natI_spec rfl | assumption | exact (Int.toNat_of_nonneg (by omega)).symm); (first | omega | (focus (simp only [List.length_map]; omega)) | (focus (simp; done)) | (focus (simp; omega))))))|(apply W.ed; (apply e_allocF; exact rfl; exact rfl; exact rfl; kernel_rfl))|(apply W.ln; (apply l_st_box; exact rfl; exact rfl; exact rfl; exact rfl; exact rfl; exact rfl; kernel_rfl; kernel_rfl; kernel_rfl))|(apply AWP.seq)|(apply ACont_normal)|(apply W.region; kernel_rfl)|(apply Walk.nil)|(apply AWP.block)|(apply AWP.skip)|(apply AWP.ret)|(apply ACont_ret)|(apply ABlock_ret)
  | (refine W.cond _ rfl (fun hb => ?_) (fun hb => ?_) <;> ((try simp only [hb, Bool.not_true, Bool.not_false]) <;> (try simp only [decide_eq_true_eq, decide_eq_false_iff_not, Bool.not_eq_true', Bool.not_eq_false', Int.not_lt, Int.not_le, List.length_map, not_true_eq_false] at hb) <;> (try (exfalso; omega))))))
      exact ⟨.inl rfl, [], [iV 1], rfl, rfl, ⟨rfl, trivial⟩, AVle.of_eq rfl, rfl⟩
  · have ea : (a.map (·.1)).drop k = [] := List.drop_eq_nil_of_le (by omega)
    rw [ea] at hd
    by_cases hkb : k < b.length
    · have eb : (b.map (·.1)).drop k = b[k].1 :: (b.map (·.1)).drop (k + 1) := by
        rw [List.drop_eq_getElem_cons (by omega)]; simp
      rw [eb] at hd
      rw [hd]
      (repeat' (first
  | (apply W.qd; (first
    | (apply q_mv; (first|exact vD|exact vO|exact vP|exact vA|exact vF|exact vR|exact vN|exact vY|exact vT|exact vM|exact vX))|(apply q_as; (first|exact vD|exact vO|exact vP|exact vA|exact vF|exact vR|exact vN|exact vY|exact vT|exact vM|exact vX))|(apply q_lss; exact rfl; exact rfl)
    | (apply q_len_sl; exact rfl; exact rfl)))|(apply AWP.seq)|(apply ACont_normal)|(apply W.region; kernel_rfl)|(apply Walk.nil)|(apply AWP.exit)|(apply AWP.ret)|(apply ACont_exit)|(apply ACont_ret)|(apply ABlock_exit)
  | (refine W.cond _ rfl (fun hb => ?_) (fun hb => ?_) <;> ((try simp only [hb, Bool.not_true, Bool.not_false]) <;> (try simp only [decide_eq_true_eq, decide_eq_false_iff_not, Bool.not_eq_true', Bool.not_eq_false', Int.not_lt, Int.not_le, List.length_map, not_true_eq_false] at hb) <;> (try (exfalso; omega))))))
      exact ⟨.inl rfl, [], [iV (-1)], rfl, rfl, ⟨rfl, trivial⟩, AVle.of_eq rfl, rfl⟩
    · have eb : (b.map (·.1)).drop k = [] := List.drop_eq_nil_of_le (by omega)
      rw [eb] at hd
      rw [hd]
      (repeat' (first
  | (apply W.qd; (first
    | (apply q_mv; (first|exact vD|exact vO|exact vP|exact vA|exact vF|exact vR|exact vN|exact vY|exact vT|exact vM|exact vX))|(apply q_as; (first|exact vD|exact vO|exact vP|exact vA|exact vF|exact vR|exact vN|exact vY|exact vT|exact vM|exact vX))|(apply q_lss; exact rfl; exact rfl)
    | (apply q_len_sl; exact rfl; exact rfl)))|(apply AWP.seq)|(apply ACont_normal)|(apply W.region; kernel_rfl)|(apply Walk.nil)|(apply AWP.skip)|(apply AWP.exit)|(apply AWP.ret)|(apply ACont_exit)|(apply ABlock_exit)
  | (refine W.cond _ rfl (fun hb => ?_) (fun hb => ?_) <;> ((try simp only [hb, Bool.not_true, Bool.not_false]) <;> (try simp only [decide_eq_true_eq, decide_eq_false_iff_not, Bool.not_eq_true', Bool.not_eq_false', Int.not_lt, Int.not_le, List.length_map, not_true_eq_false] at hb) <;> (try (exfalso; omega))))))
      exact ⟨.inl rfl, [], [iV 0], rfl, rfl, ⟨rfl, trivial⟩, AVle.of_eq rfl, rfl⟩
theorem A_cmpT (a b : List (Nat × Nat)) (ha : a.length ≤ 1000000) (hb0 : b.length ≤ 1000000) : ACalls Tryd.prog 37 [tmsA a, tmsA b, .opt 0 0] [.box [.fn 34 []]] (iV (cmpT a b)) [.box [.fn 34 []]] := by
  refine acalls_of_bodyO Tryd.func37 rfl (Nat.le_of_ble_eq_true rfl) ?_
  have hma : (a.map tmD).length = a.length := List.length_map _
  have hmb : (b.map tmD).length = b.length := List.length_map _
  have h1 := A_cmp a.length b.length
  have h2 := A_cmpFunc a b ha hb0
  have h3 := A_or [cmpI a.length b.length, cmpL (a.map (·.1)) (b.map (·.1))] (by simp)
  have e : orI [cmpI a.length b.length, cmpL (a.map (·.1)) (b.map (·.1))] = cmpT a b := by
    show (if cmpI a.length b.length ≠ 0 then cmpI a.length b.length else if cmpL (a.map (·.1)) (b.map (·.1)) ≠ 0 then cmpL (a.map (·.1)) (b.map (·.1)) else 0) = _
    unfold cmpT
    split
    · rfl
    · split
      · rfl
      · rename_i h; exact (Classical.not_not.1 h).symm
  rw [e] at h3
  rw [← hma, ← hmb] at h1
  rw [← hma, ← hmb] at h3
  generalize cmpT a b = r at *
  generalize cmpL (a.map (·.1)) (b.map (·.1)) = c at *
  (repeat' (first
  | (apply W.qd; (first
    | (apply (q_callC (h1)); exact rfl; exact rfl; kernel_rfl; kernel_rfl; kernel_rfl)|(apply (q_callC (h2)); exact rfl; exact rfl; kernel_rfl; kernel_rfl; kernel_rfl)|(apply (q_callC (h3)); exact rfl; exact rfl; kernel_rfl; kernel_rfl; kernel_rfl)|(apply q_mv; (first|exact vD|exact vO|exact vP|exact vA|exact vF|exact vR|exact vN|exact vY|exact vT|exact vM|exact vX))|(apply q_as; (first|exact vD|exact vO|exact vP|exact vA|exact vF|exact vR|exact vN|exact vY|exact vT|exact vM|exact vX))|(apply q_ld_box; exact rfl; exact rfl; exact rfl; exact rfl)|(apply q_len_sl; exact rfl; exact rfl)
    | (apply q_litF; exact rfl; exact rfl; exact rfl; exact rfl; exact rfl; kernel_rfl; kernel_rfl; exact rfl)))|(apply AWP.seq)|(apply ACont_normal)|(apply W.region; kernel_rfl)|(apply W.regionD; exact rfl; kernel_rfl)|(apply Walk.nil)|(apply W.chk; kernel_rfl)
  | (apply AWP.ret)))
  all_goals exact ⟨.inl rfl, [0], [iV r], rfl, rfl, ⟨rfl, trivial⟩, AVle.of_eq rfl, rfl⟩
theorem minT_take (a : List (Nat × Nat)) (l : List (List (Nat × Nat))) (k : Nat) (h : k < l.length) : minT a (l.take (k + 1)) = if ltT l[k] (minT a (l.take k)) then l[k] else minT a (l.take k) := by
  unfold minT
  rw [List.take_succ_eq_append_getElem h, List.foldl_append]
  rfl
theorem A_minFunc (l : List (List (Nat × Nat))) (hl0 : 0 < l.length) (hl : l.length ≤ 1000000) (hel : ∀ t ∈ l, t.length ≤ 1000000) : ACalls Tryd.prog 36 [tlsA l, .fn 37 [.opt 0 0]] [.box [.fn 34 []]] (tmsA ((bestN l).getD [])) [.box [.fn 34 []]] := by
  refine acalls_of_bodyO Tryd.func36 rfl (Nat.le_of_ble_eq_true rfl) ?_
  have hml : (l.map tlD).length = l.length := List.length_map _
  obtain ⟨a, l, rfl⟩ := List.exists_cons_of_length_pos hl0
  rw [show (bestN (a :: l)).getD [] = minT a l from rfl]
  have hb2 : ∀ k, (minT a (l.take k)).length ≤ 1000000 := fun k => Nat.le_trans (minT_spec (l.take k) a).2.1 (hel a (by simp))
  have hs := minT_take a l
  have h0 : minT a (l.take 0) = a := rfl
  have hfull : minT a (l.take l.length) = minT a l := by rw [List.take_length]
  have hll : (a :: l).length = l.length + 1 := rfl
  generalize hm : (fun k => minT a (l.take k)) = MT
  have hm' : ∀ k, minT a (l.take k) = MT k := fun k => congrFun hm k
  simp only [hm'] at hb2 hs h0 hfull
  rw [← hfull]
  (repeat' (first
  | (apply W.qd; (first
    | (apply q_mv; (first|exact vD|exact vO|exact vP|exact vA|exact vF|exact vR|exact vN|exact vY|exact vT|exact vM|exact vX))|(apply q_as; (first|exact vD|exact vO|exact vP|exact vA|exact vF|exact vR|exact vN|exact vY|exact vT|exact vM|exact vX))|(apply q_lss; exact rfl; exact rfl)|(apply q_len_sl; exact rfl; exact rfl)|(apply q_ld_map; exact rfl; exact rfl; exact rfl; (first | omega | (focus (simp; done))))
    | (apply q_ix_slF; exact rfl; exact rfl; exact rfl; exact rfl; (first | (with_reducible exact rfl) | exact natI_spec rfl | assumption | exact (Int.toNat_of_nonneg (by omega)).symm); (first | omega | (focus (simp only [List.length_map]; omega)) | (focus (simp; done)) | (focus (simp; omega))))))|(apply AWP.seq)|(apply ACont_normal)|(apply W.region; kernel_rfl)|(apply Walk.nil)|(apply AWP.block)|(apply AWP.skip)
  | (apply W.condF; exact rfl)))
  refine AWP.loopW (α := Nat) (fun k => k ≤ l.length) (fun k => ⟨[(6, iV (k + 1 : Nat)), (5, tmsA (MT k)), (0, tlsA (a :: l)), (1, .fn 37 [.opt 0 0])], [.box [.fn 34 []]]⟩) (fun k => l.length - k) 0 (by omega) ?wk0 fun k hk => ?_
  case wk0 =>
    rw [h0]
    exact ⟨[0], rfl, rfl, rfl, by (repeat (first | exact trivial | refine ⟨rfl, ?_⟩))⟩
  by_cases hkl : k < l.length
  · have hc := A_cmpT ((a :: l)[k + 1]'(by simp; omega)) (MT k) (hel _ (List.getElem_mem _)) (hb2 k)
    have hlt := cmpT_lt ((a :: l)[k + 1]'(by simp; omega)) (MT k)
    have hs2 := Lib.hid (hs k hkl)
    have eL : (a :: l)[k + 1]'(by simp; omega) = l[k] := rfl
    (repeat' (first
  | (apply W.qd; (first
    | (apply q_mv; (first|exact vD|exact vO|exact vP|exact vA|exact vF|exact vR|exact vN|exact vY|exact vT|exact vM|exact vX))|(apply q_as; (first|exact vD|exact vO|exact vP|exact vA|exact vF|exact vR|exact vN|exact vY|exact vT|exact vM|exact vX))|(apply q_lss; exact rfl; exact rfl)|(apply q_add; exact rfl; exact rfl; omega)|(apply q_len_sl; exact rfl; exact rfl)|(apply q_ld_map; exact rfl; exact rfl; exact rfl; (first | omega | (focus (simp; done))))
    | (apply q_ix_slF; exact rfl; exact rfl; exact rfl; exact rfl; (first | (with_reducible exact rfl) | exact natI_spec rfl | assumption | exact (Int.toNat_of_nonneg (by omega)).symm); (first | omega | (focus (simp only [List.length_map]; omega)) | (focus (simp; done)) | (focus (simp; omega))))))|(apply W.ed; (apply (e_callJ (js := [0]) (hc)); exact rfl; exact rfl; exact rfl; exact rfl; exact rfl; kernel_rfl; kernel_rfl))|(apply AWP.seq)|(apply ACont_normal)|(apply W.region; kernel_rfl)|(apply Walk.nil)|(apply AWP.block)|(apply AWP.skip)|(apply ABlock_normal)
  | (refine W.cond _ rfl (fun hb => ?_) (fun hb => ?_) <;> ((try simp only [hb, Bool.not_true, Bool.not_false]) <;> (try simp only [decide_eq_true_eq, decide_eq_false_iff_not, Bool.not_eq_true', Bool.not_eq_false', Int.not_lt, Int.not_le, List.length_map, not_true_eq_false] at hb) <;> (try (exfalso; omega))))))
    · rw [decide_eq_true hb, eL] at hlt
      refine ⟨k + 1, by omega, by omega, ?_⟩
      rw [hs2.out, ← hlt]
      exact ⟨[0], rfl, rfl, rfl, iV_eq (by omega), rfl, rfl, rfl, trivial⟩
    · rw [decide_eq_false (by omega), eL] at hlt
      refine ⟨k + 1, by omega, by omega, ?_⟩
      rw [hs2.out, ← hlt]
      exact ⟨[0], rfl, rfl, rfl, iV_eq (by omega), rfl, rfl, rfl, trivial⟩
  · have e : k = l.length := by omega
    subst e
    generalize MT l.length = R at *
    (repeat' (first
  | (apply W.qd; (first
    | (apply q_mv; (first|exact vD|exact vO|exact vP|exact vA|exact vF|exact vR|exact vN|exact vY|exact vT|exact vM|exact vX))|(apply q_as; (first|exact vD|exact vO|exact vP|exact vA|exact vF|exact vR|exact vN|exact vY|exact vT|exact vM|exact vX))|(apply q_lss; exact rfl; exact rfl)
    | (apply q_len_sl; exact rfl; exact rfl)))|(apply AWP.seq)|(apply ACont_normal)|(apply W.region; kernel_rfl)|(apply Walk.nil)|(apply AWP.exit)|(apply AWP.ret)|(apply ACont_exit)|(apply ABlock_exit)
  | (refine W.cond _ rfl (fun hb => ?_) (fun hb => ?_) <;> ((try simp only [hb, Bool.not_true, Bool.not_false]) <;> (try simp only [decide_eq_true_eq, decide_eq_false_iff_not, Bool.not_eq_true', Bool.not_eq_false', Int.not_lt, Int.not_le, List.length_map, not_true_eq_false] at hb) <;> (try (exfalso; omega))))))
    exact ⟨.inl rfl, [0], [tmsA R], rfl, rfl, ⟨rfl, trivial⟩, AVle.of_eq rfl, rfl⟩
end Go.Proofs.YtilpljehfcpjeaaDoor
end
section
/- Package repair over the machine of abstract values: checks, their terms. -/
namespace Go.Proofs.YtilpljehfcpjeaaDoor
open Go.RowKit
set_option maxHeartbeats 4000000
set_option maxRecDepth 100000
def chkZ (D : Nat) (ps : List (List Nat)) (u : Int) (n : Nat) : List Nat := (List.range n).filter fun i => (checkN D i (ps.getD i [])).any fun x => decide (u = (x : Int))
theorem chkZ_succ (D : Nat) (ps : List (List Nat)) (u : Int) (n : Nat) : chkZ D ps u (n + 1) = if ((checkN D n (ps.getD n [])).any fun x => decide (u = (x : Int))) = true then chkZ D ps u n ++ [n] else chkZ D ps u n := by
  unfold chkZ
  rw [List.range_succ, List.filter_append]
  by_cases h : ((checkN D n (ps.getD n [])).any fun x => decide (u = (x : Int))) = true
  · rw [if_pos h]; simp only [List.filter_cons, h, if_true, List.filter_nil]
  · have h' := Bool.eq_false_iff.2 h
    rw [if_neg h]; simp only [List.filter_cons, h', Bool.false_eq_true, if_false, List.filter_nil, List.append_nil]
theorem chkZ_nat (D : Nat) (ps : List (List Nat)) (u n : Nat) : chkZ D ps u n = chkI D ps u n := by
  unfold chkZ chkI
  congr 1
  funext i
  rw [Bool.eq_iff_iff, List.any_eq_true]
  constructor
  · rintro ⟨x, hx, e⟩
    have : u = x := by
      have e2 : (u : Int) = x := of_decide_eq_true e
      omega
    rw [List.contains_iff_mem]
    exact this ▸ hx
  · intro h
    exact ⟨u, by simpa using h, by simp⟩
theorem chkZ_length (D : Nat) (ps : List (List Nat)) (u : Int) (n : Nat) : (chkZ D ps u n).length ≤ n := Nat.le_trans (List.length_filter_le _ _) (by simp)
attribute [local irreducible] Quiet Eff OpOk AWPG ACont ABlock ACalls AGoto
theorem A_indexI (l : List Int) (v : Int) (hl : l.length ≤ 1000000) : ACalls Tryd.prog 64 [ints l, iV v] [] (iV (idxA (fun x => decide (v = x)) l)) [] := by
  refine acalls_of_bodyO Tryd.func64 rfl (Nat.le_of_ble_eq_true rfl) ?_
  have hml : (l.map iD).length = l.length := List.length_map _
  (repeat' (first
  | (apply W.qd; (first
    | (apply q_mv; (first|exact vD|exact vO|exact vP|exact vA|exact vF|exact vR|exact vN|exact vY|exact vT|exact vM|exact vX))|(apply q_as; (first|exact vD|exact vO|exact vP|exact vA|exact vF|exact vR|exact vN|exact vY|exact vT|exact vM|exact vX))
    | (apply q_len_sl; exact rfl; exact rfl)))|(apply AWP.seq)|(apply ACont_normal)|(apply W.region; kernel_rfl)|(apply Walk.nil)
  | (apply AWP.block)))
  refine AWP.loopW (α := Nat) (fun k => k ≤ l.length ∧ ∀ x ∈ l.take k, decide (v = x) = false) (fun k => ⟨[(8, iV k), (7, iV l.length), (0, ints l), (1, iV v)], []⟩) (fun k => l.length - k) 0 ⟨by omega, by simp⟩ ⟨[], rfl, rfl, rfl, rfl, iV_eq (by simp), rfl, rfl, trivial⟩ fun k hk => ?_
  by_cases hkl : k < l.length
  · by_cases hv : v = l[k]
    · rw [idxA_hit hkl (decide_eq_true hv) hk.2]
      (repeat' (first
  | (apply W.qd; (first
    | (apply q_mv; (first|exact vD|exact vO|exact vP|exact vA|exact vF|exact vR|exact vN|exact vY|exact vT|exact vM|exact vX))|(apply q_as; (first|exact vD|exact vO|exact vP|exact vA|exact vF|exact vR|exact vN|exact vY|exact vT|exact vM|exact vX))|(apply q_lss; exact rfl; exact rfl)|(apply q_eql; exact rfl; exact rfl)|(apply q_ld_map; exact rfl; exact rfl; exact rfl; (first | omega | (focus (simp; done))))
    | (apply q_ix_slF; exact rfl; exact rfl; exact rfl; exact rfl; (first | (with_reducible exact rfl) | exact natI_spec rfl | assumption | exact (Int.toNat_of_nonneg (by omega)).symm); (first | omega | (focus (simp only [List.length_map]; omega)) | (focus (simp; done)) | (focus (simp; omega))))))|(apply AWP.seq)|(apply ACont_normal)|(apply W.region; kernel_rfl)|(apply Walk.nil)|(apply AWP.block)|(apply AWP.skip)|(apply AWP.ret)|(apply ACont_ret)|(apply ABlock_ret)
  | (refine W.cond _ rfl (fun hb => ?_) (fun hb => ?_) <;> ((try simp only [hb, Bool.not_true, Bool.not_false]) <;> (try simp only [decide_eq_true_eq, decide_eq_false_iff_not, Bool.not_eq_true', Bool.not_eq_false', Int.not_lt, Int.not_le, List.length_map, not_true_eq_false] at hb) <;> (try (exfalso; omega))))))
      exact ⟨.inl rfl, [], [iV k], rfl, rfl, ⟨rfl, trivial⟩, AVle.of_eq rfl, rfl⟩
    · (repeat' (first
  | (apply W.qd; (first
    | (apply q_mv; (first|exact vD|exact vO|exact vP|exact vA|exact vF|exact vR|exact vN|exact vY|exact vT|exact vM|exact vX))|(apply q_as; (first|exact vD|exact vO|exact vP|exact vA|exact vF|exact vR|exact vN|exact vY|exact vT|exact vM|exact vX))|(apply q_lss; exact rfl; exact rfl)|(apply q_eql; exact rfl; exact rfl)|(apply q_add; exact rfl; exact rfl; omega)|(apply q_ld_map; exact rfl; exact rfl; exact rfl; (first | omega | (focus (simp; done))))
    | (apply q_ix_slF; exact rfl; exact rfl; exact rfl; exact rfl; (first | (with_reducible exact rfl) | exact natI_spec rfl | assumption | exact (Int.toNat_of_nonneg (by omega)).symm); (first | omega | (focus (simp only [List.length_map]; omega)) | (focus (simp; done)) | (focus (simp; omega))))))|(apply AWP.seq)|(apply ACont_normal)|(apply W.region; kernel_rfl)|(apply Walk.nil)|(apply AWP.block)|(apply AWP.skip)|(apply ABlock_normal)
  | (refine W.cond _ rfl (fun hb => ?_) (fun hb => ?_) <;> ((try simp only [hb, Bool.not_true, Bool.not_false]) <;> (try simp only [decide_eq_true_eq, decide_eq_false_iff_not, Bool.not_eq_true', Bool.not_eq_false', Int.not_lt, Int.not_le, List.length_map, not_true_eq_false] at hb) <;> (try (exfalso; omega))))))
      refine ⟨k + 1, ⟨by omega, fun x hx => ?_⟩, by omega, [], rfl, rfl, rfl, iV_eq (by omega), rfl, rfl, rfl, trivial⟩
      rw [List.take_succ_eq_append_getElem hkl] at hx
      rcases List.mem_append.1 hx with hx | hx
      · exact hk.2 x hx
      · rw [List.mem_singleton.1 hx]; exact decide_eq_false hv
  · rw [idxA_miss fun x hx => hk.2 x (by rwa [List.take_of_length_le (by omega)])]
    (repeat' (first
  | (apply W.qd; (first
    | (apply q_as; (first|exact vD|exact vO|exact vP|exact vA|exact vF|exact vR|exact vN|exact vY|exact vT|exact vM|exact vX))
    | (apply q_lss; exact rfl; exact rfl)))|(apply AWP.seq)|(apply ACont_normal)|(apply W.region; kernel_rfl)|(apply Walk.nil)|(apply AWP.exit)|(apply AWP.ret)|(apply ACont_exit)|(apply ABlock_exit)
  | (refine W.cond _ rfl (fun hb => ?_) (fun hb => ?_) <;> ((try simp only [hb, Bool.not_true, Bool.not_false]) <;> (try simp only [decide_eq_true_eq, decide_eq_false_iff_not, Bool.not_eq_true', Bool.not_eq_false', Int.not_lt, Int.not_le, List.length_map, not_true_eq_false] at hb) <;> (try (exfalso; omega))))))
    exact ⟨.inl rfl, [], [iV (-1)], rfl, rfl, ⟨rfl, trivial⟩, AVle.of_eq rfl, rfl⟩
theorem A_containsI (l : List Int) (v : Int) (hl : l.length ≤ 1000000) : ACalls Tryd.prog 42 [ints l, iV v] [] (bV (l.any fun x => decide (v = x))) [] := by
  refine acalls_of_bodyO Tryd.func42 rfl (Nat.le_of_ble_eq_true rfl) ?_
  have h := A_indexI l v hl
  have e := idxA_any (fun x => decide (v = x)) l
  generalize idxA (fun x => decide (v = x)) l = r at *
  (repeat' (first
  | (apply W.qd; (first
    | (apply (q_callC (h)); exact rfl; exact rfl; kernel_rfl; kernel_rfl; kernel_rfl)|(apply q_mv; (first|exact vD|exact vO|exact vP|exact vA|exact vF|exact vR|exact vN|exact vY|exact vT|exact vM|exact vX))|(apply q_as; (first|exact vD|exact vO|exact vP|exact vA|exact vF|exact vR|exact vN|exact vY|exact vT|exact vM|exact vX))
    | (apply q_geq; exact rfl; exact rfl)))|(apply AWP.seq)|(apply ACont_normal)|(apply W.region; kernel_rfl)|(apply Walk.nil)
  | (apply AWP.ret)))
  exact ⟨.inl rfl, [], [bV (decide (0 ≤ r))], rfl, rfl, ⟨rfl, trivial⟩, AVle.of_eq (congrArg bV e), rfl⟩
theorem A_cloneB {l : List Bool} (h0 : 0 < l.length) (hl : l.length ≤ 1000000) : ACalls Tryd.prog 30 [bools l] [] (.osl 0 1 0 l.length) [.row 1 1 4 (l.map tD)] := by
  refine acalls_of_bodyO Tryd.func30 rfl (Nat.le_of_ble_eq_true rfl) ?_
  have hm : (l.map tD).length = l.length := List.length_map _
  (repeat' (first
  | (apply W.ed; (apply e_lit0F; exact rfl; exact rfl; exact rfl; exact rfl; exact rfl))
  | (apply W.qd; (first
    | (apply q_mv; (first|exact vD|exact vO|exact vP|exact vA|exact vF|exact vR|exact vN|exact vY|exact vT|exact vM|exact vX))|(apply q_as; (first|exact vD|exact vO|exact vP|exact vA|exact vF|exact vR|exact vN|exact vY|exact vT|exact vM|exact vX))
    | (apply q_eqnilm; exact rfl; exact rfl; exact rfl; (first | assumption | omega))))|(apply W.ed; (apply e_appF; exact rfl; exact rfl; exact rfl; exact rfl; exact rfl; exact rfl; exact rfl; exact rfl; (first | rfl | simp); (first | exact Nat.zero_lt_one | (focus (simp; done)) | omega); (first | (focus (simp; done)) | (focus (simp; omega)) | omega)))|(apply AWP.seq)|(apply ACont_normal)|(apply W.region; kernel_rfl)|(apply Walk.nil)|(apply AWP.skip)|(apply AWP.ret)
  | (apply W.condF; exact rfl)))
  refine ⟨.inl rfl, [0], [.osl 0 1 0 ((([] : List Nat).length) + (l.map tD).length)], rfl, rfl, ⟨rfl, trivial⟩, AVle.of_eq ?_, rfl⟩
  show AV.osl 0 1 0 (0 + (l.map tD).length) = .osl 0 1 0 l.length
  rw [hm, Nat.zero_add]
theorem A_check {M D i : Nat} {ps : List (List Nat)} (h : CodeOk M D ps) (hi : i < ps.length) : ACalls Tryd.prog 41 [cdN M D ps, iV i] [] (nats (checkN D i (ps.getD i []))) [] := by
  refine acalls_of_body Tryd.func41 rfl (Nat.le_of_ble_eq_true rfl) ?_
  have h1 := h.d
  have h2 := h.w
  have hr := (h.row _ (List.getElem_mem hi)).1
  have e : ps.getD i [] = ps[i] := by rw [List.getD_eq_getElem?_getD, List.getElem?_eq_getElem hi]; rfl
  rw [e]
  have hmr : (ps[i].map kD).length = D := by rw [List.length_map]; exact hr
  (repeat' (first
  | (apply W.qd; (first
    | (apply q_mv; (first|exact vD|exact vO|exact vP|exact vA|exact vF|exact vR|exact vN|exact vY|exact vT|exact vM|exact vX))|(apply q_as; (first|exact vD|exact vO|exact vP|exact vA|exact vF|exact vR|exact vN|exact vY|exact vT|exact vM|exact vX))|(apply q_fld_optF; exact rfl; exact rfl; exact rfl)|(apply q_ld_box; exact rfl; exact rfl; exact rfl; exact rfl)|(apply q_len_sl; exact rfl; exact rfl)|(apply q_ld_map; exact rfl; exact rfl; exact rfl; (first | omega | (focus (simp; done))))
    | (apply q_ix_slF; exact rfl; exact rfl; exact rfl; exact rfl; (first | (with_reducible exact rfl) | exact natI_spec rfl | assumption | exact (Int.toNat_of_nonneg (by omega)).symm); (first | omega | (focus (simp only [List.length_map]; omega)) | (focus (simp; done)) | (focus (simp; omega))))))|(apply W.ed; (apply e_boxF; exact rfl; exact rfl; exact rfl; kernel_rfl; kernel_rfl))|(apply AWP.seq)|(apply ACont_normal)|(apply W.region; kernel_rfl)|(apply Walk.nil)
  | (apply AWP.block)))
  rw [hmr]
  refine AWP.nilRow 5 1 3 rfl (by omega) ?_
  refine AWP.loopW (α := Nat) (fun k => k ≤ D) (fun k => ⟨[(14, iV k), (13, iV D), (12, nats ps[i]), (5, .osl 1 (dataC D ps[i] k).length 0 (dataC D ps[i] k).length), (2, .opt 0 0), (1, iV i)], [.box [.d .any, iV M, iV D, rowsN ps, .d .any], .row (dataC D ps[i] k).length 1 3 ((dataC D ps[i] k).map kD)]⟩) (fun k => D - k) 0 (by omega) ?wk0 fun k hk => ?_
  case wk0 =>
    rw [show dataC D ps[i] 0 = [] from rfl]
    exact ⟨[0, 1], rfl, rfl, rfl, by (repeat (first | exact trivial | refine ⟨rfl, ?_⟩))⟩
  have hlc := dataC_length D ps[i] k
  by_cases hkD : k < D
  · have hs := Lib.hid (dataC_succ D ps[i] k)
    have e2 : ps[i].getD k 0 = ps[i][k]'(by omega) := by rw [List.getD_eq_getElem?_getD, List.getElem?_eq_getElem (show k < ps[i].length by omega)]; rfl
    rw [e2] at hs
    generalize dataC D ps[i] k = A at *
    (repeat' (first
  | (apply W.qd; (first
    | (apply q_mv; (first|exact vD|exact vO|exact vP|exact vA|exact vF|exact vR|exact vN|exact vY|exact vT|exact vM|exact vX))|(apply q_as; (first|exact vD|exact vO|exact vP|exact vA|exact vF|exact vR|exact vN|exact vY|exact vT|exact vM|exact vX))|(apply q_lss; exact rfl; exact rfl)|(apply q_neq; exact rfl; exact rfl)|(apply q_add; exact rfl; exact rfl; omega)|(apply q_ld_map; exact rfl; exact rfl; exact rfl; (first | omega | (focus (simp; done))))|(apply q_litF; exact rfl; exact rfl; exact rfl; exact rfl; exact rfl; kernel_rfl; kernel_rfl; exact rfl)
    | (apply q_ix_slF; exact rfl; exact rfl; exact rfl; exact rfl; (first | (with_reducible exact rfl) | exact natI_spec rfl | assumption | exact (Int.toNat_of_nonneg (by omega)).symm); (first | omega | (focus (simp only [List.length_map]; omega)) | (focus (simp; done)) | (focus (simp; omega))))))|(apply W.ld; (apply l_app1; exact rfl; exact rfl; exact rfl; exact rfl; exact rfl; exact rfl; exact rfl; exact rfl; (first | omega | (focus (simp; omega)) | (focus (simp; done)))))|(apply AWP.seq)|(apply ACont_normal)|(apply W.region; kernel_rfl)|(apply Walk.nil)|(apply AWP.block)|(apply AWP.skip)|(apply ABlock_normal)
  | (refine W.cond _ rfl (fun hb => ?_) (fun hb => ?_) <;> ((try simp only [hb, Bool.not_true, Bool.not_false]) <;> (try simp only [decide_eq_true_eq, decide_eq_false_iff_not, Bool.not_eq_true', Bool.not_eq_false', Int.not_lt, Int.not_le, List.length_map, not_true_eq_false] at hb) <;> (try (exfalso; omega))))))
    · rw [if_neg (by omega)] at hs
      refine ⟨k + 1, by omega, by omega, ?_⟩
      rw [hs.out, show (A ++ [k]).length = A.length + 1 by simp]
      exact ⟨[0, 1], rfl, rfl, rfl, iV_eq (by omega), rfl, rfl, congrArg (AV.osl 1 (A.length + 1) 0) (by simp), rfl, rfl, trivial⟩
    · rw [if_pos (by omega)] at hs
      refine ⟨k + 1, by omega, by omega, ?_⟩
      rw [hs.out]
      exact ⟨[0, 1], rfl, rfl, rfl, iV_eq (by omega), rfl, rfl, rfl, rfl, rfl, trivial⟩
  · have e3 : k = D := by omega
    subst e3
    unfold checkN
    generalize dataC k ps[i] k = A at *
    (repeat' (first
  | (apply W.qd; (first
    | (apply q_mv; (first|exact vD|exact vO|exact vP|exact vA|exact vF|exact vR|exact vN|exact vY|exact vT|exact vM|exact vX))|(apply q_as; (first|exact vD|exact vO|exact vP|exact vA|exact vF|exact vR|exact vN|exact vY|exact vT|exact vM|exact vX))|(apply q_fld_optF; exact rfl; exact rfl; exact rfl)|(apply q_ld_box; exact rfl; exact rfl; exact rfl; exact rfl)|(apply q_lss; exact rfl; exact rfl)|(apply q_add; exact rfl; exact rfl; omega)
    | (apply q_litF; exact rfl; exact rfl; exact rfl; exact rfl; exact rfl; kernel_rfl; kernel_rfl; exact rfl)))|(apply W.ld; (apply l_app1; exact rfl; exact rfl; exact rfl; exact rfl; exact rfl; exact rfl; exact rfl; exact rfl; (first | omega | (focus (simp; omega)) | (focus (simp; done)))))|(apply AWP.seq)|(apply ACont_normal)|(apply W.region; kernel_rfl)|(apply Walk.nil)|(apply AWP.exit)|(apply AWP.ret)|(apply ACont_exit)|(apply ABlock_exit)
  | (refine W.cond _ rfl (fun hb => ?_) (fun hb => ?_) <;> ((try simp only [hb, Bool.not_true, Bool.not_false]) <;> (try simp only [decide_eq_true_eq, decide_eq_false_iff_not, Bool.not_eq_true', Bool.not_eq_false', Int.not_lt, Int.not_le, List.length_map, not_true_eq_false] at hb) <;> (try (exfalso; omega))))))
    exact Ends.osl rfl rfl (by simp) rfl
theorem A_checks {M D : Nat} {u : Int} {ps : List (List Nat)} (h : CodeOk M D ps) : ACalls Tryd.prog 19 [cdN M D ps, iV u] [] (rowsN ((chkZ D ps u ps.length).map fun i => checkN D i (ps.getD i []))) [] := by
  refine acalls_of_body Tryd.func19 rfl (Nat.le_of_ble_eq_true rfl) ?_
  have h1 := h.d
  have h2 := h.w
  have h0 := A_evalidN h
  have hck := fun i (hi : i < ps.length) => A_check h hi
  have hmp : (ps.map rnD).length = ps.length := List.length_map _
  have hs := fun k => Lib.hid (chkZ_succ D ps u k)
  have hl := fun k => chkZ_length D ps u k
  have hz : chkZ D ps u 0 = [] := rfl
  have hcl := fun k => checkN_length D k (ps.getD k [])
  generalize chkZ D ps u = CZ at *
  generalize hC : (fun i => checkN D i (ps.getD i [])) = C
  have hC' : ∀ i, checkN D i (ps.getD i []) = C i := fun i => congrFun hC i
  simp only [hC'] at hck hs hcl
  (repeat' (first
  | (apply W.qd; (first
    | (apply (q_callC (h0)); exact rfl; exact rfl; kernel_rfl; kernel_rfl; kernel_rfl)|(apply q_mv; (first|exact vD|exact vO|exact vP|exact vA|exact vF|exact vR|exact vN|exact vY|exact vT|exact vM|exact vX))|(apply q_as; (first|exact vD|exact vO|exact vP|exact vA|exact vF|exact vR|exact vN|exact vY|exact vT|exact vM|exact vX))|(apply q_fld_optF; exact rfl; exact rfl; exact rfl)|(apply q_ld_box; exact rfl; exact rfl; exact rfl; exact rfl)|(apply q_ld_boxF; exact rfl; exact rfl; exact rfl; exact rfl)|(apply q_not; exact rfl)
    | (apply q_len_sl; exact rfl; exact rfl)))|(apply W.ed; (apply e_boxF; exact rfl; exact rfl; exact rfl; kernel_rfl; kernel_rfl))|(apply AWP.seq)|(apply ACont_normal)|(apply W.region; kernel_rfl)|(apply Walk.nil)|(apply AWP.block)|(apply AWP.skip)
  | (apply W.condF; exact rfl)))
  refine AWP.nilRow 5 1 36 rfl (by omega) ?_
  refine AWP.loopW (α := Nat) (fun k => k ≤ ps.length) (fun k => ⟨[(14, iV k), (13, iV ps.length), (5, .osl 1 (CZ k).length 0 (CZ k).length), (2, .opt 0 0), (1, iV u)], [.box [.d .any, iV M, iV D, rowsN ps, .d .any], .row (CZ k).length 1 36 (((CZ k).map C).map rnD)]⟩) (fun k => ps.length - k) 0 (by omega) ?wk0 fun k hk => ?_
  case wk0 =>
    rw [hz]
    exact ⟨[0, 1], rfl, rfl, rfl, rfl, iV_eq (by simp), rfl, rfl, rfl, trivial⟩
  have hlc := hl k
  by_cases hkl : k < ps.length
  · have hc := hck k hkl
    have hci := A_containsI ((C k).map fun n : Nat => (n : Int)) u (by rw [List.length_map]; have := hcl k; omega)
    rw [← nats_ints] at hci
    have hs2 := hs k
    have e : ((C k).map fun n : Nat => (n : Int)).any (fun x => decide (u = x)) = (C k).any fun x => decide (u = (x : Int)) := by rw [List.any_map]; rfl
    rw [e] at hci
    clear hs hck hl
    cases hb2 : (C k).any fun x => decide (u = (x : Int)) <;> rw [hb2] at hci hs2
    · replace hs2 := Lib.hid (hs2.out.trans (if_neg (by decide)))
      (repeat' (first
  | (apply W.qd; (first
    | (apply (q_callC (hc)); exact rfl; exact rfl; kernel_rfl; kernel_rfl; kernel_rfl)|(apply (q_callC (hci)); exact rfl; exact rfl; kernel_rfl; kernel_rfl; kernel_rfl)|(apply q_mv; (first|exact vD|exact vO|exact vP|exact vA|exact vF|exact vR|exact vN|exact vY|exact vT|exact vM|exact vX))|(apply q_as; (first|exact vD|exact vO|exact vP|exact vA|exact vF|exact vR|exact vN|exact vY|exact vT|exact vM|exact vX))|(apply q_ld_boxF; exact rfl; exact rfl; exact rfl; exact rfl)|(apply q_lss; exact rfl; exact rfl)
    | (apply q_add; exact rfl; exact rfl; omega)))|(apply AWP.seq)|(apply ACont_normal)|(apply W.region; kernel_rfl)|(apply Walk.nil)|(apply AWP.block)|(apply AWP.skip)|(apply ABlock_normal)|(apply W.condF; exact rfl)
  | (refine W.cond _ rfl (fun hb => ?_) (fun hb => ?_) <;> ((try simp only [hb, Bool.not_true, Bool.not_false]) <;> (try simp only [decide_eq_true_eq, decide_eq_false_iff_not, Bool.not_eq_true', Bool.not_eq_false', Int.not_lt, Int.not_le, List.length_map, not_true_eq_false] at hb) <;> (try (exfalso; omega))))))
      refine ⟨k + 1, by omega, by omega, ?_⟩
      rw [hs2.out]
      exact ⟨[0, 1], rfl, rfl, rfl, iV_eq (by omega), rfl, rfl, rfl, rfl, trivial⟩
    · replace hs2 := Lib.hid (hs2.out.trans (if_pos rfl))
      have hln : (CZ k).length = ((CZ k).map C).length := by simp
      rw [hln]
      have hln2 : ((CZ k).map C).length ≤ 1000 := by rw [← hln]; omega
      have hs3 : (CZ (k + 1)).map C = (CZ k).map C ++ [C k] := by rw [hs2.out, List.map_append]; rfl
      have hs4 : (CZ (k + 1)).length = ((CZ k).map C).length + 1 := by rw [hs2.out]; simp
      replace hs3 := Lib.hid hs3
      replace hs4 := Lib.hid hs4
      generalize (CZ k).map C = A at *
      (repeat' (first
  | (apply W.qd; (first
    | (apply (q_callC (hc)); exact rfl; exact rfl; kernel_rfl; kernel_rfl; kernel_rfl)|(apply (q_callC (hci)); exact rfl; exact rfl; kernel_rfl; kernel_rfl; kernel_rfl)|(apply q_mv; (first|exact vD|exact vO|exact vP|exact vA|exact vF|exact vR|exact vN|exact vY|exact vT|exact vM|exact vX))|(apply q_as; (first|exact vD|exact vO|exact vP|exact vA|exact vF|exact vR|exact vN|exact vY|exact vT|exact vM|exact vX))|(apply q_ld_boxF; exact rfl; exact rfl; exact rfl; exact rfl)|(apply q_lss; exact rfl; exact rfl)|(apply q_add; exact rfl; exact rfl; omega)
    | (apply q_litF; exact rfl; exact rfl; exact rfl; exact rfl; exact rfl; kernel_rfl; kernel_rfl; exact rfl)))|(apply W.ld; (apply l_app1; exact rfl; exact rfl; exact rfl; exact rfl; exact rfl; exact rfl; exact rfl; exact rfl; (first | omega | (focus (simp; omega)) | (focus (simp; done)))))|(apply AWP.seq)|(apply ACont_normal)|(apply W.region; kernel_rfl)|(apply Walk.nil)|(apply AWP.block)|(apply AWP.skip)|(apply ABlock_normal)|(apply W.condT; exact rfl)
  | (refine W.cond _ rfl (fun hb => ?_) (fun hb => ?_) <;> ((try simp only [hb, Bool.not_true, Bool.not_false]) <;> (try simp only [decide_eq_true_eq, decide_eq_false_iff_not, Bool.not_eq_true', Bool.not_eq_false', Int.not_lt, Int.not_le, List.length_map, not_true_eq_false] at hb) <;> (try (exfalso; omega))))))
      refine ⟨k + 1, by omega, by omega, ?_⟩
      rw [hs3.out, hs4.out]
      exact ⟨[0, 1], rfl, rfl, rfl, iV_eq (by omega), rfl, congrArg (AV.osl 1 (A.length + 1) 0) (by simp), rfl, rfl, trivial⟩
  · have e : k = ps.length := by omega
    subst e
    have hln : (CZ ps.length).length = ((CZ ps.length).map C).length := by simp
    rw [hln]
    generalize (CZ ps.length).map C = A at *
    (repeat' (first
  | (apply W.qd; (first
    | (apply q_mv; (first|exact vD|exact vO|exact vP|exact vA|exact vF|exact vR|exact vN|exact vY|exact vT|exact vM|exact vX))|(apply q_as; (first|exact vD|exact vO|exact vP|exact vA|exact vF|exact vR|exact vN|exact vY|exact vT|exact vM|exact vX))
    | (apply q_lss; exact rfl; exact rfl)))|(apply AWP.seq)|(apply ACont_normal)|(apply W.region; kernel_rfl)|(apply Walk.nil)|(apply AWP.exit)|(apply AWP.ret)|(apply ACont_exit)|(apply ABlock_exit)
  | (refine W.cond _ rfl (fun hb => ?_) (fun hb => ?_) <;> ((try simp only [hb, Bool.not_true, Bool.not_false]) <;> (try simp only [decide_eq_true_eq, decide_eq_false_iff_not, Bool.not_eq_true', Bool.not_eq_false', Int.not_lt, Int.not_le, List.length_map, not_true_eq_false] at hb) <;> (try (exfalso; omega))))))
    exact Ends.osl rfl rfl (by simp) rfl
theorem A_div {M : Nat} {a b : Nat} (hM : FldM M) (ha : a < 2 ^ M) (hb : b < 2 ^ M) (h0 : b ≠ 0) : ACalls Tryd.prog 62 [iV M, iV a, iV b] [] (.tup [iV (mu M a (invN M b) : Nat), iV 0]) [] := by
  refine acalls_of_body Tryd.func62 rfl (Nat.le_of_ble_eq_true rfl) ?_
  have ha' := hM.cap ha
  have hb' := hM.cap hb
  have hc := A_all M [a, b] (by simp) (by simp; omega)
  have hall : allF M [(a : Int), (b : Int)] = true := by
    unfold allF
    rw [decide_eq_true (by unfold FldM at hM; omega)]
    simp [inF_lt hM ha, inF_lt hM hb]
  rw [hall] at hc
  have hi := A_inverse hM hb h0
  have hp := A_product hM ha (b := invN M b) (invN_lt _)
  (repeat' (first
  | (apply W.qd; (first
    | (apply (q_callC (hc)); exact rfl; exact rfl; kernel_rfl; kernel_rfl; kernel_rfl)|(apply (q_callC (hi)); exact rfl; exact rfl; kernel_rfl; kernel_rfl; kernel_rfl)|(apply (q_callC (hp)); exact rfl; exact rfl; kernel_rfl; kernel_rfl; kernel_rfl)|(apply q_mv; (first|exact vD|exact vO|exact vP|exact vA|exact vF|exact vR|exact vN|exact vY|exact vT|exact vM|exact vX))|(apply q_as; (first|exact vD|exact vO|exact vP|exact vA|exact vF|exact vR|exact vN|exact vY|exact vT|exact vM|exact vX))|(apply q_eql; exact rfl; exact rfl)|(apply q_not; exact rfl)
    | (apply q_litF; exact rfl; exact rfl; exact rfl; exact rfl; exact rfl; kernel_rfl; kernel_rfl; exact rfl)))|(apply AWP.seq)|(apply ACont_normal)|(apply W.region; kernel_rfl)|(apply Walk.nil)|(apply AWP.block)|(apply AWP.skip)|(apply AWP.ret)|(apply ABlock_normal)|(apply W.condF; exact rfl)
  | (refine W.cond _ rfl (fun hb => ?_) (fun hb => ?_) <;> ((try simp only [hb, Bool.not_true, Bool.not_false]) <;> (try simp only [decide_eq_true_eq, decide_eq_false_iff_not, Bool.not_eq_true', Bool.not_eq_false', Int.not_lt, Int.not_le, List.length_map, not_true_eq_false] at hb) <;> (try (exfalso; omega))))))
  exact Ends.two rfl rfl rfl
theorem A_coef {M D k : Nat} {ps : List (List Nat)} {row : List Nat} (hk : k < 1000) (hr : row.length = D) (hD : D ≤ 32) : ACalls Tryd.prog 61 [iV k, .opt 1 0, .opt 0 0] [.box [.d .any, iV M, iV D, rowsN ps, .d .any], .box [.osl 2 2 0 (D + 1)], .row 2 1 3 ((row ++ [1]).map kD)] (iV (coefN row D k)) [.box [.d .any, iV M, iV D, rowsN ps, .d .any], .box [.osl 2 2 0 (D + 1)], .row 2 1 3 ((row ++ [1]).map kD)] := by
  refine acalls_of_bodyO Tryd.func61 rfl (Nat.le_of_ble_eq_true rfl) ?_
  have hl : (row ++ [1]).length = D + 1 := by simp [hr]
  unfold coefN
  by_cases hkD : k < D
  · rw [if_pos hkD]
    have hmin : (if (D : Int) < (k : Int) then (D : Int) else (k : Int)) = ((k : Nat) : Int) := if_neg (by omega)
    (repeat' (first
  | (apply W.qd; (first
    | (apply q_mv; (first|exact vD|exact vO|exact vP|exact vA|exact vF|exact vR|exact vN|exact vY|exact vT|exact vM|exact vX))|(apply q_as; (first|exact vD|exact vO|exact vP|exact vA|exact vF|exact vR|exact vN|exact vY|exact vT|exact vM|exact vX))|(apply q_fld_optF; exact rfl; exact rfl; exact rfl)|(apply q_ld_box; exact rfl; exact rfl; exact rfl; exact rfl)|(apply q_min; exact rfl; exact rfl)|(apply q_ix_osl0; exact rfl; exact rfl; exact rfl; exact rfl; (first | (with_reducible exact rfl) | exact natI_spec rfl | assumption | exact (Int.toNat_of_nonneg (by omega)).symm); (first | omega | (focus (simp only [List.length_map]; omega)) | (focus (simp; done)) | (focus (simp; omega))))
    | (apply q_ld_rptm; exact rfl; exact rfl; exact rfl; exact rfl; (first | omega | (focus (simp only [List.length_map]; omega)) | (focus (simp; done)) | (focus (simp; omega))))))|(apply AWP.seq)|(apply ACont_normal)|(apply W.region; kernel_rfl)|(apply Walk.nil)
  | (apply AWP.ret)))
    refine ⟨.inl rfl, [0, 1, 2], [_], rfl, rfl, ⟨rfl, trivial⟩, AVle.of_eq (iV_eq ?_), rfl⟩
    rw [List.getElem_append_left (by omega), List.getD_eq_getElem?_getD, List.getElem?_eq_getElem (show k < row.length by omega)]
    rfl
  · rw [if_neg hkD]
    have hmin : (if (D : Int) < (k : Int) then (D : Int) else (k : Int)) = ((D : Nat) : Int) := by split <;> omega
    (repeat' (first
  | (apply W.qd; (first
    | (apply q_mv; (first|exact vD|exact vO|exact vP|exact vA|exact vF|exact vR|exact vN|exact vY|exact vT|exact vM|exact vX))|(apply q_as; (first|exact vD|exact vO|exact vP|exact vA|exact vF|exact vR|exact vN|exact vY|exact vT|exact vM|exact vX))|(apply q_fld_optF; exact rfl; exact rfl; exact rfl)|(apply q_ld_box; exact rfl; exact rfl; exact rfl; exact rfl)|(apply q_min; exact rfl; exact rfl)|(apply q_ix_osl0; exact rfl; exact rfl; exact rfl; exact rfl; (first | (with_reducible exact rfl) | exact natI_spec rfl | assumption | exact (Int.toNat_of_nonneg (by omega)).symm); (first | omega | (focus (simp only [List.length_map]; omega)) | (focus (simp; done)) | (focus (simp; omega))))
    | (apply q_ld_rptm; exact rfl; exact rfl; exact rfl; exact rfl; (first | omega | (focus (simp only [List.length_map]; omega)) | (focus (simp; done)) | (focus (simp; omega))))))|(apply AWP.seq)|(apply ACont_normal)|(apply W.region; kernel_rfl)|(apply Walk.nil)
  | (apply AWP.ret)))
    refine ⟨.inl rfl, [0, 1, 2], [_], rfl, rfl, ⟨rfl, trivial⟩, AVle.of_eq (iV_eq ?_), rfl⟩
    rw [List.getElem_append_right (by omega)]
    simp
end Go.Proofs.YtilpljehfcpjeaaDoor
end
section
/- Package repair over the machine of abstract values: terms, Plan, Reads. -/
namespace Go.Proofs.YtilpljehfcpjeaaDoor
open Go.RowKit
set_option maxHeartbeats 4000000
set_option maxRecDepth 100000
theorem cterms_take (M D : Nat) (row L : List Nat) (u k : Nat) (h : k < L.length) : ctermsN M D row (L.take (k + 1)) u = if L[k] = u then ctermsN M D row (L.take k) u else ctermsN M D row (L.take k) u ++ [(L[k], mu M (coefN row D L[k]) (invN M (coefN row D u)))] := by
  unfold ctermsN
  rw [List.take_succ_eq_append_getElem h, List.filter_append, List.map_append]
  by_cases e : L[k] = u
  · have e2 : (L[k] != u) = false := by simpa using e
    rw [if_pos e]; simp only [List.filter_cons, e2, Bool.false_eq_true, if_false, List.filter_nil, List.map_nil, List.append_nil]
  · have e2 : (L[k] != u) = true := by simpa using e
    rw [if_neg e]; simp only [List.filter_cons, e2, if_true, List.filter_nil, List.map_cons, List.map_nil]
theorem cterms_le (M D : Nat) (row L : List Nat) (u : Nat) : (ctermsN M D row L u).length ≤ L.length := by
  unfold ctermsN; rw [List.length_map]; exact List.length_filter_le _ _
def candC (M D : Nat) (ps : List (List Nat)) (oth : List Bool) (u : Nat) (I : List Nat) : List (List (Nat × Nat)) := (I.filter fun i => fullC oth (checkN D i (ps.getD i [])) u).map fun i => ctermsN M D (ps.getD i []) (checkN D i (ps.getD i [])) u
theorem candC_take (M D : Nat) (ps : List (List Nat)) (oth : List Bool) (u : Nat) (I : List Nat) (k : Nat) (h : k < I.length) : candC M D ps oth u (I.take (k + 1)) = if fullC oth (checkN D I[k] (ps.getD I[k] [])) u = true then candC M D ps oth u (I.take k) ++ [ctermsN M D (ps.getD I[k] []) (checkN D I[k] (ps.getD I[k] [])) u] else candC M D ps oth u (I.take k) := by
  unfold candC
  rw [List.take_succ_eq_append_getElem h, List.filter_append, List.map_append]
  by_cases e : fullC oth (checkN D I[k] (ps.getD I[k] [])) u = true
  · rw [if_pos e]; simp only [List.filter_cons, e, if_true, List.filter_nil, List.map_cons, List.map_nil]
  · have e2 := Bool.eq_false_iff.2 e
    rw [if_neg e]; simp only [List.filter_cons, e2, Bool.false_eq_true, if_false, List.filter_nil, List.map_nil, List.append_nil]
theorem candC_le (M D : Nat) (ps : List (List Nat)) (oth : List Bool) (u : Nat) (I : List Nat) : (candC M D ps oth u I).length ≤ I.length := by
  unfold candC; rw [List.length_map]; exact List.length_filter_le _ _
def misZ (oth : List Bool) (u : Nat) (x : Int) : Bool := !decide (x = (u : Int)) && !(oth.getD x.toNat false)
theorem misZ_full (oth : List Bool) (u : Nat) (l : List Nat) : (l.map fun n : Nat => (n : Int)).any (misZ oth u) = !fullC oth l u := by
  unfold fullC misZ
  rw [List.any_map, List.all_eq_not_any_not, Bool.not_not]
  congr 1
  funext x
  show (!decide ((x : Int) = (u : Int)) && !(oth.getD (x : Int).toNat false)) = !(x == u || oth.getD x false)
  rw [Int.toNat_natCast, Bool.not_or]
  congr 2
  rw [Bool.eq_iff_iff]
  simp
  omega
attribute [local irreducible] Quiet Eff OpOk AWPG ACont ABlock ACalls AGoto
theorem A_rterms {M D i u : Nat} {ps : List (List Nat)} (h : CodeOk M D ps) (hi : i < ps.length) (hu : u ∈ checkN D i (ps.getD i [])) : ACalls Tryd.prog 33 [cdN M D ps, nats (checkN D i (ps.getD i [])), iV u] [] (tmsA (ctermsN M D (ps.getD i []) (checkN D i (ps.getD i [])) u)) [] := by
  refine acalls_of_body Tryd.func33 rfl (Nat.le_of_ble_eq_true rfl) ?_
  have h1 := h.d
  have h2 := h.w
  have hM := h.f
  have hck := fun k (hk : k ∈ checkN D i (ps.getD i [])) => coef_ok h hi hk
  have hr := (h.row _ (List.getElem_mem hi)).1
  have e : ps.getD i [] = ps[i] := by rw [List.getD_eq_getElem?_getD, List.getElem?_eq_getElem hi]; rfl
  have hLl : (checkN D i (ps.getD i [])).length = (dataC D (ps.getD i []) D).length + 1 := by simp [checkN]
  have hLv : ∀ h : (dataC D (ps.getD i []) D).length < (checkN D i (ps.getD i [])).length, (checkN D i (ps.getD i []))[(dataC D (ps.getD i []) D).length] = D + i := fun h => by simp [checkN]
  have hLc := checkN_length D i (ps.getD i [])
  rw [e] at hck hLl hLv hLc hu ⊢
  generalize (dataC D ps[i] D).length = n at *
  have hs := fun k (hk : k < (checkN D i ps[i]).length) => Lib.hid (cterms_take M D ps[i] (checkN D i ps[i]) u k hk)
  have hle := fun k => cterms_le M D ps[i] ((checkN D i ps[i]).take k) u
  have h00 : ctermsN M D ps[i] ((checkN D i ps[i]).take 0) u = [] := rfl
  have hfull : ctermsN M D ps[i] ((checkN D i ps[i]).take (checkN D i ps[i]).length) u = ctermsN M D ps[i] (checkN D i ps[i]) u := by rw [List.take_length]
  generalize checkN D i ps[i] = L at *
  have hml : (L.map kD).length = L.length := List.length_map _
  have hi1 : (((L.map kD).length : Int) - 1) = ((n : Nat) : Int) := by omega
  have hv := hLv (by omega)
  have hi2 : ((L[n]'(by omega) : Nat) : Int) - (D : Int) = ((i : Nat) : Int) := by omega
  have hcl := A_clone (l := ps[i]) (by omega) (by omega)
  have hcoef := fun k (hk : k < 1000) => A_coef (M := M) (ps := ps) (row := ps[i]) hk hr (show D ≤ 32 by omega)
  have hlr : (ps[i]).length = D := hr
  generalize hC : (fun k => ctermsN M D ps[i] (L.take k) u) = CT
  have hC' : ∀ k, ctermsN M D ps[i] (L.take k) u = CT k := fun k => congrFun hC k
  simp only [hC'] at hs hle h00 hfull
  rw [← hfull]
  (repeat' (first
  | (apply W.qd; (apply q_as; (first|exact vD|exact vO|exact vP|exact vA|exact vF|exact vR|exact vN|exact vY|exact vT|exact vM|exact vX)))|(apply W.ed; (apply e_boxF; exact rfl; exact rfl; exact rfl; kernel_rfl; kernel_rfl))|(apply AWP.seq)|(apply ACont_normal)|(apply (W.regionS 1); exact rfl; kernel_rfl)
  | (apply Walk.nil)))
  refine AWP.hole rfl (AWP.hole rfl ?_)
  (repeat' (first
  | (apply W.qd; (first
    | (apply q_mv; (first|exact vD|exact vO|exact vP|exact vA|exact vF|exact vR|exact vN|exact vY|exact vT|exact vM|exact vX))|(apply q_as; (first|exact vD|exact vO|exact vP|exact vA|exact vF|exact vR|exact vN|exact vY|exact vT|exact vM|exact vX))|(apply q_fld_optF; exact rfl; exact rfl; exact rfl)|(apply q_ld_box; exact rfl; exact rfl; exact rfl; exact rfl)|(apply q_sub; exact rfl; exact rfl; omega)|(apply q_len_sl; exact rfl; exact rfl)|(apply q_ld_map; exact rfl; exact rfl; exact rfl; (first | omega | (focus (simp; done))))|(apply q_makeFunc)|(apply q_litF; exact rfl; exact rfl; exact rfl; exact rfl; exact rfl; kernel_rfl; kernel_rfl; exact rfl)
    | (apply q_ix_slF; exact rfl; exact rfl; exact rfl; exact rfl; (first | (with_reducible exact rfl) | exact natI_spec rfl | assumption | exact (Int.toNat_of_nonneg (by omega)).symm); (first | omega | (focus (simp only [List.length_map]; omega)) | (focus (simp; done)) | (focus (simp; omega))))))
  | (apply W.ld; (first
    | (apply (l_call (hcl)); exact rfl; exact rfl; exact rfl; exact rfl; kernel_rfl; kernel_rfl)|(apply (l_app1 (f := kD) 1); exact rfl; exact rfl; exact rfl; exact rfl; exact rfl; exact rfl; exact rfl; exact rfl; omega)
    | (apply l_alloc; exact rfl; exact rfl; exact rfl; kernel_rfl; kernel_rfl)))|(apply W.ln; (apply l_st_box; exact rfl; exact rfl; exact rfl; exact rfl; exact rfl; exact rfl; kernel_rfl; kernel_rfl; kernel_rfl))|(apply AWP.seq)|(apply ACont_normal)|(apply W.region; kernel_rfl)|(apply W.regionD; exact rfl; kernel_rfl)|(apply Walk.nil)|(apply W.chk; kernel_rfl)
  | (apply AWP.block)))
  refine AWP.nilRow 9 2 47 rfl (by omega) ?_
  refine AWP.loopW (α := Nat) (fun k => k ≤ L.length) (fun k => ⟨[(33, iV k), (32, iV L.length), (31, nats L), (2, iV u), (8, .fn 61 [.opt 2 0, .opt 0 0]), (3, .opt 0 0), (9, .osl 3 (CT k).length 0 (CT k).length)], [.box [.d .any, iV M, iV D, rowsN ps, .d .any], .row 2 1 3 ((ps[i] ++ [1]).map kD), .box [.osl 1 2 0 (D + 1)], .row (CT k).length 2 47 ((CT k).map tmD)]⟩) (fun k => L.length - k) 0 (by omega) ?wk0 fun k hk => ?_
  case wk0 =>
    rw [h00]
    refine ⟨[0, 1, 2, 3], rfl, rfl, ?_, rfl, iV_eq (by simp), rfl, rfl, rfl, rfl, rfl, trivial⟩
    have e9 : (ps[i] ++ [1]).length = D + 1 := by simp [hr]
    show _ = _
    rw [← e9]
    rfl
  have hlc := hle k
  have hlk : (L.take k).length ≤ 33 := by rw [List.length_take]; omega
  by_cases hkl : k < L.length
  · have hs2 := hs k hkl
    have hk1 := hck L[k] (List.getElem_mem hkl)
    have hu1 := hck u hu
    have c1 := hcoef L[k] (by omega)
    have c2 := hcoef u (by omega)
    have c3 := A_div hM hk1.2.1 hu1.2.1 hu1.2.2
    generalize coefN ps[i] D L[k] = a at *
    generalize coefN ps[i] D u = b at *
    by_cases hku : L[k] = u
    · replace hs2 := Lib.hid (hs2.out.trans (if_pos hku))
      (repeat' (first
  | (apply W.qd; (first
    | (apply q_mv; (first|exact vD|exact vO|exact vP|exact vA|exact vF|exact vR|exact vN|exact vY|exact vT|exact vM|exact vX))|(apply q_as; (first|exact vD|exact vO|exact vP|exact vA|exact vF|exact vR|exact vN|exact vY|exact vT|exact vM|exact vX))|(apply q_lss; exact rfl; exact rfl)|(apply q_neq; exact rfl; exact rfl)|(apply q_add; exact rfl; exact rfl; omega)|(apply q_ld_map; exact rfl; exact rfl; exact rfl; (first | omega | (focus (simp; done))))
    | (apply q_ix_slF; exact rfl; exact rfl; exact rfl; exact rfl; (first | (with_reducible exact rfl) | exact natI_spec rfl | assumption | exact (Int.toNat_of_nonneg (by omega)).symm); (first | omega | (focus (simp only [List.length_map]; omega)) | (focus (simp; done)) | (focus (simp; omega))))))|(apply AWP.seq)|(apply ACont_normal)|(apply W.region; kernel_rfl)|(apply Walk.nil)|(apply AWP.block)|(apply AWP.skip)|(apply ABlock_normal)
  | (refine W.cond _ rfl (fun hb => ?_) (fun hb => ?_) <;> ((try simp only [hb, Bool.not_true, Bool.not_false]) <;> (try simp only [decide_eq_true_eq, decide_eq_false_iff_not, Bool.not_eq_true', Bool.not_eq_false', Int.not_lt, Int.not_le, List.length_map, not_true_eq_false] at hb) <;> (try (exfalso; omega))))))
      refine ⟨k + 1, by omega, by omega, ?_⟩
      rw [hs2.out]
      exact ⟨[0, 1, 2, 3], rfl, rfl, rfl, iV_eq (by omega), rfl, rfl, rfl, rfl, rfl, rfl, trivial⟩
    · replace hs2 := Lib.hid (hs2.out.trans (if_neg hku))
      (repeat' (first
  | (apply W.qd; (first
    | (apply (q_callR (js := [0, 2, 1]) (c1)); exact rfl; exact rfl; exact rfl; exact fun _ => rfl; exact fun _ => rfl; kernel_rfl; kernel_rfl)|(apply (q_callR (js := [0, 2, 1]) (c2)); exact rfl; exact rfl; exact rfl; exact fun _ => rfl; exact fun _ => rfl; kernel_rfl; kernel_rfl)|(apply (q_callC (c3)); exact rfl; exact rfl; kernel_rfl; kernel_rfl; kernel_rfl)|(apply q_mv; (first|exact vD|exact vO|exact vP|exact vA|exact vF|exact vR|exact vN|exact vY|exact vT|exact vM|exact vX))|(apply q_as; (first|exact vD|exact vO|exact vP|exact vA|exact vF|exact vR|exact vN|exact vY|exact vT|exact vM|exact vX))|(apply q_fld_optF; exact rfl; exact rfl; exact rfl)|(apply q_ld_box; exact rfl; exact rfl; exact rfl; exact rfl)|(apply q_lss; exact rfl; exact rfl)|(apply q_neq; exact rfl; exact rfl)|(apply q_add; exact rfl; exact rfl; omega)|(apply q_extract; exact rfl; exact rfl)|(apply q_ld_map; exact rfl; exact rfl; exact rfl; (first | omega | (focus (simp; done))))|(apply q_buildF; exact rfl; exact rfl; kernel_rfl)|(apply q_litF; exact rfl; exact rfl; exact rfl; exact rfl; exact rfl; kernel_rfl; kernel_rfl; exact rfl)
    | (apply q_ix_slF; exact rfl; exact rfl; exact rfl; exact rfl; (first | (with_reducible exact rfl) | exact natI_spec rfl | assumption | exact (Int.toNat_of_nonneg (by omega)).symm); (first | omega | (focus (simp only [List.length_map]; omega)) | (focus (simp; done)) | (focus (simp; omega))))))|(apply W.ld; (apply (l_app1 (f := tmD) (L[k], mu M a (invN M b))); exact rfl; exact rfl; exact rfl; exact rfl; exact rfl; exact rfl; exact rfl; exact rfl; omega))|(apply AWP.seq)|(apply ACont_normal)|(apply W.region; kernel_rfl)|(apply W.regionD; exact rfl; kernel_rfl)|(apply Walk.nil)|(apply W.chk; kernel_rfl)|(apply AWP.block)|(apply AWP.skip)|(apply ABlock_normal)
  | (refine W.cond _ rfl (fun hb => ?_) (fun hb => ?_) <;> ((try simp only [hb, Bool.not_true, Bool.not_false]) <;> (try simp only [decide_eq_true_eq, decide_eq_false_iff_not, Bool.not_eq_true', Bool.not_eq_false', Int.not_lt, Int.not_le, List.length_map, not_true_eq_false] at hb) <;> (try (exfalso; omega))))))
      refine ⟨k + 1, by omega, by omega, ?_⟩
      rw [hs2.out, show (CT k ++ [(L[k], mu M a (invN M b))]).length = (CT k).length + 1 by simp]
      exact ⟨[0, 1, 2, 3], rfl, rfl, rfl, iV_eq (by omega), rfl, rfl, rfl, rfl, rfl, congrArg (AV.osl 3 ((CT k).length + 1) 0) (by simp), trivial⟩
  · have e4 : k = L.length := by omega
    subst e4
    generalize CT L.length = A at *
    (repeat' (first
  | (apply W.qd; (first
    | (apply q_mv; (first|exact vD|exact vO|exact vP|exact vA|exact vF|exact vR|exact vN|exact vY|exact vT|exact vM|exact vX))|(apply q_as; (first|exact vD|exact vO|exact vP|exact vA|exact vF|exact vR|exact vN|exact vY|exact vT|exact vM|exact vX))
    | (apply q_lss; exact rfl; exact rfl)))|(apply AWP.seq)|(apply ACont_normal)|(apply W.region; kernel_rfl)|(apply Walk.nil)|(apply AWP.exit)|(apply AWP.ret)|(apply ACont_exit)|(apply ABlock_exit)
  | (refine W.cond _ rfl (fun hb => ?_) (fun hb => ?_) <;> ((try simp only [hb, Bool.not_true, Bool.not_false]) <;> (try simp only [decide_eq_true_eq, decide_eq_false_iff_not, Bool.not_eq_true', Bool.not_eq_false', Int.not_lt, Int.not_le, List.length_map, not_true_eq_false] at hb) <;> (try (exfalso; omega))))))
    exact Ends.osl rfl rfl (by simp) rfl
theorem A_fits {M D : Int} {par : List (List Int)} {hv : List Bool} (hp : CodeIn par) : ACalls Tryd.prog 29 [cdA M D par, bools hv] [] (bV (validC M D par && decide ((hv.length : Int) = D + (par.length : Int)))) [] := by
  refine acalls_of_bodyO Tryd.func29 rfl (Nat.le_of_ble_eq_true rfl) ?_
  have h0 := A_evalid (M := M) (D := D) hp
  have h1 := A_ewidth (M := M) (D := D) hp
  have hmh : (hv.map tD).length = hv.length := List.length_map _
  cases hv2 : validC M D par
  · rw [hv2] at h0
    (repeat' (first
  | (apply W.qd; (first
    | (apply (q_callC (h0)); exact rfl; exact rfl; kernel_rfl; kernel_rfl; kernel_rfl)|(apply q_mv; (first|exact vD|exact vO|exact vP|exact vA|exact vF|exact vR|exact vN|exact vY|exact vT|exact vM|exact vX))|(apply q_as; (first|exact vD|exact vO|exact vP|exact vA|exact vF|exact vR|exact vN|exact vY|exact vT|exact vM|exact vX))|(apply q_ld_boxF; exact rfl; exact rfl; exact rfl; exact rfl)
    | (apply (q_pickF (u := .d _)); exact rfl; exact rfl)))|(apply W.ed; (apply e_boxF; exact rfl; exact rfl; exact rfl; kernel_rfl; kernel_rfl))|(refine W.gOff _ _ rfl rfl (by intro h; cases h) ?_)|(apply AWP.seq)|(apply ACont_normal)|(apply W.region; kernel_rfl)|(apply Walk.nil)
  | (apply AWP.ret)))
    all_goals exact ⟨.inl rfl, [], [bV false], rfl, rfl, ⟨rfl, trivial⟩, AVle.of_eq rfl, rfl⟩
  · rw [hv2] at h0
    rw [hv2, if_pos rfl] at h1
    (repeat' (first
  | (apply W.gOn; exact rfl; exact rfl)
  | (apply W.qd; (first
    | (apply (q_callC (h0)); exact rfl; exact rfl; kernel_rfl; kernel_rfl; kernel_rfl)|(apply (q_callC (h1)); exact rfl; exact rfl; kernel_rfl; kernel_rfl; kernel_rfl)|(apply q_mv; (first|exact vD|exact vO|exact vP|exact vA|exact vF|exact vR|exact vN|exact vY|exact vT|exact vM|exact vX))|(apply q_as; (first|exact vD|exact vO|exact vP|exact vA|exact vF|exact vR|exact vN|exact vY|exact vT|exact vM|exact vX))|(apply q_ld_boxF; exact rfl; exact rfl; exact rfl; exact rfl)|(apply q_eql; exact rfl; exact rfl)|(apply q_len_sl; exact rfl; exact rfl)
    | (apply (q_pickT (u := .d _)); exact rfl; exact rfl)))|(apply W.ed; (apply e_boxF; exact rfl; exact rfl; exact rfl; kernel_rfl; kernel_rfl))|(apply AWP.seq)|(apply ACont_normal)|(apply W.region; kernel_rfl)|(apply Walk.nil)
  | (apply AWP.ret)))
    all_goals exact ⟨.inl rfl, [], [bV _], rfl, rfl, ⟨rfl, trivial⟩, AVle.of_eq (congrArg bV (by rw [hmh]; rfl)), rfl⟩
theorem A_missing {u k : Nat} {oth : List Bool} (hk : k < oth.length) : ACalls Tryd.prog 32 [iV k, .opt 0 0, .opt 1 0] [.box [iV u], .box [bools oth]] (bV (misZ oth u k)) [.box [iV u], .box [bools oth]] := by
  refine acalls_of_bodyO Tryd.func32 rfl (Nat.le_of_ble_eq_true rfl) ?_
  unfold misZ
  have e : oth.getD (k : Int).toNat false = oth[k] := by rw [Int.toNat_natCast, List.getD_eq_getElem?_getD, List.getElem?_eq_getElem hk]; rfl
  rw [e]
  by_cases hku : k = u
  · rw [decide_eq_true (show (k : Int) = u by omega)]
    (repeat' (first
  | (apply W.qd; (first
    | (apply q_mv; (first|exact vD|exact vO|exact vP|exact vA|exact vF|exact vR|exact vN|exact vY|exact vT|exact vM|exact vX))|(apply q_as; (first|exact vD|exact vO|exact vP|exact vA|exact vF|exact vR|exact vN|exact vY|exact vT|exact vM|exact vX))|(apply q_ld_box; exact rfl; exact rfl; exact rfl; exact rfl)|(apply q_neq; exact rfl; exact rfl)
    | (apply (q_pickF (u := .d _)); exact rfl; exact rfl)))|(refine W.gOff _ _ rfl rfl (by intro h; cases h) ?_)|(apply AWP.seq)|(apply ACont_normal)|(apply W.region; kernel_rfl)|(apply Walk.nil)|(apply AWP.ret)
  | (refine W.gT _ _ rfl rfl (fun hb => ?_) (fun hb => ?_) <;> ((try simp only [hb, Bool.not_true, Bool.not_false]) <;> (try simp only [decide_eq_true_eq, decide_eq_false_iff_not, Bool.not_eq_true', Bool.not_eq_false', Int.not_lt, Int.not_le, List.length_map, not_true_eq_false] at hb) <;> (try (exfalso; omega))))))
    all_goals exact ⟨.inl rfl, [0, 1], [bV false], rfl, rfl, ⟨rfl, trivial⟩, AVle.of_eq rfl, rfl⟩
  · rw [decide_eq_false (show ¬ (k : Int) = u by omega)]
    (repeat' (first
  | (apply W.gOn; exact rfl; exact rfl)
  | (apply W.qd; (first
    | (apply q_mv; (first|exact vD|exact vO|exact vP|exact vA|exact vF|exact vR|exact vN|exact vY|exact vT|exact vM|exact vX))|(apply q_as; (first|exact vD|exact vO|exact vP|exact vA|exact vF|exact vR|exact vN|exact vY|exact vT|exact vM|exact vX))|(apply q_ld_box; exact rfl; exact rfl; exact rfl; exact rfl)|(apply q_neq; exact rfl; exact rfl)|(apply q_not; exact rfl)|(apply q_ld_map; exact rfl; exact rfl; exact rfl; (first | omega | (focus (simp; done))))|(apply q_ix_slF; exact rfl; exact rfl; exact rfl; exact rfl; (first | (with_reducible exact rfl) | exact natI_spec rfl | assumption | exact (Int.toNat_of_nonneg (by omega)).symm); (first | omega | (focus (simp only [List.length_map]; omega)) | (focus (simp; done)) | (focus (simp; omega))))
    | (apply (q_pickT (u := .d _)); exact rfl; exact rfl)))|(apply AWP.seq)|(apply ACont_normal)|(apply W.region; kernel_rfl)|(apply Walk.nil)|(apply AWP.ret)
  | (refine W.gT _ _ rfl rfl (fun hb => ?_) (fun hb => ?_) <;> ((try simp only [hb, Bool.not_true, Bool.not_false]) <;> (try simp only [decide_eq_true_eq, decide_eq_false_iff_not, Bool.not_eq_true', Bool.not_eq_false', Int.not_lt, Int.not_le, List.length_map, not_true_eq_false] at hb) <;> (try (exfalso; omega))))))
    all_goals exact ⟨.inl rfl, [0, 1], [bV (!oth[k])], rfl, rfl, ⟨rfl, trivial⟩, AVle.of_eq rfl, rfl⟩
abbrev pl0 : AV := .agg [iV 0, tmsA []]
theorem pl0_le (e : Int) : AVle (.tup [.agg [iV 0, .d (.v (.slice none 0 0))], iV e]) (.tup [pl0, iV e]) :=
  AVle.tup ⟨AVle.agg ⟨AVle.refl _, AVle.nil 2, trivial⟩, AVle.refl _, trivial⟩
def planA (u : Nat) : Option (List (Nat × Nat)) → AV
  | some l => .tup [.agg [iV u, tmsA l], iV 0]
  | none => .tup [pl0, iV 11]
theorem A_plan_bad {M D u : Int} {par : List (List Int)} {hv : List Bool} (hp : CodeIn par) (h : ¬ (validC M D par = true ∧ (hv.length : Int) = D + (par.length : Int) ∧ 0 ≤ u ∧ u < hv.length)) : ACalls Tryd.prog 16 [cdA M D par, bools hv, iV u] [] (.tup [pl0, iV 1]) [] := by
  refine ACalls.leR (r := .tup [.agg [iV 0, .d (.v (.slice none 0 0))], iV 1]) ?_ (pl0_le 1)
  refine acalls_of_body Tryd.func16 rfl (Nat.le_of_ble_eq_true rfl) ?_
  have hmh : (hv.map tD).length = hv.length := List.length_map _
  have h0 := A_fits (M := M) (D := D) (hv := hv) hp
  by_cases hf : validC M D par = true ∧ (hv.length : Int) = D + (par.length : Int)
  · rw [hf.1, decide_eq_true hf.2] at h0
    have hb2 : ¬ (0 ≤ u ∧ u < hv.length) := fun e => h ⟨hf.1, hf.2, e⟩
    (repeat' (first
  | (apply W.gOn; exact rfl; exact rfl)
  | (apply W.qd; (first
    | (apply (q_callC (h0)); exact rfl; exact rfl; kernel_rfl; kernel_rfl; kernel_rfl)|(apply q_mv; (first|exact vD|exact vO|exact vP|exact vA|exact vF|exact vR|exact vN|exact vY|exact vT|exact vM|exact vX))|(apply q_as; (first|exact vD|exact vO|exact vP|exact vA|exact vF|exact vR|exact vN|exact vY|exact vT|exact vM|exact vX))|(apply q_ld_box; exact rfl; exact rfl; exact rfl; exact rfl)|(apply q_ld_boxF; exact rfl; exact rfl; exact rfl; exact rfl)|(apply q_lss; exact rfl; exact rfl)|(apply q_geq; exact rfl; exact rfl)|(apply q_not; exact rfl)|(apply q_len_sl; exact rfl; exact rfl)|(apply q_buildF; exact rfl; exact rfl; kernel_rfl)|(apply (q_pickT (u := .d _)); exact rfl; exact rfl)
    | (apply (q_pickF (u := .d _)); exact rfl; exact rfl)))
  | (apply W.ed; (first
    | (apply e_boxF; exact rfl; exact rfl; exact rfl; kernel_rfl; kernel_rfl)
    | (apply e_allocF; exact rfl; exact rfl; exact rfl; kernel_rfl)))|(apply W.ln; (apply l_st_box; exact rfl; exact rfl; exact rfl; exact rfl; exact rfl; exact rfl; kernel_rfl; kernel_rfl; kernel_rfl))|(refine W.gOff _ _ rfl rfl (by intro h; cases h) ?_)|(apply AWP.seq)|(apply ACont_normal)|(apply W.region; kernel_rfl)|(apply Walk.nil)|(apply AWP.ret)|(apply ACont_ret)|(apply W.condT; exact rfl)|(refine W.gF _ _ rfl rfl (fun hb => ?_) (fun hb => ?_) <;> ((try simp only [hb, Bool.not_true, Bool.not_false]) <;> (try simp only [decide_eq_true_eq, decide_eq_false_iff_not, Bool.not_eq_true', Bool.not_eq_false', Int.not_lt, Int.not_le, List.length_map, not_true_eq_false] at hb) <;> (try (exfalso; omega))))
  | (refine W.cond _ rfl (fun hb => ?_) (fun hb => ?_) <;> ((try simp only [hb, Bool.not_true, Bool.not_false]) <;> (try simp only [decide_eq_true_eq, decide_eq_false_iff_not, Bool.not_eq_true', Bool.not_eq_false', Int.not_lt, Int.not_le, List.length_map, not_true_eq_false] at hb) <;> (try (exfalso; omega))))))
    all_goals exact Ends.cell2 rfl rfl rfl rfl rfl
  · have e : (validC M D par && decide ((hv.length : Int) = D + (par.length : Int))) = false := by
      rw [Bool.eq_false_iff]
      intro e
      rw [Bool.and_eq_true, decide_eq_true_eq] at e
      exact hf e
    rw [e] at h0
    (repeat' (first
  | (apply W.qd; (first
    | (apply (q_callC (h0)); exact rfl; exact rfl; kernel_rfl; kernel_rfl; kernel_rfl)|(apply q_mv; (first|exact vD|exact vO|exact vP|exact vA|exact vF|exact vR|exact vN|exact vY|exact vT|exact vM|exact vX))|(apply q_as; (first|exact vD|exact vO|exact vP|exact vA|exact vF|exact vR|exact vN|exact vY|exact vT|exact vM|exact vX))|(apply q_ld_boxF; exact rfl; exact rfl; exact rfl; exact rfl)|(apply q_not; exact rfl)|(apply q_buildF; exact rfl; exact rfl; kernel_rfl)
    | (apply (q_pickT (u := .d _)); exact rfl; exact rfl)))
  | (apply W.ed; (first
    | (apply e_boxF; exact rfl; exact rfl; exact rfl; kernel_rfl; kernel_rfl)
    | (apply e_allocF; exact rfl; exact rfl; exact rfl; kernel_rfl)))|(apply W.ln; (apply l_st_box; exact rfl; exact rfl; exact rfl; exact rfl; exact rfl; exact rfl; kernel_rfl; kernel_rfl; kernel_rfl))|(refine W.gOff _ _ rfl rfl (by intro h; cases h) ?_)|(apply AWP.seq)|(apply ACont_normal)|(apply W.region; kernel_rfl)|(apply Walk.nil)|(apply AWP.ret)|(apply ACont_ret)
  | (apply W.condT; exact rfl)))
    all_goals exact Ends.cell2 rfl rfl rfl rfl rfl
theorem Ends.cell2le {P : Program} {env : List (Nat × AV)} {own : List Ent} {t p i : Nat} {tyc : TypeId} {l : List AV} {y r : AV} (hx : look env p = .opt i 0) (ho : own[i]? = some (.box l)) (ht : tyInfo P tyc = some (true, l.length)) (hy : look env t = y) (hr : AVle (AV.frz own [] (.tup [.agg l, y])) r) : Ends P [.cell p tyc, .tmp t] r [] .ret ⟨env, own⟩ :=
  ⟨.inl rfl, [], [.agg l, y], rfl, ⟨⟨i, l, true, hx, ho, ht, rfl⟩, hy, trivial⟩, hr, rfl⟩
theorem A_plan {M D u : Nat} {ps : List (List Nat)} {hv : List Bool} (h : CodeOk M D ps) (hl : hv.length = D + ps.length) (hu : u < D + ps.length) : ACalls Tryd.prog 16 [cdN M D ps, bools hv, iV u] [] (planA u (planN M D ps hv u)) [] := by
  have hl2 : (hv.set u false).length = D + ps.length := by rw [List.length_set]; exact hl
  have h1 := h.d
  have h2 := h.w
  have hfit := A_fits (M := M) (D := D) (hv := hv) (code_in h)
  have hpl : (toZ ps).length = ps.length := List.length_map _
  rw [valid_ok h, hpl, decide_eq_true (show (hv.length : Int) = D + (ps.length : Int) by omega), ← cdN_A] at hfit
  have hcl := A_cloneB (l := hv) (by omega) (by omega)
  have hcomb := A_comb h hl2 hu
  have hchk := A_checks (u := (u : Int)) h
  rw [chkZ_nat] at hchk
  have hIlt : ∀ i ∈ chkI D ps u ps.length, i < ps.length ∧ u ∈ checkN D i (ps.getD i []) := fun i hi => by
    obtain ⟨q1, q2⟩ := List.mem_filter.1 hi
    exact ⟨List.mem_range.1 q1, by simpa using q2⟩
  have hIl : (chkI D ps u ps.length).length ≤ ps.length := by rw [← chkZ_nat]; exact chkZ_length _ _ _ _
  have hterm := fun i hi => A_rterms h (hIlt i hi).1 (hIlt i hi).2
  have hcb := fun i => checkN_length D i (ps.getD i [])
  have hmem : ∀ i ∈ chkI D ps u ps.length, ∀ k ∈ checkN D i (ps.getD i []), k < D + ps.length := fun i hi k hk => (coef_ok h (hIlt i hi).1 hk).1
  have hcs := fun k (hk : k < (chkI D ps u ps.length).length) => Lib.hid (candC_take M D ps (hv.set u false) u (chkI D ps u ps.length) k hk)
  have hcl3 := fun k => candC_le M D ps (hv.set u false) u ((chkI D ps u ps.length).take k)
  have hP : planN M D ps hv u = bestN ((combN M D ps (hv.set u false) u).toList ++ candC M D ps (hv.set u false) u ((chkI D ps u ps.length).take (chkI D ps u ps.length).length)) := by rw [List.take_length]; rfl
  have hc0 : candC M D ps (hv.set u false) u ((chkI D ps u ps.length).take 0) = [] := rfl
  have hall : ∀ x ∈ (combN M D ps (hv.set u false) u).toList ++ candC M D ps (hv.set u false) u ((chkI D ps u ps.length).take (chkI D ps u ps.length).length), x.length ≤ 1000 := fun x hx => by
    rcases List.mem_append.1 hx with hx | hx
    · cases hc : combN M D ps (hv.set u false) u with
      | none => rw [hc] at hx; simp at hx
      | some y =>
        rw [hc] at hx
        obtain rfl : x = y := by simpa using hx
        have := (comb_ok h hl2 hu hc).le
        have := basis_len h hl2
        omega
    · unfold candC at hx
      obtain ⟨i, _, rfl⟩ := List.mem_map.1 hx
      have := cterms_le M D (ps.getD i []) (checkN D i (ps.getD i [])) u
      have := checkN_length D i (ps.getD i [])
      omega
  have hcombl : ∀ y, combN M D ps (hv.set u false) u = some y → y.length ≤ 1000 := fun y hc => hall y (by rw [hc]; simp)
  generalize chkI D ps u ps.length = I at *
  generalize planN M D ps hv u = PL at *
  generalize hC : (fun k => candC M D ps (hv.set u false) u (I.take k)) = CC at *
  have hC' : ∀ k, candC M D ps (hv.set u false) u (I.take k) = CC k := fun k => congrFun hC k
  simp only [hC'] at hcs hcl3 hP hc0 hall
  generalize combN M D ps (hv.set u false) u = CO at *
  generalize hCh : (fun i => checkN D i (ps.getD i [])) = CK at *
  have hCh' : ∀ i, checkN D i (ps.getD i []) = CK i := fun i => congrFun hCh i
  simp only [hCh'] at hterm hcb hmem hcs
  have hmis := fun k (hk : k < (hv.set u false).length) => A_missing (u := u) hk
  have hlo : (hv.set u false).length = D + ps.length := hl2
  have hmh : (hv.map tD).length = hv.length := List.length_map _
  refine acalls_of_body Tryd.func16 rfl (Nat.le_of_ble_eq_true rfl) ?_
  (repeat' (first
  | (apply W.gOn; exact rfl; exact rfl)
  | (apply W.qd; (first
    | (apply (q_callC (hfit)); exact rfl; exact rfl; kernel_rfl; kernel_rfl; kernel_rfl)|(apply q_mv; (first|exact vD|exact vO|exact vP|exact vA|exact vF|exact vR|exact vN|exact vY|exact vT|exact vM|exact vX))|(apply q_as; (first|exact vD|exact vO|exact vP|exact vA|exact vF|exact vR|exact vN|exact vY|exact vT|exact vM|exact vX))|(apply q_ld_box; exact rfl; exact rfl; exact rfl; exact rfl)|(apply q_ld_boxF; exact rfl; exact rfl; exact rfl; exact rfl)|(apply q_lss; exact rfl; exact rfl)|(apply q_geq; exact rfl; exact rfl)|(apply q_not; exact rfl)|(apply q_len_sl; exact rfl; exact rfl)|(apply (q_pickF (u := .d _)); exact rfl; exact rfl)
    | (apply q_ix_osl0; exact rfl; exact rfl; exact rfl; exact rfl; (first | (with_reducible exact rfl) | exact natI_spec rfl | assumption | exact (Int.toNat_of_nonneg (by omega)).symm); (first | omega | (focus (simp only [List.length_map]; omega)) | (focus (simp; done)) | (focus (simp; omega))))))
  | (apply W.ed; (first
    | (apply (e_callJ (js := []) (hcl)); exact rfl; exact rfl; exact rfl; exact rfl; exact rfl; kernel_rfl; kernel_rfl)|(apply e_boxF; exact rfl; exact rfl; exact rfl; kernel_rfl; kernel_rfl)
    | (apply e_allocF; exact rfl; exact rfl; exact rfl; kernel_rfl)))
  | (apply W.ln; (first
    | (apply l_st_box; exact rfl; exact rfl; exact rfl; exact rfl; exact rfl; exact rfl; kernel_rfl; kernel_rfl; kernel_rfl)
    | (apply l_st_rpt; exact rfl; exact rfl; exact rfl; exact rfl; exact rfl; exact rfl; exact rfl; exact fun _ => rfl; (first | omega | (focus (simp only [List.length_map]; omega)) | (focus (simp; omega))))))|(apply AWP.seq)|(apply ACont_normal)|(apply (W.regionS 5); exact rfl; kernel_rfl)|(apply Walk.nil)|(apply AWP.skip)
  | (refine W.cond _ rfl (fun hb => ?_) (fun hb => ?_) <;> ((try simp only [hb, Bool.not_true, Bool.not_false]) <;> (try simp only [decide_eq_true_eq, decide_eq_false_iff_not, Bool.not_eq_true', Bool.not_eq_false', Int.not_lt, Int.not_le, List.length_map, not_true_eq_false] at hb) <;> (try (exfalso; omega))))))
  refine AWP.wk ⟨[(3, .opt 0 0), (5, .opt 1 0), (6, .opt 2 0), (7, iV 0), (8, .opt 3 0), (1, bools hv)], [.box [.d .any, iV M, iV D, rowsN ps, .d .any], .box [iV u], .box [iV 0, .d (.v (.slice none 0 0))], .box [bools (hv.set u false)]]⟩ ⟨[0, 1, 2, 4], rfl, rfl, ?wkPl, rfl, rfl, rfl, rfl, rfl, rfl, trivial⟩ ?_
  case wkPl =>
    have z := frz_rowJ (own := [.box [.d .any, iV M, iV D, rowsN ps, .d .any], .box [iV u], .box [iV 0, .d (.v (.slice none 0 0))], .row 1 1 4 ((hv.set u false).map tD), .box [.osl 3 1 0 hv.length]]) (js := [0, 1, 2, 4]) (i := 3) (ver := 1) (n := hv.length) rfl rfl (by simp)
    exact congrArg (fun z => [Ent.box [.d .any, iV M, iV D, rowsN ps, .d .any], .box [iV u], .box [iV 0, .d (.v (.slice none 0 0))], .box [z]]) z.symm
  generalize hv.set u false = OT at *
  (repeat' (first
  | (apply W.qd; (apply q_as; (first|exact vD|exact vO|exact vP|exact vA|exact vF|exact vR|exact vN|exact vY|exact vT|exact vM|exact vX)))|(apply AWP.seq)|(apply ACont_normal)|(apply (W.regionS 6); exact rfl; kernel_rfl)
  | (apply Walk.nil)))
  refine AWP.nilRow 9 1 25 rfl (by omega) ?_
  have hmi : ((I.map CK).map rnD).length = I.length := by simp
  have hmi2 : (I.map CK).length = I.length := by simp
  have e1 : ∀ (n : Nat), AV.osl 4 n 0 n = AV.osl 4 n 0 n := fun _ => rfl
  cases CO with
  | none => ?_
  | some t0 => ?_
  all_goals unfold termsA at hcomb
  all_goals dsimp only at hcomb
  all_goals (repeat' (first
  | (apply W.qd; (first
    | (apply (q_callC (hcomb)); exact rfl; exact rfl; kernel_rfl; kernel_rfl; kernel_rfl)|(apply q_mv; (first|exact vD|exact vO|exact vP|exact vA|exact vF|exact vR|exact vN|exact vY|exact vT|exact vM|exact vX))|(apply q_as; (first|exact vD|exact vO|exact vP|exact vA|exact vF|exact vR|exact vN|exact vY|exact vT|exact vM|exact vX))|(apply q_ld_box; exact rfl; exact rfl; exact rfl; exact rfl)|(apply q_ld_boxF; exact rfl; exact rfl; exact rfl; exact rfl)|(apply q_eql; exact rfl; exact rfl)|(apply q_extract; exact rfl; exact rfl)|(apply q_makeFunc)
    | (apply q_litF; exact rfl; exact rfl; exact rfl; exact rfl; exact rfl; kernel_rfl; kernel_rfl; exact rfl)))|(apply W.ed; (apply e_appF; exact rfl; exact rfl; exact rfl; exact rfl; exact rfl; exact rfl; exact rfl; exact rfl; (first | rfl | simp); (first | exact Nat.zero_lt_one | (focus (simp; done)) | omega); (first | (focus (simp; done)) | (focus (simp; omega)) | omega)))|(apply AWP.seq)|(apply ACont_normal)|(apply (W.regionS 10); exact rfl; kernel_rfl)|(apply Walk.nil)|(apply AWP.skip)|(apply W.condT; exact rfl)
  | (apply W.condF; exact rfl)))
  rotate_left
  · refine AWP.wk ⟨[(9, .osl 4 [t0].length 0 [t0].length), (12, .fn 32 [.opt 1 0, .opt 3 0]), (3, .opt 0 0), (5, .opt 1 0), (6, .opt 2 0), (7, iV 0)], [.box [.d .any, iV M, iV D, rowsN ps, .d .any], .box [iV u], .box [iV 0, .d (.v (.slice none 0 0))], .box [bools OT], .row [t0].length 1 25 ([t0].map tlD)]⟩ ⟨[0, 1, 2, 3, 4], rfl, rfl, rfl, rfl, rfl, rfl, rfl, rfl, rfl, trivial⟩ ?_
    have hB1 : [t0].length ≤ 1 := Nat.le_refl _
    rw [show (some t0).toList = [t0] from rfl] at hP hall
    generalize [t0] = B at *
    (repeat' (first
  | (apply W.qd; (first
    | (apply (q_callC (hchk)); exact rfl; exact rfl; kernel_rfl; kernel_rfl; kernel_rfl)|(apply q_mv; (first|exact vD|exact vO|exact vP|exact vA|exact vF|exact vR|exact vN|exact vY|exact vT|exact vM|exact vX))|(apply q_ld_box; exact rfl; exact rfl; exact rfl; exact rfl)|(apply q_ld_boxF; exact rfl; exact rfl; exact rfl; exact rfl)
    | (apply q_len_sl; exact rfl; exact rfl)))|(apply ACont_normal)|(apply W.region; kernel_rfl)|(apply Walk.nil)
  | (apply AWP.block)))
    refine AWP.loopW (α := Nat) (fun k => k ≤ I.length) (fun k => ⟨[(55, iV k), (54, iV I.length), (53, rowsN (I.map CK)), (9, .osl 4 (B ++ CC k).length 0 (B ++ CC k).length), (12, .fn 32 [.opt 1 0, .opt 3 0]), (3, .opt 0 0), (5, .opt 1 0), (6, .opt 2 0), (7, iV 0)], [.box [.d .any, iV M, iV D, rowsN ps, .d .any], .box [iV u], .box [iV 0, .d (.v (.slice none 0 0))], .box [bools OT], .row (B ++ CC k).length 1 25 ((B ++ CC k).map tlD)]⟩) (fun k => I.length - k) 0 (by omega) ?wkA fun k hk => ?_
    case wkA =>
      rw [hc0, List.append_nil]
      exact ⟨[0, 1, 2, 3, 4], rfl, rfl, rfl, rfl, iV_eq (by simp), rfl, rfl, rfl, rfl, rfl, rfl, rfl, trivial⟩
    have hlL : (B ++ CC k).length ≤ 100 := by
      have := hcl3 k
      rw [List.length_append]
      rw [List.length_take] at this
      omega
    by_cases hkI : k < I.length
    · have hIk := List.getElem_mem hkI
      have eK : (I.map CK)[k]'(by simpa using hkI) = CK I[k] := List.getElem_map _
      have hs2 := hcs k hkI
      have ht1 := hterm I[k] hIk
      have hcbk := hcb I[k]
      have hcf := A_contains_int (O := [.box [iV u], .box [bools OT]]) (g := 32) (caps := [.opt 0 0, .opt 1 0]) (misZ OT u) ((CK I[k]).map fun n : Nat => (n : Int)) (by rw [List.length_map]; omega) (by kernel_rfl) (fun x hx => by
        obtain ⟨y, hy, rfl⟩ := List.mem_map.1 hx
        exact hmis y (by rw [hlo]; exact hmem _ hIk y hy))
      rw [misZ_full, ← nats_ints] at hcf
      have htl := cterms_le M D (ps.getD I[k] []) (CK I[k]) u
      generalize ctermsN M D (ps.getD I[k] []) (CK I[k]) u = TT at *
      rw [← eK] at ht1 hcf
      rw [← eK] at hs2
      cases hfu : fullC OT ((I.map CK)[k]'(by simpa using hkI)) u <;> rw [hfu] at hcf hs2
      · replace hs2 := Lib.hid (hs2.out.trans (if_neg (by decide)))
        (repeat' (first
  | (apply W.qd; (first
    | (apply q_mv; (first|exact vD|exact vO|exact vP|exact vA|exact vF|exact vR|exact vN|exact vY|exact vT|exact vM|exact vX))|(apply q_as; (first|exact vD|exact vO|exact vP|exact vA|exact vF|exact vR|exact vN|exact vY|exact vT|exact vM|exact vX))|(apply q_lss; exact rfl; exact rfl)|(apply q_not; exact rfl)|(apply q_add; exact rfl; exact rfl; omega)|(apply q_ld_map; exact rfl; exact rfl; exact rfl; (first | omega | (focus (simp; done))))
    | (apply q_ix_slF; exact rfl; exact rfl; exact rfl; exact rfl; (first | (with_reducible exact rfl) | exact natI_spec rfl | assumption | exact (Int.toNat_of_nonneg (by omega)).symm); (first | omega | (focus (simp only [List.length_map]; omega)) | (focus (simp; done)) | (focus (simp; omega))))))|(apply W.ed; (apply (e_callJ (js := [1, 3]) (hcf)); exact rfl; exact rfl; exact rfl; exact rfl; exact rfl; kernel_rfl; kernel_rfl))|(apply AWP.seq)|(apply ACont_normal)|(apply W.region; kernel_rfl)|(apply Walk.nil)|(apply AWP.block)|(apply AWP.skip)|(apply ABlock_normal)|(apply W.condF; exact rfl)
  | (refine W.cond _ rfl (fun hb => ?_) (fun hb => ?_) <;> ((try simp only [hb, Bool.not_true, Bool.not_false]) <;> (try simp only [decide_eq_true_eq, decide_eq_false_iff_not, Bool.not_eq_true', Bool.not_eq_false', Int.not_lt, Int.not_le, List.length_map, not_true_eq_false] at hb) <;> (try (exfalso; omega))))))
        refine ⟨k + 1, by omega, by omega, ?_⟩
        rw [hs2.out]
        exact ⟨[0, 1, 2, 3, 4], rfl, rfl, rfl, iV_eq (by omega), rfl, rfl, rfl, rfl, rfl, rfl, rfl, rfl, trivial⟩
      · replace hs2 := Lib.hid (hs2.out.trans (if_pos rfl))
        (repeat' (first
  | (apply W.qd; (first
    | (apply (q_callC (ht1)); exact rfl; exact rfl; kernel_rfl; kernel_rfl; kernel_rfl)|(apply q_mv; (first|exact vD|exact vO|exact vP|exact vA|exact vF|exact vR|exact vN|exact vY|exact vT|exact vM|exact vX))|(apply q_as; (first|exact vD|exact vO|exact vP|exact vA|exact vF|exact vR|exact vN|exact vY|exact vT|exact vM|exact vX))|(apply q_ld_box; exact rfl; exact rfl; exact rfl; exact rfl)|(apply q_ld_boxF; exact rfl; exact rfl; exact rfl; exact rfl)|(apply q_lss; exact rfl; exact rfl)|(apply q_not; exact rfl)|(apply q_add; exact rfl; exact rfl; omega)|(apply q_ld_map; exact rfl; exact rfl; exact rfl; (first | omega | (focus (simp; done))))|(apply q_litF; exact rfl; exact rfl; exact rfl; exact rfl; exact rfl; kernel_rfl; kernel_rfl; exact rfl)
    | (apply q_ix_slF; exact rfl; exact rfl; exact rfl; exact rfl; (first | (with_reducible exact rfl) | exact natI_spec rfl | assumption | exact (Int.toNat_of_nonneg (by omega)).symm); (first | omega | (focus (simp only [List.length_map]; omega)) | (focus (simp; done)) | (focus (simp; omega))))))|(apply W.ld; (apply l_app1; exact rfl; exact rfl; exact rfl; exact rfl; exact rfl; exact rfl; exact rfl; exact rfl; (first | omega | (focus (simp; omega)) | (focus (simp; done)))))|(apply W.ed; (apply (e_callJ (js := [1, 3]) (hcf)); exact rfl; exact rfl; exact rfl; exact rfl; exact rfl; kernel_rfl; kernel_rfl))|(apply AWP.seq)|(apply ACont_normal)|(apply W.region; kernel_rfl)|(apply Walk.nil)|(apply AWP.block)|(apply AWP.skip)|(apply ABlock_normal)|(apply W.condT; exact rfl)
  | (refine W.cond _ rfl (fun hb => ?_) (fun hb => ?_) <;> ((try simp only [hb, Bool.not_true, Bool.not_false]) <;> (try simp only [decide_eq_true_eq, decide_eq_false_iff_not, Bool.not_eq_true', Bool.not_eq_false', Int.not_lt, Int.not_le, List.length_map, not_true_eq_false] at hb) <;> (try (exfalso; omega))))))
        refine ⟨k + 1, by omega, by omega, ?_⟩
        rw [hs2.out, ← List.append_assoc, show ((B ++ CC k) ++ [TT]).length = (B ++ CC k).length + 1 by simp; omega]
        exact ⟨[0, 1, 2, 3, 4], rfl, rfl, rfl, iV_eq (by omega), rfl, rfl, congrArg (AV.osl 4 ((B ++ CC k).length + 1) 0) (by simp), rfl, rfl, rfl, rfl, rfl, trivial⟩
    · have e3 : k = I.length := by omega
      subst e3
      rw [hP]
      generalize B ++ CC I.length = L at *
      refine AWP.wk ⟨[(55, iV I.length), (54, iV I.length), (9, tlsA L), (3, .opt 0 0), (5, .opt 1 0), (6, .opt 2 0), (7, iV 0)], [.box [.d .any, iV M, iV D, rowsN ps, .d .any], .box [iV u], .box [iV 0, .d (.v (.slice none 0 0))], .box [bools OT]]⟩ ⟨[0, 1, 2, 3], rfl, rfl, rfl, rfl, rfl, (frz_rowJ rfl rfl (by simp)).symm, rfl, rfl, rfl, rfl, trivial⟩ ?_
      have hmL : (L.map tlD).length = L.length := List.length_map _
      by_cases hL0 : L = []
      · subst hL0
        (repeat' (first
  | (apply W.qd; (first
    | (apply q_mv; (first|exact vD|exact vO|exact vP|exact vA|exact vF|exact vR|exact vN|exact vY|exact vT|exact vM|exact vX))|(apply q_as; (first|exact vD|exact vO|exact vP|exact vA|exact vF|exact vR|exact vN|exact vY|exact vT|exact vM|exact vX))|(apply q_lss; exact rfl; exact rfl)|(apply q_eql; exact rfl; exact rfl)|(apply q_len_sl; exact rfl; exact rfl)
    | (apply q_buildF; exact rfl; exact rfl; kernel_rfl)))|(apply W.ln; (apply l_st_box; exact rfl; exact rfl; exact rfl; exact rfl; exact rfl; exact rfl; kernel_rfl; kernel_rfl; kernel_rfl))|(apply AWP.seq)|(apply ACont_normal)|(apply W.region; kernel_rfl)|(apply Walk.nil)|(apply AWP.exit)|(apply AWP.ret)|(apply ACont_exit)|(apply ACont_ret)|(apply ABlock_exit)|(apply W.condT; exact rfl)
  | (refine W.cond _ rfl (fun hb => ?_) (fun hb => ?_) <;> ((try simp only [hb, Bool.not_true, Bool.not_false]) <;> (try simp only [decide_eq_true_eq, decide_eq_false_iff_not, Bool.not_eq_true', Bool.not_eq_false', Int.not_lt, Int.not_le, List.length_map, not_true_eq_false] at hb) <;> (try (exfalso; omega))))))
        exact Ends.cell2le rfl rfl rfl rfl (pl0_le 11)
      · have hLp : 0 < L.length := List.length_pos_iff.2 hL0
        have hmin := A_minFunc L hLp (by omega) (fun t ht => by have := hall t ht; omega)
        have hbs : bestN L = some ((bestN L).getD []) := by
          cases L with
          | nil => exact absurd rfl hL0
          | cons a l => rfl
        rw [hbs]
        generalize (bestN L).getD [] = RR at *
        (repeat' (first
  | (apply W.qd; (first
    | (apply q_mv; (first|exact vD|exact vO|exact vP|exact vA|exact vF|exact vR|exact vN|exact vY|exact vT|exact vM|exact vX))|(apply q_as; (first|exact vD|exact vO|exact vP|exact vA|exact vF|exact vR|exact vN|exact vY|exact vT|exact vM|exact vX))|(apply q_ld_box; exact rfl; exact rfl; exact rfl; exact rfl)|(apply q_lss; exact rfl; exact rfl)|(apply q_eql; exact rfl; exact rfl)|(apply q_len_sl; exact rfl; exact rfl)|(apply q_buildF; exact rfl; exact rfl; kernel_rfl)
    | (apply q_makeFunc)))
  | (apply W.ed; (first
    | (apply (e_callJ (js := [4]) (hmin)); exact rfl; exact rfl; exact rfl; exact rfl; exact rfl; kernel_rfl; kernel_rfl)
    | (apply e_allocF; exact rfl; exact rfl; exact rfl; kernel_rfl)))|(apply W.ln; (apply l_st_box; exact rfl; exact rfl; exact rfl; exact rfl; exact rfl; exact rfl; kernel_rfl; kernel_rfl; kernel_rfl))|(apply AWP.seq)|(apply ACont_normal)|(apply W.region; kernel_rfl)|(apply Walk.nil)|(apply AWP.skip)|(apply AWP.exit)|(apply AWP.ret)|(apply ACont_exit)|(apply ABlock_exit)
  | (refine W.cond _ rfl (fun hb => ?_) (fun hb => ?_) <;> ((try simp only [hb, Bool.not_true, Bool.not_false]) <;> (try simp only [decide_eq_true_eq, decide_eq_false_iff_not, Bool.not_eq_true', Bool.not_eq_false', Int.not_lt, Int.not_le, List.length_map, not_true_eq_false] at hb) <;> (try (exfalso; omega))))))
        exact Ends.cell2 rfl rfl rfl rfl rfl
  · refine AWP.wk ⟨[(9, .osl 4 ([] : List (List (Nat × Nat))).length 0 ([] : List (List (Nat × Nat))).length), (12, .fn 32 [.opt 1 0, .opt 3 0]), (3, .opt 0 0), (5, .opt 1 0), (6, .opt 2 0), (7, iV 0)], [.box [.d .any, iV M, iV D, rowsN ps, .d .any], .box [iV u], .box [iV 0, .d (.v (.slice none 0 0))], .box [bools OT], .row ([] : List (List (Nat × Nat))).length 1 25 (([] : List (List (Nat × Nat))).map tlD)]⟩ ⟨[0, 1, 2, 3, 4], rfl, rfl, rfl, rfl, rfl, rfl, rfl, rfl, rfl, trivial⟩ ?_
    have hB1 : ([] : List (List (Nat × Nat))).length ≤ 1 := Nat.zero_le _
    rw [show (none : Option (List (Nat × Nat))).toList = [] from rfl] at hP hall
    generalize ([] : List (List (Nat × Nat))) = B at hP hall hB1 ⊢
    (repeat' (first
  | (apply W.qd; (first
    | (apply (q_callC (hchk)); exact rfl; exact rfl; kernel_rfl; kernel_rfl; kernel_rfl)|(apply q_mv; (first|exact vD|exact vO|exact vP|exact vA|exact vF|exact vR|exact vN|exact vY|exact vT|exact vM|exact vX))|(apply q_ld_box; exact rfl; exact rfl; exact rfl; exact rfl)|(apply q_ld_boxF; exact rfl; exact rfl; exact rfl; exact rfl)
    | (apply q_len_sl; exact rfl; exact rfl)))|(apply ACont_normal)|(apply W.region; kernel_rfl)|(apply Walk.nil)
  | (apply AWP.block)))
    refine AWP.loopW (α := Nat) (fun k => k ≤ I.length) (fun k => ⟨[(55, iV k), (54, iV I.length), (53, rowsN (I.map CK)), (9, .osl 4 (B ++ CC k).length 0 (B ++ CC k).length), (12, .fn 32 [.opt 1 0, .opt 3 0]), (3, .opt 0 0), (5, .opt 1 0), (6, .opt 2 0), (7, iV 0)], [.box [.d .any, iV M, iV D, rowsN ps, .d .any], .box [iV u], .box [iV 0, .d (.v (.slice none 0 0))], .box [bools OT], .row (B ++ CC k).length 1 25 ((B ++ CC k).map tlD)]⟩) (fun k => I.length - k) 0 (by omega) ?wkA fun k hk => ?_
    case wkA =>
      rw [hc0, List.append_nil]
      exact ⟨[0, 1, 2, 3, 4], rfl, rfl, rfl, rfl, iV_eq (by simp), rfl, rfl, rfl, rfl, rfl, rfl, rfl, trivial⟩
    have hlL : (B ++ CC k).length ≤ 100 := by
      have := hcl3 k
      rw [List.length_append]
      rw [List.length_take] at this
      omega
    by_cases hkI : k < I.length
    · have hIk := List.getElem_mem hkI
      have eK : (I.map CK)[k]'(by simpa using hkI) = CK I[k] := List.getElem_map _
      have hs2 := hcs k hkI
      have ht1 := hterm I[k] hIk
      have hcbk := hcb I[k]
      have hcf := A_contains_int (O := [.box [iV u], .box [bools OT]]) (g := 32) (caps := [.opt 0 0, .opt 1 0]) (misZ OT u) ((CK I[k]).map fun n : Nat => (n : Int)) (by rw [List.length_map]; omega) (by kernel_rfl) (fun x hx => by
        obtain ⟨y, hy, rfl⟩ := List.mem_map.1 hx
        exact hmis y (by rw [hlo]; exact hmem _ hIk y hy))
      rw [misZ_full, ← nats_ints] at hcf
      have htl := cterms_le M D (ps.getD I[k] []) (CK I[k]) u
      generalize ctermsN M D (ps.getD I[k] []) (CK I[k]) u = TT at *
      rw [← eK] at ht1 hcf
      rw [← eK] at hs2
      cases hfu : fullC OT ((I.map CK)[k]'(by simpa using hkI)) u <;> rw [hfu] at hcf hs2
      · replace hs2 := Lib.hid (hs2.out.trans (if_neg (by decide)))
        (repeat' (first
  | (apply W.qd; (first
    | (apply q_mv; (first|exact vD|exact vO|exact vP|exact vA|exact vF|exact vR|exact vN|exact vY|exact vT|exact vM|exact vX))|(apply q_as; (first|exact vD|exact vO|exact vP|exact vA|exact vF|exact vR|exact vN|exact vY|exact vT|exact vM|exact vX))|(apply q_lss; exact rfl; exact rfl)|(apply q_not; exact rfl)|(apply q_add; exact rfl; exact rfl; omega)|(apply q_ld_map; exact rfl; exact rfl; exact rfl; (first | omega | (focus (simp; done))))
    | (apply q_ix_slF; exact rfl; exact rfl; exact rfl; exact rfl; (first | (with_reducible exact rfl) | exact natI_spec rfl | assumption | exact (Int.toNat_of_nonneg (by omega)).symm); (first | omega | (focus (simp only [List.length_map]; omega)) | (focus (simp; done)) | (focus (simp; omega))))))|(apply W.ed; (apply (e_callJ (js := [1, 3]) (hcf)); exact rfl; exact rfl; exact rfl; exact rfl; exact rfl; kernel_rfl; kernel_rfl))|(apply AWP.seq)|(apply ACont_normal)|(apply W.region; kernel_rfl)|(apply Walk.nil)|(apply AWP.block)|(apply AWP.skip)|(apply ABlock_normal)|(apply W.condF; exact rfl)
  | (refine W.cond _ rfl (fun hb => ?_) (fun hb => ?_) <;> ((try simp only [hb, Bool.not_true, Bool.not_false]) <;> (try simp only [decide_eq_true_eq, decide_eq_false_iff_not, Bool.not_eq_true', Bool.not_eq_false', Int.not_lt, Int.not_le, List.length_map, not_true_eq_false] at hb) <;> (try (exfalso; omega))))))
        refine ⟨k + 1, by omega, by omega, ?_⟩
        rw [hs2.out]
        exact ⟨[0, 1, 2, 3, 4], rfl, rfl, rfl, iV_eq (by omega), rfl, rfl, rfl, rfl, rfl, rfl, rfl, rfl, trivial⟩
      · replace hs2 := Lib.hid (hs2.out.trans (if_pos rfl))
        (repeat' (first
  | (apply W.qd; (first
    | (apply (q_callC (ht1)); exact rfl; exact rfl; kernel_rfl; kernel_rfl; kernel_rfl)|(apply q_mv; (first|exact vD|exact vO|exact vP|exact vA|exact vF|exact vR|exact vN|exact vY|exact vT|exact vM|exact vX))|(apply q_as; (first|exact vD|exact vO|exact vP|exact vA|exact vF|exact vR|exact vN|exact vY|exact vT|exact vM|exact vX))|(apply q_ld_box; exact rfl; exact rfl; exact rfl; exact rfl)|(apply q_ld_boxF; exact rfl; exact rfl; exact rfl; exact rfl)|(apply q_lss; exact rfl; exact rfl)|(apply q_not; exact rfl)|(apply q_add; exact rfl; exact rfl; omega)|(apply q_ld_map; exact rfl; exact rfl; exact rfl; (first | omega | (focus (simp; done))))|(apply q_litF; exact rfl; exact rfl; exact rfl; exact rfl; exact rfl; kernel_rfl; kernel_rfl; exact rfl)
    | (apply q_ix_slF; exact rfl; exact rfl; exact rfl; exact rfl; (first | (with_reducible exact rfl) | exact natI_spec rfl | assumption | exact (Int.toNat_of_nonneg (by omega)).symm); (first | omega | (focus (simp only [List.length_map]; omega)) | (focus (simp; done)) | (focus (simp; omega))))))|(apply W.ld; (apply l_app1; exact rfl; exact rfl; exact rfl; exact rfl; exact rfl; exact rfl; exact rfl; exact rfl; (first | omega | (focus (simp; omega)) | (focus (simp; done)))))|(apply W.ed; (apply (e_callJ (js := [1, 3]) (hcf)); exact rfl; exact rfl; exact rfl; exact rfl; exact rfl; kernel_rfl; kernel_rfl))|(apply AWP.seq)|(apply ACont_normal)|(apply W.region; kernel_rfl)|(apply Walk.nil)|(apply AWP.block)|(apply AWP.skip)|(apply ABlock_normal)|(apply W.condT; exact rfl)
  | (refine W.cond _ rfl (fun hb => ?_) (fun hb => ?_) <;> ((try simp only [hb, Bool.not_true, Bool.not_false]) <;> (try simp only [decide_eq_true_eq, decide_eq_false_iff_not, Bool.not_eq_true', Bool.not_eq_false', Int.not_lt, Int.not_le, List.length_map, not_true_eq_false] at hb) <;> (try (exfalso; omega))))))
        refine ⟨k + 1, by omega, by omega, ?_⟩
        rw [hs2.out, ← List.append_assoc, show ((B ++ CC k) ++ [TT]).length = (B ++ CC k).length + 1 by simp; omega]
        exact ⟨[0, 1, 2, 3, 4], rfl, rfl, rfl, iV_eq (by omega), rfl, rfl, congrArg (AV.osl 4 ((B ++ CC k).length + 1) 0) (by simp), rfl, rfl, rfl, rfl, rfl, trivial⟩
    · have e3 : k = I.length := by omega
      subst e3
      rw [hP]
      generalize B ++ CC I.length = L at *
      refine AWP.wk ⟨[(55, iV I.length), (54, iV I.length), (9, tlsA L), (3, .opt 0 0), (5, .opt 1 0), (6, .opt 2 0), (7, iV 0)], [.box [.d .any, iV M, iV D, rowsN ps, .d .any], .box [iV u], .box [iV 0, .d (.v (.slice none 0 0))], .box [bools OT]]⟩ ⟨[0, 1, 2, 3], rfl, rfl, rfl, rfl, rfl, (frz_rowJ rfl rfl (by simp)).symm, rfl, rfl, rfl, rfl, trivial⟩ ?_
      have hmL : (L.map tlD).length = L.length := List.length_map _
      by_cases hL0 : L = []
      · subst hL0
        (repeat' (first
  | (apply W.qd; (first
    | (apply q_mv; (first|exact vD|exact vO|exact vP|exact vA|exact vF|exact vR|exact vN|exact vY|exact vT|exact vM|exact vX))|(apply q_as; (first|exact vD|exact vO|exact vP|exact vA|exact vF|exact vR|exact vN|exact vY|exact vT|exact vM|exact vX))|(apply q_lss; exact rfl; exact rfl)|(apply q_eql; exact rfl; exact rfl)|(apply q_len_sl; exact rfl; exact rfl)
    | (apply q_buildF; exact rfl; exact rfl; kernel_rfl)))|(apply W.ln; (apply l_st_box; exact rfl; exact rfl; exact rfl; exact rfl; exact rfl; exact rfl; kernel_rfl; kernel_rfl; kernel_rfl))|(apply AWP.seq)|(apply ACont_normal)|(apply W.region; kernel_rfl)|(apply Walk.nil)|(apply AWP.exit)|(apply AWP.ret)|(apply ACont_exit)|(apply ACont_ret)|(apply ABlock_exit)|(apply W.condT; exact rfl)
  | (refine W.cond _ rfl (fun hb => ?_) (fun hb => ?_) <;> ((try simp only [hb, Bool.not_true, Bool.not_false]) <;> (try simp only [decide_eq_true_eq, decide_eq_false_iff_not, Bool.not_eq_true', Bool.not_eq_false', Int.not_lt, Int.not_le, List.length_map, not_true_eq_false] at hb) <;> (try (exfalso; omega))))))
        exact Ends.cell2le rfl rfl rfl rfl (pl0_le 11)
      · have hLp : 0 < L.length := List.length_pos_iff.2 hL0
        have hmin := A_minFunc L hLp (by omega) (fun t ht => by have := hall t ht; omega)
        have hbs : bestN L = some ((bestN L).getD []) := by
          cases L with
          | nil => exact absurd rfl hL0
          | cons a l => rfl
        rw [hbs]
        generalize (bestN L).getD [] = RR at *
        (repeat' (first
  | (apply W.qd; (first
    | (apply q_mv; (first|exact vD|exact vO|exact vP|exact vA|exact vF|exact vR|exact vN|exact vY|exact vT|exact vM|exact vX))|(apply q_as; (first|exact vD|exact vO|exact vP|exact vA|exact vF|exact vR|exact vN|exact vY|exact vT|exact vM|exact vX))|(apply q_ld_box; exact rfl; exact rfl; exact rfl; exact rfl)|(apply q_lss; exact rfl; exact rfl)|(apply q_eql; exact rfl; exact rfl)|(apply q_len_sl; exact rfl; exact rfl)|(apply q_buildF; exact rfl; exact rfl; kernel_rfl)
    | (apply q_makeFunc)))
  | (apply W.ed; (first
    | (apply (e_callJ (js := [4]) (hmin)); exact rfl; exact rfl; exact rfl; exact rfl; exact rfl; kernel_rfl; kernel_rfl)
    | (apply e_allocF; exact rfl; exact rfl; exact rfl; kernel_rfl)))|(apply W.ln; (apply l_st_box; exact rfl; exact rfl; exact rfl; exact rfl; exact rfl; exact rfl; kernel_rfl; kernel_rfl; kernel_rfl))|(apply AWP.seq)|(apply ACont_normal)|(apply W.region; kernel_rfl)|(apply Walk.nil)|(apply AWP.skip)|(apply AWP.exit)|(apply AWP.ret)|(apply ACont_exit)|(apply ABlock_exit)
  | (refine W.cond _ rfl (fun hb => ?_) (fun hb => ?_) <;> ((try simp only [hb, Bool.not_true, Bool.not_false]) <;> (try simp only [decide_eq_true_eq, decide_eq_false_iff_not, Bool.not_eq_true', Bool.not_eq_false', Int.not_lt, Int.not_le, List.length_map, not_true_eq_false] at hb) <;> (try (exfalso; omega))))))
        exact Ends.cell2 rfl rfl rfl rfl rfl
end Go.Proofs.YtilpljehfcpjeaaDoor
end
section
/- Package repair over the machine of abstract values: All (it ranges over a function), Reads. -/
namespace Go.Proofs.YtilpljehfcpjeaaDoor
open Go.RowKit
set_option maxHeartbeats 4000000
set_option maxRecDepth 100000
def plD (p : Nat × List (Nat × Nat)) : List Dat := [.v (.int .i64 p.1), .sl 2 (p.2.map tmD)]
abbrev plsA (l : List (Nat × List (Nat × Nat))) : AV := .d (.sl 2 (l.map plD))
def plansTo (M D : Nat) (ps : List (List Nat)) (hv : List Bool) (k : Nat) : List (Nat × List (Nat × Nat)) := ((List.range k).filter fun j => !(hv.getD j false)).map fun j => (j, (planN M D ps hv j).getD [])
theorem plansTo_succ (M D : Nat) (ps : List (List Nat)) (hv : List Bool) (k : Nat) : plansTo M D ps hv (k + 1) = if hv.getD k false = true then plansTo M D ps hv k else plansTo M D ps hv k ++ [(k, (planN M D ps hv k).getD [])] := by
  unfold plansTo
  rw [List.range_succ, List.filter_append, List.map_append]
  cases hb : hv.getD k false with
  | true => rw [if_pos rfl, show [k].filter (fun j => !(hv.getD j false)) = [] by simp only [List.filter_cons, hb]; rfl]; simp
  | false => rw [if_neg (by simp), show [k].filter (fun j => !(hv.getD j false)) = [k] by simp only [List.filter_cons, hb]; rfl]; rfl
theorem plansTo_le (M D : Nat) (ps : List (List Nat)) (hv : List Bool) (k : Nat) : (plansTo M D ps hv k).length ≤ k := by
  unfold plansTo
  rw [List.length_map]
  exact Nat.le_trans (List.length_filter_le _ _) (by simp)
attribute [local irreducible] Quiet Eff OpOk AWPG ACont ABlock ACalls AGoto
def tzD (t : Int × Int) : List Dat := [.v (.int .i64 t.1), .v (.int .i64 t.2)]
abbrev tmsZ (l : List (Int × Int)) : AV := .d (.sl 2 (l.map tzD))
theorem tms_tmsZ (l : List (Nat × Nat)) : tmsA l = tmsZ (l.map fun t => ((t.1 : Int), (t.2 : Int))) := by
  unfold tmsA tmsZ
  rw [List.map_map]
  rfl
theorem A_readsZ {u : Int} {l : List (Int × Int)} (hl : l.length ≤ 100000) : ACalls Tryd.prog 13 [.agg [iV u, tmsZ l]] [] (ints (l.map (·.1))) [] := by
  refine acalls_of_body Tryd.func13 rfl (Nat.le_of_ble_eq_true rfl) ?_
  have hml : (l.map tzD).length = l.length := List.length_map _
  (repeat' (first
  | (apply W.qd; (apply q_as; (first|exact vD|exact vO|exact vP|exact vA|exact vF|exact vR|exact vN|exact vY|exact vT|exact vM|exact vX)))|(apply W.ed; (apply e_boxF; exact rfl; exact rfl; exact rfl; kernel_rfl; kernel_rfl))|(apply AWP.seq)|(apply ACont_normal)|(apply (W.regionS 2); exact rfl; kernel_rfl)
  | (apply Walk.nil)))
  refine AWP.nilRow 3 1 3 rfl (by omega) ?_
  (repeat' (first
  | (apply W.qd; (first
    | (apply q_mv; (first|exact vD|exact vO|exact vP|exact vA|exact vF|exact vR|exact vN|exact vY|exact vT|exact vM|exact vX))|(apply q_fld_optF; exact rfl; exact rfl; exact rfl)|(apply q_ld_box; exact rfl; exact rfl; exact rfl; exact rfl)
    | (apply q_len_sl; exact rfl; exact rfl)))|(apply ACont_normal)|(apply (W.regionS 1); exact rfl; kernel_rfl)|(apply Walk.nil)
  | (apply AWP.block)))
  refine AWP.loopW (α := Nat) (fun k => k ≤ l.length) (fun k => ⟨[(9, iV k), (8, iV l.length), (7, tmsZ l), (3, .osl 1 ((l.take k).map (·.1)).length 0 ((l.take k).map (·.1)).length)], [.box [iV u, tmsZ l], .row ((l.take k).map (·.1)).length 1 3 (((l.take k).map (·.1)).map iD)]⟩) (fun k => l.length - k) 0 (by omega) ⟨[0, 1], rfl, rfl, rfl, iV_eq (by simp), iV_eq (by rw [hml]), rfl, rfl, trivial⟩ fun k hk => ?_
  have hlk : ((l.take k).map (·.1)).length ≤ 100000 := by rw [List.length_map, List.length_take]; omega
  by_cases hkl : k < l.length
  · have e1 : (l.take (k + 1)).map (·.1) = (l.take k).map (·.1) ++ [l[k].1] := by rw [List.take_succ_eq_append_getElem hkl, List.map_append]; rfl
    generalize hA : (l.take k).map (·.1) = A at *
    (repeat' (first
  | (apply W.qd; (first
    | (apply q_mv; (first|exact vD|exact vO|exact vP|exact vA|exact vF|exact vR|exact vN|exact vY|exact vT|exact vM|exact vX))|(apply q_as; (first|exact vD|exact vO|exact vP|exact vA|exact vF|exact vR|exact vN|exact vY|exact vT|exact vM|exact vX))|(apply q_fld_optF; exact rfl; exact rfl; exact rfl)|(apply q_ld_box; exact rfl; exact rfl; exact rfl; exact rfl)|(apply q_lss; exact rfl; exact rfl)|(apply q_add; exact rfl; exact rfl; omega)|(apply q_ld_maps; exact rfl; exact rfl; exact rfl; (first | omega | (focus (simp; done))))|(apply q_litF; exact rfl; exact rfl; exact rfl; exact rfl; exact rfl; kernel_rfl; kernel_rfl; exact rfl)
    | (apply q_ix_slF; exact rfl; exact rfl; exact rfl; exact rfl; (first | (with_reducible exact rfl) | exact natI_spec rfl | assumption | exact (Int.toNat_of_nonneg (by omega)).symm); (first | omega | (focus (simp only [List.length_map]; omega)) | (focus (simp; done)) | (focus (simp; omega))))))|(apply W.ld; (apply l_app1; exact rfl; exact rfl; exact rfl; exact rfl; exact rfl; exact rfl; exact rfl; exact rfl; (first | omega | (focus (simp; omega)) | (focus (simp; done)))))|(apply W.ed; (apply e_allocF; exact rfl; exact rfl; exact rfl; kernel_rfl))|(apply W.ln; (apply l_st_box; exact rfl; exact rfl; exact rfl; exact rfl; exact rfl; exact rfl; kernel_rfl; kernel_rfl; kernel_rfl))|(apply AWP.seq)|(apply ACont_normal)|(apply W.region; kernel_rfl)|(apply Walk.nil)|(apply AWP.block)|(apply AWP.skip)|(apply ABlock_normal)
  | (refine W.cond _ rfl (fun hb => ?_) (fun hb => ?_) <;> ((try simp only [hb, Bool.not_true, Bool.not_false]) <;> (try simp only [decide_eq_true_eq, decide_eq_false_iff_not, Bool.not_eq_true', Bool.not_eq_false', Int.not_lt, Int.not_le, List.length_map, not_true_eq_false] at hb) <;> (try (exfalso; omega))))))
    refine ⟨k + 1, by omega, by omega, ?_⟩
    rw [e1, show (A ++ [l[k].1]).length = A.length + 1 by simp]
    exact ⟨[0, 1], rfl, rfl, rfl, iV_eq (by omega), rfl, rfl, congrArg (AV.osl 1 (A.length + 1) 0) (by simp), trivial⟩
  · have e : k = l.length := by omega
    subst e
    rw [List.take_length]
    generalize l.map (·.1) = A at *
    (repeat' (first
  | (apply W.qd; (first
    | (apply q_mv; (first|exact vD|exact vO|exact vP|exact vA|exact vF|exact vR|exact vN|exact vY|exact vT|exact vM|exact vX))|(apply q_as; (first|exact vD|exact vO|exact vP|exact vA|exact vF|exact vR|exact vN|exact vY|exact vT|exact vM|exact vX))
    | (apply q_lss; exact rfl; exact rfl)))|(apply AWP.seq)|(apply ACont_normal)|(apply W.region; kernel_rfl)|(apply Walk.nil)|(apply AWP.exit)|(apply AWP.ret)|(apply ACont_exit)|(apply ABlock_exit)
  | (refine W.cond _ rfl (fun hb => ?_) (fun hb => ?_) <;> ((try simp only [hb, Bool.not_true, Bool.not_false]) <;> (try simp only [decide_eq_true_eq, decide_eq_false_iff_not, Bool.not_eq_true', Bool.not_eq_false', Int.not_lt, Int.not_le, List.length_map, not_true_eq_false] at hb) <;> (try (exfalso; omega))))))
    exact Ends.osl rfl rfl (by simp) rfl
theorem A_reads {u : Nat} {l : List (Nat × Nat)} (hl : l.length ≤ 100000) : ACalls Tryd.prog 13 [.agg [iV u, tmsA l]] [] (nats (l.map (·.1))) [] := by
  have := A_readsZ (u := (u : Int)) (l := l.map fun t => ((t.1 : Int), (t.2 : Int))) (by rw [List.length_map]; exact hl)
  rw [← tms_tmsZ, List.map_map] at this
  have e : nats (l.map (·.1)) = ints (l.map ((·.1) ∘ fun t : Nat × Nat => ((t.1 : Int), (t.2 : Int)))) := by rw [nats_ints, List.map_map]; rfl
  rw [e]
  exact this
end Go.Proofs.YtilpljehfcpjeaaDoor
end
section
/- Package repair over the machine of abstract values: Apply. -/
namespace Go.Proofs.YtilpljehfcpjeaaDoor
open Go.RowKit
set_option maxHeartbeats 4000000
set_option maxRecDepth 100000
def outZ (n : Nat) (k : Int) : Bool := decide (k < 0) || decide ((n : Int) ≤ k)
def readZ (us : List (List Nat)) (l : List (Int × Int)) : List (List Nat) := l.map fun t => us.getD t.1.toNat []
attribute [local irreducible] Quiet Eff OpOk AWPG ACont ABlock ACalls AGoto
theorem A_outside {us : List (List Nat)} {k : Int} (hu : us.length ≤ 1000000) : ACalls Tryd.prog 21 [iV k, .opt 0 0] [.box [strs us]] (bV (outZ us.length k)) [.box [strs us]] := by
  refine acalls_of_bodyO Tryd.func21 rfl (Nat.le_of_ble_eq_true rfl) ?_
  have hmu : (us.map sD).length = us.length := List.length_map _
  unfold outZ
  by_cases h0 : k < 0
  · rw [decide_eq_true h0, Bool.true_or]
    (repeat' (first
  | (apply W.qd; (first
    | (apply q_mv; (first|exact vD|exact vO|exact vP|exact vA|exact vF|exact vR|exact vN|exact vY|exact vT|exact vM|exact vX))|(apply q_as; (first|exact vD|exact vO|exact vP|exact vA|exact vF|exact vR|exact vN|exact vY|exact vT|exact vM|exact vX))|(apply q_lss; exact rfl; exact rfl)
    | (apply (q_pickT (u := .d _)); exact rfl; exact rfl)))|(refine W.gOff _ _ rfl rfl (by intro h; cases h) ?_)|(apply AWP.seq)|(apply ACont_normal)|(apply W.region; kernel_rfl)|(apply Walk.nil)|(apply AWP.ret)
  | (refine W.gF _ _ rfl rfl (fun hb => ?_) (fun hb => ?_) <;> ((try simp only [hb, Bool.not_true, Bool.not_false]) <;> (try simp only [decide_eq_true_eq, decide_eq_false_iff_not, Bool.not_eq_true', Bool.not_eq_false', Int.not_lt, Int.not_le, List.length_map, not_true_eq_false] at hb) <;> (try (exfalso; omega))))))
    all_goals exact ⟨.inl rfl, [0], [bV true], rfl, rfl, ⟨rfl, trivial⟩, AVle.of_eq rfl, rfl⟩
  · rw [decide_eq_false h0, Bool.false_or]
    (repeat' (first
  | (apply W.gOn; exact rfl; exact rfl)
  | (apply W.qd; (first
    | (apply q_mv; (first|exact vD|exact vO|exact vP|exact vA|exact vF|exact vR|exact vN|exact vY|exact vT|exact vM|exact vX))|(apply q_as; (first|exact vD|exact vO|exact vP|exact vA|exact vF|exact vR|exact vN|exact vY|exact vT|exact vM|exact vX))|(apply q_ld_box; exact rfl; exact rfl; exact rfl; exact rfl)|(apply q_lss; exact rfl; exact rfl)|(apply q_geq; exact rfl; exact rfl)|(apply q_len_sl; exact rfl; exact rfl)
    | (apply (q_pickF (u := .d _)); exact rfl; exact rfl)))|(apply AWP.seq)|(apply ACont_normal)|(apply W.region; kernel_rfl)|(apply Walk.nil)|(apply AWP.ret)
  | (refine W.gF _ _ rfl rfl (fun hb => ?_) (fun hb => ?_) <;> ((try simp only [hb, Bool.not_true, Bool.not_false]) <;> (try simp only [decide_eq_true_eq, decide_eq_false_iff_not, Bool.not_eq_true', Bool.not_eq_false', Int.not_lt, Int.not_le, List.length_map, not_true_eq_false] at hb) <;> (try (exfalso; omega))))))
    all_goals exact ⟨.inl rfl, [0], [bV (decide ((us.length : Int) ≤ k))], rfl, rfl, ⟨by simp only [hmu]; rfl, trivial⟩, AVle.of_eq rfl, rfl⟩
theorem A_applyOk {M D u e : Int} {par : List (List Int)} {us : List (List Nat)} {l : List (Int × Int)} {s : List Nat} (hp : CodeIn par) (hV : validC M D par = true) (hw : (us.length : Int) = D + (par.length : Int)) (hus : us.length ≤ 1000) (hu : outZ us.length u = false) (hl : ∀ t ∈ l, outZ us.length t.1 = false) (hll : l.length ≤ 1000)
    (hc : ACalls Tryd.prog 25 [iV M, ints (l.map (·.2)), strs (readZ us l)] [] (.tup [bS s, iV e]) []) :
    ACalls Tryd.prog 10 [cdA M D par, .agg [iV u, tmsZ l], strs us] [] (.tup [bS s, iV e]) [] := by
  refine acalls_of_body Tryd.func10 rfl (Nat.le_of_ble_eq_true rfl) ?_
  have hmu : (us.map sD).length = us.length := List.length_map _
  have hml : (l.map tzD).length = l.length := List.length_map _
  have hv := A_evalid (M := M) (D := D) hp
  have hwd := A_ewidth (M := M) (D := D) hp
  rw [hV] at hv hwd
  rw [if_pos rfl, ← hw] at hwd
  have ho := A_outside (us := us) (k := u) (by omega)
  rw [hu] at ho
  have hrd := A_readsZ (u := u) (l := l) (by omega)
  have hcf := A_contains_int (O := [.box [strs us]]) (g := 21) (caps := [.opt 0 0]) (outZ us.length) (l.map (·.1)) (by rw [List.length_map]; omega) (by kernel_rfl) (fun x _ => A_outside (by omega))
  have hno : (l.map (·.1)).any (outZ us.length) = false := by
    rw [List.any_eq_false]
    intro x hx
    obtain ⟨t, ht, rfl⟩ := List.mem_map.1 hx
    rw [hl t ht]; simp
  rw [hno] at hcf
  have hlt : ∀ k (hk : k < l.length), ∃ q : Nat, l[k].1 = (q : Int) ∧ q < us.length := fun k hk => by
    have h1 := hl l[k] (List.getElem_mem _)
    unfold outZ at h1
    rw [Bool.or_eq_false_iff, decide_eq_false_iff_not, decide_eq_false_iff_not] at h1
    exact ⟨l[k].1.toNat, by omega, by omega⟩
  (repeat' (first
  | (apply W.gOn; exact rfl; exact rfl)
  | (apply W.qd; (first
    | (apply (q_callR (js := [2]) (ho)); exact rfl; exact rfl; exact rfl; exact fun _ => rfl; exact fun _ => rfl; kernel_rfl; kernel_rfl)|(apply (q_callC (hv)); exact rfl; exact rfl; kernel_rfl; kernel_rfl; kernel_rfl)|(apply (q_callC (hwd)); exact rfl; exact rfl; kernel_rfl; kernel_rfl; kernel_rfl)|(apply (q_callC (hrd)); exact rfl; exact rfl; kernel_rfl; kernel_rfl; kernel_rfl)|(apply (q_callR (js := [2]) (hcf)); exact rfl; exact rfl; exact rfl; exact fun _ => rfl; exact fun _ => rfl; kernel_rfl; kernel_rfl)|(apply q_mv; (first|exact vD|exact vO|exact vP|exact vA|exact vF|exact vR|exact vN|exact vY|exact vT|exact vM|exact vX))|(apply q_as; (first|exact vD|exact vO|exact vP|exact vA|exact vF|exact vR|exact vN|exact vY|exact vT|exact vM|exact vX))|(apply q_fld_optF; exact rfl; exact rfl; exact rfl)|(apply q_ld_box; exact rfl; exact rfl; exact rfl; exact rfl)|(apply q_ld_boxF; exact rfl; exact rfl; exact rfl; exact rfl)|(apply q_neq; exact rfl; exact rfl)|(apply q_not; exact rfl)|(apply q_len_sl; exact rfl; exact rfl)|(apply q_makeFunc)
    | (apply (q_pickF (u := .d _)); exact rfl; exact rfl)))|(apply W.ed; (apply e_boxF; exact rfl; exact rfl; exact rfl; kernel_rfl; kernel_rfl))|(apply AWP.seq)|(apply ACont_normal)|(apply W.region; kernel_rfl)|(apply W.regionD; exact rfl; kernel_rfl)|(apply Walk.nil)|(apply W.chk; kernel_rfl)|(apply AWP.block)|(apply AWP.skip)|(apply W.condF; exact rfl)
  | (refine W.gF _ _ rfl rfl (fun hb => ?_) (fun hb => ?_) <;> ((try simp only [hb, Bool.not_true, Bool.not_false]) <;> (try simp only [decide_eq_true_eq, decide_eq_false_iff_not, Bool.not_eq_true', Bool.not_eq_false', Int.not_lt, Int.not_le, List.length_map, not_true_eq_false] at hb) <;> (try (exfalso; omega))))))
  refine AWP.nilRow 9 1 3 rfl (by omega) ?_
  refine AWP.nilRow 10 1 9 rfl (by omega) ?_
  refine AWP.loopW (α := Nat) (fun k => k ≤ l.length) (fun k => ⟨[(39, iV k), (38, iV l.length), (37, tmsZ l), (9, .osl 3 k 0 ((l.take k).map (·.2)).length), (10, .osl 4 k 0 (readZ us (l.take k)).length), (3, .opt 0 0), (4, .opt 1 0), (5, .opt 2 0)], [.box [.d .any, iV M, iV D, .d (.sl 1 (par.map rD)), .d .any], .box [iV u, tmsZ l], .box [strs us], .row k 1 3 (((l.take k).map (·.2)).map iD), .row k 1 9 ((readZ us (l.take k)).map sD)]⟩) (fun k => l.length - k) 0 (by omega) ⟨[0, 1, 2, 3, 4], rfl, rfl, rfl, iV_eq (by simp), iV_eq (by rw [hml]), rfl, rfl, rfl, rfl, rfl, rfl, trivial⟩ fun k hk => ?_
  by_cases hkl : k < l.length
  · obtain ⟨q, hq, hqu⟩ := hlt k hkl
    have h1 : (l.take (k + 1)).map (·.2) = (l.take k).map (·.2) ++ [l[k].2] := by
      rw [List.take_succ_eq_append_getElem hkl, List.map_append]; rfl
    have h2 : readZ us (l.take (k + 1)) = readZ us (l.take k) ++ [us[q]] := by
      unfold readZ
      rw [List.take_succ_eq_append_getElem hkl, List.map_append]
      simp [List.getD_eq_getElem?_getD, hq, hqu]
    have hl1 : ((l.take k).map (·.2)).length ≤ 1024 := by simp; omega
    have hl2 : (readZ us (l.take k)).length ≤ 1024 := by unfold readZ; simp; omega
    replace h1 := Lib.hid h1
    replace h2 := Lib.hid h2
    generalize (l.take k).map (·.2) = A at *
    generalize readZ us (l.take k) = B at *
    (repeat' (first
  | (apply W.qd; (first
    | (apply q_mv; (first|exact vD|exact vO|exact vP|exact vA|exact vF|exact vR|exact vN|exact vY|exact vT|exact vM|exact vX))|(apply q_as; (first|exact vD|exact vO|exact vP|exact vA|exact vF|exact vR|exact vN|exact vY|exact vT|exact vM|exact vX))|(apply q_fld_optF; exact rfl; exact rfl; exact rfl)|(apply q_ld_box; exact rfl; exact rfl; exact rfl; exact rfl)|(apply q_lss; exact rfl; exact rfl)|(apply q_add; exact rfl; exact rfl; omega)|(apply q_ld_map; exact rfl; exact rfl; exact rfl; (first | omega | (focus (simp; done))))|(apply q_ld_maps; exact rfl; exact rfl; exact rfl; (first | omega | (focus (simp; done))))|(apply q_litF; exact rfl; exact rfl; exact rfl; exact rfl; exact rfl; kernel_rfl; kernel_rfl; exact rfl)
    | (apply q_ix_slF; exact rfl; exact rfl; exact rfl; exact rfl; (first | (with_reducible exact rfl) | exact natI_spec rfl | assumption | exact (Int.toNat_of_nonneg (by omega)).symm); (first | omega | (focus (simp only [List.length_map]; omega)) | (focus (simp; done)) | (focus (simp; omega))))))|(apply W.ld; (apply l_app1; exact rfl; exact rfl; exact rfl; exact rfl; exact rfl; exact rfl; exact rfl; exact rfl; (first | omega | (focus (simp; omega)) | (focus (simp; done)))))|(apply W.ed; (apply e_allocF; exact rfl; exact rfl; exact rfl; kernel_rfl))|(apply W.ln; (apply l_st_box; exact rfl; exact rfl; exact rfl; exact rfl; exact rfl; exact rfl; kernel_rfl; kernel_rfl; kernel_rfl))|(apply AWP.seq)|(apply ACont_normal)|(apply W.region; kernel_rfl)|(apply W.regionD; exact rfl; kernel_rfl)|(apply Walk.nil)|(apply W.chk; kernel_rfl)|(apply AWP.block)|(apply AWP.skip)|(apply ABlock_normal)
  | (refine W.cond _ rfl (fun hb => ?_) (fun hb => ?_) <;> ((try simp only [hb, Bool.not_true, Bool.not_false]) <;> (try simp only [decide_eq_true_eq, decide_eq_false_iff_not, Bool.not_eq_true', Bool.not_eq_false', Int.not_lt, Int.not_le, List.length_map, not_true_eq_false] at hb) <;> (try (exfalso; omega))))))
    refine ⟨k + 1, by omega, by omega, ?_⟩
    rw [h1.out, h2.out]
    exact ⟨[0, 1, 2, 3, 4], rfl, rfl, rfl, iV_eq (by omega), rfl, rfl, rfl, rfl, rfl, rfl, rfl, trivial⟩
  · have e : k = l.length := by omega
    subst e
    rw [List.take_length]
    have hl1 : (l.map (·.2)).length ≤ 1024 := by simp; omega
    generalize l.map (·.2) = A at *
    generalize readZ us l = B at *
    refine AWP.wk ⟨[(39, iV l.length), (38, iV l.length), (9, ints A), (10, strs B), (3, .opt 0 0)], [.box [.d .any, iV M, iV D, .d (.sl 1 (par.map rD)), .d .any]]⟩ ⟨[0], rfl, rfl, rfl, rfl, rfl, (frz_rowJ rfl rfl (by simp)).symm, (frz_rowJ rfl rfl (by simp)).symm, rfl, trivial⟩ ?_
    (repeat' (first
  | (apply W.qd; (first
    | (apply (q_callC (hc)); exact rfl; exact rfl; kernel_rfl; kernel_rfl; kernel_rfl)|(apply q_mv; (first|exact vD|exact vO|exact vP|exact vA|exact vF|exact vR|exact vN|exact vY|exact vT|exact vM|exact vX))|(apply q_as; (first|exact vD|exact vO|exact vP|exact vA|exact vF|exact vR|exact vN|exact vY|exact vT|exact vM|exact vX))|(apply q_fld_optF; exact rfl; exact rfl; exact rfl)|(apply q_ld_box; exact rfl; exact rfl; exact rfl; exact rfl)|(apply q_lss; exact rfl; exact rfl)
    | (apply q_extract; exact rfl; exact rfl)))|(apply AWP.seq)|(apply ACont_normal)|(apply W.region; kernel_rfl)|(apply Walk.nil)|(apply AWP.exit)|(apply AWP.ret)|(apply ACont_exit)|(apply ABlock_exit)
  | (refine W.cond _ rfl (fun hb => ?_) (fun hb => ?_) <;> ((try simp only [hb, Bool.not_true, Bool.not_false]) <;> (try simp only [decide_eq_true_eq, decide_eq_false_iff_not, Bool.not_eq_true', Bool.not_eq_false', Int.not_lt, Int.not_le, List.length_map, not_true_eq_false] at hb) <;> (try (exfalso; omega))))))
    exact Ends.two rfl rfl rfl
end Go.Proofs.YtilpljehfcpjeaaDoor
end
