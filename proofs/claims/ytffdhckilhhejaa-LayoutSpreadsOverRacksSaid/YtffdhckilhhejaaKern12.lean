/- The machine of abstract values: append, stores into rows. No program in sight; no condition. -/
import Derived.Test.YtffdhckilhhejaaKern11
namespace Go.Proofs.Ytffdhckilhhejaa
open Go.RowKit
set_option linter.unusedVariables false
set_option linter.unusedSimpArgs false

theorem rowSat_append {B : Nat → Prop} {w : World} {b : Nat} : ∀ {xs ys : List Dat} {o : Nat}, Dat.rowSat B w b o (xs ++ ys) ↔ Dat.rowSat B w b o xs ∧ Dat.rowSat B w b (o + xs.length) ys
  | [], ys, o => by simp [Dat.rowSat]
  | x :: xs, ys, o => by
    rw [List.cons_append, Dat.rowSat, Dat.rowSat, rowSat_append, List.length_cons, show o + (xs.length + 1) = o + 1 + xs.length from by omega]
    exact ⟨fun ⟨h1, h2, h3⟩ => ⟨⟨h1, h2⟩, h3⟩, fun ⟨⟨h1, h2⟩, h3⟩ => ⟨h1, h2, h3⟩⟩
theorem rowsSat_flat {B : Nat → Prop} {w : World} {b sz : Nat} : ∀ {l : List (List Dat)} {o : Nat}, Dat.rowsSat B w b sz o l ↔ (∀ e ∈ l, e.length = sz) ∧ Dat.rowSat B w b o l.flatten
  | [], o => by simp [Dat.rowsSat, Dat.rowSat]
  | e :: es, o => by
    rw [Dat.rowsSat, rowsSat_flat, List.flatten_cons, rowSat_append]
    constructor
    · rintro ⟨⟨h1, h2⟩, h3, h4⟩
      exact ⟨fun x hx => (by rcases List.mem_cons.1 hx with rfl | hx <;> first | exact h1 | exact h3 x hx), h2, by rw [h1]; exact h4⟩
    · rintro ⟨h1, h2, h3⟩
      have he := h1 e (by simp)
      exact ⟨⟨he, h2⟩, fun x hx => h1 x (by simp [hx]), by rw [he] at h3; exact h3⟩
/-- Values that read as data. -/
def valsSat (B : Nat → Prop) (w : World) (ds : List Dat) (us : List Value) : Prop := ds.length = us.length ∧ ∀ (j : Nat) (x : Dat), ds[j]? = some x → ∃ u, us[j]? = some u ∧ u.oneCell' = true ∧ Dat.sat B w x u
theorem vals_of_row {B : Nat → Prop} {w : World} {b o : Nat} {ds : List Dat} (h : Dat.rowSat B w b o ds) : ∃ us, valsSat B w ds us ∧ ∀ (j : Nat) (u : Value), us[j]? = some u → w.cell? ⟨b, o + j, none⟩ = some u := by
  rw [Dat.rowSat_iff] at h
  refine ⟨(List.range ds.length).map fun i => ((w.cell? ⟨b, o + i, none⟩).getD undef), ⟨by simp, fun j x hx => ?_⟩, fun j u hu => ?_⟩
  · obtain ⟨u, h1, h2, h3⟩ := h j x hx
    have hlt : j < ds.length := (List.getElem?_eq_some_iff.1 hx).1
    exact ⟨u, by simp [hlt, h1], h2, h3⟩
  · have hlt : j < ds.length := by have := (List.getElem?_eq_some_iff.1 hu).1; simpa using this
    obtain ⟨u', h1, _, _⟩ := h j _ (List.getElem?_eq_getElem hlt)
    have : u' = u := by simpa [hlt, h1] using hu
    rw [← this]; exact h1
theorem row_of_vals {B B' : Nat → Prop} {w w' : World} (hw : Wide B B' w w') {b o : Nat} {ds : List Dat} {us : List Value} (h : valsSat B w ds us) (hc : ∀ (j : Nat) (u : Value), us[j]? = some u → w'.cell? ⟨b, o + j, none⟩ = some u) : Dat.rowSat B' w' b o ds := by
  rw [Dat.rowSat_iff]
  intro j x hx
  obtain ⟨u, h1, h2, h3⟩ := h.2 j x hx
  exact ⟨u, hc j u h1, h2, Dat.sat_wide hw x h3⟩
theorem vals_append {B : Nat → Prop} {w : World} {ds ds' : List Dat} {us us' : List Value} (h : valsSat B w ds us) (h' : valsSat B w ds' us') : valsSat B w (ds ++ ds') (us ++ us') := by
  refine ⟨by simp [h.1, h'.1], fun j x hx => ?_⟩
  by_cases hj : j < ds.length
  · rw [List.getElem?_append_left hj] at hx
    obtain ⟨u, h1, h2⟩ := h.2 j x hx
    exact ⟨u, by rw [List.getElem?_append_left (by rw [← h.1]; exact hj)]; exact h1, h2⟩
  · rw [List.getElem?_append_right (by omega)] at hx
    obtain ⟨u, h1, h2⟩ := h'.2 _ x hx
    exact ⟨u, by rw [List.getElem?_append_right (by rw [← h.1]; omega), ← h.1]; exact h1, h2⟩
theorem vals_one {B : Nat → Prop} {w : World} {ds : List Dat} {us : List Value} (h : valsSat B w ds us) : ∀ u ∈ us, u.oneCell' = true := fun u hu => by
  obtain ⟨j, hj⟩ := List.mem_iff_getElem?.1 hu
  have hlt : j < ds.length := by rw [h.1]; exact (List.getElem?_eq_some_iff.1 hj).1
  obtain ⟨u', h1, h2, _⟩ := h.2 j _ (List.getElem?_eq_getElem hlt)
  rw [hj] at h1; obtain rfl : u = u' := by simpa using h1
  exact h2
theorem flat_len {sz : Nat} : ∀ {l : List (List Dat)}, (∀ e ∈ l, e.length = sz) → l.flatten.length = l.length * sz
  | [], _ => by simp
  | e :: es, h => by rw [List.flatten_cons, List.length_append, h e (by simp), flat_len (fun x hx => h x (by simp [hx])), List.length_cons, Nat.succ_mul]; omega

section
variable {P : Program} {m : Nat} {env : List (Nat × AV)} {own : List Ent} {dst : Option Tmp} {ty : TypeId} {pos : String} {af : Array Edge} {gd : Option (Nat × Bool)}

theorem set_same (x : Ent) (p i : Nat) (hi : i ∉ [p]) : (own.set p x)[i]? = own[i]? := List.getElem?_set_ne (by simpa using Ne.symm (by simpa using hi))

/-- What stands behind an append onto a row of the call's own. -/
theorem append_fin {F : Nat → Prop} {κ : List (Option Nat)} {w w' : World} {p ver sz n k : Nat} {e : TypeId} {l l2 : List (List Dat)} {og : Option Nat} {v v' : Value} {xs news : List Value} (ho : OwnSat F own κ w) (hm : m ≤ p) (hp : own[p]? = some (.row ver sz e l)) (hk : κ[p]? = some og) (hsz : 0 < sz) (hn : n = l.length) (hkl : k = l2.length) (hpos : 0 < k)
    (hl2 : ∀ e ∈ l2, e.length = sz) (hl1 : ∀ e ∈ l, e.length = sz) (hxs : valsSat (badK F κ) w l.flatten xs) (hnews : valsSat (badK F κ) w l2.flatten news)
    (hvo : v.ownBlock = og) (h3 : w'.ownsRow 0 e sz v' (n + k) (xs ++ news)) (h4 : w.grownBy w' v.ownBlock) (h5 : v'.ownBlock = v.ownBlock ∨ v'.ownBlock = some w.heap.size) :
    ∃ κ', AV.sat F (own.set p (.row (ver + 1) sz e (l ++ l2))) κ' w' (.osl p (ver + 1) 0 (n + k)) v' ∧ OwnSat F (own.set p (.row (ver + 1) sz e (l ++ l2))) κ' w' ∧ Tr F m own κ w (own.set p (.row (ver + 1) sz e (l ++ l2))) κ' w' := by
  have hpl : p < own.length := (List.getElem?_eq_some_iff.1 hp).1
  rcases h3.2 with ⟨_, h0⟩ | ⟨g, cap, cur, rfl, _, hh, hnc, hcm, hcs, htake⟩
  · omega
  · have hgl : g < w'.heap.size := (Array.getElem?_eq_some_iff.1 hh).1
    have hog : some g = og ∨ ∃ g', some g = some g' ∧ w.heap.size ≤ g' ∧ g' < w'.heap.size := by
      rcases h5 with h5 | h5
      · left; rw [← hvo, ← h5]; rfl
      · right
        have : g = w.heap.size := by simpa [Value.ownBlock] using h5
        exact ⟨g, rfl, by omega, hgl⟩
    have hlen : (l ++ l2).flatten.length = (n + k) * sz := by
      rw [flat_len (sz := sz) (by intro e he; rcases List.mem_append.1 he with h | h <;> first | exact hl1 e h | exact hl2 e h), List.length_append, hn, hkl]
    obtain ⟨g1, g2⟩ := step_upd (m := m) (x' := .row (ver + 1) sz e (l ++ l2)) (og' := some g) (w' := w') ho hp hk h4.os h4.tape h4.output h4.size (fun b hb hne => h4.block b hb (by rw [hvo]; exact Ne.symm hne)) hog (.inl hm) (.inl (Nat.lt_succ_self ver)) (fun hst =>
      ⟨hsz, .inr ⟨g, rfl, cur, hh, by rw [List.length_append, ← hn, ← hkl, hcs]; exact Nat.mul_le_mul_right _ hnc, by
        rw [rowsSat_flat]
        refine ⟨(by intro e he; rcases List.mem_append.1 he with h | h <;> first | exact hl1 e h | exact hl2 e h), ?_⟩
        rw [List.flatten_append]
        refine row_of_vals hst.wide (vals_append hxs hnews) fun j u hu => ?_
        rw [Nat.zero_add, cell_of_row w' g j cur e (0, 0) hh]
        rw [← htake, List.getElem?_take] at hu
        split at hu
        · simpa using hu
        · cases hu⟩⟩)
    refine ⟨_, ?_, g1, g2⟩
    rw [AV.sat]
    have hself : (own.set p (.row (ver + 1) sz e (l ++ l2)))[p]? = some (.row (ver + 1) sz e (l ++ l2)) := by rw [List.getElem?_set_self hpl]
    refine ⟨⟨_, hself, Nat.le_refl _, rfl⟩, fun sz2 e2 c2 hc => ?_⟩
    rw [hself] at hc
    obtain ⟨rfl, rfl, rfl⟩ : sz = sz2 ∧ e = e2 ∧ l ++ l2 = c2 := by simpa using hc
    refine ⟨by simp; omega, _, cap, rfl, hnc, hcm, fun _ => .inl ⟨g, ?_, by simp, cur, e, (0, 0), hh, by rw [hcs, Nat.zero_add]⟩⟩
    rw [List.getElem?_set_self (by rw [← ho.len]; exact hpl)]

/-- What is needed of the row that is appended to. -/
theorem row_owns {F : Nat → Prop} {κ : List (Option Nat)} {w : World} {p ver sz n : Nat} {e : TypeId} {l : List (List Dat)} {v : Value} (ho : OwnSat F own κ w) (hp : own[p]? = some (.row ver sz e l)) (hn : n = l.length) (hv : AV.sat F own κ w (.osl p ver 0 n) v) :
    0 < sz ∧ (∀ e ∈ l, e.length = sz) ∧ ∃ og xs, κ[p]? = some og ∧ v.ownBlock = og ∧ valsSat (badK F κ) w l.flatten xs ∧ w.ownsRow 0 e sz v n xs := by
  rw [AV.sat] at hv
  obtain ⟨h1, A, c, rfl, h3, h4, h5⟩ := hv.2 sz e l hp
  obtain ⟨og, hog⟩ := ho.kap p _ hp
  obtain ⟨h0, hent⟩ := ho.ent p _ hp
  have hgd : κ.getD p none = og := by simp [List.getD_eq_getElem?_getD, hog]
  rw [hgd] at hent
  rcases h5 (.inr rfl) with ⟨g, g1, rfl, cur, t, fz, g3, g4⟩ | ⟨g1, rfl, rfl⟩
  · obtain rfl : og = some g := by rw [hog] at g1; simpa using g1
    rcases hent with ⟨hx, _⟩ | ⟨g', hg', cur', h6, h7, h8⟩
    · cases hx
    · obtain rfl : g = g' := by simpa using hg'
      rw [g3] at h6
      obtain ⟨rfl, rfl, rfl⟩ : cur = cur' ∧ t = e ∧ fz = (0, 0) := by simpa using h6
      rw [rowsSat_flat] at h8
      obtain ⟨us, u1, u2⟩ := vals_of_row h8.2
      have hfl := flat_len h8.1
      have hul : us.length = n * sz := by rw [← u1.1, hfl, hn]
      refine ⟨h0, h8.1, some g, us, hog, by simp [Value.ownBlock], u1, hul, .inr ⟨g, c, cur, by simp, Nat.zero_le _, g3, h3, h4, by simpa using g4.symm, ?_⟩⟩
      apply List.ext_getElem?
      intro j
      rw [List.getElem?_take]
      by_cases hj : j < n * sz
      · rw [if_pos hj]
        have hj' : j < us.length := by omega
        have := u2 j _ (List.getElem?_eq_getElem hj')
        rw [Nat.zero_add, cell_of_row w g j cur t (0, 0) g3] at this
        rw [List.getElem?_eq_getElem hj', ← this]; simp
      · rw [if_neg hj, List.getElem?_eq_none (by omega)]
  · obtain rfl : og = none := by rw [hog] at g1; simpa using g1
    rcases hent with ⟨_, rfl⟩ | ⟨g', hg', _⟩
    · have hn0 : n = 0 := by simpa using hn
      subst hn0
      exact ⟨h0, by simp, none, [], hog, rfl, ⟨rfl, fun j x hx => by simp at hx⟩, by simp, .inl ⟨rfl, rfl⟩⟩
    · cases hg'

theorem run_builtin_append {a : Act} {x y : Operand} {t : TypeId} {w w' : World} {v : Value} (h : (Builtin.append_ #[t, t] ty #[a.eval x, a.eval y]).run P w = .ok v w') :
    (execOp a.eval ⟨dst, .call ⟨.builtin .append, #[x, y], #[t, t]⟩, ty, pos, af, gd⟩).run P w = .ok (.value v) w' := by
  rw [exec_builtin]
  simp only [builtin, List.map_toArray, List.map_cons, List.map_nil]
  exact exec_v h

/-- 'append(row, data...)', data not empty. -/
theorem e_app {t e : TypeId} {sz by' : Nat} {z : Value} {x y : Operand} {p ver n : Nat} {l l2 : List (List Dat)} (ht : slInfo P t = some (e, sz, by', z)) (hz : z.cells.size = sz) (hby : Nat.ble by' 1024 = true) (hx : lookO env x = .osl p ver 0 n) (hp : own[p]? = some (.row ver sz e l)) (hy : lookO env y = .d (.sl sz l2)) (hm : m ≤ p) (hn : n = l.length)
    (hpos : 0 < l2.length) (hb : l.length + l2.length ≤ 1000000000) :
    Eff P m ⟨dst, .call ⟨.builtin .append, #[x, y], #[t, t]⟩, ty, pos, af, gd⟩ env own [p] (.osl p (ver + 1) 0 (l.length + l2.length)) (own.set p (.row (ver + 1) sz e (l ++ l2))) :=
  Eff.mk (set_same _ p) fun F κ a w hs ho hmk => by
    subst hn
    have hx1 := hs x (by simp [Op.operands, Call.operands]); rw [hx] at hx1
    have hy1 := hs y (by simp [Op.operands, Call.operands]); rw [hy, AV.sat, Dat.sat] at hy1
    obtain ⟨h0, hl1, og, xs, hog, hvo, hxs, hown⟩ := row_owns ho hp rfl hx1
    obtain ⟨A, c, hyv, hc1, hc2, hc3⟩ := hy1
    obtain ⟨b, q, rfl, hb1, hb2, hb3⟩ := hc3 hpos
    rw [rowsSat_flat] at hb3
    obtain ⟨news, hv1, hv2⟩ := vals_of_row hb3.2
    obtain ⟨he, inf, hi1, rfl, hib, hzz⟩ := slInfo_spec ht
    have hnl : news.length = l2.length * inf.size := by rw [← hv1.1, flat_len hb3.1]
    have hby := Nat.le_of_ble_eq_true hby
    have hbytes : (l.length + l2.length) * by' ≤ 140737488355328 := by have := Nat.mul_le_mul hb hby; omega
    obtain ⟨v', w', h2, h3, h4, _, h5⟩ := run_append_own_at (P := P) w 0 t ty e inf z inf.size by' he hi1 hzz rfl hib hz h0 (a.eval x) l.length xs hown ⟨b, q, none⟩ l2.length c news hnl (fun j u hu => by rw [add_none]; exact hv2 j u hu) (vals_one hv1) (by unfold maxLen; omega) hbytes (Nat.zero_le _)
    rw [run_builtin_append (dst := dst) (pos := pos) (af := af) (gd := gd) (v := v') (w' := w') (by rw [hyv]; exact h2)]
    exact append_fin ho hm hp hog h0 rfl rfl hpos hb3.1 hl1 hxs hv1 hvo h3 h4 h5

/-- 'append(row, x)'. -/
theorem e_app1 {α : Type} {f : α → List Dat} {l : List α} {t e : TypeId} {sz by' : Nat} {z : Value} {x y : Operand} {p ver : Nat} (v : α) (ht : slInfo P t = some (e, sz, by', z)) (hz : z.cells.size = sz) (hby : Nat.ble by' 1024 = true) (hx : lookO env x = .osl p ver 0 l.length) (hp : own[p]? = some (.row ver sz e (l.map f))) (hy : lookO env y = .d (.sl sz [f v])) (hm : Nat.ble m p = true)
    (hb : l.length + 1 ≤ 1000000000) :
    Eff P m ⟨dst, .call ⟨.builtin .append, #[x, y], #[t, t]⟩, ty, pos, af, gd⟩ env own [p] (.osl p (ver + 1) 0 (l ++ [v]).length) (own.set p (.row (ver + 1) sz e ((l ++ [v]).map f))) := by
  have := e_app (P := P) (m := m) (dst := dst) (ty := ty) (pos := pos) (af := af) (gd := gd) ht hz hby hx hp hy (Nat.le_of_ble_eq_true hm) (by simp) (by simp) (by simpa using hb)
  simpa using this
/-- A store into a row. -/
theorem e_st_rpt {t : TypeId} {k : Nat} {x y : Operand} {i ver j o sz : Nat} {e : TypeId} {l : List (List Dat)} {c : List Dat} {d : Dat} (ht : tyInfo P t = some (false, k)) (hk : k = 1) (hx : lookO env x = .rpt i ver j o) (hi : own[i]? = some (.row ver sz e l)) (hc : l[j]? = some c) (ho' : o < sz) (hy : cellsD (lookO env y) = some [d]) (h1 : oneA (.d d) = true) :
    Eff P m ⟨dst, .store t x y, ty, pos, af, gd⟩ env own [i] (.d (.v undef)) (own.set i (.row ver sz e (l.set j (c.set o d)))) :=
  Eff.mk (set_same _ i) fun F κ a w hs ho hm => by
    subst hk
    have hx1 := hs x (by simp [Op.operands]); rw [hx, AV.sat] at hx1
    have hy1 := hs y (by simp [Op.operands])
    obtain ⟨hcA, hok⟩ := cellsD_A hy
    have hcs := cellsA_sat hcA hy1 hok
    have hcl := satL_length hcs
    obtain ⟨h2, g, h3, h4⟩ := hx1.2 sz e l hi
    obtain ⟨h0, hent⟩ := ho.ent i _ hi
    rw [getD_some h3] at hent
    rcases hent with ⟨hxx, _⟩ | ⟨g', hg', cur, h5, h6, h7⟩
    · cases hxx
    · obtain rfl : g = g' := by simpa using hg'
      have hjl : j < l.length := h2
      have hjs : j * sz + o < l.length * sz := by
        have := Nat.mul_le_mul_right sz (show j + 1 ≤ l.length from hjl)
        rw [Nat.succ_mul] at this; omega
      have hvn : (a.eval y).cells.size = 1 := by simpa using hcl.symm
      obtain ⟨u, hu, hsu⟩ := satL_get hcs 0 (.d d) (by simp)
      have hcells : (a.eval y).cells.toList = [u] := by
        have : (a.eval y).cells.toList.length = 1 := by simpa using hvn
        match hq : (a.eval y).cells.toList, this with
        | [v], _ => rw [hq] at hu; simp at hu; rw [hu]
      have hone : u.oneCell' = true := one_of_cellsA h1 hsu
      have hrun : (execOp a.eval ⟨dst, .store t x y, ty, pos, af, gd⟩).run P w = .ok .skip (w.setRow g (cur.toList.take (j * sz + o) ++ [u] ++ cur.toList.drop (j * sz + o + 1)).toArray) := by
        have := run_storeAt (P := P) ht h5 (v := a.eval y) (o := j * sz + o) hvn (by omega) (by rw [hcells]; simpa using hone)
        rw [hcells] at this
        exact exec_u (by rw [h4]; exact this)
      rw [hrun]
      have hrow : (cur.toList.take (j * sz + o) ++ [u] ++ cur.toList.drop (j * sz + o + 1)).toArray = cur.setIfInBounds (j * sz + o) u := by
        apply Array.ext'
        rw [Array.toList_setIfInBounds, List.set_eq_take_append_cons_drop, if_pos (by simp; omega)]
        simp
      rw [hrow]
      have hgl := (ho.lt' h3).1
      obtain ⟨g1, g2⟩ := step_upd (m := m) (x' := .row ver sz e (l.set j (c.set o d))) (og := some g) (og' := some g) (w' := w.setRow g (cur.setIfInBounds (j * sz + o) u)) ho hi h3 rfl rfl rfl (by simp [World.setRow]) (fun b hb hne => by
        simp only [World.setRow, Array.getElem?_modify]
        rw [if_neg (fun e => hne (by rw [e]))]) (.inl rfl) (.inr rfl) (.inr ⟨rfl, rfl, rfl, by simp, rfl, fun g' hg' cur' t' fz' hcur' => by
          obtain rfl : g = g' := by simpa using hg'
          rw [h5] at hcur'
          obtain ⟨rfl, rfl, rfl⟩ : cur = cur' ∧ e = t' ∧ (0, 0) = fz' := by simpa using hcur'
          exact ⟨_, _, _, setRow_heap w g cur _ e (0, 0) h5, by simp⟩⟩) (fun hst => ⟨h0, .inr ⟨g, rfl, _, setRow_heap w g cur _ e (0, 0) h5, by simpa using h6, by
            have hcell : ∀ q, (w.setRow g (cur.setIfInBounds (j * sz + o) u)).cell? ⟨g, q, none⟩ = if q = j * sz + o then some u else w.cell? ⟨g, q, none⟩ := fun q => by
              rw [cell_of_row _ g q _ e (0, 0) (setRow_heap w g cur _ e (0, 0) h5), cell_of_row w g q cur e (0, 0) h5, Array.getElem?_setIfInBounds]
              by_cases hq : j * sz + o = q
              · rw [if_pos hq, if_pos (by omega), if_pos hq.symm]
              · rw [if_neg hq, if_neg (fun h => hq h.symm)]
            rw [Dat.rowsSat_iff] at h7 ⊢
            intro j' e' hj'
            by_cases hjj : j' = j
            · subst hjj
              rw [List.getElem?_set_self hjl] at hj'
              obtain rfl : c.set o d = e' := by simpa using hj'
              obtain ⟨h8, h9⟩ := h7 j' c hc
              refine ⟨by simpa using h8, ?_⟩
              rw [Dat.rowSat_iff] at h9 ⊢
              intro q y' hq
              by_cases hqo : q = o
              · subst hqo
                rw [List.getElem?_set_self (by omega)] at hq
                obtain rfl : d = y' := by simpa using hq
                refine ⟨u, by rw [hcell, if_pos (by omega)], hone, Dat.sat_wide hst.wide d (by rw [AV.sat] at hsu; exact hsu)⟩
              · rw [List.getElem?_set_ne (Ne.symm hqo)] at hq
                obtain ⟨u', h10, h11, h12⟩ := h9 q y' hq
                exact ⟨u', by rw [hcell, if_neg (by omega)]; exact h10, h11, Dat.sat_wide hst.wide y' h12⟩
            · rw [List.getElem?_set_ne (Ne.symm hjj)] at hj'
              obtain ⟨h8, h9⟩ := h7 j' e' hj'
              refine ⟨h8, ?_⟩
              rw [Dat.rowSat_iff] at h9 ⊢
              intro q y' hq
              obtain ⟨u', h10, h11, h12⟩ := h9 q y' hq
              have hql : q < sz := by have := (List.getElem?_eq_some_iff.1 hq).1; omega
              have hne : 0 + j' * sz + q ≠ j * sz + o := fun e => by
                rcases Nat.lt_trichotomy j' j with hlt | hlt | hlt
                · have := Nat.mul_le_mul_right sz (show j' + 1 ≤ j from hlt); rw [Nat.succ_mul] at this; omega
                · exact hjj hlt
                · have := Nat.mul_le_mul_right sz (show j + 1 ≤ j' from hlt); rw [Nat.succ_mul] at this; omega
              exact ⟨u', by rw [hcell, if_neg hne]; exact h10, h11, Dat.sat_wide hst.wide y' h12⟩⟩⟩)
      exact ⟨_, sat_v.2 rfl, g1, g2⟩
end
end Go.Proofs.Ytffdhckilhhejaa
