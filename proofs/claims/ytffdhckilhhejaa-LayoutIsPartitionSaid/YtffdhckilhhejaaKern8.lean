/- The machine of abstract values: forgetting and freezing memory of the call's own; calls. No program in sight; no condition. -/
import Derived.Test.YtffdhckilhhejaaKern7
namespace Go.Proofs.Ytffdhckilhhejaa
open Go.RowKit
set_option linter.unusedVariables false
set_option linter.unusedSimpArgs false

/-- What a slice of a row that is given up reads as. -/
def frzSl (own : List Ent) (i ver o n : Nat) : AV :=
  match own[i]? with
  | some (.row v sz _ l) => if v = ver then .d (.sl sz ((l.drop o).take n)) else .top
  | _ => .top
/-- The place of i among the entries that are kept. -/
def plc : List Nat → Nat → Option Nat
  | [], _ => none
  | j :: js, i => if j = i then some 0 else match plc js i with | some k => some (k + 1) | none => none
mutual
/-- A value, seen when the entries js alone are kept: slices of the others are data from now on. -/
def AV.frz (own : List Ent) (js : List Nat) : AV → AV
  | .osl i ver o n => match plc js i with | some k => .osl k ver o n | none => frzSl own i ver o n
  | .rpt i ver j o => match plc js i with | some k => .rpt k ver j o | none => .top
  | .opt i o => match plc js i with | some k => .opt k o | none => .top
  | .fn f l => .fn f (AV.frzL own js l)
  | .agg l => .agg (AV.frzL own js l)
  | .tup l => .tup (AV.frzL own js l)
  | .top => .top
  | .d x => .d x
  | .fpt sz l j o => .fpt sz l j o
def AV.frzL (own : List Ent) (js : List Nat) : List AV → List AV
  | [] => []
  | x :: xs => AV.frz own js x :: AV.frzL own js xs
end
def Ent.frz (own : List Ent) (js : List Nat) : Option Ent → Ent
  | some (.box l) => .box (AV.frzL own js l)
  | some y => y
  | none => .box []
def selOwn (own : List Ent) (js : List Nat) : List Ent := js.map fun i => Ent.frz own js own[i]?
def nodupB : List Nat → Bool
  | [] => true
  | j :: js => !js.contains j && nodupB js
def selOk (own : List Ent) (js : List Nat) : Bool := (js.all fun j => decide (j < own.length)) && nodupB js

theorem plc_spec : ∀ {js : List Nat} {i k : Nat}, plc js i = some k → js[k]? = some i
  | [], i, k, h => by simp [plc] at h
  | j :: js, i, k, h => by
    simp only [plc] at h
    split at h
    · rename_i e; obtain rfl : 0 = k := by simpa using h
      simp [e]
    · cases hp : plc js i with
      | none => simp [hp] at h
      | some k' => obtain rfl : k' + 1 = k := by simpa [hp] using h
                   simpa using plc_spec hp
theorem nodup_inj : ∀ {js : List Nat}, nodupB js = true → ∀ {a b : Nat} {i : Nat}, js[a]? = some i → js[b]? = some i → a = b
  | [], _, a, b, i, h, _ => by simp at h
  | j :: js, hn, a, b, i, h1, h2 => by
    simp only [nodupB, Bool.and_eq_true, Bool.not_eq_true'] at hn
    cases a with
    | zero =>
      cases b with
      | zero => rfl
      | succ b =>
        obtain rfl : j = i := by simpa using h1
        have : j ∈ js := List.mem_of_getElem? (by simpa using h2)
        have := hn.1
        simp_all
    | succ a =>
      cases b with
      | zero =>
        obtain rfl : j = i := by simpa using h2
        have : j ∈ js := List.mem_of_getElem? (by simpa using h1)
        have := hn.1
        simp_all
      | succ b => rw [nodup_inj hn.2 (a := a) (b := b) (i := i) (by simpa using h1) (by simpa using h2)]

section
variable {F : Nat → Prop} {own : List Ent} {κ : List (Option Nat)} {w : World} {js : List Nat}
def selK (κ : List (Option Nat)) (js : List Nat) : List (Option Nat) := js.map fun i => κ.getD i none

theorem sel_bad {b : Nat} (h : ¬ badK F κ b) : ¬ badK F (selK κ js) b := fun hb => by
  rcases hb with hb | hb
  · exact h (.inl hb)
  · obtain ⟨i, hi, he⟩ := List.mem_map.1 hb
    have : κ[i]? = some (some b) := by
      rw [List.getD_eq_getElem?_getD] at he
      cases hk : κ[i]? with
      | none => rw [hk] at he; cases he
      | some og => rw [hk] at he; simp at he; rw [he]
    exact h (.inr (List.mem_of_getElem? this))
theorem sel_wide : Wide (badK F κ) (badK F (selK κ js)) w w := ⟨Nat.le_refl _, fun _ _ _ => rfl, fun b _ hb => sel_bad hb⟩
theorem selK_get {k i : Nat} (h : js[k]? = some i) : (selK κ js)[k]? = some (κ.getD i none) := by simp [selK, h]
theorem selOwn_get {k i : Nat} (h : js[k]? = some i) : (selOwn own js)[k]? = some (Ent.frz own js own[i]?) := by simp [selOwn, h]

theorem frzSl_sat (ho : OwnSat F own κ w) {i ver o n : Nat} {u : Value} (hplc : plc js i = none) (hk : ∀ k : Nat, js[k]? ≠ some i) (hs : AV.sat F own κ w (.osl i ver o n) u) : AV.sat F (selOwn own js) (selK κ js) w (frzSl own i ver o n) u := by
  unfold frzSl
  rw [AV.sat] at hs
  obtain ⟨⟨y, hy, hv, h1c⟩, hs2⟩ := hs
  rw [hy]
  cases y with
  | box l => exact hv.elim
  | row v sz e l =>
    dsimp only
    split
    · rename_i e1; subst e1
      obtain ⟨h1, A, c, h2, h3, h4, h5⟩ := hs2 sz e l hy
      rw [AV.sat, Dat.sat]
      have hlen : ((l.drop o).take n).length = n := by simp; omega
      refine ⟨A, c, by rw [hlen]; exact h2, by rw [hlen]; exact h3, h4, fun hp => ?_⟩
      rw [hlen] at hp
      rcases h5 (.inl hp) with ⟨g, g1, rfl, cur, t, fz, g3, g4⟩ | ⟨_, _, rfl⟩
      · obtain ⟨hsz, hrow⟩ := ho.ent i _ hy
        rw [getD_some g1] at hrow
        rcases hrow with ⟨hx, _⟩ | ⟨g', hg', cur', g5, g6, g7⟩
        · cases hx
        · obtain rfl : g = g' := by simpa using hg'
          have hlt := ho.lt' g1
          refine ⟨g, o * sz, rfl, hlt.1, ?_, ?_⟩
          · intro hb
            rcases hb with hb | hb
            · exact hlt.2 hb
            · obtain ⟨i2, hi2, he2⟩ := List.mem_map.1 hb
              obtain ⟨k2, hk2⟩ := List.mem_iff_getElem?.1 hi2
              have h8 : κ[i2]? = some (some g) := by
                rw [List.getD_eq_getElem?_getD] at he2
                cases h9 : κ[i2]? with
                | none => rw [h9] at he2; cases he2
                | some og => rw [h9] at he2; simp at he2; rw [he2]
              obtain rfl := ho.inj i i2 g g1 h8
              exact hk k2 hk2
          · have g8 := Dat.rowsSat_wide (sel_wide (js := js)) rfl l g7
            rw [Dat.rowsSat_iff] at g8 ⊢
            intro j e' hj
            rw [List.getElem?_take] at hj
            split at hj
            · rw [List.getElem?_drop] at hj
              have := g8 _ e' hj
              rwa [Nat.zero_add, Nat.add_mul] at this
            · cases hj
      · omega
    · simp [AV.sat]
theorem plc_none : ∀ {js : List Nat} {i : Nat}, plc js i = none → ∀ k : Nat, js[k]? ≠ some i
  | [], i, _, k => by simp
  | j :: js, i, h, k => by
    simp only [plc] at h
    split at h
    · cases h
    · rename_i hne
      cases hp : plc js i with
      | some k' => simp [hp] at h
      | none =>
        cases k with
        | zero => simpa using hne
        | succ k => simpa using plc_none hp k

mutual
theorem AV.frz_sat (ho : OwnSat F own κ w) : ∀ (x : AV) {u : Value}, AV.sat F own κ w x u → AV.sat F (selOwn own js) (selK κ js) w (AV.frz own js x) u
  | .top, u, hs => by simp [AV.frz, AV.sat]
  | .d x, u, hs => by
    rw [AV.frz]; rw [AV.sat] at hs ⊢
    exact Dat.sat_wide sel_wide x hs
  | .fpt sz l j o, u, hs => by
    rw [AV.frz]; rw [AV.sat] at hs ⊢
    obtain ⟨b, q, h1, h2, h3, h4⟩ := hs
    exact ⟨b, q, h1, h2, sel_bad h3, Dat.rowsSat_wide sel_wide rfl l h4⟩
  | .osl i ver o n, u, hs => by
    rw [AV.frz]
    cases hp : plc js i with
    | none => exact frzSl_sat ho hp (plc_none hp) hs
    | some k =>
      have hk := plc_spec hp
      rw [AV.sat] at hs
      obtain ⟨⟨y, hy, hv, h1c⟩, hs2⟩ := hs
      cases y with
      | box l => exact hv.elim
      | row v sz e l =>
        show AV.sat F (selOwn own js) (selK κ js) w (.osl k ver o n) u
        have hown : (selOwn own js)[k]? = some (.row v sz e l) := by rw [selOwn_get hk, hy]; rfl
        rw [AV.sat]
        refine ⟨⟨_, hown, hv, h1c⟩, fun sz2 e2 c2 hc => ?_⟩
        rw [hown] at hc
        obtain ⟨rfl, rfl, rfl, rfl⟩ : v = ver ∧ sz = sz2 ∧ e = e2 ∧ l = c2 := by simpa using hc
        obtain ⟨h1, A, c, h2, h3, h4, h5⟩ := hs2 sz e l hy
        refine ⟨h1, A, c, h2, h3, h4, fun hpos => ?_⟩
        rcases h5 hpos with ⟨g, g1, g2, g3⟩ | ⟨g1, g2⟩
        · exact .inl ⟨g, by rw [selK_get hk, getD_some g1], g2, g3⟩
        · refine .inr ⟨by rw [selK_get hk]; simp [List.getD_eq_getElem?_getD, g1], g2⟩
  | .rpt i ver j o, u, hs => by
    rw [AV.frz]
    cases hp : plc js i with
    | none => simp [AV.sat]
    | some k =>
      have hk := plc_spec hp
      rw [AV.sat] at hs
      obtain ⟨⟨y, hy, hv, h1c⟩, hs2⟩ := hs
      cases y with
      | box l => exact hv.elim
      | row v sz e l =>
        show AV.sat F (selOwn own js) (selK κ js) w (.rpt k ver j o) u
        have hown : (selOwn own js)[k]? = some (.row v sz e l) := by rw [selOwn_get hk, hy]; rfl
        rw [AV.sat]
        refine ⟨⟨_, hown, hv, h1c⟩, fun sz2 e2 c2 hc => ?_⟩
        rw [hown] at hc
        obtain ⟨rfl, rfl, rfl, rfl⟩ : v = ver ∧ sz = sz2 ∧ e = e2 ∧ l = c2 := by simpa using hc
        obtain ⟨h1, g, g1, g2⟩ := hs2 sz e l hy
        exact ⟨h1, g, by rw [selK_get hk, getD_some g1], g2⟩
  | .opt i o, u, hs => by
    rw [AV.frz]
    cases hp : plc js i with
    | none => simp [AV.sat]
    | some k =>
      have hk := plc_spec hp
      rw [AV.sat] at hs
      obtain ⟨g, l, h1, h2, h3⟩ := hs
      show AV.sat F (selOwn own js) (selK κ js) w (.opt k o) u
      rw [AV.sat]
      exact ⟨g, _, by rw [selOwn_get hk, h1]; rfl, by rw [selK_get hk, getD_some h2], h3⟩
  | .fn f l, u, hs => by
    rw [AV.frz]; rw [AV.sat] at hs ⊢
    obtain ⟨vs, h1, h2⟩ := hs
    exact ⟨vs, h1, AV.frzL_sat ho l h2⟩
  | .agg l, u, hs => by
    rw [AV.frz]; rw [AV.sat] at hs ⊢
    obtain ⟨vs, h1, h2⟩ := hs
    exact ⟨vs, h1, AV.frzL_sat ho l h2⟩
  | .tup l, u, hs => by
    rw [AV.frz]; rw [AV.sat] at hs ⊢
    obtain ⟨vs, h1, h2⟩ := hs
    exact ⟨vs, h1, AV.frzL_sat ho l h2⟩
theorem AV.frzL_sat (ho : OwnSat F own κ w) : ∀ (l : List AV) {us : List Value}, AV.satL F own κ w l us → AV.satL F (selOwn own js) (selK κ js) w (AV.frzL own js l) us
  | [], [], hs => by simp [AV.frzL, AV.satL]
  | x :: xs, u :: us, hs => by
    rw [AV.satL] at hs
    rw [AV.frzL, AV.satL]
    exact ⟨AV.frz_sat ho x hs.1, AV.frzL_sat ho xs hs.2⟩
  | [], _ :: _, hs => by simp [AV.satL] at hs
  | _ :: _, [], hs => by simp [AV.satL] at hs
end

theorem sel_own (ho : OwnSat F own κ w) (hj : selOk own js = true) : OwnSat F (selOwn own js) (selK κ js) w := by
  simp only [selOk, Bool.and_eq_true] at hj
  have hlt : ∀ k i : Nat, js[k]? = some i → i < own.length := fun k i h => by
    have := List.all_eq_true.1 hj.1 i (List.mem_of_getElem? h)
    simpa using this
  have back : ∀ (k g : Nat), (selK κ js)[k]? = some (some g) → ∃ i : Nat, js[k]? = some i ∧ κ[i]? = some (some g) := fun k g h => by
    unfold selK at h
    rw [List.getElem?_map] at h
    cases hk : js[k]? with
    | none => rw [hk] at h; cases h
    | some i =>
      rw [hk] at h
      have h : κ.getD i none = some g := by simpa using h
      refine ⟨i, rfl, ?_⟩
      rw [List.getD_eq_getElem?_getD] at h
      cases h9 : κ[i]? with
      | none => rw [h9] at h; cases h
      | some og => rw [h9] at h; simp at h; rw [h]
  refine ⟨by simp [selOwn, selK], ho.frame, fun g hg => ?_, fun a b g ha hb => ?_, fun k y hy => ?_⟩
  · obtain ⟨k, hk⟩ := List.mem_iff_getElem?.1 hg
    obtain ⟨i, _, h2⟩ := back k g hk
    exact ho.lt' h2
  · obtain ⟨i, h1, h2⟩ := back a g ha
    obtain ⟨i', h3, h4⟩ := back b g hb
    obtain rfl := ho.inj i i' g h2 h4
    exact nodup_inj hj.2 h1 h3
  · cases hk : js[k]? with
    | none => unfold selOwn at hy; rw [List.getElem?_map, hk] at hy; cases hy
    | some i =>
      rw [selOwn_get hk] at hy
      have hi := hlt k i hk
      have hoi := List.getElem?_eq_getElem hi
      have hent := ho.ent i _ hoi
      have e1 : (selK κ js).getD k none = κ.getD i none := by simp [List.getD_eq_getElem?_getD, selK_get hk]
      rw [e1]
      rw [hoi] at hy
      generalize own[i] = x at hy hent
      cases x with
      | box l =>
        obtain rfl : Ent.box (AV.frzL own js l) = y := by simpa [Ent.frz] using hy
        obtain ⟨g, hg, cur, t, h1, h2, h3⟩ := hent
        exact ⟨g, hg, cur, t, h1, AV.frzL_sat ho l h2, h3⟩
      | row v s e c =>
        obtain rfl : Ent.row v s e c = y := by simpa [Ent.frz] using hy
        obtain ⟨h0, h1⟩ := hent
        refine ⟨h0, h1.imp id ?_⟩
        rintro ⟨g, hg, cur, h2, h3, h4⟩
        exact ⟨g, hg, cur, h2, h3, Dat.rowsSat_wide sel_wide rfl c h4⟩
end

/-- What is known of the slots afterwards follows from what was known. -/
def EnvWk (own : List Ent) (js : List Nat) (env : List (Nat × AV)) : List (Nat × AV) → Prop
  | [] => True
  | (t, x) :: rest => x = AV.frz own js (look env t) ∧ EnvWk own js env rest
/-- State s' says no more than s: the entries js are kept, the slots that are named are as they were. -/
def Wk (m : Nat) (s s' : St) : Prop := ∃ js, selOk s.own js = true ∧ js.take m = List.range m ∧ s'.own = selOwn s.own js ∧ EnvWk s.own js s.env s'.env

theorem EnvWk.look {own : List Ent} {js : List Nat} {env : List (Nat × AV)} : ∀ {env' : List (Nat × AV)}, EnvWk own js env env' → ∀ t, look env' t = .top ∨ look env' t = AV.frz own js (look env t)
  | [], _, t => .inl rfl
  | (s, x) :: rest, h, t => by
    simp only [Go.Proofs.Ytffdhckilhhejaa.look]
    by_cases e : s = t
    · rw [if_pos e, ← e]; exact .inr h.1
    · rw [if_neg e]; exact EnvWk.look h.2 t
theorem Sim.wk {F : Nat → Prop} {W : World} {κ0 : List (Option Nat)} {n m : Nat} {s s' : St} {a : Act} {κ : List (Option Nat)} {w : World} (hm : κ0.length = m) (hs : Sim F W κ0 n s a κ w) (h : Wk m s s') : ∃ κ', Sim F W κ0 n s' a κ' w := by
  obtain ⟨js, h1, h2, h3, h4⟩ := h
  refine ⟨selK κ js, hs.tm, hs.df, fun t => ?_, by rw [h3]; exact sel_own hs.own h1, ?_, hs.os, hs.tape, hs.output, hs.size, hs.old, fun b hb => ?_⟩
  · rw [h3]
    rcases EnvWk.look h4 t with h | h
    · rw [h]; simp [AV.sat]
    · rw [h]; exact AV.frz_sat hs.own _ (hs.env t)
  · have hle : m ≤ κ.length := by have := congrArg List.length hs.pre; simp only [List.length_take] at this; omega
    rw [hm]
    unfold selK
    rw [← List.map_take, h2, ← hs.pre, hm]
    apply List.ext_getElem?
    intro j
    by_cases hj : j < m
    · simp [hj, List.getElem?_take, List.getD_eq_getElem?_getD, List.getElem?_eq_getElem (show j < κ.length by omega)]
    · rw [List.getElem?_eq_none (by simp; omega), List.getElem?_eq_none (by simp; omega)]
  · obtain ⟨i, hi, he⟩ := List.mem_map.1 hb
    refine hs.new b ?_
    rw [List.getD_eq_getElem?_getD] at he
    cases h9 : κ[i]? with
    | none => rw [h9] at he; cases he
    | some og => rw [h9] at he; simp at he; rw [he] at h9; exact List.mem_of_getElem? h9

section
variable {P : Program} {n m : Nat} {Q : Exit → St → Prop} {s : St}
theorem AWP.wk {c : Code} (s' : St) (h : Wk m s s') (hc : AWP P n m c Q s') : AWP P n m c Q s := fun F W κ0 a κ w hm hs => by
  obtain ⟨κ', hs'⟩ := hs.wk hm h
  exact hc F W κ0 a κ' w hm hs'
/-- A loop, its states counted by some type; states may be forgotten in part. -/
theorem AWP.loopW {body : Code} {α : Type} (pre : α → Prop) (st : α → St) (μ : α → Nat) (x0 : α) (h0 : pre x0) (hs0 : Wk m s (st x0))
    (hr : ∀ x, pre x → AWP P n m body (ACont P n m (fun s' => ∃ x', pre x' ∧ μ x' < μ x ∧ Wk m s' (st x')) Q) (st x)) : AWP P n m (.loop body) Q s := by
  refine AWP.wk (st x0) hs0 fun F W κ0 a κ w hm hs => ?_
  refine wp_loop_ghost (fun k a w => ∃ x κ, pre x ∧ μ x = k ∧ Sim F W κ0 n (st x) a κ w) (μ x0) ⟨x0, κ, h0, rfl, hs⟩ fun k a w ⟨x, κ, hp, hk, hs⟩ => ?_
  refine wp_mono (hr x hp F W κ0 a κ w hm hs) fun e a' w' ⟨s', κ', hq, hs'⟩ => ?_
  cases e with
  | normal =>
    obtain ⟨x', h1, h2, h3⟩ := hq
    obtain ⟨κ2, hs2⟩ := hs'.wk hm h3
    exact ⟨μ x', by omega, x', κ2, h1, rfl, hs2⟩
  | _ => exact ⟨s', κ', hq, hs'⟩
end
end Go.Proofs.Ytffdhckilhhejaa
