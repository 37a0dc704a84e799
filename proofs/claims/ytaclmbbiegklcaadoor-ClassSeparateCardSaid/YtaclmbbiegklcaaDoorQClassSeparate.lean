import Derived.Test.YtaclmbbiegklcaaDoorRows
import Derived.Test.YtaclmbbiegklcaaDoorCards
import Derived.Test.YtaclmbbiegklcaaDoorTie
import Derived.Test.YtaclmbbiegklcaaDoorMClassSeparate5
/- ClassSeparate: the given statement, out of the walk. For every input; no condition. -/
namespace Go.Proofs.YtaclmbbiegklcaaDoor.classSeparateP
open Go.ChangeShapes Go.WideShapes Go.ChangeAt Go.RowKit
set_option linter.unusedVariables false
set_option linter.unusedSimpArgs false
theorem own : ownKnob Tryd.prog.godebug = none := by kernel_rfl
theorem laidOut : laidOutB Tryd.prog = true := by kernel_rfl
theorem gName : Tryd.prog.globalNamed "solvent/field.fields" = some 0 := by kernel_rfl
theorem cells_int : Tryd.prog.cellsOf 3 = 1 := by kernel_rfl
theorem cells_sl_api_Code : Tryd.prog.cellsOf 22 = 1 := by kernel_rfl
theorem cells_sl_api_Survival : Tryd.prog.cellsOf 23 = 1 := by kernel_rfl
theorem cells_sl_int : Tryd.prog.cellsOf 40 = 1 := by kernel_rfl
theorem cells_sl_sl_int : Tryd.prog.cellsOf 26 = 1 := by kernel_rfl
theorem cells_solvent_api_Code : Tryd.prog.cellsOf 28 = 5 := by kernel_rfl
theorem cells_solvent_api_Library : Tryd.prog.cellsOf 25 = 2 := by kernel_rfl
theorem cells_solvent_api_Survival : Tryd.prog.cellsOf 42 = 5 := by kernel_rfl
theorem cells_string : Tryd.prog.cellsOf 9 = 1 := by kernel_rfl
noncomputable def limWorld (os : Os) : World :=
  let w0 := World.holding Tryd.prog os ⟨#[], #[], []⟩
  { w0 with heap := w0.heap.modify 0 fun
      | .cells _ t frozen => .cells #[.int .i64 8, .int .i64 285, .int .i64 16, .int .i64 69643] t frozen
      | o => o }
theorem laid_met (os : Os) (args : Array Value) : laidMet Tryd.prog Rows.classSeparateRow.laid ((limWorld os).forCall (fun _ _ => 0) ⟨#[], args, []⟩).memory :=
  laidMet_of_run (ps := [.cell 0 0, .cell 0 1, .cell 0 2, .cell 0 3]) 8 (by kernel_rfl) (by kernel_rfl) (by kernel_rfl)
theorem glb_of_laid {W : World} (h : laidMet Tryd.prog Rows.classSeparateRow.laid W) : ∀ p ∈ glbs, p.1 < W.heap.size ∧ some p.1 ∉ ([] : List (Option Nat)) ∧ ∃ t fz, W.heap[p.1]? = some (.cells p.2 t fz) := by
  obtain ⟨ps, ⟨g, t, cs, fuel, p, q, hg, ht, hvar, hd, _, _⟩, _⟩ := h
  obtain rfl := Option.some.inj (gName.symm.trans hg)
  have ht2 : t = 224 := (Option.some.inj ((show (Tryd.prog.globals[0]?).map (·.type) = some 224 by kernel_rfl).symm.trans ht)).symm
  subst ht2
  have hcs : cs = #[.int .i64 8, .int .i64 285, .int .i64 16, .int .i64 69643] := fields_cells hd
  subst hcs
  unfold World.var? at hvar
  rw [gName] at hvar
  simp only [Option.bind_some] at hvar
  intro p hp
  have hp' : p = (0, #[.int .i64 8, .int .i64 285, .int .i64 16, .int .i64 69643]) := by simpa [glbs] using hp
  subst hp'
  split at hvar
  · rename_i c t2 fz2 h1
    obtain rfl := Option.some.inj hvar
    exact ⟨(Array.getElem?_eq_some_iff.1 h1).1, by simp, _, _, h1⟩
  · cases hvar
set_option maxHeartbeats 4000000 in
set_option maxRecDepth 100000 in
theorem lifted (os : Os) (started : os.Started) (H : Type) (enc : TypeId × Value → H) :
    ReturnsInHanded {} Tryd.checked os 5 .any (fun w args => (Rows.classSeparateSpec.pre enc Tryd.prog Tryd.f5 Rows.classSeparateRow.domain false w args ∧ laidMet Tryd.prog Rows.classSeparateRow.laid w) ∧ sizedMet enc Tryd.prog Tryd.f5 (OpenSpec.ofChange Rows.classSeparateSpec) false w args)
      (Rows.classSeparateSpec.post enc Tryd.prog Tryd.f5 false true false false) := by
  refine returnsInHanded_of_change_and (C := Tryd.checked) (X := fun w _ => laidMet Tryd.prog Rows.classSeparateRow.laid w) (fun _ _ _ hh h => h.of_heap hh) own started (by kernel_rfl) Tryd.func5
    (ChangeSpec.witness_at (enc := enc) (C := Tryd.checked) (os := os) (X := fun w _ => laidMet Tryd.prog Rows.classSeparateRow.laid w) false (limWorld os) #[.agg #[.slice none 0 0, .slice none 0 0], .int .i64 0, .int .i64 0] 8 rfl (by kernel_rfl) (by kernel_rfl) (by kernel_rfl) (by kernel_rfl) (by kernel_rfl) (laid_met os _)) ?_
  intro W base args ds gs before hval0 hW hcnd0 hsz hL _
  have hglb := glb_of_laid hL
  have hval : ∀ (j : Nat) t v, Tryd.f5.params[j]? = some t → args[j]? = some v → Value.okWide Tryd.prog W .any base t v := hval0
  have hW' := hW
  obtain ⟨p, q, hA0, hV, rfl, hfz, hnd⟩ := hW
  have hA : DataW.TrodAll enc Tryd.prog W 0 (fun _ => true) true Tryd.f5.params.toList args.toList ds p := hA0
  rw [Tryd.params5] at hA hval hsz
  obtain ⟨v0, vs0, d0, ds0, p0, q0, hargs, rfl, rfl, h0, r0⟩ := trodAll_cons hA
  obtain ⟨v1, vs1, d1, ds1, p1, q1, rfl, rfl, rfl, h1, r1⟩ := trodAll_cons r0
  obtain ⟨v2, vs2, d2, ds2, p2, q2, rfl, rfl, rfl, h2, r2⟩ := trodAll_cons r1
  obtain ⟨rfl, rfl, rfl⟩ := trodAll_nil r2
  obtain rfl : args = #[v0, v1, v2] := by cases args; simp_all
  obtain ⟨rfl, rfl⟩ := trodVars_none hV
  have k0 := h0
  have lt0 : ∀ x ∈ p0, x.block < W.heap.size := by obtain ⟨m, hm⟩ := k0; exact DataW.trod_lt m _ _ _ hm
  have k1 := h1
  have lt1 : ∀ x ∈ p1, x.block < W.heap.size := by obtain ⟨m, hm⟩ := k1; exact DataW.trod_lt m _ _ _ hm
  have k2 := h2
  have lt2 : ∀ x ∈ p2, x.block < W.heap.size := by obtain ⟨m, hm⟩ := k2; exact DataW.trod_lt m _ _ _ hm
  obtain ⟨cs0, rfl, hsz0⟩ := okWide_struct Tryd.underlying25 (hval 0 25 v0 rfl rfl)
  obtain ⟨l0⟩ := cs0
  obtain ⟨x0, b0, s0⟩ := opens_agg (opens_all Tryd.underlying25 cells_solvent_api_Library (opens_toS 1 Tryd.underlying25 (opens_toS 0 Tryd.underlying25 opens_to0 rfl rfl cells_sl_api_Code (by rw [cells_solvent_api_Library]; decide) (opens_slice Tryd.underlying22 cells_solvent_api_Code (by decide) (opens_map (opens_all Tryd.underlying28 cells_solvent_api_Code (opens_toS 4 Tryd.underlying28 (opens_toS 3 Tryd.underlying28 (opens_toS 2 Tryd.underlying28 (opens_toS 1 Tryd.underlying28 (opens_toS 0 Tryd.underlying28 opens_to0 rfl rfl cells_string (by rw [cells_solvent_api_Code]; decide) (opens_string Tryd.underlying9)) rfl rfl cells_int (by rw [cells_solvent_api_Code]; decide) (opens_int Tryd.underlying3)) rfl rfl cells_int (by rw [cells_solvent_api_Code]; decide) (opens_int Tryd.underlying3)) rfl rfl cells_sl_sl_int (by rw [cells_solvent_api_Code]; decide) (opens_slice Tryd.underlying26 cells_sl_int (by decide) (opens_slice Tryd.underlying40 cells_int (by decide) (opens_int Tryd.underlying3)))) rfl rfl cells_int (by rw [cells_solvent_api_Code]; decide) (opens_int Tryd.underlying3))) (fun a => ((a.1.1.1.1.2, a.1.1.1.2, a.1.1.2, a.1.2, a.2) : Cd)) (g := cdD) (okg := fun c => NameIn c.1 ∧ c.2.2.2.1.length ≤ 9223372036854775807) (fun a h => ⟨rfl, ⟨h.1.1.1.1.2.1, Nat.lt_succ_of_le h.1.1.1.1.2.2⟩, h.1.2.2⟩)))) rfl rfl cells_sl_api_Survival (by rw [cells_solvent_api_Library]; decide) (opens_slice Tryd.underlying23 cells_solvent_api_Survival (by decide) (opens_map (opens_all Tryd.underlying42 cells_solvent_api_Survival (opens_toS 4 Tryd.underlying42 (opens_toS 3 Tryd.underlying42 (opens_toS 2 Tryd.underlying42 (opens_toS 1 Tryd.underlying42 (opens_toS 0 Tryd.underlying42 opens_to0 rfl rfl cells_string (by rw [cells_solvent_api_Survival]; decide) (opens_string Tryd.underlying9)) rfl rfl cells_int (by rw [cells_solvent_api_Survival]; decide) (opens_int Tryd.underlying3)) rfl rfl cells_int (by rw [cells_solvent_api_Survival]; decide) (opens_int Tryd.underlying3)) rfl rfl cells_int (by rw [cells_solvent_api_Survival]; decide) (opens_int Tryd.underlying3)) rfl rfl cells_int (by rw [cells_solvent_api_Survival]; decide) (opens_int Tryd.underlying3))) (fun a => ((a.1.1.1.1.2, a.1.1.1.2, a.1.1.2, a.1.2, a.2) : Sv)) (g := svD) (okg := fun v => NameIn v.1) (fun a h => ⟨rfl, ⟨h.1.1.1.1.2.1, Nat.lt_succ_of_le h.1.1.1.1.2.2⟩⟩))))) rfl h0
  obtain ⟨x1, rfl, rfl, rfl, z1⟩ := open_int Tryd.underlying3 (hval 1 3 v1 rfl rfl) h1
  have b1 : -9223372036854775808 ≤ x1 ∧ x1 < 9223372036854775808 := by
    have h1 : IntKind.i64.max = 9223372036854775807 := by decide +kernel
    have h2 : IntKind.i64.min = -9223372036854775808 := by decide +kernel
    have h3 := z1
    simp only [Lit.wf, Bool.and_eq_true, decide_eq_true_eq] at h3
    rw [h1, h2] at h3
    omega
  obtain ⟨x2, rfl, rfl, rfl, z2⟩ := open_int Tryd.underlying3 (hval 2 3 v2 rfl rfl) h2
  have b2 : -9223372036854775808 ≤ x2 ∧ x2 < 9223372036854775808 := by
    have h1 : IntKind.i64.max = 9223372036854775807 := by decide +kernel
    have h2 : IntKind.i64.min = -9223372036854775808 := by decide +kernel
    have h3 := z2
    simp only [Lit.wf, Bool.and_eq_true, decide_eq_true_eq] at h3
    rw [h1, h2] at h3
    omega
  clear hA0 hval0
  have hmx : maxLen = 9223372036854775807 := rfl
  have hA := A_separate (cs := x0.1.2) (vs := x0.2) (k := x1) (c := x2) ⟨fun c hc => (b0.1.2.1 c hc).1, fun c hc => (b0.1.2.1 c hc).2, fun v hv => b0.2.1 v hv, b0.1.2.2, b0.2.2⟩
  have hs : AV.satL (fun _ => False) [] [] W [lib x0.1.2 x0.2, iV x1, iV x2] [.agg l0.toArray, .int .i64 x1, .int .i64 x2] := by
    exact (satL_cons s0 (satL_cons (sat_v.2 rfl) (satL_cons (sat_v.2 rfl) satL_nil)))
  have hc := calls_of_acalls hA [.agg l0.toArray, .int .i64 x1, .int .i64 x2] W hglb hs
  have hd : Calls Tryd.prog 5 #[.agg l0.toArray, .int .i64 x1, .int .i64 x2] W fun e w' => e = .returned (.bool true) ∧ Below W.heap.size W w' := hc
  refine hd.mono fun e W' ⟨he, bel⟩ => ?_
  subst he
  exact ⟨_, rfl, _, _, _, [], _, [], hW', trodAll_mk1 (shut_bool Tryd.underlying4 _), (trodAll_cons_mk (Below.trod laidOut (by kernel_rfl) (of_decide_eq_true (by kernel_rfl)) k0 bel lt0) (trodAll_cons_mk (Below.trod laidOut (by kernel_rfl) (of_decide_eq_true (by kernel_rfl)) k1 bel lt1) (trodAll_cons_mk (Below.trod laidOut (by kernel_rfl) (of_decide_eq_true (by kernel_rfl)) k2 bel lt2) trodAll_mk0))), rfl, bel.frame _, fun h => by cases h⟩
theorem over : Rows.classSeparateRow.holds Tryd.pinned (OpenSpec.ofChange Rows.classSeparateSpec) :=
  OpenClaim.holds_of_wide 5 Tryd.f5 rfl rfl rfl rfl rfl rfl rfl ⟨rfl, rfl, rfl, rfl, rfl⟩ rfl rfl rfl rfl rfl (by kernel_rfl) Tryd.func5 (by kernel_rfl)
    (of_decide_eq_true (by kernel_rfl)) (by unfold Func.isWrapper; first | (rw [if_pos (by decide +kernel)]; kernel_rfl) | (rw [if_neg (by decide +kernel)]; exact ⟨rfl, rfl⟩))
    (fun os started H enc _ => lifted os started H enc)
theorem proved : Rows.ClassSeparateCardSaid :=
  Claim7.holds_tied_plain_at .later [] _ _ _ _
    over (fun _ h => by cases h) (by kernel_rfl) (fun _ h => by cases h) classSeparate_row_tie rfl ⟨rfl, rfl⟩ (by kernel_rfl) rfl
    (fun f fn hf hfn => by
      obtain rfl : f = 5 := Option.some.inj ((show Tryd.prog.funcNamed "solvent/solventlaw30.ClassSeparate" = some 5 by kernel_rfl).symm.trans hf) |>.symm
      obtain rfl : fn = Tryd.f5 := (Option.some.inj (Tryd.func5.symm.trans hfn)).symm
      exact ⟨by kernel_rfl, fun j t ht => by
        rw [Tryd.params5] at ht
        rcases j with _ | _ | _ | j
        · obtain rfl : 25 = t := by simpa using ht
          kernel_rfl
        · obtain rfl : 3 = t := by simpa using ht
          kernel_rfl
        · obtain rfl : 3 = t := by simpa using ht
          kernel_rfl
        · simp at ht⟩)
    (by kernel_rfl)
#print axioms proved
end Go.Proofs.YtaclmbbiegklcaaDoor.classSeparateP
